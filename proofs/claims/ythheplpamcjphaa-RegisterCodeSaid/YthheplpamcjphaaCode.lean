/- The walk of RegisterCode. -/
import Derived.Test.YthheplpamcjphaaRead
import Derived.Test.YthheplpamcjphaaAwake
namespace Go.Proofs.Ythheplpamcjphaa
open Go.RowKit Go.Um
set_option maxHeartbeats 1000000

/-- byte j of a text -/
def byt (t : ByteArray) (j : Nat) : Nat := (t.data.toList.getD j 0).toNat
theorem byt_lt (t : ByteArray) (j : Nat) : byt t j < 256 := by unfold byt; exact UInt8.toNat_lt _
def decS (t : ByteArray) : Int := if t.size = 2 then (byt t 0 : Int) * 256 + byt t 1 else 0
def decE (t : ByteArray) : Int := if t.size = 2 then 0 else 4

theorem extract_byte (t : ByteArray) (j : Nat) (hj : j < 2) (h : 2 ≤ t.size) : (t.extract 0 (0 + 2)).data.toList.getD j 0 = UInt8.ofNat (byt t j) := by
  have e : (t.extract 0 (0 + 2)).data.toList = t.data.toList.take 2 := by simp [ByteArray.data_extract]
  rw [e, byt, List.getD_eq_getElem?_getD, List.getElem?_take, if_pos hj]
  simp [List.getD_eq_getElem?_getD]

theorem decode_any (t : ByteArray) (w : World) (ht : t.size ≤ 1000000) :
    Calls Try.prog 17 #[.string t] w fun e w' => e = .returned (.tuple #[.int .u16 (decS t), .int .i64 (decE t)]) ∧ Below w.heap.size w w' := by
  have hnew : RdAt (w.alloc (.cells #[.int .i64 0, .string t, .int .i64 0] 74)) w.heap.size t 0 := ⟨by simp [go_sem], by simp [go_sem], by simp [go_sem], by simp [go_sem], by simp [go_sem], by simp [go_sem], Nat.zero_le _⟩
  have hb0 : Below w.heap.size w (w.alloc (.cells #[.int .i64 0, .string t, .int .i64 0] 74)) := ba (bz w) _
  have hkb : ∀ w1, Kept (fun i => i = w.heap.size) (w.alloc (.cells #[.int .i64 0, .string t, .int .i64 0] 74)) w1 → Below w.heap.size w w1 := fun w1 hk =>
    hb0.trans (hk.below (fun k hk1 _ h => by omega) (by simp))
  have Hnew := Lib.hid hnew
  clear hnew
  by_cases h2 : t.size < 2
  · have e1 : decS t = 0 := by unfold decS; rw [if_neg (by omega)]
    have e2 : decE t = 4 := by unfold decE; rw [if_neg (by omega)]
    rw [e1, e2]
    clear e1 e2
    go_enter Try.func17, Try.ntmps17
    go_wp2_with fail
    refine (over_any t _).mono ?_
    rintro e w1 ⟨rfl, rfl⟩
    go_wp2_with fail
    refine (ru16_torn _ t 0 _ Hnew.out ht (by omega)).mono ?_
    rintro e w1 ⟨rfl, hr, hk⟩
    go_wp2_with fail
    refine (close_torn _ t 0 _ hr).mono ?_
    rintro e w2 ⟨rfl, rfl⟩
    go_wp2
    go_ret2
    exact ⟨rfl, hkb _ hk⟩
  · by_cases h3 : t.size = 2
    · have e1 : decS t = (byt t 0 : Int) * 256 + byt t 1 := by unfold decS; rw [if_pos h3]
      have e2 : decE t = 0 := by unfold decE; rw [if_pos h3]
      rw [e1, e2]
      clear e1 e2
      have H3 := Lib.hid h3
      clear h3
      go_enter Try.func17, Try.ntmps17
      go_wp2_with fail
      refine (over_any t _).mono ?_
      rintro e w1 ⟨rfl, rfl⟩
      go_wp2_with fail
      refine (ru16_ok _ t 0 (byt t 0) (byt t 1) _ Hnew.out ht (by omega) (extract_byte t 0 (by omega) (by omega)) (extract_byte t 1 (by omega) (by omega)) (byt_lt _ _) (byt_lt _ _)).mono ?_
      rintro e w1 ⟨rfl, hr, hk⟩
      go_wp2_with fail
      refine (close_ok _ t 2 _ hr ht).mono ?_
      rintro e w2 ⟨rfl, m, rfl⟩
      rw [if_pos H3.out]
      go_wp2
      go_ret2
      exact ⟨rfl, below_drewN (hkb _ hk) _⟩
    · have e1 : decS t = 0 := by unfold decS; rw [if_neg h3]
      have e2 : decE t = 4 := by unfold decE; rw [if_neg h3]
      rw [e1, e2]
      clear e1 e2
      have H3 := Lib.hid h3
      clear h3
      go_enter Try.func17, Try.ntmps17
      go_wp2_with fail
      refine (over_any t _).mono ?_
      rintro e w1 ⟨rfl, rfl⟩
      go_wp2_with fail
      refine (ru16_ok _ t 0 (byt t 0) (byt t 1) _ Hnew.out ht (by omega) (extract_byte t 0 (by omega) (by omega)) (extract_byte t 1 (by omega) (by omega)) (byt_lt _ _) (byt_lt _ _)).mono ?_
      rintro e w1 ⟨rfl, hr, hk⟩
      go_wp2_with fail
      refine (close_ok _ t 2 _ hr ht).mono ?_
      rintro e w2 ⟨rfl, m, rfl⟩
      rw [if_neg H3.out]
      go_wp2
      go_ret2
      exact ⟨rfl, below_drewN (hkb _ hk) _⟩

theorem size_be (s : Int) : (strOfNums (be s 2)).size = 2 := by rw [strOfNums_size]; rfl
theorem byt_be (s : Int) (hs : 0 ≤ s ∧ s ≤ 65535) : (byt (strOfNums (be s 2)) 0 : Int) = s / 256 ∧ (byt (strOfNums (be s 2)) 1 : Int) = s % 256 := by
  unfold byt
  rw [strOfNums_data]
  have e0 : (s / 2 ^ (8 * 1) % 256 : Int) = s / 256 := by omega
  have e1 : (s / 2 ^ (8 * 0) % 256 : Int) = s % 256 := by omega
  constructor
  · show ((UInt8.ofNat (byteOf s 1).toNat).toNat : Int) = _
    unfold byteOf
    rw [e0, UInt8.toNat_ofNat']
    omega
  · show ((UInt8.ofNat (byteOf s 0).toNat).toNat : Int) = _
    unfold byteOf
    rw [e1, UInt8.toNat_ofNat']
    omega
theorem dec_enc (s : Int) (hs : 0 ≤ s ∧ s ≤ 65535) : decS (strOfNums (be s 2)) = s ∧ decE (strOfNums (be s 2)) = 0 := by
  obtain ⟨h0, h1⟩ := byt_be s hs
  unfold decS decE
  rw [if_pos (size_be s), if_pos (size_be s), h0, h1]
  exact ⟨by omega, rfl⟩
theorem enc_inj (a b : Int) (ha : 0 ≤ a ∧ a ≤ 65535) (hb : 0 ≤ b ∧ b ≤ 65535) (h : strOfNums (be a 2) = strOfNums (be b 2)) : a = b := by
  have h1 := (dec_enc a ha).1
  rw [h, (dec_enc b hb).1] at h1
  exact h1.symm
theorem two_of (l : List UInt8) (h : l.length = 2) : ∃ x y, l = [x, y] := by
  match l, h with
  | [x, y], _ => exact ⟨x, y, rfl⟩
theorem enc_dec (t : ByteArray) (h : t.size = 2) : strOfNums (be (decS t) 2) = t := by
  have hb0 := byt_lt t 0
  have hb1 := byt_lt t 1
  unfold decS
  rw [if_pos h]
  have e0 : byteOf ((byt t 0 : Int) * 256 + byt t 1) 1 = byt t 0 := by unfold byteOf; omega
  have e1 : byteOf ((byt t 0 : Int) * 256 + byt t 1) 0 = byt t 1 := by unfold byteOf; omega
  simp only [be, e0, e1]
  obtain ⟨⟨l⟩⟩ := t
  obtain ⟨x, y, rfl⟩ := two_of l (by simpa [ByteArray.size] using h)
  simp [strOfNums, byt]
theorem range_dec (t : ByteArray) : 0 ≤ decS t ∧ decS t ≤ 65535 := by
  have hb0 := byt_lt t 0
  have hb1 := byt_lt t 1
  by_cases h : t.size = 2
  · have e : decS t = (byt t 0 : Int) * 256 + byt t 1 := if_pos h
    rw [e]; omega
  · have e : decS t = 0 := if_neg h
    rw [e]; omega

theorem code_law (a b : Int) (t : ByteArray) (f o k x y : Int) (w : World) (ha : 0 ≤ a ∧ a ≤ 65535) (hb : 0 ≤ b ∧ b ≤ 65535) (ht : t.size ≤ maxLen) :
    Calls Try.prog 7 #[.int .u16 a, .int .u16 b, .agg #[.string t, .int .u8 f, .int .u8 o, .int .u8 k, .int .u16 x, .int .u16 y]] w fun e w' => e = .returned (.bool true) ∧ Below w.heap.size w w' := by
  unfold maxLen at ht
  by_cases hlen : t.size ≤ 300
  · have hs1 : ((strOfNums (be a 2)).toList == (strOfNums (be b 2)).toList) = (a == b) := by
      by_cases e : a = b
      · subst e; simp
      · rw [beq_eq_false_iff_ne.2 e, beq_eq_false_iff_ne]
        intro h
        apply e
        apply enc_inj a b ha hb
        rw [ByteArray.toList_eq, ByteArray.toList_eq] at h
        exact ByteArray.ext (by simpa using h)
    obtain ⟨S, hS⟩ : ∃ S, S = strOfNums (be a 2) := ⟨_, rfl⟩
    obtain ⟨T, hT⟩ : ∃ T, T = strOfNums (be b 2) := ⟨_, rfl⟩
    rw [← hS, ← hT] at hs1
    have hd := dec_enc a ha
    rw [← hS] at hd
    have hSs : S.size ≤ 1000000 := by rw [hS, size_be]; omega
    have HS := Lib.hid hS
    have HT := Lib.hid hT
    have Hd := Lib.hid hd
    clear hS hT hd
    go_enter Try.func7, Try.ntmps7
    go_wp2_with fail
    refine (encode_any a _ ha).mono ?_
    rintro e w1 ⟨rfl, hb1⟩
    rw [← HS.out]
    have g0 := kc hb1 w.heap.size 0 (.string t) (by simp [go_sem])
    have g1 := kc hb1 w.heap.size 1 (.int .u8 f) (by simp [go_sem])
    have g2 := kc hb1 w.heap.size 2 (.int .u8 o) (by simp [go_sem])
    have g3 := kc hb1 w.heap.size 3 (.int .u8 k) (by simp [go_sem])
    have g4 := kc hb1 w.heap.size 4 (.int .u16 x) (by simp [go_sem])
    have g5 := kc hb1 w.heap.size 5 (.int .u16 y) (by simp [go_sem])
    go_wp2_with fail
    refine (encode_any b _ hb).mono ?_
    rintro e w2 ⟨rfl, hb2⟩
    rw [← HT.out]
    go_wp2_with fail
    refine (decode_any S _ hSs).mono ?_
    rintro e w3 ⟨rfl, hb3⟩
    rw [Hd.out.1, Hd.out.2]
    have hB13 := bt hb2 hb3
    have k0 := kc hB13 _ _ _ g0
    have k1 := kc hB13 _ _ _ g1
    have k2 := kc hB13 _ _ _ g2
    have k3 := kc hB13 _ _ _ g3
    have k4 := kc hB13 _ _ _ g4
    have k5 := kc hB13 _ _ _ g5
    clear g0 g1 g2 g3 g4 g5
    go_wp2_with fail
    refine (decode_any t _ (by omega)).mono ?_
    rintro e w4 ⟨rfl, hb4⟩
    have g0 := kc hb4 _ _ _ k0
    have g1 := kc hb4 _ _ _ k1
    have g2 := kc hb4 _ _ _ k2
    have g3 := kc hb4 _ _ _ k3
    have g4 := kc hb4 _ _ _ k4
    have g5 := kc hb4 _ _ _ k5
    clear k0 k1 k2 k3 k4 k5
    go_wp2_with fail
    refine (Step_any a f o k x y _).mono ?_
    rintro e w5 ⟨rfl, hb5⟩
    have k0 := kc hb5 _ _ _ g0
    have k1 := kc hb5 _ _ _ g1
    have k2 := kc hb5 _ _ _ g2
    have k3 := kc hb5 _ _ _ g3
    have k4 := kc hb5 _ _ _ g4
    have k5 := kc hb5 _ _ _ g5
    have hz5 : w.heap.size < w5.heap.size := by have := hb1.size; have := hb2.size; have := hb3.size; have := hb4.size; have := hb5.size; simp at *; omega
    clear g0 g1 g2 g3 g4 g5
    go_wp2_with fail
    refine (Step_any a f o k x y _).mono ?_
    rintro e w6 ⟨rfl, hb6⟩
    have r0 := kc hb6 w5.heap.size 0 (.int .u8 (stp a f x y).2.1) (by simp [go_sem])
    have r1 := kc hb6 w5.heap.size 1 (.int .u16 (stp a f x y).2.2.1) (by simp [go_sem])
    have g0 := kc hb6 w.heap.size 0 (.string t) (by simp [go_sem, hz5, k0])
    have g1 := kc hb6 w.heap.size 1 (.int .u8 f) (by simp [go_sem, hz5, k1])
    have hz6 : w5.heap.size < w6.heap.size := by have := hb6.size; simp at this; omega
    have hz : w.heap.size < w6.heap.size := by omega
    clear k0 k1 k2 k3 k4 k5
    have hneq := neq35
    have q0 : (w6.alloc (Obj.cells #[Value.int IntKind.u8 (stp a f x y).2.1, Value.int IntKind.u16 (stp a f x y).2.2.1] 35)).cell? ⟨w6.heap.size, 0, none⟩ = some (.int .u8 (stp a f x y).2.1) := by simp [go_sem]
    have hbw : Below w.heap.size w w6 := by
      have h1 := bt (ba (bz w) _) hb1
      have h2 := bt (bt (bt (bt (bt h1 hb2) hb3) hb4) hb5) (bt (ba (bz _) _) hb6)
      exact h2
    have Hbw := Lib.hid hbw
    clear hbw hb1 hb2 hb3 hb4 hb5 hb6 hB13
    have hI : (f == 1) = false ∨ ((f == 1) = true ∧ ((stp a f x y).1 == a) = true ∧ ((stp a f x y).2.2.2 == 0) = true) := by
      by_cases e : f = 1
      · right; subst e; simp [stp]
      · left; rw [beq_eq_false_iff_ne]; exact e
    by_cases h2 : t.size = 2
    · have hE : (decE t == 0) = true := by unfold decE; rw [if_pos h2]; rfl
      have hW := enc_dec t h2
      have HW := Lib.hid hW
      clear hW
      have hr := range_dec t
      have ez : (t.toList == t.toList) = true := by simp
      go_wp2_with fail
      go_region_held3 (fun w' => w'.cell? ⟨w.heap.size, 0, none⟩ = some (.string t) ∧ w'.cell? ⟨w5.heap.size, 0, none⟩ = some (.int .u8 (stp a f x y).2.1) ∧ w'.cell? ⟨w5.heap.size, 1, none⟩ = some (.int .u16 (stp a f x y).2.2.1) ∧ w'.cell? ⟨w6.heap.size, 0, none⟩ = some (.int .u8 (stp a f x y).2.1) ∧ w'.cell? ⟨w6.heap.size, 1, none⟩ = some (.int .u16 (stp a f x y).2.2.1) ∧ w'.cell? ⟨w.heap.size, 1, none⟩ = some (.int .u8 f)) (first | exact ⟨v0, v1, v2, v3, v4, v5⟩ | go_keep) (first | (go_at_call 19; refine (encode_any (decS t) _ hr).mono ?_; rintro e w7 ⟨rfl, hb7⟩; rw [HW.out]; have v0 := kc hb7 w.heap.size 0 (.string t) (by simp [go_sem, *]); have v1 := kc hb7 w5.heap.size 0 (.int .u8 (stp a f x y).2.1) (by simp [go_sem, *]); have v2 := kc hb7 w5.heap.size 1 (.int .u16 (stp a f x y).2.2.1) (by simp [go_sem, *]); have v3 := kc hb7 w6.heap.size 0 (.int .u8 (stp a f x y).2.1) (by simp [go_sem]); have v4 := kc hb7 w6.heap.size 1 (.int .u16 (stp a f x y).2.2.1) (by simp [go_sem]); have v5 := kc hb7 w.heap.size 1 (.int .u8 f) (by simp [go_sem, *])))
      go_wp2_with fail
      refine (idle_any f _).mono ?_
      rintro e W1 ⟨rfl, rfl⟩
      rcases hI with h1 | ⟨h1, h2', h3⟩
      all_goals
        go_wp2_with fail
        refine (awake_any _).mono ?_
        rintro e W2 ⟨rfl, hb8⟩
        go_wp2
        go_ret
        exact ⟨rfl, bt (bt (ba Hbw.out _).drew hb7) hb8⟩
    · have hE : (decE t == 0) = false := by unfold decE; rw [if_neg h2]; rfl
      go_wp2_with fail
      go_quiet (fail)
      go_wp2_with fail
      refine (idle_any f _).mono ?_
      rintro e W1 ⟨rfl, rfl⟩
      rcases hI with h1 | ⟨h1, h2', h3⟩
      all_goals
        go_wp2_with fail
        refine (awake_any _).mono ?_
        rintro e W2 ⟨rfl, hb8⟩
        go_wp2
        go_ret
        exact ⟨rfl, bt (below_drewN (ba Hbw.out _) _) hb8⟩
  · have h1 : (300 : Int) < (t.size : Int) := by omega
    go_enter Try.func7, Try.ntmps7
    go_wp2_with fail
    refine (awake_any _).mono ?_
    rintro e w1 ⟨rfl, hb1⟩
    go_wp2
    go_ret
    exact ⟨rfl, bt (ba (bz w) _) hb1⟩
end Go.Proofs.Ythheplpamcjphaa
