/- The document's reader: contracts. Printed by gen_rr.py. -/
import Derived.Test.YtehnkljaoaehjaaRd
namespace Go.Proofs.Ytehnkljaoaehjaa
open Go.RowKit Go.Um
set_option linter.unusedSimpArgs false
set_option linter.unusedVariables false
set_option maxHeartbeats 2000000
set_option maxRecDepth 100000

theorem ba_ext {a b : ByteArray} (h : a.data.toList = b.data.toList) : a = b := by
  obtain ⟨⟨x⟩⟩ := a
  obtain ⟨⟨y⟩⟩ := b
  simp only at h
  rw [h]
theorem extr_data (s : ByteArray) (a b : Nat) : (s.extract a b).data.toList = (s.data.toList.drop a).take (b - a) := by
  rw [ByteArray.data_extract]
  simp [Array.toList_extract, List.extract_eq_take_drop]
theorem len_list (s : ByteArray) : s.data.toList.length = s.size := by simp
theorem extr_size (s : ByteArray) (k : Nat) : (s.extract k s.size).size = s.size - k := by
  rw [← len_list, extr_data, List.length_take, List.length_drop, len_list]; omega
theorem extr_first (s : ByteArray) (k n : Nat) (h : k + n ≤ s.size) : (s.extract k s.size).extract 0 n = s.extract k (k + n) := by
  apply ba_ext
  rw [extr_data, extr_data, extr_data, List.drop_zero, List.take_take]
  congr 1; omega
theorem extr_rest (s : ByteArray) (k n : Nat) (h : k + n ≤ s.size) : (s.extract k s.size).extract n (s.size - k) = s.extract (k + n) s.size := by
  apply ba_ext
  rw [extr_data, extr_data, extr_data, List.drop_take, List.drop_drop, List.take_take]
  congr 1; omega
theorem extr_none (s : ByteArray) (k : Nat) : s.extract k k = ⟨#[]⟩ := by
  apply ba_ext
  rw [extr_data]; simp

/-- the document's reader at block q -/
structure RfAt (w : World) (q : Nat) (s : ByteArray) (r : Rs) : Prop where
  str : w.cell? ⟨q, 0, none⟩ = some (.string (s.extract r.k s.size))
  past : w.cell? ⟨q, 1, none⟩ = some (.int .i64 r.k)
  e : w.cell? ⟨q, 2, none⟩ = some (.int .i64 r.e)
  fs : w.frozen? ⟨q, 0, none⟩ = false
  fp : w.frozen? ⟨q, 1, none⟩ = false
  fe : w.frozen? ⟨q, 2, none⟩ = false
  le : r.k ≤ s.size
theorem RfAt.lt {w : World} {q : Nat} {s : ByteArray} {r : Rs} (h : RfAt w q s r) : q < w.heap.size := World.block_lt_of_cell? w _ h.str
theorem RfAt.below {w w' : World} {q : Nat} {s : ByteArray} {r : Rs} (h : RfAt w q s r) (hb : Below w.heap.size w w') : RfAt w' q s r :=
  ⟨kc hb _ _ _ h.str, kc hb _ _ _ h.past, kc hb _ _ _ h.e, kf hb _ _ h.lt h.fs, kf hb _ _ h.lt h.fp, kf hb _ _ h.lt h.fe, h.le⟩
theorem RfAt.kept {S : Nat → Prop} {w w' : World} {q : Nat} {s : ByteArray} {r : Rs} (h : RfAt w q s r) (hb : Kept S w w') (hp : ¬ S q) : RfAt w' q s r :=
  ⟨hb.cell h.str hp, hb.cell h.past hp, hb.cell h.e hp, (hb.frozen h.lt hp).trans h.fs, (hb.frozen h.lt hp).trans h.fp, (hb.frozen h.lt hp).trans h.fe, h.le⟩
theorem extr_all (s : ByteArray) : s.extract 0 s.size = s := by
  apply ba_ext
  rw [extr_data, List.drop_zero, List.take_of_length_le (by rw [len_list]; omega)]
theorem RfAt.new (w : World) (s : ByteArray) : RfAt (w.alloc (.cells #[.string s, .int .i64 0, .int .i64 0] 45)) w.heap.size s ⟨0, 0⟩ :=
  ⟨by simp [go_sem, extr_all], by simp [go_sem], by simp [go_sem], by simp [go_sem], by simp [go_sem], by simp [go_sem], Nat.zero_le _⟩

def RefRawPost (q : Nat) (s : ByteArray) (r : Rs) (n : Nat) (w : World) (e : Ending) (w' : World) : Prop :=
  e = .returned (.string (r.got s n)) ∧ RfAt w' q s (r.next s n) ∧ Kept (fun i => i = q) w w'
theorem rf_bad (q : Nat) (s : ByteArray) (r : Rs) (m : Int) (w : World) (h : RfAt w q s r) (he : r.e ≠ 0) :
    Calls Try.prog 33 #[.pointer (some ⟨q, 0, none⟩), .int .i64 m] w (RefRawPost q s r m.toNat w) := by
  unfold RefRawPost
  rw [(Rs.bad s r m.toNat he).1, (Rs.bad s r m.toNat he).2]
  have HR := Lib.hid h
  have h2 := h.e
  have t0 : (r.e != 0) = true := by simpa using he
  obtain ⟨er, hr⟩ : ∃ x, x = r.e := ⟨_, rfl⟩
  rw [← hr] at h2 t0
  clear he hr h
  go_enter Try.func33, Try.ntmps33
  go_wp2
  go_ret
  exact ⟨rfl, HR.out, Kept.refl _ _⟩
theorem rf_zero (q : Nat) (s : ByteArray) (k : Nat) (m : Int) (hm : ¬ 0 < m) (w : World) (h : RfAt w q s ⟨k, 0⟩) :
    Calls Try.prog 33 #[.pointer (some ⟨q, 0, none⟩), .int .i64 m] w (RefRawPost q s ⟨k, 0⟩ m.toNat w) := by
  have hz : m.toNat = 0 := by omega
  have hle := h.le
  dsimp only at hle
  unfold RefRawPost
  rw [hz, (Rs.fine s ⟨k, 0⟩ 0 rfl hle).1, (Rs.fine s ⟨k, 0⟩ 0 rfl hle).2]
  have HR := Lib.hid h
  have h2 := h.e
  have t1 : decide (m ≤ 0) = true := by simp; omega
  have hx : s.extract k (k + 0) = ⟨#[]⟩ := extr_none s k
  rw [hx]
  dsimp only at h2
  clear h hz hx
  go_enter Try.func33, Try.ntmps33
  go_wp2
  go_ret
  exact ⟨rfl, HR.out, Kept.refl _ _⟩
theorem rf_torn (q : Nat) (s : ByteArray) (k n : Nat) (w : World) (h : RfAt w q s ⟨k, 0⟩) (hs : s.size ≤ 1000000) (hn : s.size < k + n) (hn0 : 0 < n) :
    Calls Try.prog 33 #[.pointer (some ⟨q, 0, none⟩), .int .i64 n] w (RefRawPost q s ⟨k, 0⟩ n w) := by
  unfold RefRawPost
  rw [(Rs.torn s ⟨k, 0⟩ n rfl hn).1, (Rs.torn s ⟨k, 0⟩ n rfl hn).2]
  obtain ⟨c0, c1, c2, f0, f1, f2, hle⟩ := h
  dsimp only at c0 c1 c2 hle ⊢
  have hp := World.block_lt_of_cell? w _ c0
  simp only at hp
  have hsz := extr_size s k
  obtain ⟨X, hX⟩ : ∃ X, X = s.extract k s.size := ⟨_, rfl⟩
  rw [← hX] at c0 hsz
  have t1 : decide ((n : Int) ≤ 0) = false := by simp; omega
  have t2 : decide ((X.size : Int) < (n : Int)) = true := by simp; omega
  have t3 : decide (n = 0) = false := by simp; omega
  have t4 : decide (X.size < n) = true := by simp; omega
  have t5 : ¬ n = 0 := by omega
  have t6 : X.size < n := by omega
  have HX := Lib.hid hX
  clear hX hsz
  go_enter Try.func33, Try.ntmps33
  go_wp2
  go_ret
  refine ⟨rfl, ⟨?_, ?_, ?_, ?_, ?_, ?_, hle⟩, ?_⟩
  · simp [go_sem, c0]; exact HX.out
  · simp [go_sem, c1]
  · simp [go_sem, c2]
  · simp [go_sem, f0]
  · simp [go_sem, f1]
  · simp [go_sem, f2]
  · exact (Kept.refl (fun i => i = q) w).setCell (p := ⟨q, 2, none⟩) (fun _ => rfl) _
theorem rf_fine (q : Nat) (s : ByteArray) (k n : Nat) (w : World) (h : RfAt w q s ⟨k, 0⟩) (hs : s.size ≤ 1000000) (hn : k + n ≤ s.size) (hn0 : 0 < n) :
    Calls Try.prog 33 #[.pointer (some ⟨q, 0, none⟩), .int .i64 n] w (RefRawPost q s ⟨k, 0⟩ n w) := by
  unfold RefRawPost
  rw [(Rs.fine s ⟨k, 0⟩ n rfl hn).1, (Rs.fine s ⟨k, 0⟩ n rfl hn).2]
  obtain ⟨c0, c1, c2, f0, f1, f2, hle⟩ := h
  dsimp only at c0 c1 c2 hle ⊢
  have hp := World.block_lt_of_cell? w _ c0
  simp only at hp
  have hsz := extr_size s k
  have hx1 := extr_first s k n hn
  have hx2 := extr_rest s k n hn
  obtain ⟨X, hX⟩ : ∃ X, X = s.extract k s.size := ⟨_, rfl⟩
  rw [← hX] at c0 hsz hx1 hx2
  rw [← hsz] at hx2
  have t1 : decide ((n : Int) ≤ 0) = false := by simp; omega
  have t2 : decide ((X.size : Int) < (n : Int)) = false := by simp; omega
  have b1 : (0 : Int) ≤ (n : Int) := by omega
  have b2 : (n : Int) ≤ (X.size : Int) := by omega
  have e1 : IntKind.i64.wrap ((k : Int) + n) = (k : Int) + n := IntWalk.i64_in _ (by omega)
  have HX1 := Lib.hid hx1
  have HX2 := Lib.hid hx2
  clear hX hsz hx1 hx2
  go_enter Try.func33, Try.ntmps33
  go_wp2
  go_ret
  refine ⟨?_, ⟨?_, ?_, ?_, ?_, ?_, ?_, hn⟩, ?_⟩
  · rw [← HX1.out]; rfl
  · simp [go_sem, c0]; exact HX2.out
  · simp [go_sem, c1]
  · simp [go_sem, c2]
  · simp [go_sem, f0]
  · simp [go_sem, f1]
  · simp [go_sem, f2]
  · exact ((Kept.refl (fun i => i = q) w).setCell (p := ⟨q, 0, none⟩) (fun _ => rfl) _).setCell (p := ⟨q, 1, none⟩) (fun _ => rfl) _
theorem refraw_int (q : Nat) (s : ByteArray) (r : Rs) (m : Int) (w : World) (h : RfAt w q s r) (hs : s.size ≤ 1000000) :
    Calls Try.prog 33 #[.pointer (some ⟨q, 0, none⟩), .int .i64 m] w (RefRawPost q s r m.toNat w) := by
  by_cases he : r.e = 0
  · obtain ⟨k, er⟩ := r
    dsimp only at he
    subst he
    by_cases hm : 0 < m
    · obtain ⟨n, rfl⟩ := Int.eq_ofNat_of_zero_le (by omega : 0 ≤ m)
      rw [Int.toNat_natCast]
      by_cases hn : s.size < k + n
      · exact rf_torn q s k n w h hs hn (by omega)
      · exact rf_fine q s k n w h hs (by omega) (by omega)
    · exact rf_zero q s k m hm w h
  · exact rf_bad q s r m w h he
theorem refraw_any (q : Nat) (s : ByteArray) (r : Rs) (n : Nat) (w : World) (h : RfAt w q s r) (hs : s.size ≤ 1000000) :
    Calls Try.prog 33 #[.pointer (some ⟨q, 0, none⟩), .int .i64 n] w (RefRawPost q s r n w) := by
  have := refraw_int q s r (n : Int) w h hs
  rwa [Int.toNat_natCast] at this
def RefNumPost (q : Nat) (s : ByteArray) (r : Rs) (n : Nat) (w : World) (e : Ending) (w' : World) : Prop :=
  e = .returned (.int .u32 (numB (r.got s n) : Nat)) ∧ RfAt w' q s (r.next s n) ∧ Kept (fun i => i = q) w w'
theorem index_str (X : ByteArray) (j : Nat) (B : UInt8) (hB : X.data.toList[j]? = some B) (W : World) : (Instr.index 9 (.string X) (.int .i64 j)).run Try.prog W = .ok (.int .u8 B.toNat) W := by
  have hj : j < X.size := by have := (List.getElem?_eq_some_iff.1 hB).1; rw [len_list] at this; exact this
  rw [run_index_string (P := Try.prog) _ 9 X .i64 j Try.underlying9, dif_pos ⟨by omega, by omega⟩]
  have e : X[((j : Int)).toNat]'(by omega) = B := by
    show X.data[((j : Int)).toNat]'_ = B
    have := (List.getElem?_eq_some_iff.1 hB).2
    simpa using this
  rw [e]
theorem refnum_any (q : Nat) (s : ByteArray) (r : Rs) (n : Nat) (w : World) (h : RfAt w q s r) (hs : s.size ≤ 1000000) (hn : n ≤ 4) :
    Calls Try.prog 31 #[.pointer (some ⟨q, 0, none⟩), .int .i64 n] w (RefNumPost q s r n w) := by
  have HR := Lib.hid (refraw_any q s r n w h hs)
  have hlen : (r.got s n).data.toList.length ≤ 4 := by
    rw [len_list]
    rcases Rs.got_size s r n with e | ⟨e, _, _⟩
    · rw [e]; decide
    · omega
  unfold RefRawPost at HR
  unfold RefNumPost
  obtain ⟨X, hX⟩ : ∃ X, X = r.got s n := ⟨_, rfl⟩
  rw [← hX] at HR hlen ⊢
  have hXl : X.data.toList.length = X.size := len_list X
  have HXL := Lib.hid hXl
  have hx4 : X.size ≤ 4 := by omega
  clear hX hlen hXl h
  go_enter Try.func31, Try.ntmps31
  go_wp2_with fail
  refine HR.out.mono ?_
  rintro e w1 ⟨rfl, hr, hk⟩
  have HF := Lib.hid hr
  have HK := Lib.hid hk
  clear hr hk
  go_wp2_with fail
  go_loopw [6, 7] (fun t6 t7 wr => ∃ j : Nat, j ≤ X.size ∧ t7 = .int .i64 j ∧ t6 = .int .u32 (numL (X.data.toList.take j) : Nat) ∧ wr = w1) (fun _ t7 _ => X.size - (intOf t7).toNat)
  case atStart => exact ⟨0, Nat.zero_le _, rfl, rfl, rfl⟩
  case round =>
    obtain ⟨j, hj, rfl, rfl, rfl⟩ := hrel
    by_cases hlt : j < X.size
    · have hjl : j < X.data.toList.length := by have := HXL.out; omega
      obtain ⟨B, hB⟩ : ∃ B, X.data.toList[j]? = some B := ⟨_, List.getElem?_eq_getElem hjl⟩
      have hsn : numL (X.data.toList.take (j + 1)) = numL (X.data.toList.take j) * 256 + B.toNat := by rw [List.take_add_one, hB]; exact numL_snoc _ _
      have hlt2 : numL (X.data.toList.take j) < 256 ^ 3 := by
        have h1 := numL_lt (X.data.toList.take j)
        have h2 : (X.data.toList.take j).length ≤ 3 := by rw [List.length_take]; omega
        exact Nat.lt_of_lt_of_le h1 (Nat.pow_le_pow_right (by decide) h2)
      have hB8 := B.toNat_lt
      obtain ⟨M, hM⟩ : ∃ M, M = numL (X.data.toList.take j) := ⟨_, rfl⟩
      rw [← hM] at hsn hlt2 ⊢
      have HSN := Lib.hid hsn
      have i1 : (0 : Int) ≤ (j : Int) := by omega
      have i2 : (j : Int) < (X.size : Int) := by omega
      have hix : ∀ W, (Instr.index 9 (.string X) (.int .i64 j)).run Try.prog W = .ok (.int .u8 B.toNat) W := fun W => index_str X j B hB W
      have e1 : (M : Int) * 256 % 4294967296 = (M : Int) * 256 := by omega
      have e2 : ((M : Int) * 256 + (B.toNat : Int)) % 4294967296 = (M : Int) * 256 + B.toNat := by omega
      clear hB hM hsn
      go_wp2_with fail
      go_roundw
      case rel => exact ⟨j + 1, by omega, by go_num, by rw [HSN.out]; first | done | (congr 1; done) | (congr 1; omega), trivial⟩
      case measure => simp [intOf]; omega
    · have e : X.data.toList.take j = X.data.toList := List.take_of_length_le (by have := HXL.out; omega)
      have kk1 : ¬ ((j : Int) < (X.size : Int)) := by omega
      have E := Lib.hid e
      clear e
      go_wp2
      go_ret
      refine ⟨?_, HF.out, HK.out⟩
      unfold numB
      show Ending.returned (Value.int .u32 ((numL (X.data.toList.take j) : Nat) : Int)) = Ending.returned (Value.int .u32 ((numL X.data.toList : Nat) : Int))
      rw [E.out]
theorem refclose_any (q : Nat) (s : ByteArray) (r : Rs) (w : World) (h : RfAt w q s r) (hs : s.size ≤ 1000000) :
    Calls Try.prog 17 #[.pointer (some ⟨q, 0, none⟩)] w fun e w' => e = .returned (.int .i64 (r.close s)) ∧ w = w' := by
  obtain ⟨c0, c1, c2, f0, f1, f2, hle⟩ := h
  have hsz := extr_size s r.k
  have hcl : r.close s = if r.e = 0 then (if s.size = r.k then 0 else 4) else r.e := rfl
  obtain ⟨X, hX⟩ : ∃ X, X = s.extract r.k s.size := ⟨_, rfl⟩
  rw [← hX] at c0 hsz
  clear hX
  by_cases he : r.e = 0
  · rw [he] at c2
    rw [if_pos he] at hcl
    by_cases hk : s.size = r.k
    · rw [if_pos hk] at hcl
      rw [hcl]
      have t1 : decide ((0 : Int) < (X.size : Int)) = false := by rw [decide_eq_false_iff_not]; omega
      have t2 : decide (0 < X.size) = false := by rw [decide_eq_false_iff_not]; omega
      have t3 : ¬ 0 < X.size := by omega
      have t4 : X.size = 0 := by omega
      clear hcl he hk hsz
      go_enter Try.func17, Try.ntmps17
      go_wp2
      go_ret
      exact ⟨rfl, rfl⟩
    · rw [if_neg hk] at hcl
      rw [hcl]
      have t1 : decide ((0 : Int) < (X.size : Int)) = true := by rw [decide_eq_true_iff]; omega
      have t2 : decide (0 < X.size) = true := by rw [decide_eq_true_iff]; omega
      have t3 : 0 < X.size := by omega
      clear hcl he hk hsz
      go_enter Try.func17, Try.ntmps17
      go_wp2
      go_ret
      exact ⟨rfl, rfl⟩
  · rw [if_neg he] at hcl
    rw [hcl]
    have t1 : (r.e == 0) = false := by simpa using he
    obtain ⟨er, her⟩ : ∃ x, x = r.e := ⟨_, rfl⟩
    rw [← her] at c2 t1 ⊢
    clear hcl he hsz her
    go_enter Try.func17, Try.ntmps17
    go_wp2
    go_ret
    exact ⟨rfl, rfl⟩

end Go.Proofs.Ytehnkljaoaehjaa
