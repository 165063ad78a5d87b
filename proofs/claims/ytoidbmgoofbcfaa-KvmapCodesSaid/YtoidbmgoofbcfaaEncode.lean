/- Encode. Printed by gen_encode.py. -/
import Derived.Test.YtoidbmgoofbcfaaLeaf
import Derived.Test.YtoidbmgoofbcfaaCodec
namespace Go.Proofs.Ytoidbmgoofbcfaa
open Go.RowKit Go.Um
set_option linter.unusedSimpArgs false
set_option linter.unusedVariables false
set_option maxHeartbeats 4000000
set_option maxRecDepth 100000

theorem ix_0 (a0 a1 a2 a3 a4 a5 a6 a7 : Int) (W : World) : (Instr.index 23 (.agg #[.int .u16 a0, .int .u16 a1, .int .u16 a2, .int .u16 a3, .int .u16 a4, .int .u16 a5, .int .u16 a6, .int .u16 a7]) (.int .i64 0)).run Try.prog W = .ok (.int .u16 a0) W := by
  have := Try.underlying23
  simp [Instr.index, go_sem, this]
theorem ix_1 (a0 a1 a2 a3 a4 a5 a6 a7 : Int) (W : World) : (Instr.index 23 (.agg #[.int .u16 a0, .int .u16 a1, .int .u16 a2, .int .u16 a3, .int .u16 a4, .int .u16 a5, .int .u16 a6, .int .u16 a7]) (.int .i64 1)).run Try.prog W = .ok (.int .u16 a1) W := by
  have := Try.underlying23
  simp [Instr.index, go_sem, this]
theorem ix_2 (a0 a1 a2 a3 a4 a5 a6 a7 : Int) (W : World) : (Instr.index 23 (.agg #[.int .u16 a0, .int .u16 a1, .int .u16 a2, .int .u16 a3, .int .u16 a4, .int .u16 a5, .int .u16 a6, .int .u16 a7]) (.int .i64 2)).run Try.prog W = .ok (.int .u16 a2) W := by
  have := Try.underlying23
  simp [Instr.index, go_sem, this]
theorem ix_3 (a0 a1 a2 a3 a4 a5 a6 a7 : Int) (W : World) : (Instr.index 23 (.agg #[.int .u16 a0, .int .u16 a1, .int .u16 a2, .int .u16 a3, .int .u16 a4, .int .u16 a5, .int .u16 a6, .int .u16 a7]) (.int .i64 3)).run Try.prog W = .ok (.int .u16 a3) W := by
  have := Try.underlying23
  simp [Instr.index, go_sem, this]
theorem ix_4 (a0 a1 a2 a3 a4 a5 a6 a7 : Int) (W : World) : (Instr.index 23 (.agg #[.int .u16 a0, .int .u16 a1, .int .u16 a2, .int .u16 a3, .int .u16 a4, .int .u16 a5, .int .u16 a6, .int .u16 a7]) (.int .i64 4)).run Try.prog W = .ok (.int .u16 a4) W := by
  have := Try.underlying23
  simp [Instr.index, go_sem, this]
theorem ix_5 (a0 a1 a2 a3 a4 a5 a6 a7 : Int) (W : World) : (Instr.index 23 (.agg #[.int .u16 a0, .int .u16 a1, .int .u16 a2, .int .u16 a3, .int .u16 a4, .int .u16 a5, .int .u16 a6, .int .u16 a7]) (.int .i64 5)).run Try.prog W = .ok (.int .u16 a5) W := by
  have := Try.underlying23
  simp [Instr.index, go_sem, this]
theorem ix_6 (a0 a1 a2 a3 a4 a5 a6 a7 : Int) (W : World) : (Instr.index 23 (.agg #[.int .u16 a0, .int .u16 a1, .int .u16 a2, .int .u16 a3, .int .u16 a4, .int .u16 a5, .int .u16 a6, .int .u16 a7]) (.int .i64 6)).run Try.prog W = .ok (.int .u16 a6) W := by
  have := Try.underlying23
  simp [Instr.index, go_sem, this]
theorem ix_7 (a0 a1 a2 a3 a4 a5 a6 a7 : Int) (W : World) : (Instr.index 23 (.agg #[.int .u16 a0, .int .u16 a1, .int .u16 a2, .int .u16 a3, .int .u16 a4, .int .u16 a5, .int .u16 a6, .int .u16 a7]) (.int .i64 7)).run Try.prog W = .ok (.int .u16 a7) W := by
  have := Try.underlying23
  simp [Instr.index, go_sem, this]
/-- the bytes of a state: of its first k keys -/
def encL (s : KV) (k : Nat) : List Int := s.h :: (List.range k).flatMap fun j => if s.has j then be (s.get j) 2 else []
theorem encL_succ (s : KV) (k : Nat) : encL s (k + 1) = encL s k ++ (if s.has k then be (s.get k) 2 else []) := by simp [encL, List.range_succ]
theorem encL_len (s : KV) : ∀ k, (encL s k).length ≤ 1 + 2 * k
  | 0 => by simp [encL]
  | k + 1 => by
    rw [encL_succ, List.length_append]
    have := encL_len s k
    split <;> simp [be] <;> omega
theorem WrAt.below {w w' : World} {p base : Nat} {v : Value} {bs : List Int} (h : WrAt w p base v bs) (hb : Below w.heap.size w w') : WrAt w' p base v bs :=
  have hp : p < w.heap.size := World.block_lt_of_cell? w _ h.e
  ⟨kc hb _ _ _ h.e, kc hb _ _ _ h.b, kf hb _ _ hp h.fe, kf hb _ _ hp h.fb, own_past h.own hb, h.ne⟩
/-- at the head of a round -/
def EInv (w : World) (s : KV) (k : Nat) (wr : World) : Prop :=
  ∃ v', WrAt wr (w.heap.size + 1) (w.heap.size + 1) v' (encL s k) ∧ KvAt wr w.heap.size s ∧ Below w.heap.size w wr
theorem EInv.wrote {w wr W w2 : World} {s : KV} {k : Nat} {v v2 : Value} {bs : List Int} (h : WrAt wr (w.heap.size + 1) (w.heap.size + 1) v (encL s k)) (hs : KvAt wr w.heap.size s) (hb : Below w.heap.size w wr) (hw : Below wr.heap.size wr W)
    (h2 : WrAt w2 (w.heap.size + 1) (w.heap.size + 1) v2 (encL s k ++ bs)) (hk : Kept (fun i => i = w.heap.size + 1 ∨ v.ownBlock = some i) W w2) (he : encL s (k + 1) = encL s k ++ bs) : EInv w s (k + 1) w2 := by
  have hlo := h.own.lt
  refine ⟨v2, by rw [he]; exact h2, (hs.below hw).kept hk ?_, (hb.trans (hw.mono hb.size)).trans (hk.below (fun i hi _ hx => ?_) (by have := hb.size; have := hw.size; omega))⟩
  · rintro (e | e)
    · omega
    · have := (hlo _ e).1; omega
  · rcases hx with e | e
    · omega
    · have := (hlo _ e).1; omega

theorem encode_any (s : KV) (w : World) (hs : s.ok) : Calls Try.prog 25 #[s.val] w fun e w' => e = .returned (.string (strOfNums (encL s 8))) ∧ Below w.heap.size w w' := by
  have Hs := Lib.hid hs
  have hh := hs.h
  clear hs
  unfold KV.val
  go_enter Try.func25, Try.ntmps25
  go_wp2_with fail
  refine (u8_any (w.heap.size + 1) (w.heap.size + 1) (.slice none 0 0) [] s.h _ ⟨by simp [go_sem], by simp [go_sem], by simp [go_sem], by simp [go_sem], World.ownsRow_nil _ _ _ _, by simp [Value.ownBlock]⟩ hh (by simp) (by simp)).mono ?_
  intro e w1 hp
  obtain ⟨v', rfl, hw, hk⟩ := hp
  have hE : Hid (EInv w s 0 w1) := by
    refine Lib.hid ⟨v', ?_, ?_, ?_⟩
    · have : encL s 0 = [] ++ be s.h 1 := by simp [encL, be, byteOf]; omega
      rw [this]; exact hw
    · refine KvAt.kept (KvAt.below (KvAt.new w s) (ba (bz _) _)) hk ?_
      rintro (e | e)
      · omega
      · simp [Value.ownBlock] at e
    · refine Below.trans (ba (ba (bz w) _) _) (hk.below (fun i hi _ hx => ?_) (by simp; omega))
      rcases hx with e | e
      · omega
      · simp [Value.ownBlock] at e
  have hkv : KvAt w1 w.heap.size s := by obtain ⟨_, _, h, _⟩ := hE.out; exact h
  obtain ⟨c0, c1, c2, c3, c4, c5, c6, c7, c8, f0, f1, f2, f3, f4, f5, f6, f7, f8⟩ := hkv
  clear hw hk hh
  go_wp2_with fail
  clear c0 c1 c2 c3 c4 c5 c6 c7 c8 f0 f1 f2 f3 f4 f5 f6 f7 f8
  go_loopw [16] (fun t16 wr => ∃ k : Nat, k ≤ 8 ∧ t16 = .int .i64 k ∧ EInv w s k wr) (fun t16 _ => 8 - (intOf t16).toNat)
  case atStart => exact ⟨0, by omega, rfl, hE.out⟩
  case round =>
    obtain ⟨k, hk, rfl, v', hw, hkv, hb⟩ := hrel
    have hlen := encL_len s k
    have HW := Lib.hid hw
    have HK := Lib.hid hkv
    have HB := Lib.hid hb
    have hbz := hb.size
    have hpz : w.heap.size + 1 < wr.heap.size := World.block_lt_of_cell? wr _ hw.e
    obtain ⟨c0, c1, c2, c3, c4, c5, c6, c7, c8, f0, f1, f2, f3, f4, f5, f6, f7, f8⟩ := hkv
    clear hw hb f0 f1 f2 f3 f4 f5 f6 f7 f8
    have hcase : k = 0 ∨ k = 1 ∨ k = 2 ∨ k = 3 ∨ k = 4 ∨ k = 5 ∨ k = 6 ∨ k = 7 ∨ k = 8 := by omega
    rcases hcase with rfl | rfl | rfl | rfl | rfl | rfl | rfl | rfl | rfl
    · have hc := fun W => has_0 s W Hs.out
      have hix := ix_0
      have hsu := encL_succ s 0
      have hv := Hs.out.v 0
      obtain ⟨q, hq⟩ : ∃ q, q = s.has 0 := ⟨_, rfl⟩
      rw [← hq] at hc hsu
      have HSU := Lib.hid hsu
      have HC := Lib.hid hc
      unfold KV.val at HC
      clear hc hsu hq
      cases q
      · go_wp2_with fail
        refine (HC.out _).mono ?_
        rintro e w2 ⟨rfl, hb2⟩
        have hE2 : Hid (EInv w s 1 w2) := Lib.hid ⟨v', by have h1 := HW.out.below hb2; rw [HSU.out]; simpa using h1, HK.out.below hb2, HB.out.trans (hb2.mono hbz)⟩
        clear hb2
        go_wp2_with fail
        go_roundw
        case rel => exact ⟨1, by omega, by go_num, hE2.out⟩
        case measure => simp [intOf]
      · go_wp2_with fail
        refine (HC.out _).mono ?_
        rintro e w2 ⟨rfl, hb2⟩
        have HB2 := Lib.hid hb2
        have hbz2 := hb2.size
        clear hb2
        go_wp2_with fail
        refine (u16_any (w.heap.size + 1) (w.heap.size + 1) v' (encL s 0) s.v0 _ (HW.out.below HB2.out) hv (by omega) (by omega)).mono ?_
        intro e w3 hp
        obtain ⟨v3, rfl, hw3, hk3⟩ := hp
        have hE2 : Hid (EInv w s 1 w3) := Lib.hid (EInv.wrote HW.out HK.out HB.out HB2.out hw3 hk3 (by rw [HSU.out]; rfl))
        clear hw3 hk3
        go_wp2_with fail
        go_roundw
        case rel => exact ⟨1, by omega, by go_num, hE2.out⟩
        case measure => simp [intOf]
    · have hc := fun W => has_1 s W Hs.out
      have hix := ix_1
      have hsu := encL_succ s 1
      have hv := Hs.out.v 1
      obtain ⟨q, hq⟩ : ∃ q, q = s.has 1 := ⟨_, rfl⟩
      rw [← hq] at hc hsu
      have HSU := Lib.hid hsu
      have HC := Lib.hid hc
      unfold KV.val at HC
      clear hc hsu hq
      cases q
      · go_wp2_with fail
        refine (HC.out _).mono ?_
        rintro e w2 ⟨rfl, hb2⟩
        have hE2 : Hid (EInv w s 2 w2) := Lib.hid ⟨v', by have h1 := HW.out.below hb2; rw [HSU.out]; simpa using h1, HK.out.below hb2, HB.out.trans (hb2.mono hbz)⟩
        clear hb2
        go_wp2_with fail
        go_roundw
        case rel => exact ⟨2, by omega, by go_num, hE2.out⟩
        case measure => simp [intOf]
      · go_wp2_with fail
        refine (HC.out _).mono ?_
        rintro e w2 ⟨rfl, hb2⟩
        have HB2 := Lib.hid hb2
        have hbz2 := hb2.size
        clear hb2
        go_wp2_with fail
        refine (u16_any (w.heap.size + 1) (w.heap.size + 1) v' (encL s 1) s.v1 _ (HW.out.below HB2.out) hv (by omega) (by omega)).mono ?_
        intro e w3 hp
        obtain ⟨v3, rfl, hw3, hk3⟩ := hp
        have hE2 : Hid (EInv w s 2 w3) := Lib.hid (EInv.wrote HW.out HK.out HB.out HB2.out hw3 hk3 (by rw [HSU.out]; rfl))
        clear hw3 hk3
        go_wp2_with fail
        go_roundw
        case rel => exact ⟨2, by omega, by go_num, hE2.out⟩
        case measure => simp [intOf]
    · have hc := fun W => has_2 s W Hs.out
      have hix := ix_2
      have hsu := encL_succ s 2
      have hv := Hs.out.v 2
      obtain ⟨q, hq⟩ : ∃ q, q = s.has 2 := ⟨_, rfl⟩
      rw [← hq] at hc hsu
      have HSU := Lib.hid hsu
      have HC := Lib.hid hc
      unfold KV.val at HC
      clear hc hsu hq
      cases q
      · go_wp2_with fail
        refine (HC.out _).mono ?_
        rintro e w2 ⟨rfl, hb2⟩
        have hE2 : Hid (EInv w s 3 w2) := Lib.hid ⟨v', by have h1 := HW.out.below hb2; rw [HSU.out]; simpa using h1, HK.out.below hb2, HB.out.trans (hb2.mono hbz)⟩
        clear hb2
        go_wp2_with fail
        go_roundw
        case rel => exact ⟨3, by omega, by go_num, hE2.out⟩
        case measure => simp [intOf]
      · go_wp2_with fail
        refine (HC.out _).mono ?_
        rintro e w2 ⟨rfl, hb2⟩
        have HB2 := Lib.hid hb2
        have hbz2 := hb2.size
        clear hb2
        go_wp2_with fail
        refine (u16_any (w.heap.size + 1) (w.heap.size + 1) v' (encL s 2) s.v2 _ (HW.out.below HB2.out) hv (by omega) (by omega)).mono ?_
        intro e w3 hp
        obtain ⟨v3, rfl, hw3, hk3⟩ := hp
        have hE2 : Hid (EInv w s 3 w3) := Lib.hid (EInv.wrote HW.out HK.out HB.out HB2.out hw3 hk3 (by rw [HSU.out]; rfl))
        clear hw3 hk3
        go_wp2_with fail
        go_roundw
        case rel => exact ⟨3, by omega, by go_num, hE2.out⟩
        case measure => simp [intOf]
    · have hc := fun W => has_3 s W Hs.out
      have hix := ix_3
      have hsu := encL_succ s 3
      have hv := Hs.out.v 3
      obtain ⟨q, hq⟩ : ∃ q, q = s.has 3 := ⟨_, rfl⟩
      rw [← hq] at hc hsu
      have HSU := Lib.hid hsu
      have HC := Lib.hid hc
      unfold KV.val at HC
      clear hc hsu hq
      cases q
      · go_wp2_with fail
        refine (HC.out _).mono ?_
        rintro e w2 ⟨rfl, hb2⟩
        have hE2 : Hid (EInv w s 4 w2) := Lib.hid ⟨v', by have h1 := HW.out.below hb2; rw [HSU.out]; simpa using h1, HK.out.below hb2, HB.out.trans (hb2.mono hbz)⟩
        clear hb2
        go_wp2_with fail
        go_roundw
        case rel => exact ⟨4, by omega, by go_num, hE2.out⟩
        case measure => simp [intOf]
      · go_wp2_with fail
        refine (HC.out _).mono ?_
        rintro e w2 ⟨rfl, hb2⟩
        have HB2 := Lib.hid hb2
        have hbz2 := hb2.size
        clear hb2
        go_wp2_with fail
        refine (u16_any (w.heap.size + 1) (w.heap.size + 1) v' (encL s 3) s.v3 _ (HW.out.below HB2.out) hv (by omega) (by omega)).mono ?_
        intro e w3 hp
        obtain ⟨v3, rfl, hw3, hk3⟩ := hp
        have hE2 : Hid (EInv w s 4 w3) := Lib.hid (EInv.wrote HW.out HK.out HB.out HB2.out hw3 hk3 (by rw [HSU.out]; rfl))
        clear hw3 hk3
        go_wp2_with fail
        go_roundw
        case rel => exact ⟨4, by omega, by go_num, hE2.out⟩
        case measure => simp [intOf]
    · have hc := fun W => has_4 s W Hs.out
      have hix := ix_4
      have hsu := encL_succ s 4
      have hv := Hs.out.v 4
      obtain ⟨q, hq⟩ : ∃ q, q = s.has 4 := ⟨_, rfl⟩
      rw [← hq] at hc hsu
      have HSU := Lib.hid hsu
      have HC := Lib.hid hc
      unfold KV.val at HC
      clear hc hsu hq
      cases q
      · go_wp2_with fail
        refine (HC.out _).mono ?_
        rintro e w2 ⟨rfl, hb2⟩
        have hE2 : Hid (EInv w s 5 w2) := Lib.hid ⟨v', by have h1 := HW.out.below hb2; rw [HSU.out]; simpa using h1, HK.out.below hb2, HB.out.trans (hb2.mono hbz)⟩
        clear hb2
        go_wp2_with fail
        go_roundw
        case rel => exact ⟨5, by omega, by go_num, hE2.out⟩
        case measure => simp [intOf]
      · go_wp2_with fail
        refine (HC.out _).mono ?_
        rintro e w2 ⟨rfl, hb2⟩
        have HB2 := Lib.hid hb2
        have hbz2 := hb2.size
        clear hb2
        go_wp2_with fail
        refine (u16_any (w.heap.size + 1) (w.heap.size + 1) v' (encL s 4) s.v4 _ (HW.out.below HB2.out) hv (by omega) (by omega)).mono ?_
        intro e w3 hp
        obtain ⟨v3, rfl, hw3, hk3⟩ := hp
        have hE2 : Hid (EInv w s 5 w3) := Lib.hid (EInv.wrote HW.out HK.out HB.out HB2.out hw3 hk3 (by rw [HSU.out]; rfl))
        clear hw3 hk3
        go_wp2_with fail
        go_roundw
        case rel => exact ⟨5, by omega, by go_num, hE2.out⟩
        case measure => simp [intOf]
    · have hc := fun W => has_5 s W Hs.out
      have hix := ix_5
      have hsu := encL_succ s 5
      have hv := Hs.out.v 5
      obtain ⟨q, hq⟩ : ∃ q, q = s.has 5 := ⟨_, rfl⟩
      rw [← hq] at hc hsu
      have HSU := Lib.hid hsu
      have HC := Lib.hid hc
      unfold KV.val at HC
      clear hc hsu hq
      cases q
      · go_wp2_with fail
        refine (HC.out _).mono ?_
        rintro e w2 ⟨rfl, hb2⟩
        have hE2 : Hid (EInv w s 6 w2) := Lib.hid ⟨v', by have h1 := HW.out.below hb2; rw [HSU.out]; simpa using h1, HK.out.below hb2, HB.out.trans (hb2.mono hbz)⟩
        clear hb2
        go_wp2_with fail
        go_roundw
        case rel => exact ⟨6, by omega, by go_num, hE2.out⟩
        case measure => simp [intOf]
      · go_wp2_with fail
        refine (HC.out _).mono ?_
        rintro e w2 ⟨rfl, hb2⟩
        have HB2 := Lib.hid hb2
        have hbz2 := hb2.size
        clear hb2
        go_wp2_with fail
        refine (u16_any (w.heap.size + 1) (w.heap.size + 1) v' (encL s 5) s.v5 _ (HW.out.below HB2.out) hv (by omega) (by omega)).mono ?_
        intro e w3 hp
        obtain ⟨v3, rfl, hw3, hk3⟩ := hp
        have hE2 : Hid (EInv w s 6 w3) := Lib.hid (EInv.wrote HW.out HK.out HB.out HB2.out hw3 hk3 (by rw [HSU.out]; rfl))
        clear hw3 hk3
        go_wp2_with fail
        go_roundw
        case rel => exact ⟨6, by omega, by go_num, hE2.out⟩
        case measure => simp [intOf]
    · have hc := fun W => has_6 s W Hs.out
      have hix := ix_6
      have hsu := encL_succ s 6
      have hv := Hs.out.v 6
      obtain ⟨q, hq⟩ : ∃ q, q = s.has 6 := ⟨_, rfl⟩
      rw [← hq] at hc hsu
      have HSU := Lib.hid hsu
      have HC := Lib.hid hc
      unfold KV.val at HC
      clear hc hsu hq
      cases q
      · go_wp2_with fail
        refine (HC.out _).mono ?_
        rintro e w2 ⟨rfl, hb2⟩
        have hE2 : Hid (EInv w s 7 w2) := Lib.hid ⟨v', by have h1 := HW.out.below hb2; rw [HSU.out]; simpa using h1, HK.out.below hb2, HB.out.trans (hb2.mono hbz)⟩
        clear hb2
        go_wp2_with fail
        go_roundw
        case rel => exact ⟨7, by omega, by go_num, hE2.out⟩
        case measure => simp [intOf]
      · go_wp2_with fail
        refine (HC.out _).mono ?_
        rintro e w2 ⟨rfl, hb2⟩
        have HB2 := Lib.hid hb2
        have hbz2 := hb2.size
        clear hb2
        go_wp2_with fail
        refine (u16_any (w.heap.size + 1) (w.heap.size + 1) v' (encL s 6) s.v6 _ (HW.out.below HB2.out) hv (by omega) (by omega)).mono ?_
        intro e w3 hp
        obtain ⟨v3, rfl, hw3, hk3⟩ := hp
        have hE2 : Hid (EInv w s 7 w3) := Lib.hid (EInv.wrote HW.out HK.out HB.out HB2.out hw3 hk3 (by rw [HSU.out]; rfl))
        clear hw3 hk3
        go_wp2_with fail
        go_roundw
        case rel => exact ⟨7, by omega, by go_num, hE2.out⟩
        case measure => simp [intOf]
    · have hc := fun W => has_7 s W Hs.out
      have hix := ix_7
      have hsu := encL_succ s 7
      have hv := Hs.out.v 7
      obtain ⟨q, hq⟩ : ∃ q, q = s.has 7 := ⟨_, rfl⟩
      rw [← hq] at hc hsu
      have HSU := Lib.hid hsu
      have HC := Lib.hid hc
      unfold KV.val at HC
      clear hc hsu hq
      cases q
      · go_wp2_with fail
        refine (HC.out _).mono ?_
        rintro e w2 ⟨rfl, hb2⟩
        have hE2 : Hid (EInv w s 8 w2) := Lib.hid ⟨v', by have h1 := HW.out.below hb2; rw [HSU.out]; simpa using h1, HK.out.below hb2, HB.out.trans (hb2.mono hbz)⟩
        clear hb2
        go_wp2_with fail
        go_roundw
        case rel => exact ⟨8, by omega, by go_num, hE2.out⟩
        case measure => simp [intOf]
      · go_wp2_with fail
        refine (HC.out _).mono ?_
        rintro e w2 ⟨rfl, hb2⟩
        have HB2 := Lib.hid hb2
        have hbz2 := hb2.size
        clear hb2
        go_wp2_with fail
        refine (u16_any (w.heap.size + 1) (w.heap.size + 1) v' (encL s 7) s.v7 _ (HW.out.below HB2.out) hv (by omega) (by omega)).mono ?_
        intro e w3 hp
        obtain ⟨v3, rfl, hw3, hk3⟩ := hp
        have hE2 : Hid (EInv w s 8 w3) := Lib.hid (EInv.wrote HW.out HK.out HB.out HB2.out hw3 hk3 (by rw [HSU.out]; rfl))
        clear hw3 hk3
        go_wp2_with fail
        go_roundw
        case rel => exact ⟨8, by omega, by go_num, hE2.out⟩
        case measure => simp [intOf]
    · go_wp2_with fail
      refine (bytes_any _ _ _ _ _ HW.out).mono ?_
      rintro e w3 ⟨rfl, rfl⟩
      go_wp2
      go_ret
      exact ⟨rfl, HB.out⟩
end Go.Proofs.Ytoidbmgoofbcfaa
