/- The document's lists of items: items, alike, at, without. Printed by gen_items.py. -/
import Derived.Test.YtoidbmgoofbcfaaItems
import Derived.Test.YtoidbmgoofbcfaaOnly
import Derived.Test.YtoidbmgoofbcfaaSame
import Derived.Test.YtoidbmgoofbcfaaEqs
namespace Go.Proofs.Ytoidbmgoofbcfaa
open Go.RowKit Go.Um
set_option linter.unusedSimpArgs false
set_option linter.unusedVariables false
set_option maxHeartbeats 4000000
set_option maxRecDepth 100000

theorem ba' {B : Nat} {a w : World} (h : Below B a w) (hs : B ≤ w.heap.size) (o : Obj) : Below B a (w.alloc o) := h.alloc hs o
theorem info61 : (Try.prog.info? 61).map (fun i => (i.zero, i.size, i.bytes)) = some (some (.agg #[.int .u8 0, .int .u16 0]), 2, 4) := by kernel_rfl
theorem size61 : (Try.prog.info? 61).map (·.size) = some 2 := by kernel_rfl
/-- a list of items, as a slice -/
def ListPost (T : List (Int × Int)) (n : Nat) (w : World) (e : Ending) (w' : World) : Prop :=
  ∃ ao cap b o, e = .returned (.slice ao n cap) ∧ SlAt w' 2 n (T.flatMap resC) ao cap b o ∧ Below w.heap.size w w'
/-- .. that is the call's own -/
def OwnPost (T : List (Int × Int)) (n : Nat) (w : World) (e : Ending) (w' : World) : Prop :=
  ∃ v, e = .returned v ∧ w'.ownsRow w.heap.size 61 2 v n (T.flatMap resC) ∧ Below w.heap.size w w'

theorem items_any (s : KV) (w : World) (hs : s.ok) : Calls Try.prog 14 #[s.val] w (OwnPost (itN s 8) (itN s 8).length w) := by
  obtain ⟨i6, hi, iz0, iz1, iz2⟩ := info_parts info61
  have K0 := Lib.hid (KvAt.new w s)
  unfold KV.val
  go_enter Try.func14, Try.ntmps14
  go_wp2_with fail
  obtain ⟨Y, hY⟩ : ∃ Y, Y = w.alloc (.cells #[.int .u8 s.h, .int .u16 s.v0, .int .u16 s.v1, .int .u16 s.v2, .int .u16 s.v3, .int .u16 s.v4, .int .u16 s.v5, .int .u16 s.v6, .int .u16 s.v7] 25) := ⟨_, rfl⟩
  replace K0 : Hid (KvAt (w.alloc (.cells #[.int .u8 s.h, .int .u16 s.v0, .int .u16 s.v1, .int .u16 s.v2, .int .u16 s.v3, .int .u16 s.v4, .int .u16 s.v5, .int .u16 s.v6, .int .u16 s.v7] 25)) w.heap.size s) := K0
  have HY0 : Hid (Below w.heap.size w Y) := by rw [hY]; exact Lib.hid (ba (bz w) _)
  rw [← hY] at K0 ⊢
  clear hY
  go_loopw [3, 4] (fun t3 t4 wr => ∃ k : Nat, k ≤ 8 ∧ t4 = .int .i64 k ∧ Hid (wr.ownsRow Y.heap.size 61 2 t3 (itN s k).length ((itN s k).flatMap resC)) ∧ Hid (Below Y.heap.size Y wr)) (fun _ t4 _ => 8 - (intOf t4).toNat)
  case atStart => exact ⟨0, by omega, rfl, World.ownsRow_nil _ _ _ _, bz Y⟩
  case round =>
    obtain ⟨k, hk, rfl, hown, hbl⟩ := hrel
    have hsz := hbl.out.size
    have hln := itN_len s k
    obtain ⟨c0, c1, c2, c3, c4, c5, c6, c7, c8, f0, f1, f2, f3, f4, f5, f6, f7, f8⟩ := K0.out.below hbl.out
    clear f0 f1 f2 f3 f4 f5 f6 f7 f8
    have hcase : k = 0 ∨ k = 1 ∨ k = 2 ∨ k = 3 ∨ k = 4 ∨ k = 5 ∨ k = 6 ∨ k = 7 ∨ k = 8 := by omega
    rcases hcase with rfl | rfl | rfl | rfl | rfl | rfl | rfl | rfl | rfl
    · have hH := bit_cases (h := s.h) 0
      have he : s.has 0 = bit s.h 0 := by simp [KV.has]
      have hsu := itN_succ s 0
      rw [he] at hsu
      obtain ⟨L, hL⟩ : ∃ L, L = itN s 0 := ⟨_, rfl⟩
      rw [← hL] at hsu hown hln
      rcases hH with ⟨e1, e2⟩ | ⟨e1, e2⟩
      · have t1 : (Int.tmod (s.h / 2 ^ 0) 2 == 1) = true := by rw [Int.tmod_eq_emod_of_nonneg (Int.ediv_nonneg hs.h.1 (by omega)), e2]; rfl
        rw [e1, if_pos rfl] at hsu
        have HSU := Lib.hid hsu
        clear he e1 e2 hsu hL
        simp only [Int.reducePow, Int.ediv_one] at t1
        go_wp2_with (at_builtin; refine wpList_append_lies _ rfl (.tmp 15) (.tmp 23) 33 rfl Y.heap.size 61 i6 (.agg #[.int .u8 0, .int .u16 0]) 2 4 Try.underlying33 hi iz0 iz1 iz2 rfl (by decide) _ _ _ rfl (hown.out.alloc _) ⟨wr.heap.size, 0, none⟩ 1 1 [.int .u8 0, .int .u16 s.v0] rfl rfl (new_cells _ _ _ _ (by simp)) (by simp [Value.oneCell']) (by decide) (by unfold maxLen; omega) (by omega) (by simp; omega) _ rfl ?_)
        intro gg cap2 wa hown2 hgrow2 hat hlt2
        have HB2 : Hid (Below Y.heap.size Y wa) := Lib.hid (below_own (ba' hbl.out hsz _) (hown.out.alloc _) hgrow2 (Nat.le_refl _) (by simp; omega))
        have HO2 := Lib.hid hown2
        clear hown2 hgrow2 hat hlt2
        go_wp2_with fail
        go_roundw
        case rel => exact ⟨1, by omega, by go_num, by rw [HSU.out, List.length_append, List.flatMap_append]; exact HO2, HB2⟩
        case measure => simp [intOf]
      · have t1 : (Int.tmod (s.h / 2 ^ 0) 2 == 1) = false := by rw [Int.tmod_eq_emod_of_nonneg (Int.ediv_nonneg hs.h.1 (by omega)), e2]; rfl
        rw [e1, if_neg (by decide), List.append_nil] at hsu
        have HSU := Lib.hid hsu
        clear he e1 e2 hsu hL
        simp only [Int.reducePow, Int.ediv_one] at t1
        go_wp2_with fail
        go_roundw
        case rel => exact ⟨1, by omega, by go_num, by rw [HSU.out]; exact hown, hbl⟩
        case measure => simp [intOf]
    · have hH := bit_cases (h := s.h) 1
      have he : s.has 1 = bit s.h 1 := by simp [KV.has]
      have hsu := itN_succ s 1
      rw [he] at hsu
      obtain ⟨L, hL⟩ : ∃ L, L = itN s 1 := ⟨_, rfl⟩
      rw [← hL] at hsu hown hln
      rcases hH with ⟨e1, e2⟩ | ⟨e1, e2⟩
      · have t1 : (Int.tmod (s.h / 2 ^ 1) 2 == 1) = true := by rw [Int.tmod_eq_emod_of_nonneg (Int.ediv_nonneg hs.h.1 (by omega)), e2]; rfl
        rw [e1, if_pos rfl] at hsu
        have HSU := Lib.hid hsu
        clear he e1 e2 hsu hL
        simp only [Int.reducePow, Int.ediv_one] at t1
        go_wp2_with (at_builtin; refine wpList_append_lies _ rfl (.tmp 15) (.tmp 23) 33 rfl Y.heap.size 61 i6 (.agg #[.int .u8 0, .int .u16 0]) 2 4 Try.underlying33 hi iz0 iz1 iz2 rfl (by decide) _ _ _ rfl (hown.out.alloc _) ⟨wr.heap.size, 0, none⟩ 1 1 [.int .u8 1, .int .u16 s.v1] rfl rfl (new_cells _ _ _ _ (by simp)) (by simp [Value.oneCell']) (by decide) (by unfold maxLen; omega) (by omega) (by simp; omega) _ rfl ?_)
        intro gg cap2 wa hown2 hgrow2 hat hlt2
        have HB2 : Hid (Below Y.heap.size Y wa) := Lib.hid (below_own (ba' hbl.out hsz _) (hown.out.alloc _) hgrow2 (Nat.le_refl _) (by simp; omega))
        have HO2 := Lib.hid hown2
        clear hown2 hgrow2 hat hlt2
        go_wp2_with fail
        go_roundw
        case rel => exact ⟨2, by omega, by go_num, by rw [HSU.out, List.length_append, List.flatMap_append]; exact HO2, HB2⟩
        case measure => simp [intOf]
      · have t1 : (Int.tmod (s.h / 2 ^ 1) 2 == 1) = false := by rw [Int.tmod_eq_emod_of_nonneg (Int.ediv_nonneg hs.h.1 (by omega)), e2]; rfl
        rw [e1, if_neg (by decide), List.append_nil] at hsu
        have HSU := Lib.hid hsu
        clear he e1 e2 hsu hL
        simp only [Int.reducePow, Int.ediv_one] at t1
        go_wp2_with fail
        go_roundw
        case rel => exact ⟨2, by omega, by go_num, by rw [HSU.out]; exact hown, hbl⟩
        case measure => simp [intOf]
    · have hH := bit_cases (h := s.h) 2
      have he : s.has 2 = bit s.h 2 := by simp [KV.has]
      have hsu := itN_succ s 2
      rw [he] at hsu
      obtain ⟨L, hL⟩ : ∃ L, L = itN s 2 := ⟨_, rfl⟩
      rw [← hL] at hsu hown hln
      rcases hH with ⟨e1, e2⟩ | ⟨e1, e2⟩
      · have t1 : (Int.tmod (s.h / 2 ^ 2) 2 == 1) = true := by rw [Int.tmod_eq_emod_of_nonneg (Int.ediv_nonneg hs.h.1 (by omega)), e2]; rfl
        rw [e1, if_pos rfl] at hsu
        have HSU := Lib.hid hsu
        clear he e1 e2 hsu hL
        simp only [Int.reducePow, Int.ediv_one] at t1
        go_wp2_with (at_builtin; refine wpList_append_lies _ rfl (.tmp 15) (.tmp 23) 33 rfl Y.heap.size 61 i6 (.agg #[.int .u8 0, .int .u16 0]) 2 4 Try.underlying33 hi iz0 iz1 iz2 rfl (by decide) _ _ _ rfl (hown.out.alloc _) ⟨wr.heap.size, 0, none⟩ 1 1 [.int .u8 2, .int .u16 s.v2] rfl rfl (new_cells _ _ _ _ (by simp)) (by simp [Value.oneCell']) (by decide) (by unfold maxLen; omega) (by omega) (by simp; omega) _ rfl ?_)
        intro gg cap2 wa hown2 hgrow2 hat hlt2
        have HB2 : Hid (Below Y.heap.size Y wa) := Lib.hid (below_own (ba' hbl.out hsz _) (hown.out.alloc _) hgrow2 (Nat.le_refl _) (by simp; omega))
        have HO2 := Lib.hid hown2
        clear hown2 hgrow2 hat hlt2
        go_wp2_with fail
        go_roundw
        case rel => exact ⟨3, by omega, by go_num, by rw [HSU.out, List.length_append, List.flatMap_append]; exact HO2, HB2⟩
        case measure => simp [intOf]
      · have t1 : (Int.tmod (s.h / 2 ^ 2) 2 == 1) = false := by rw [Int.tmod_eq_emod_of_nonneg (Int.ediv_nonneg hs.h.1 (by omega)), e2]; rfl
        rw [e1, if_neg (by decide), List.append_nil] at hsu
        have HSU := Lib.hid hsu
        clear he e1 e2 hsu hL
        simp only [Int.reducePow, Int.ediv_one] at t1
        go_wp2_with fail
        go_roundw
        case rel => exact ⟨3, by omega, by go_num, by rw [HSU.out]; exact hown, hbl⟩
        case measure => simp [intOf]
    · have hH := bit_cases (h := s.h) 3
      have he : s.has 3 = bit s.h 3 := by simp [KV.has]
      have hsu := itN_succ s 3
      rw [he] at hsu
      obtain ⟨L, hL⟩ : ∃ L, L = itN s 3 := ⟨_, rfl⟩
      rw [← hL] at hsu hown hln
      rcases hH with ⟨e1, e2⟩ | ⟨e1, e2⟩
      · have t1 : (Int.tmod (s.h / 2 ^ 3) 2 == 1) = true := by rw [Int.tmod_eq_emod_of_nonneg (Int.ediv_nonneg hs.h.1 (by omega)), e2]; rfl
        rw [e1, if_pos rfl] at hsu
        have HSU := Lib.hid hsu
        clear he e1 e2 hsu hL
        simp only [Int.reducePow, Int.ediv_one] at t1
        go_wp2_with (at_builtin; refine wpList_append_lies _ rfl (.tmp 15) (.tmp 23) 33 rfl Y.heap.size 61 i6 (.agg #[.int .u8 0, .int .u16 0]) 2 4 Try.underlying33 hi iz0 iz1 iz2 rfl (by decide) _ _ _ rfl (hown.out.alloc _) ⟨wr.heap.size, 0, none⟩ 1 1 [.int .u8 3, .int .u16 s.v3] rfl rfl (new_cells _ _ _ _ (by simp)) (by simp [Value.oneCell']) (by decide) (by unfold maxLen; omega) (by omega) (by simp; omega) _ rfl ?_)
        intro gg cap2 wa hown2 hgrow2 hat hlt2
        have HB2 : Hid (Below Y.heap.size Y wa) := Lib.hid (below_own (ba' hbl.out hsz _) (hown.out.alloc _) hgrow2 (Nat.le_refl _) (by simp; omega))
        have HO2 := Lib.hid hown2
        clear hown2 hgrow2 hat hlt2
        go_wp2_with fail
        go_roundw
        case rel => exact ⟨4, by omega, by go_num, by rw [HSU.out, List.length_append, List.flatMap_append]; exact HO2, HB2⟩
        case measure => simp [intOf]
      · have t1 : (Int.tmod (s.h / 2 ^ 3) 2 == 1) = false := by rw [Int.tmod_eq_emod_of_nonneg (Int.ediv_nonneg hs.h.1 (by omega)), e2]; rfl
        rw [e1, if_neg (by decide), List.append_nil] at hsu
        have HSU := Lib.hid hsu
        clear he e1 e2 hsu hL
        simp only [Int.reducePow, Int.ediv_one] at t1
        go_wp2_with fail
        go_roundw
        case rel => exact ⟨4, by omega, by go_num, by rw [HSU.out]; exact hown, hbl⟩
        case measure => simp [intOf]
    · have hH := bit_cases (h := s.h) 4
      have he : s.has 4 = bit s.h 4 := by simp [KV.has]
      have hsu := itN_succ s 4
      rw [he] at hsu
      obtain ⟨L, hL⟩ : ∃ L, L = itN s 4 := ⟨_, rfl⟩
      rw [← hL] at hsu hown hln
      rcases hH with ⟨e1, e2⟩ | ⟨e1, e2⟩
      · have t1 : (Int.tmod (s.h / 2 ^ 4) 2 == 1) = true := by rw [Int.tmod_eq_emod_of_nonneg (Int.ediv_nonneg hs.h.1 (by omega)), e2]; rfl
        rw [e1, if_pos rfl] at hsu
        have HSU := Lib.hid hsu
        clear he e1 e2 hsu hL
        simp only [Int.reducePow, Int.ediv_one] at t1
        go_wp2_with (at_builtin; refine wpList_append_lies _ rfl (.tmp 15) (.tmp 23) 33 rfl Y.heap.size 61 i6 (.agg #[.int .u8 0, .int .u16 0]) 2 4 Try.underlying33 hi iz0 iz1 iz2 rfl (by decide) _ _ _ rfl (hown.out.alloc _) ⟨wr.heap.size, 0, none⟩ 1 1 [.int .u8 4, .int .u16 s.v4] rfl rfl (new_cells _ _ _ _ (by simp)) (by simp [Value.oneCell']) (by decide) (by unfold maxLen; omega) (by omega) (by simp; omega) _ rfl ?_)
        intro gg cap2 wa hown2 hgrow2 hat hlt2
        have HB2 : Hid (Below Y.heap.size Y wa) := Lib.hid (below_own (ba' hbl.out hsz _) (hown.out.alloc _) hgrow2 (Nat.le_refl _) (by simp; omega))
        have HO2 := Lib.hid hown2
        clear hown2 hgrow2 hat hlt2
        go_wp2_with fail
        go_roundw
        case rel => exact ⟨5, by omega, by go_num, by rw [HSU.out, List.length_append, List.flatMap_append]; exact HO2, HB2⟩
        case measure => simp [intOf]
      · have t1 : (Int.tmod (s.h / 2 ^ 4) 2 == 1) = false := by rw [Int.tmod_eq_emod_of_nonneg (Int.ediv_nonneg hs.h.1 (by omega)), e2]; rfl
        rw [e1, if_neg (by decide), List.append_nil] at hsu
        have HSU := Lib.hid hsu
        clear he e1 e2 hsu hL
        simp only [Int.reducePow, Int.ediv_one] at t1
        go_wp2_with fail
        go_roundw
        case rel => exact ⟨5, by omega, by go_num, by rw [HSU.out]; exact hown, hbl⟩
        case measure => simp [intOf]
    · have hH := bit_cases (h := s.h) 5
      have he : s.has 5 = bit s.h 5 := by simp [KV.has]
      have hsu := itN_succ s 5
      rw [he] at hsu
      obtain ⟨L, hL⟩ : ∃ L, L = itN s 5 := ⟨_, rfl⟩
      rw [← hL] at hsu hown hln
      rcases hH with ⟨e1, e2⟩ | ⟨e1, e2⟩
      · have t1 : (Int.tmod (s.h / 2 ^ 5) 2 == 1) = true := by rw [Int.tmod_eq_emod_of_nonneg (Int.ediv_nonneg hs.h.1 (by omega)), e2]; rfl
        rw [e1, if_pos rfl] at hsu
        have HSU := Lib.hid hsu
        clear he e1 e2 hsu hL
        simp only [Int.reducePow, Int.ediv_one] at t1
        go_wp2_with (at_builtin; refine wpList_append_lies _ rfl (.tmp 15) (.tmp 23) 33 rfl Y.heap.size 61 i6 (.agg #[.int .u8 0, .int .u16 0]) 2 4 Try.underlying33 hi iz0 iz1 iz2 rfl (by decide) _ _ _ rfl (hown.out.alloc _) ⟨wr.heap.size, 0, none⟩ 1 1 [.int .u8 5, .int .u16 s.v5] rfl rfl (new_cells _ _ _ _ (by simp)) (by simp [Value.oneCell']) (by decide) (by unfold maxLen; omega) (by omega) (by simp; omega) _ rfl ?_)
        intro gg cap2 wa hown2 hgrow2 hat hlt2
        have HB2 : Hid (Below Y.heap.size Y wa) := Lib.hid (below_own (ba' hbl.out hsz _) (hown.out.alloc _) hgrow2 (Nat.le_refl _) (by simp; omega))
        have HO2 := Lib.hid hown2
        clear hown2 hgrow2 hat hlt2
        go_wp2_with fail
        go_roundw
        case rel => exact ⟨6, by omega, by go_num, by rw [HSU.out, List.length_append, List.flatMap_append]; exact HO2, HB2⟩
        case measure => simp [intOf]
      · have t1 : (Int.tmod (s.h / 2 ^ 5) 2 == 1) = false := by rw [Int.tmod_eq_emod_of_nonneg (Int.ediv_nonneg hs.h.1 (by omega)), e2]; rfl
        rw [e1, if_neg (by decide), List.append_nil] at hsu
        have HSU := Lib.hid hsu
        clear he e1 e2 hsu hL
        simp only [Int.reducePow, Int.ediv_one] at t1
        go_wp2_with fail
        go_roundw
        case rel => exact ⟨6, by omega, by go_num, by rw [HSU.out]; exact hown, hbl⟩
        case measure => simp [intOf]
    · have hH := bit_cases (h := s.h) 6
      have he : s.has 6 = bit s.h 6 := by simp [KV.has]
      have hsu := itN_succ s 6
      rw [he] at hsu
      obtain ⟨L, hL⟩ : ∃ L, L = itN s 6 := ⟨_, rfl⟩
      rw [← hL] at hsu hown hln
      rcases hH with ⟨e1, e2⟩ | ⟨e1, e2⟩
      · have t1 : (Int.tmod (s.h / 2 ^ 6) 2 == 1) = true := by rw [Int.tmod_eq_emod_of_nonneg (Int.ediv_nonneg hs.h.1 (by omega)), e2]; rfl
        rw [e1, if_pos rfl] at hsu
        have HSU := Lib.hid hsu
        clear he e1 e2 hsu hL
        simp only [Int.reducePow, Int.ediv_one] at t1
        go_wp2_with (at_builtin; refine wpList_append_lies _ rfl (.tmp 15) (.tmp 23) 33 rfl Y.heap.size 61 i6 (.agg #[.int .u8 0, .int .u16 0]) 2 4 Try.underlying33 hi iz0 iz1 iz2 rfl (by decide) _ _ _ rfl (hown.out.alloc _) ⟨wr.heap.size, 0, none⟩ 1 1 [.int .u8 6, .int .u16 s.v6] rfl rfl (new_cells _ _ _ _ (by simp)) (by simp [Value.oneCell']) (by decide) (by unfold maxLen; omega) (by omega) (by simp; omega) _ rfl ?_)
        intro gg cap2 wa hown2 hgrow2 hat hlt2
        have HB2 : Hid (Below Y.heap.size Y wa) := Lib.hid (below_own (ba' hbl.out hsz _) (hown.out.alloc _) hgrow2 (Nat.le_refl _) (by simp; omega))
        have HO2 := Lib.hid hown2
        clear hown2 hgrow2 hat hlt2
        go_wp2_with fail
        go_roundw
        case rel => exact ⟨7, by omega, by go_num, by rw [HSU.out, List.length_append, List.flatMap_append]; exact HO2, HB2⟩
        case measure => simp [intOf]
      · have t1 : (Int.tmod (s.h / 2 ^ 6) 2 == 1) = false := by rw [Int.tmod_eq_emod_of_nonneg (Int.ediv_nonneg hs.h.1 (by omega)), e2]; rfl
        rw [e1, if_neg (by decide), List.append_nil] at hsu
        have HSU := Lib.hid hsu
        clear he e1 e2 hsu hL
        simp only [Int.reducePow, Int.ediv_one] at t1
        go_wp2_with fail
        go_roundw
        case rel => exact ⟨7, by omega, by go_num, by rw [HSU.out]; exact hown, hbl⟩
        case measure => simp [intOf]
    · have hH := bit_cases (h := s.h) 7
      have he : s.has 7 = bit s.h 7 := by simp [KV.has]
      have hsu := itN_succ s 7
      rw [he] at hsu
      obtain ⟨L, hL⟩ : ∃ L, L = itN s 7 := ⟨_, rfl⟩
      rw [← hL] at hsu hown hln
      rcases hH with ⟨e1, e2⟩ | ⟨e1, e2⟩
      · have t1 : (Int.tmod (s.h / 2 ^ 7) 2 == 1) = true := by rw [Int.tmod_eq_emod_of_nonneg (Int.ediv_nonneg hs.h.1 (by omega)), e2]; rfl
        rw [e1, if_pos rfl] at hsu
        have HSU := Lib.hid hsu
        clear he e1 e2 hsu hL
        simp only [Int.reducePow, Int.ediv_one] at t1
        go_wp2_with (at_builtin; refine wpList_append_lies _ rfl (.tmp 15) (.tmp 23) 33 rfl Y.heap.size 61 i6 (.agg #[.int .u8 0, .int .u16 0]) 2 4 Try.underlying33 hi iz0 iz1 iz2 rfl (by decide) _ _ _ rfl (hown.out.alloc _) ⟨wr.heap.size, 0, none⟩ 1 1 [.int .u8 7, .int .u16 s.v7] rfl rfl (new_cells _ _ _ _ (by simp)) (by simp [Value.oneCell']) (by decide) (by unfold maxLen; omega) (by omega) (by simp; omega) _ rfl ?_)
        intro gg cap2 wa hown2 hgrow2 hat hlt2
        have HB2 : Hid (Below Y.heap.size Y wa) := Lib.hid (below_own (ba' hbl.out hsz _) (hown.out.alloc _) hgrow2 (Nat.le_refl _) (by simp; omega))
        have HO2 := Lib.hid hown2
        clear hown2 hgrow2 hat hlt2
        go_wp2_with fail
        go_roundw
        case rel => exact ⟨8, by omega, by go_num, by rw [HSU.out, List.length_append, List.flatMap_append]; exact HO2, HB2⟩
        case measure => simp [intOf]
      · have t1 : (Int.tmod (s.h / 2 ^ 7) 2 == 1) = false := by rw [Int.tmod_eq_emod_of_nonneg (Int.ediv_nonneg hs.h.1 (by omega)), e2]; rfl
        rw [e1, if_neg (by decide), List.append_nil] at hsu
        have HSU := Lib.hid hsu
        clear he e1 e2 hsu hL
        simp only [Int.reducePow, Int.ediv_one] at t1
        go_wp2_with fail
        go_roundw
        case rel => exact ⟨8, by omega, by go_num, by rw [HSU.out]; exact hown, hbl⟩
        case measure => simp [intOf]
    · go_wp2_with fail
      go_ret
      have hz := HY0.out.size
      exact ⟨_, rfl, own_base hown.out hz, HY0.out.trans (hbl.out.mono hz)⟩

theorem at_any (T : List (Int × Int)) (n : Nat) (hn : n = T.length) (ao : Option Addr) (cap b o : Nat) (key : Int) (w : World) (h : SlAt w 2 n (T.flatMap resC) ao cap b o) (hlen : n ≤ 1000) :
    Calls Try.prog 33 #[.slice ao n cap, .int .u8 key] w fun e w' => e = .returned (.int .i64 (atI T key)) ∧ w = w' := by
  have hidx := h.idx (P := Try.prog) (t := 33) Try.underlying33 size61 (by decide)
  have hno : (∀ (i : Nat) (x : Int × Int), T[i]? = some x → x.1 ≠ key) → atI T key = -1 := atI_none
  have hso : ∀ (i : Nat) (x : Int × Int), T[i]? = some x → x.1 = key → (∀ (j : Nat) (y : Int × Int), j < i → T[j]? = some y → y.1 ≠ key) → atI T key = i := fun i x h1 h2 h3 => atI_some h1 h2 h3
  obtain ⟨R, hR⟩ : ∃ R, R = atI T key := ⟨_, rfl⟩
  rw [← hR] at hno hso ⊢
  have HNO := Lib.hid hno
  have HSO := Lib.hid hso
  have HL := Lib.hid hn
  clear hR hno hso hn
  go_enter Try.func33, Try.ntmps33
  go_wp2_with fail
  go_loopw [5] (fun t5 wr => ∃ k : Nat, k ≤ n ∧ t5 = .int .i64 k ∧ Hid (∀ (j : Nat) (y : Int × Int), j < k → T[j]? = some y → y.1 ≠ key) ∧ wr = w) (fun t5 _ => n - (intOf t5).toNat)
  case atStart => exact ⟨0, Nat.zero_le _, rfl, fun j y hj => absurd hj (Nat.not_lt_zero _), rfl⟩
  case round =>
    obtain ⟨k, hk, rfl, hfar, rfl⟩ := hrel
    by_cases hlt : k < n
    · obtain ⟨x, hx⟩ : ∃ x, T[k]? = some x := ⟨_, List.getElem?_eq_getElem (by have := HL.out; omega)⟩
      obtain ⟨g0, g1⟩ := res_at h hx
      have Hx := Lib.hid hx
      have i1 : (0 : Int) ≤ (k : Int) := by omega
      have i2 : (k : Int) < (n : Int) := by omega
      clear hx
      obtain ⟨xk, xv⟩ := x
      dsimp only at g0 g1
      by_cases e : xk = key
      · have hr := HSO.out k _ Hx.out e hfar.out
        have t1 : (xk == key) = true := by simpa using e
        have HR := Lib.hid hr
        clear hr e
        go_wp2
        go_ret
        exact ⟨by rw [HR.out]; rfl, rfl⟩
      · have t1 : (xk == key) = false := by simpa using e
        have E := Lib.hid e
        clear e
        go_wp2_with fail
        go_roundw
        case rel =>
          refine ⟨k + 1, by omega, by go_num, fun j y hj hy => ?_, trivial⟩
          by_cases e2 : j = k
          · subst e2
            have := Hx.out
            rw [hy] at this
            obtain rfl := Option.some.inj this
            exact E.out
          · exact hfar.out j y (by omega) hy
        case measure => simp [intOf]; omega
    · have hr := HNO.out (fun i x hx => hfar.out i x (by have := HL.out; have := (List.getElem?_eq_some_iff.1 hx).1; omega) hx)
      have HR := Lib.hid hr
      clear hr
      have kk1 : ¬ ((k : Int) < (n : Int)) := by omega
      go_wp2
      go_ret
      exact ⟨by rw [HR.out]; rfl, rfl⟩

theorem without_any (T : List (Int × Int)) (n : Nat) (hn : n = T.length) (ao : Option Addr) (cap b o : Nat) (i : Int) (w : World) (h : SlAt w 2 n (T.flatMap resC) ao cap b o) (hlen : n ≤ 1000) :
    Calls Try.prog 34 #[.slice ao n cap, .int .i64 i] w (OwnPost (wiN T i n) (wiN T i n).length w) := by
  obtain ⟨i6, hi, iz0, iz1, iz2⟩ := info_parts info61
  have hidx := h.idx (P := Try.prog) (t := 33) Try.underlying33 size61 (by decide)
  have HL := Lib.hid hn
  have HS := Lib.hid h
  clear hn h
  go_enter Try.func34, Try.ntmps34
  go_wp2_with fail
  go_loopw [5, 6] (fun t5 t6 wr => ∃ k : Nat, k ≤ n ∧ t6 = .int .i64 k ∧ Hid (wr.ownsRow w.heap.size 61 2 t5 (wiN T i k).length ((wiN T i k).flatMap resC)) ∧ Hid (Below w.heap.size w wr)) (fun _ t6 _ => n - (intOf t6).toNat)
  case atStart => exact ⟨0, Nat.zero_le _, rfl, World.ownsRow_nil _ _ _ _, bz w⟩
  case round =>
    obtain ⟨k, hk, rfl, hown, hbl⟩ := hrel
    have hsz := hbl.out.size
    by_cases hlt : k < n
    · obtain ⟨x, hx⟩ : ∃ x, T[k]? = some x := ⟨_, List.getElem?_eq_getElem (by have := HL.out; omega)⟩
      obtain ⟨g0, g1⟩ := res_at (HS.out.below' hbl.out HS.out.lt) hx
      have hbw : b < wr.heap.size := World.block_lt_of_cell? wr _ g0
      have hsu : wiN T i (k + 1) = wiN T i k ++ (if (k : Int) = i then [] else [x]) := by show wiN T i k ++ (if (k : Int) = i then [] else (T[k]?).toList) = _; rw [hx]; rfl
      have hln := wiN_len T i k
      obtain ⟨L, hL⟩ : ∃ L, L = wiN T i k := ⟨_, rfl⟩
      rw [← hL] at hsu hown hln
      have i1 : (0 : Int) ≤ (k : Int) := by omega
      have i2 : (k : Int) < (n : Int) := by omega
      obtain ⟨xk, xv⟩ := x
      dsimp only at g0 g1
      clear hx hL
      by_cases e : (k : Int) = i
      · have t1 : ((k : Int) != i) = false := by simpa using e
        rw [if_pos e, List.append_nil] at hsu
        have HSU := Lib.hid hsu
        clear hsu e
        go_wp2_with fail
        go_roundw
        case rel => exact ⟨k + 1, by omega, by go_num, by rw [HSU.out]; exact hown, hbl⟩
        case measure => simp [intOf]; omega
      · have t1 : ((k : Int) != i) = true := by simpa using e
        rw [if_neg e] at hsu
        have HSU := Lib.hid hsu
        clear hsu e
        go_wp2_with (at_builtin; refine wpList_append_lies _ rfl (.tmp 16) (.tmp 21) 33 rfl w.heap.size 61 i6 (.agg #[.int .u8 0, .int .u16 0]) 2 4 Try.underlying33 hi iz0 iz1 iz2 rfl (by decide) _ _ _ rfl (hown.out.alloc _) ⟨wr.heap.size, 0, none⟩ 1 1 [.int .u8 xk, .int .u16 xv] rfl rfl (new_cells _ _ _ _ (by simp)) (by simp [Value.oneCell']) (by decide) (by unfold maxLen; omega) (by omega) (by simp; omega) _ rfl ?_)
        intro gg cap2 wa hown2 hgrow2 hat hlt2
        have HB2 : Hid (Below w.heap.size w wa) := Lib.hid (below_own (ba' hbl.out hsz _) (hown.out.alloc _) hgrow2 (Nat.le_refl _) (by simp; omega))
        have HO2 := Lib.hid hown2
        clear hown2 hgrow2 hat hlt2
        go_wp2_with fail
        go_roundw
        case rel => exact ⟨k + 1, by omega, by go_num, by rw [HSU.out, List.length_append, List.flatMap_append]; exact HO2, HB2⟩
        case measure => simp [intOf]; omega
    · have hkn : k = n := by omega
      subst hkn
      have kk1 : ¬ ((k : Int) < (k : Int)) := by omega
      go_wp2
      go_ret
      exact ⟨_, rfl, hown.out, hbl.out⟩

/-- at the head of a round of alike -/
structure AInv (w : World) (s n : KV) (wr : World) : Prop where
  s : KvAt wr w.heap.size s
  n : KvAt wr (w.heap.size + 1) n
  b : Below w.heap.size w wr
theorem AInv.drew {w wr : World} {s n : KV} (h : AInv w s n wr) : AInv w s n wr.drew := ⟨h.s.below (bz wr).drew, h.n.below (bz wr).drew, h.b.drew⟩
theorem alike_any (s : KV) (T : List (Int × Int)) (n : Nat) (hn : n = T.length) (ao : Option Addr) (cap b o : Nat) (w : World) (h : SlAt w 2 n (T.flatMap resC) ao cap b o) (hlen : n ≤ 1000) (hT : ItOk T) :
    Calls Try.prog 15 #[s.val, .slice ao n cap] w fun e w' => e = .returned (.bool (decide (s = kvN T))) ∧ Below w.heap.size w w' := by
  have hidx := h.idx (P := Try.prog) (t := 33) Try.underlying33 size61 (by decide)
  have heq := eq25_kv
  have K0 := Lib.hid (KvAt.new w s)
  have HL := Lib.hid hn
  have HS := Lib.hid h
  have HT := Lib.hid hT
  clear hn h hT
  unfold KV.val
  go_enter Try.func15, Try.ntmps15
  go_wp2_with fail
  have HI0 : Hid (AInv w s KV.zero ((w.alloc (.cells #[.int .u8 s.h, .int .u16 s.v0, .int .u16 s.v1, .int .u16 s.v2, .int .u16 s.v3, .int .u16 s.v4, .int .u16 s.v5, .int .u16 s.v6, .int .u16 s.v7] 25)).alloc (.cells #[.int .u8 0, .int .u16 0, .int .u16 0, .int .u16 0, .int .u16 0, .int .u16 0, .int .u16 0, .int .u16 0, .int .u16 0] 25))) := Lib.hid ⟨K0.out.below (ba (bz _) _), KvAt.newz (by simp), ba (ba (bz w) _) _⟩
  go_loopw [6] (fun t6 wr => ∃ k : Nat, k ≤ n ∧ t6 = .int .i64 k ∧ Hid (AInv w s (kvN (T.take k)) wr)) (fun t6 _ => n - (intOf t6).toNat)
  case atStart => exact ⟨0, Nat.zero_le _, rfl, HI0.out⟩
  case round =>
    obtain ⟨k, hk, rfl, hinv⟩ := hrel
    have hp := hinv.out.s.lt
    have hp1 := hinv.out.n.lt
    by_cases hlt : k < n
    · obtain ⟨x, hx⟩ : ∃ x, T[k]? = some x := ⟨_, List.getElem?_eq_getElem (by have := HL.out; omega)⟩
      have hxo := HT.out.e x (List.mem_of_getElem? hx)
      obtain ⟨g0, g1⟩ := res_at (HS.out.below' hinv.out.b HS.out.lt) hx
      have hbw : b < w.heap.size := by have := HS.out.lt (by have := HS.out.len; have := HL.out; omega); exact this
      have hsu : kvN (T.take (k + 1)) = (kvN (T.take k)).lay x.1.toNat x.2 := by
        have : T.take (k + 1) = T.take k ++ [x] := by rw [List.take_add_one, hx]; rfl
        rw [this]; exact kvF_push _ _ _
      have hst : (kvN (T.take k)).ok := (kvN_look ⟨fun y hy => HT.out.e y (List.mem_of_mem_take hy), HT.out.d.sublist (List.take_sublist _ _)⟩).1
      obtain ⟨N, hN⟩ : ∃ N, N = kvN (T.take k) := ⟨_, rfl⟩
      rw [← hN] at hsu hinv hst
      have i1 : (0 : Int) ≤ (k : Int) := by omega
      have i2 : (k : Int) < (n : Int) := by omega
      have nb1 : ¬ b = w.heap.size := by omega
      have nb2 : ¬ b = w.heap.size + 1 := by omega
      have nb3 : ¬ w.heap.size = b := by omega
      have nb4 : ¬ w.heap.size + 1 = b := by omega
      have hbr : b < wr.heap.size := by omega
      obtain ⟨xk, xv⟩ := x
      dsimp only at g0 g1 hsu hxo
      have hh := hst.h
      obtain ⟨KK, rfl⟩ := Int.eq_ofNat_of_zero_le hxo.1.1
      obtain ⟨c0, c1, c2, c3, c4, c5, c6, c7, c8, f0, f1, f2, f3, f4, f5, f6, f7, f8⟩ := hinv.out.n
      have HI := Lib.hid hinv.out
      rw [Int.toNat_natCast] at hsu
      clear hx hN hst hinv
      have hcase : KK = 0 ∨ KK = 1 ∨ KK = 2 ∨ KK = 3 ∨ KK = 4 ∨ KK = 5 ∨ KK = 6 ∨ KK = 7 := by omega
      clear hxo
      rcases hcase with rfl | rfl | rfl | rfl | rfl | rfl | rfl | rfl
      · have hb := (bits_ok hh 0 (by decide)).1
        simp at hb
        have HK : Hid (KvAt ((wr.setCell ⟨w.heap.size + 1, 0, none⟩ (.int .u8 (on N.h 0))).setCell ⟨w.heap.size + 1, 1, none⟩ (.int .u16 xv)) (w.heap.size + 1) (N.lay 0 xv)) := Lib.hid ⟨by simp [go_sem, c0, KV.lay, KV.put, hp1], by simp [go_sem, c1, KV.lay, KV.put, hp1], by simp [go_sem, c2, KV.lay, KV.put, hp1], by simp [go_sem, c3, KV.lay, KV.put, hp1], by simp [go_sem, c4, KV.lay, KV.put, hp1], by simp [go_sem, c5, KV.lay, KV.put, hp1], by simp [go_sem, c6, KV.lay, KV.put, hp1], by simp [go_sem, c7, KV.lay, KV.put, hp1], by simp [go_sem, c8, KV.lay, KV.put, hp1], by simp [go_sem, f0, hp1], by simp [go_sem, f1, hp1], by simp [go_sem, f2, hp1], by simp [go_sem, f3, hp1], by simp [go_sem, f4, hp1], by simp [go_sem, f5, hp1], by simp [go_sem, f6, hp1], by simp [go_sem, f7, hp1], by simp [go_sem, f8, hp1]⟩
        have HKP : Hid (Kept (fun i => i = w.heap.size + 1) wr ((wr.setCell ⟨w.heap.size + 1, 0, none⟩ (.int .u8 (on N.h 0))).setCell ⟨w.heap.size + 1, 1, none⟩ (.int .u16 xv))) := Lib.hid (by repeat (first | (with_reducible exact Kept.refl _ _) | (with_reducible refine Kept.setCell (S := fun i => i = w.heap.size + 1) ?_ (fun _ => rfl) _)))
        have HA : Hid (AInv w s (N.lay 0 xv) ((wr.setCell ⟨w.heap.size + 1, 0, none⟩ (.int .u8 (on N.h 0))).setCell ⟨w.heap.size + 1, 1, none⟩ (.int .u16 xv))) := Lib.hid ⟨HI.out.s.kept HKP.out (by omega), HK.out, HI.out.b.trans (HKP.out.below (fun i hi _ e => by omega) HI.out.b.size)⟩
        have HSU := Lib.hid hsu
        clear hsu hh HK HKP
        simp at g0
        go_wp2_with fail
        go_region
        all_goals go_wp2_with fail
        all_goals go_region
        all_goals go_wp2_with fail
        all_goals go_roundw
        case rel =>
          refine ⟨k + 1, by omega, by go_num, ?_⟩
          rw [HSU.out]
          exact HA.out.drew.drew
        case measure => simp [intOf]; omega
      · have hb := (bits_ok hh 1 (by decide)).1
        simp at hb
        have HK : Hid (KvAt ((wr.setCell ⟨w.heap.size + 1, 0, none⟩ (.int .u8 (on N.h 1))).setCell ⟨w.heap.size + 1, 2, none⟩ (.int .u16 xv)) (w.heap.size + 1) (N.lay 1 xv)) := Lib.hid ⟨by simp [go_sem, c0, KV.lay, KV.put, hp1], by simp [go_sem, c1, KV.lay, KV.put, hp1], by simp [go_sem, c2, KV.lay, KV.put, hp1], by simp [go_sem, c3, KV.lay, KV.put, hp1], by simp [go_sem, c4, KV.lay, KV.put, hp1], by simp [go_sem, c5, KV.lay, KV.put, hp1], by simp [go_sem, c6, KV.lay, KV.put, hp1], by simp [go_sem, c7, KV.lay, KV.put, hp1], by simp [go_sem, c8, KV.lay, KV.put, hp1], by simp [go_sem, f0, hp1], by simp [go_sem, f1, hp1], by simp [go_sem, f2, hp1], by simp [go_sem, f3, hp1], by simp [go_sem, f4, hp1], by simp [go_sem, f5, hp1], by simp [go_sem, f6, hp1], by simp [go_sem, f7, hp1], by simp [go_sem, f8, hp1]⟩
        have HKP : Hid (Kept (fun i => i = w.heap.size + 1) wr ((wr.setCell ⟨w.heap.size + 1, 0, none⟩ (.int .u8 (on N.h 1))).setCell ⟨w.heap.size + 1, 2, none⟩ (.int .u16 xv))) := Lib.hid (by repeat (first | (with_reducible exact Kept.refl _ _) | (with_reducible refine Kept.setCell (S := fun i => i = w.heap.size + 1) ?_ (fun _ => rfl) _)))
        have HA : Hid (AInv w s (N.lay 1 xv) ((wr.setCell ⟨w.heap.size + 1, 0, none⟩ (.int .u8 (on N.h 1))).setCell ⟨w.heap.size + 1, 2, none⟩ (.int .u16 xv))) := Lib.hid ⟨HI.out.s.kept HKP.out (by omega), HK.out, HI.out.b.trans (HKP.out.below (fun i hi _ e => by omega) HI.out.b.size)⟩
        have HSU := Lib.hid hsu
        clear hsu hh HK HKP
        simp at g0
        go_wp2_with fail
        go_region
        all_goals go_wp2_with fail
        all_goals go_region
        all_goals go_wp2_with fail
        all_goals go_roundw
        case rel =>
          refine ⟨k + 1, by omega, by go_num, ?_⟩
          rw [HSU.out]
          exact HA.out.drew.drew
        case measure => simp [intOf]; omega
      · have hb := (bits_ok hh 2 (by decide)).1
        simp at hb
        have HK : Hid (KvAt ((wr.setCell ⟨w.heap.size + 1, 0, none⟩ (.int .u8 (on N.h 2))).setCell ⟨w.heap.size + 1, 3, none⟩ (.int .u16 xv)) (w.heap.size + 1) (N.lay 2 xv)) := Lib.hid ⟨by simp [go_sem, c0, KV.lay, KV.put, hp1], by simp [go_sem, c1, KV.lay, KV.put, hp1], by simp [go_sem, c2, KV.lay, KV.put, hp1], by simp [go_sem, c3, KV.lay, KV.put, hp1], by simp [go_sem, c4, KV.lay, KV.put, hp1], by simp [go_sem, c5, KV.lay, KV.put, hp1], by simp [go_sem, c6, KV.lay, KV.put, hp1], by simp [go_sem, c7, KV.lay, KV.put, hp1], by simp [go_sem, c8, KV.lay, KV.put, hp1], by simp [go_sem, f0, hp1], by simp [go_sem, f1, hp1], by simp [go_sem, f2, hp1], by simp [go_sem, f3, hp1], by simp [go_sem, f4, hp1], by simp [go_sem, f5, hp1], by simp [go_sem, f6, hp1], by simp [go_sem, f7, hp1], by simp [go_sem, f8, hp1]⟩
        have HKP : Hid (Kept (fun i => i = w.heap.size + 1) wr ((wr.setCell ⟨w.heap.size + 1, 0, none⟩ (.int .u8 (on N.h 2))).setCell ⟨w.heap.size + 1, 3, none⟩ (.int .u16 xv))) := Lib.hid (by repeat (first | (with_reducible exact Kept.refl _ _) | (with_reducible refine Kept.setCell (S := fun i => i = w.heap.size + 1) ?_ (fun _ => rfl) _)))
        have HA : Hid (AInv w s (N.lay 2 xv) ((wr.setCell ⟨w.heap.size + 1, 0, none⟩ (.int .u8 (on N.h 2))).setCell ⟨w.heap.size + 1, 3, none⟩ (.int .u16 xv))) := Lib.hid ⟨HI.out.s.kept HKP.out (by omega), HK.out, HI.out.b.trans (HKP.out.below (fun i hi _ e => by omega) HI.out.b.size)⟩
        have HSU := Lib.hid hsu
        clear hsu hh HK HKP
        simp at g0
        go_wp2_with fail
        go_region
        all_goals go_wp2_with fail
        all_goals go_region
        all_goals go_wp2_with fail
        all_goals go_roundw
        case rel =>
          refine ⟨k + 1, by omega, by go_num, ?_⟩
          rw [HSU.out]
          exact HA.out.drew.drew
        case measure => simp [intOf]; omega
      · have hb := (bits_ok hh 3 (by decide)).1
        simp at hb
        have HK : Hid (KvAt ((wr.setCell ⟨w.heap.size + 1, 0, none⟩ (.int .u8 (on N.h 3))).setCell ⟨w.heap.size + 1, 4, none⟩ (.int .u16 xv)) (w.heap.size + 1) (N.lay 3 xv)) := Lib.hid ⟨by simp [go_sem, c0, KV.lay, KV.put, hp1], by simp [go_sem, c1, KV.lay, KV.put, hp1], by simp [go_sem, c2, KV.lay, KV.put, hp1], by simp [go_sem, c3, KV.lay, KV.put, hp1], by simp [go_sem, c4, KV.lay, KV.put, hp1], by simp [go_sem, c5, KV.lay, KV.put, hp1], by simp [go_sem, c6, KV.lay, KV.put, hp1], by simp [go_sem, c7, KV.lay, KV.put, hp1], by simp [go_sem, c8, KV.lay, KV.put, hp1], by simp [go_sem, f0, hp1], by simp [go_sem, f1, hp1], by simp [go_sem, f2, hp1], by simp [go_sem, f3, hp1], by simp [go_sem, f4, hp1], by simp [go_sem, f5, hp1], by simp [go_sem, f6, hp1], by simp [go_sem, f7, hp1], by simp [go_sem, f8, hp1]⟩
        have HKP : Hid (Kept (fun i => i = w.heap.size + 1) wr ((wr.setCell ⟨w.heap.size + 1, 0, none⟩ (.int .u8 (on N.h 3))).setCell ⟨w.heap.size + 1, 4, none⟩ (.int .u16 xv))) := Lib.hid (by repeat (first | (with_reducible exact Kept.refl _ _) | (with_reducible refine Kept.setCell (S := fun i => i = w.heap.size + 1) ?_ (fun _ => rfl) _)))
        have HA : Hid (AInv w s (N.lay 3 xv) ((wr.setCell ⟨w.heap.size + 1, 0, none⟩ (.int .u8 (on N.h 3))).setCell ⟨w.heap.size + 1, 4, none⟩ (.int .u16 xv))) := Lib.hid ⟨HI.out.s.kept HKP.out (by omega), HK.out, HI.out.b.trans (HKP.out.below (fun i hi _ e => by omega) HI.out.b.size)⟩
        have HSU := Lib.hid hsu
        clear hsu hh HK HKP
        simp at g0
        go_wp2_with fail
        go_region
        all_goals go_wp2_with fail
        all_goals go_region
        all_goals go_wp2_with fail
        all_goals go_roundw
        case rel =>
          refine ⟨k + 1, by omega, by go_num, ?_⟩
          rw [HSU.out]
          exact HA.out.drew.drew
        case measure => simp [intOf]; omega
      · have hb := (bits_ok hh 4 (by decide)).1
        simp at hb
        have HK : Hid (KvAt ((wr.setCell ⟨w.heap.size + 1, 0, none⟩ (.int .u8 (on N.h 4))).setCell ⟨w.heap.size + 1, 5, none⟩ (.int .u16 xv)) (w.heap.size + 1) (N.lay 4 xv)) := Lib.hid ⟨by simp [go_sem, c0, KV.lay, KV.put, hp1], by simp [go_sem, c1, KV.lay, KV.put, hp1], by simp [go_sem, c2, KV.lay, KV.put, hp1], by simp [go_sem, c3, KV.lay, KV.put, hp1], by simp [go_sem, c4, KV.lay, KV.put, hp1], by simp [go_sem, c5, KV.lay, KV.put, hp1], by simp [go_sem, c6, KV.lay, KV.put, hp1], by simp [go_sem, c7, KV.lay, KV.put, hp1], by simp [go_sem, c8, KV.lay, KV.put, hp1], by simp [go_sem, f0, hp1], by simp [go_sem, f1, hp1], by simp [go_sem, f2, hp1], by simp [go_sem, f3, hp1], by simp [go_sem, f4, hp1], by simp [go_sem, f5, hp1], by simp [go_sem, f6, hp1], by simp [go_sem, f7, hp1], by simp [go_sem, f8, hp1]⟩
        have HKP : Hid (Kept (fun i => i = w.heap.size + 1) wr ((wr.setCell ⟨w.heap.size + 1, 0, none⟩ (.int .u8 (on N.h 4))).setCell ⟨w.heap.size + 1, 5, none⟩ (.int .u16 xv))) := Lib.hid (by repeat (first | (with_reducible exact Kept.refl _ _) | (with_reducible refine Kept.setCell (S := fun i => i = w.heap.size + 1) ?_ (fun _ => rfl) _)))
        have HA : Hid (AInv w s (N.lay 4 xv) ((wr.setCell ⟨w.heap.size + 1, 0, none⟩ (.int .u8 (on N.h 4))).setCell ⟨w.heap.size + 1, 5, none⟩ (.int .u16 xv))) := Lib.hid ⟨HI.out.s.kept HKP.out (by omega), HK.out, HI.out.b.trans (HKP.out.below (fun i hi _ e => by omega) HI.out.b.size)⟩
        have HSU := Lib.hid hsu
        clear hsu hh HK HKP
        simp at g0
        go_wp2_with fail
        go_region
        all_goals go_wp2_with fail
        all_goals go_region
        all_goals go_wp2_with fail
        all_goals go_roundw
        case rel =>
          refine ⟨k + 1, by omega, by go_num, ?_⟩
          rw [HSU.out]
          exact HA.out.drew.drew
        case measure => simp [intOf]; omega
      · have hb := (bits_ok hh 5 (by decide)).1
        simp at hb
        have HK : Hid (KvAt ((wr.setCell ⟨w.heap.size + 1, 0, none⟩ (.int .u8 (on N.h 5))).setCell ⟨w.heap.size + 1, 6, none⟩ (.int .u16 xv)) (w.heap.size + 1) (N.lay 5 xv)) := Lib.hid ⟨by simp [go_sem, c0, KV.lay, KV.put, hp1], by simp [go_sem, c1, KV.lay, KV.put, hp1], by simp [go_sem, c2, KV.lay, KV.put, hp1], by simp [go_sem, c3, KV.lay, KV.put, hp1], by simp [go_sem, c4, KV.lay, KV.put, hp1], by simp [go_sem, c5, KV.lay, KV.put, hp1], by simp [go_sem, c6, KV.lay, KV.put, hp1], by simp [go_sem, c7, KV.lay, KV.put, hp1], by simp [go_sem, c8, KV.lay, KV.put, hp1], by simp [go_sem, f0, hp1], by simp [go_sem, f1, hp1], by simp [go_sem, f2, hp1], by simp [go_sem, f3, hp1], by simp [go_sem, f4, hp1], by simp [go_sem, f5, hp1], by simp [go_sem, f6, hp1], by simp [go_sem, f7, hp1], by simp [go_sem, f8, hp1]⟩
        have HKP : Hid (Kept (fun i => i = w.heap.size + 1) wr ((wr.setCell ⟨w.heap.size + 1, 0, none⟩ (.int .u8 (on N.h 5))).setCell ⟨w.heap.size + 1, 6, none⟩ (.int .u16 xv))) := Lib.hid (by repeat (first | (with_reducible exact Kept.refl _ _) | (with_reducible refine Kept.setCell (S := fun i => i = w.heap.size + 1) ?_ (fun _ => rfl) _)))
        have HA : Hid (AInv w s (N.lay 5 xv) ((wr.setCell ⟨w.heap.size + 1, 0, none⟩ (.int .u8 (on N.h 5))).setCell ⟨w.heap.size + 1, 6, none⟩ (.int .u16 xv))) := Lib.hid ⟨HI.out.s.kept HKP.out (by omega), HK.out, HI.out.b.trans (HKP.out.below (fun i hi _ e => by omega) HI.out.b.size)⟩
        have HSU := Lib.hid hsu
        clear hsu hh HK HKP
        simp at g0
        go_wp2_with fail
        go_region
        all_goals go_wp2_with fail
        all_goals go_region
        all_goals go_wp2_with fail
        all_goals go_roundw
        case rel =>
          refine ⟨k + 1, by omega, by go_num, ?_⟩
          rw [HSU.out]
          exact HA.out.drew.drew
        case measure => simp [intOf]; omega
      · have hb := (bits_ok hh 6 (by decide)).1
        simp at hb
        have HK : Hid (KvAt ((wr.setCell ⟨w.heap.size + 1, 0, none⟩ (.int .u8 (on N.h 6))).setCell ⟨w.heap.size + 1, 7, none⟩ (.int .u16 xv)) (w.heap.size + 1) (N.lay 6 xv)) := Lib.hid ⟨by simp [go_sem, c0, KV.lay, KV.put, hp1], by simp [go_sem, c1, KV.lay, KV.put, hp1], by simp [go_sem, c2, KV.lay, KV.put, hp1], by simp [go_sem, c3, KV.lay, KV.put, hp1], by simp [go_sem, c4, KV.lay, KV.put, hp1], by simp [go_sem, c5, KV.lay, KV.put, hp1], by simp [go_sem, c6, KV.lay, KV.put, hp1], by simp [go_sem, c7, KV.lay, KV.put, hp1], by simp [go_sem, c8, KV.lay, KV.put, hp1], by simp [go_sem, f0, hp1], by simp [go_sem, f1, hp1], by simp [go_sem, f2, hp1], by simp [go_sem, f3, hp1], by simp [go_sem, f4, hp1], by simp [go_sem, f5, hp1], by simp [go_sem, f6, hp1], by simp [go_sem, f7, hp1], by simp [go_sem, f8, hp1]⟩
        have HKP : Hid (Kept (fun i => i = w.heap.size + 1) wr ((wr.setCell ⟨w.heap.size + 1, 0, none⟩ (.int .u8 (on N.h 6))).setCell ⟨w.heap.size + 1, 7, none⟩ (.int .u16 xv))) := Lib.hid (by repeat (first | (with_reducible exact Kept.refl _ _) | (with_reducible refine Kept.setCell (S := fun i => i = w.heap.size + 1) ?_ (fun _ => rfl) _)))
        have HA : Hid (AInv w s (N.lay 6 xv) ((wr.setCell ⟨w.heap.size + 1, 0, none⟩ (.int .u8 (on N.h 6))).setCell ⟨w.heap.size + 1, 7, none⟩ (.int .u16 xv))) := Lib.hid ⟨HI.out.s.kept HKP.out (by omega), HK.out, HI.out.b.trans (HKP.out.below (fun i hi _ e => by omega) HI.out.b.size)⟩
        have HSU := Lib.hid hsu
        clear hsu hh HK HKP
        simp at g0
        go_wp2_with fail
        go_region
        all_goals go_wp2_with fail
        all_goals go_region
        all_goals go_wp2_with fail
        all_goals go_roundw
        case rel =>
          refine ⟨k + 1, by omega, by go_num, ?_⟩
          rw [HSU.out]
          exact HA.out.drew.drew
        case measure => simp [intOf]; omega
      · have hb := (bits_ok hh 7 (by decide)).1
        simp at hb
        have HK : Hid (KvAt ((wr.setCell ⟨w.heap.size + 1, 0, none⟩ (.int .u8 (on N.h 7))).setCell ⟨w.heap.size + 1, 8, none⟩ (.int .u16 xv)) (w.heap.size + 1) (N.lay 7 xv)) := Lib.hid ⟨by simp [go_sem, c0, KV.lay, KV.put, hp1], by simp [go_sem, c1, KV.lay, KV.put, hp1], by simp [go_sem, c2, KV.lay, KV.put, hp1], by simp [go_sem, c3, KV.lay, KV.put, hp1], by simp [go_sem, c4, KV.lay, KV.put, hp1], by simp [go_sem, c5, KV.lay, KV.put, hp1], by simp [go_sem, c6, KV.lay, KV.put, hp1], by simp [go_sem, c7, KV.lay, KV.put, hp1], by simp [go_sem, c8, KV.lay, KV.put, hp1], by simp [go_sem, f0, hp1], by simp [go_sem, f1, hp1], by simp [go_sem, f2, hp1], by simp [go_sem, f3, hp1], by simp [go_sem, f4, hp1], by simp [go_sem, f5, hp1], by simp [go_sem, f6, hp1], by simp [go_sem, f7, hp1], by simp [go_sem, f8, hp1]⟩
        have HKP : Hid (Kept (fun i => i = w.heap.size + 1) wr ((wr.setCell ⟨w.heap.size + 1, 0, none⟩ (.int .u8 (on N.h 7))).setCell ⟨w.heap.size + 1, 8, none⟩ (.int .u16 xv))) := Lib.hid (by repeat (first | (with_reducible exact Kept.refl _ _) | (with_reducible refine Kept.setCell (S := fun i => i = w.heap.size + 1) ?_ (fun _ => rfl) _)))
        have HA : Hid (AInv w s (N.lay 7 xv) ((wr.setCell ⟨w.heap.size + 1, 0, none⟩ (.int .u8 (on N.h 7))).setCell ⟨w.heap.size + 1, 8, none⟩ (.int .u16 xv))) := Lib.hid ⟨HI.out.s.kept HKP.out (by omega), HK.out, HI.out.b.trans (HKP.out.below (fun i hi _ e => by omega) HI.out.b.size)⟩
        have HSU := Lib.hid hsu
        clear hsu hh HK HKP
        simp at g0
        go_wp2_with fail
        go_region
        all_goals go_wp2_with fail
        all_goals go_region
        all_goals go_wp2_with fail
        all_goals go_roundw
        case rel =>
          refine ⟨k + 1, by omega, by go_num, ?_⟩
          rw [HSU.out]
          exact HA.out.drew.drew
        case measure => simp [intOf]; omega
    · have hkn : T.take k = T := List.take_of_length_le (by have := HL.out; omega)
      rw [hkn] at hinv
      obtain ⟨N, hN⟩ : ∃ N, N = kvN T := ⟨_, rfl⟩
      rw [← hN] at hinv
      have HN := Lib.hid hN
      obtain ⟨c0, c1, c2, c3, c4, c5, c6, c7, c8, f0, f1, f2, f3, f4, f5, f6, f7, f8⟩ := hinv.out.s
      obtain ⟨d0, d1, d2, d3, d4, d5, d6, d7, d8, g0, g1, g2, g3, g4, g5, g6, g7, g8⟩ := hinv.out.n
      have HB := Lib.hid hinv.out.b
      have kk1 : ¬ ((k : Int) < (n : Int)) := by omega
      clear hkn hN hinv HI0 K0
      go_wp2
      go_ret
      exact ⟨by rw [← HN.out]; rfl, HB.out⟩
end Go.Proofs.Ytoidbmgoofbcfaa
