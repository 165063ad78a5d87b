/- bits.Set's Count and Least. Printed from Cn.tmpl. -/
import Derived.Test.YtfjccgihdnemkaaWi
namespace Go.Proofs.Ytfjccgihdnemkaa
open Go.RowKit Go.Um Go.Shelf
attribute [local go_sem] Oper.semAt_some
set_option linter.unusedSimpArgs false
set_option linter.unusedVariables false
set_option maxHeartbeats 4000000
set_option maxRecDepth 100000
theorem vals_len (N : Nat) (pre : List (Mem N)) : (vals N pre).length = pre.length := by simp [vals]
/-- the numbers of a set, rising -/
def allN (N : Nat) : List Nat := upto N 65536
theorem allN_eq {N m : Nat} (h : Needs 64 m N) (hm : m ≤ 1024) : upto N (64 * m) = allN N := by
  have := upto_more (N := N) (t := 64 * m) (fun n hn => testBit_ge h.lt (by omega)) (65536 - 64 * m)
  rw [show 64 * m + (65536 - 64 * m) = 65536 by omega] at this
  exact this.symm
/-- how many numbers a set has -/
theorem count_any {v : Value} {N : Nat} {w : World} (h : SetAt w v N) :
    Calls Try.prog 15 #[v] w fun e w' => e = .returned (.int .i64 (allN N).length) ∧ Below w.heap.size w w' := by
  obtain ⟨m, ao, cap, b, o, rfl, hs, hneed, hm⟩ := h
  rw [← allN_eq hneed hm]
  have HS := Lib.hid hs
  have HN := Lib.hid hneed
  have hbw : 0 < m → b < w.heap.size := fun h0 => hs.lt (by rw [u64s_len, words_len]; exact h0)
  have HBW := Lib.hid hbw
  clear hs hneed hbw
  obtain ⟨C, hC⟩ : ∃ C, C = (upto N (64 * m)).length := ⟨_, rfl⟩
  rw [← hC]
  have HC := Lib.hid hC
  clear hC
  refine (callsIn_wide (n := 4)).1 ?_
  refine callsIn_of_wp_marks Try.func15 rfl trivial ?_ rfl
  simp only [Try.ntmps15, List.size_toArray, List.length_cons, List.length_nil, Nat.reduceAdd, Nat.reduceSub, Array.replicate_succ, Array.replicate_zero, List.push_toArray, List.append_toArray, List.nil_append, List.cons_append]
  gi_wp2_with (refine ⟨trivial, ?_⟩; gi_at_call 12; refine (all_in Fence.wide _ trivial rfl _ _ _ _).mono ?_; rintro e w' ⟨rfl, rfl⟩)
  have c2 := cell_new_l (w.alloc (.cells #[.slice ao m cap] 27)) (.int .i64 0) 3
  have c3 := cell_new_l ((w.alloc (.cells #[.slice ao m cap] 27)).alloc (.cells #[.int .i64 0] 3)) (.slice ao m cap) 27
  simp only [World.size_alloc] at c2 c3
  have hB0 : Below w.heap.size w (((w.alloc (.cells #[.slice ao m cap] 27)).alloc (.cells #[.int .i64 0] 3)).alloc (.cells #[.slice ao m cap] 27)) := ((((Below.refl _ w).alloc (Nat.le_refl _) _).alloc (by simp) _).alloc (by simp; omega) _)
  refine wpIn_rangeFunc_ownF rfl (by omega) (gf := 31) (lb := #[.pointer (some ⟨w.heap.size + 1 + 1, 0, none⟩)]) rfl trivial (enters_of Try.func31 (by kernel_rfl) rfl)
    (all_stops Fence.wide _ trivial rfl (by omega) (w.heap.size + 1 + 1) w.heap.size N m ao cap b o _ (by simp) (by simp; omega) HBW.out HN.out hm c3.1 (HS.out.below hB0)) belowK_t (belowK_b (by simp; omega)) (Below.refl _ _) (fun _ => rfl)
    (fun pre W => (W.cell? ⟨w.heap.size + 1, 0, none⟩ = some (.int .i64 (pre.length : Int)) ∧ W.frozen? ⟨w.heap.size + 1, 0, none⟩ = false) ∧ Below w.heap.size w W)
    (fun _ _ _ => False)
    (OwnFrom.and (Own.from (fun s A B row hs hg hr => ⟨cell_kept hs.1 hg hr, (frozen_kept hs.1 hg hr).trans hs.2⟩) _) (ownFrom_below (Nat.le_refl _) (by simp; omega)))
    (fun _ _ _ _ _ hs _ _ => hs)
    ⟨⟨cell_alloc_l _ c2.1, frozen_alloc_l _ c2.1 c2.2⟩, hB0⟩
    (fun x => { tmps := #[.agg #[.slice ao m cap], .pointer (some ⟨w.heap.size, 0, none⟩), .int .i64 0, .pointer (some ⟨w.heap.size + 1, 0, none⟩), .agg #[.slice ao m cap], .func (.func 31) #[] #[.pointer (some ⟨w.heap.size + 1 + 1, 0, none⟩)], .int .i64 (x.1 : Int), undef, undef, undef], defers := [] }) ?assign ?body ?done ?stop
  case assign =>
    intro l x W K hK
    gi_wp2
    simpa using hK
  case body =>
    rintro l pre x W ⟨⟨hc, hf⟩, hB⟩ hlen
    gi_wp2
    exact ⟨KeepsOthers.setCell _ _ _, (Below.refl w.heap.size W).setCell (p := ⟨w.heap.size + 1, 0, none⟩) (by simp) _, ⟨by rw [List.length_append]; simpa using World.cell?_setCell_same' _ _ _ (by rw [hc]; rfl), by rw [World.frozen?_setCell]; exact hf⟩, hB.setCell (p := ⟨w.heap.size + 1, 0, none⟩) (by simp) _⟩
  case done =>
    rintro D ys W hD hys ⟨⟨hc, _⟩, hB⟩ hK
    have hl : ys.length = C := by rw [HC.out, ← hys, vals_len]
    rw [hl] at hc
    gi_wp2
    refine ⟨by simp, .inl ⟨_, _, rfl, run_takeDeferred hK, ?_⟩⟩
    exact ⟨_, results_tmp rfl _ _ _, rfl, hB.trans (belowK_b (w := w) (Nat.le_refl _) W D _ _ (by simp at hD; omega) hK rfl rfl)⟩
  case stop =>
    rintro D c pre W _ _ h _
    exact h.elim
theorem upto_prefix (N t : Nat) : ∀ k, ∃ r, upto N (t + k) = upto N t ++ r
  | 0 => ⟨[], by simp⟩
  | k + 1 => by
    obtain ⟨r, hr⟩ := upto_prefix N t k
    exact ⟨r ++ (if N.testBit (t + k) then [t + k] else []), by rw [show t + (k + 1) = (t + k) + 1 by omega, upto_succ, hr, List.append_assoc]⟩
theorem upto_head {N t T : Nat} (h : t ≤ T) {a : Nat} {r : List Nat} (e : upto N t = a :: r) : ∃ r', upto N T = a :: r' := by
  obtain ⟨q, hq⟩ := upto_prefix N t (T - t)
  rw [show t + (T - t) = T by omega, e] at hq
  exact ⟨_, hq⟩
def leastN : List Nat → Int
  | [] => -1
  | a :: _ => (a : Int)
theorem least_of {N t : Nat} {a : Nat} {r : List Nat} (h : ∀ n, 65536 ≤ n → N.testBit n = false) (e : upto N t = a :: r) : leastN (allN N) = (a : Int) := by
  unfold allN
  by_cases ht : t ≤ 65536
  · obtain ⟨r', e'⟩ := upto_head ht e
    rw [e']; rfl
  · have := upto_more (N := N) (t := 65536) h (t - 65536)
    rw [show 65536 + (t - 65536) = t by omega, e] at this
    rw [← this]; rfl
/-- the least number of a set -/
theorem least_any {v : Value} {N : Nat} {w : World} (h : SetAt w v N) :
    Calls Try.prog 29 #[v] w fun e w' => e = .returned (.int .i64 (leastN (allN N))) ∧ Below w.heap.size w w' := by
  obtain ⟨m, ao, cap, b, o, rfl, hs, hneed, hm⟩ := h
  have HS := Lib.hid hs
  have HN := Lib.hid hneed
  have hbw : 0 < m → b < w.heap.size := fun h0 => hs.lt (by rw [u64s_len, words_len]; exact h0)
  have HBW := Lib.hid hbw
  have HLt : Hid (∀ n, 65536 ≤ n → N.testBit n = false) := Lib.hid (fun n hn => testBit_ge hneed.lt (by omega))
  have HAll := Lib.hid (allN_eq hneed hm)
  clear hs hneed hbw
  obtain ⟨C, hC⟩ : ∃ C, C = leastN (allN N) := ⟨_, rfl⟩
  rw [← hC]
  have HC := Lib.hid hC
  clear hC
  refine (callsIn_wide (n := 4)).1 ?_
  refine callsIn_of_wp_marks Try.func29 rfl trivial ?_ rfl
  simp only [Try.ntmps29, List.size_toArray, List.length_cons, List.length_nil, Nat.reduceAdd, Nat.reduceSub, Array.replicate_succ, Array.replicate_zero, List.push_toArray, List.append_toArray, List.nil_append, List.cons_append]
  gi_wp2_with (refine ⟨trivial, ?_⟩; gi_at_call 12; refine (all_in Fence.wide _ trivial rfl _ _ _ _).mono ?_; rintro e w' ⟨rfl, rfl⟩)
  have c2 := cell_new_l (w.alloc (.cells #[.slice ao m cap] 27)) (.int .i64 0) 3
  have c3 := cell_new_l ((w.alloc (.cells #[.slice ao m cap] 27)).alloc (.cells #[.int .i64 0] 3)) (.slice ao m cap) 27
  simp only [World.size_alloc] at c2 c3
  have hB0 : Below w.heap.size w (((w.alloc (.cells #[.slice ao m cap] 27)).alloc (.cells #[.int .i64 0] 3)).alloc (.cells #[.slice ao m cap] 27)) := ((((Below.refl _ w).alloc (Nat.le_refl _) _).alloc (by simp) _).alloc (by simp; omega) _)
  refine wpIn_rangeFunc_ownF rfl (by omega) (gf := 31) (lb := #[.pointer (some ⟨w.heap.size + 1 + 1, 0, none⟩)]) rfl trivial (enters_of Try.func31 (by kernel_rfl) rfl)
    (all_stops Fence.wide _ trivial rfl (by omega) (w.heap.size + 1 + 1) w.heap.size N m ao cap b o _ (by simp) (by simp; omega) HBW.out HN.out hm c3.1 (HS.out.below hB0)) belowK_t (belowK_b (by simp; omega)) (Below.refl _ _) (fun _ => rfl)
    (fun pre W => (pre = [] ∧ W.cell? ⟨w.heap.size + 1, 0, none⟩ = some (.int .i64 0) ∧ W.frozen? ⟨w.heap.size + 1, 0, none⟩ = false) ∧ Below w.heap.size w W)
    (fun c pre W => (c = .ret ∧ ∃ x : Mem N, pre = [x] ∧ W.cell? ⟨w.heap.size + 1, 0, none⟩ = some (.int .i64 (x.1 : Int))) ∧ Below w.heap.size w W)
    (OwnFrom.and (Own.from (fun s A B row hs hg hr => ⟨hs.1, cell_kept hs.2.1 hg hr, (frozen_kept hs.2.1 hg hr).trans hs.2.2⟩) _) (ownFrom_below (Nat.le_refl _) (by simp; omega)))
    (fun c => OwnFrom.and (Own.from (fun s A B row hs hg hr => by obtain ⟨h1, x, h2, h3⟩ := hs; exact ⟨h1, x, h2, cell_kept h3 hg hr⟩) _) (ownFrom_below (Nat.le_refl _) (by simp; omega)))
    ⟨⟨rfl, cell_alloc_l _ c2.1, frozen_alloc_l _ c2.1 c2.2⟩, hB0⟩
    (fun x => { tmps := #[.agg #[.slice ao m cap], .pointer (some ⟨w.heap.size, 0, none⟩), .pointer (some ⟨w.heap.size + 1, 0, none⟩), .int .i64 (x.1 : Int), .agg #[.slice ao m cap], .func (.func 31) #[] #[.pointer (some ⟨w.heap.size + 1 + 1, 0, none⟩)], .int .i64 (x.1 : Int), undef], defers := [] }) ?assign ?body ?done ?stop
  case assign =>
    intro l x W K hK
    gi_wp2
    exact hK
  case body =>
    rintro l pre x W ⟨⟨rfl, hc, hf⟩, hB⟩ hlen
    gi_wp2
    exact ⟨KeepsOthers.setCell _ _ _, ⟨rfl, x, rfl, World.cell?_setCell_same' _ _ _ (by rw [hc]; rfl)⟩, hB.setCell (p := ⟨w.heap.size + 1, 0, none⟩) (by simp) _⟩
  case done =>
    rintro D ys W hD hys ⟨⟨rfl, hc, hf⟩, hB⟩ hK
    have hl : C = -1 := by rw [HC.out, ← HAll.out, ← hys]; rfl
    subst hl
    gi_wp2
    have hK' := (KeepsOthers.setCell W ⟨w.heap.size + 1, 0, none⟩ (.int .i64 (-1))).same D _ hK rfl
    refine ⟨by simp, .inl ⟨_, _, rfl, run_takeDeferred hK', ?_⟩⟩
    have hc5 := cell_kept (World.cell?_setCell_same' W ⟨w.heap.size + 1, 0, none⟩ (.int .i64 (-1)) (by rw [hc]; rfl)) (grownBy_putObj' _ D (.deferred none)) (fun r e => by cases e; exact ⟨_, hK', rfl⟩)
    refine ⟨.int .i64 (-1), ?_, rfl, (hB.setCell (p := ⟨w.heap.size + 1, 0, none⟩) (by simp) _).trans (belowK_b (w := w) (Nat.le_refl _) _ D _ _ (by simp at hD; omega) hK' rfl rfl)⟩
    simp [results, Try.f29, go_sem, hc5]
  case stop =>
    rintro D c pre W hD hpre ⟨⟨rfl, x, rfl, hcr⟩, hB⟩ hK
    have hl : C = (x.1 : Int) := by
      obtain ⟨t, ht⟩ := hpre
      rw [HC.out]
      exact least_of HLt.out (show upto N t = x.1 :: [] from ht.symm)
    subst hl
    gi_wp2
    refine ⟨by simp, .inl ⟨_, _, rfl, run_takeDeferred hK, ?_⟩⟩
    have hc5 := cell_kept hcr (grownBy_putObj' _ D (.deferred none)) (fun r e => by cases e; exact ⟨_, hK, rfl⟩)
    refine ⟨.int .i64 (x.1 : Int), ?_, rfl, hB.trans (belowK_b (w := w) (Nat.le_refl _) W D _ _ (by simp at hD; omega) hK rfl rfl)⟩
    simp [results, Try.f29, go_sem, hc5]
end Go.Proofs.Ytfjccgihdnemkaa
