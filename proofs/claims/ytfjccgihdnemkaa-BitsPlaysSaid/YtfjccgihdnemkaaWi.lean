/- bits.Set's Within. Printed from Wi.tmpl. -/
import Derived.Test.YtfjccgihdnemkaaIt
namespace Go.Proofs.Ytfjccgihdnemkaa
open Go.RowKit Go.Um Go.Shelf
attribute [local go_sem] Oper.semAt_some
set_option linter.unusedSimpArgs false
set_option linter.unusedVariables false
set_option maxHeartbeats 4000000
set_option maxRecDepth 100000
theorem cell_past_ {a b : World} (h : Below a.heap.size a b) {p : Addr} {v : Value} (hc : a.cell? p = some v) : b.cell? p = some v := by
  rw [h.cell (World.block_lt_of_cell? a p hc)]; exact hc
theorem cell_of_box_l {W : World} {B : Nat} {v : Value} {t : TypeId} (h : W.heap[B]? = some (.cells #[v] t (0, 0))) : W.cell? ⟨B, 0, none⟩ = some v ∧ W.frozen? ⟨B, 0, none⟩ = false := by
  constructor <;> simp [World.cell?, World.frozen?, h]
theorem cell_new_l (W : World) (v : Value) (t : TypeId) : (W.alloc (.cells #[v] t)).cell? ⟨W.heap.size, 0, none⟩ = some v ∧ (W.alloc (.cells #[v] t)).frozen? ⟨W.heap.size, 0, none⟩ = false :=
  cell_of_box_l (World.alloc_heap_new W _)
theorem cell_alloc_l {W : World} {a : Addr} {v : Value} (o : Obj) (h : W.cell? a = some v) : (W.alloc o).cell? a = some v := cell_kept h (World.grownBy_alloc W o none) (fun r e => by cases e)
theorem frozen_alloc_l {W : World} {a : Addr} {v : Value} (o : Obj) (h : W.cell? a = some v) (hf : W.frozen? a = false) : (W.alloc o).frozen? a = false := (frozen_kept h (World.grownBy_alloc W o none) (fun r e => by cases e)).trans hf
/-- what lay below the heap's size lies as it lay -/
theorem keeps_of_below {W W' : World} (h : Below W.heap.size W W') : KeepsOthers W W' := ⟨h.size, fun k o hk _ => by
  have hlt := (Array.getElem?_eq_some_iff.1 hk).1
  exact (h.block k hlt).trans hk⟩
theorem mem_upto {N t n : Nat} (h : n < t) (hb : N.testBit n = true) : n ∈ upto N t := by
  unfold upto
  exact List.mem_filter.2 ⟨List.mem_range.2 h, hb⟩
/-- is a set within another one? -/
theorem within_any {v v' : Value} {N M : Nat} {w : World} (h : SetAt w v N) (h' : SetAt w v' M) (B : Bool) (hB : B = true ↔ ∀ n, N.testBit n = true → M.testBit n = true) :
    Calls Try.prog 24 #[v, v'] w fun e w' => e = .returned (.bool B) ∧ Below w.heap.size w w' := by
  obtain ⟨m, ao, cap, b, o, rfl, hs, hneed, hm⟩ := id h
  obtain ⟨m', ao', cap', b', o', rfl, -, -, -⟩ := id h'
  have HS := Lib.hid hs
  have HN := Lib.hid hneed
  have HBB := Lib.hid hB
  have HV := Lib.hid h'
  have h1 : 1 ≤ 3 := by omega
  have hbw : 0 < m → b < w.heap.size := fun h0 => hs.lt (by rw [u64s_len, words_len]; exact h0)
  have HBW := Lib.hid hbw
  clear h h' hs hneed hB hbw
  refine (callsIn_wide (n := 4)).1 ?_
  refine callsIn_of_wp_marks Try.func24 rfl trivial ?_ rfl
  simp only [Try.ntmps24, List.size_toArray, List.length_cons, List.length_nil, Nat.reduceAdd, Nat.reduceSub, Array.replicate_succ, Array.replicate_zero, List.push_toArray, List.append_toArray, List.nil_append, List.cons_append]
  gi_wp2_with (refine ⟨trivial, ?_⟩; gi_at_call 12; refine (all_in Fence.wide _ trivial rfl _ _ _ _).mono ?_; rintro e w' ⟨rfl, rfl⟩)
  have c1 := cell_new_l (w.alloc (.cells #[.slice ao m cap] 27)) (.slice ao' m' cap') 27
  have c2 := cell_new_l ((w.alloc (.cells #[.slice ao m cap] 27)).alloc (.cells #[.slice ao' m' cap'] 27)) (.bool false) 4
  have c3 := cell_new_l (((w.alloc (.cells #[.slice ao m cap] 27)).alloc (.cells #[.slice ao' m' cap'] 27)).alloc (.cells #[.bool false] 4)) (.slice ao m cap) 27
  simp only [World.size_alloc] at c1 c2 c3
  have hB0 : Below w.heap.size w ((((w.alloc (.cells #[.slice ao m cap] 27)).alloc (.cells #[.slice ao' m' cap'] 27)).alloc (.cells #[.bool false] 4)).alloc (.cells #[.slice ao m cap] 27)) := (((((Below.refl _ w).alloc (Nat.le_refl _) _).alloc (by simp) _).alloc (by simp; omega) _).alloc (by simp; omega) _)
  refine wpIn_rangeFunc_ownF rfl (by omega) (gf := 31) (lb := #[.pointer (some ⟨w.heap.size + 1 + 1 + 1, 0, none⟩)]) rfl trivial (enters_of Try.func31 (by kernel_rfl) rfl)
    (all_stops Fence.wide _ trivial rfl (by omega) (w.heap.size + 1 + 1 + 1) w.heap.size N m ao cap b o _ (by simp) (by simp; omega) HBW.out HN.out hm c3.1 (HS.out.below hB0)) belowK_t (belowK_b (by simp; omega)) (Below.refl _ _) (fun _ => rfl)
    (fun pre W => ((∀ y ∈ pre, M.testBit y.1 = true) ∧ W.cell? ⟨w.heap.size + 1, 0, none⟩ = some (.slice ao' m' cap') ∧ W.cell? ⟨w.heap.size + 1 + 1, 0, none⟩ = some (.bool false) ∧ W.frozen? ⟨w.heap.size + 1 + 1, 0, none⟩ = false) ∧ Below w.heap.size w W)
    (fun c pre W => (c = .ret ∧ (∃ y ∈ pre, M.testBit y.1 = false) ∧ W.cell? ⟨w.heap.size + 1 + 1, 0, none⟩ = some (.bool false)) ∧ Below w.heap.size w W)
    (OwnFrom.and (Own.from (fun s A B row hs hg hr => ⟨hs.1, cell_kept hs.2.1 hg hr, cell_kept hs.2.2.1 hg hr, (frozen_kept hs.2.2.1 hg hr).trans hs.2.2.2⟩) _) (ownFrom_below (Nat.le_refl _) (by simp; omega)))
    (fun c => OwnFrom.and (Own.from (fun s A B row hs hg hr => ⟨hs.1, hs.2.1, cell_kept hs.2.2 hg hr⟩) _) (ownFrom_below (Nat.le_refl _) (by simp; omega)))
    ⟨⟨by simp, cell_alloc_l _ (cell_alloc_l _ c1.1), cell_alloc_l _ c2.1, frozen_alloc_l _ c2.1 c2.2⟩, hB0⟩
    (fun x => { tmps := #[.agg #[.slice ao m cap], .agg #[.slice ao' m' cap'], .pointer (some ⟨w.heap.size, 0, none⟩), .pointer (some ⟨w.heap.size + 1, 0, none⟩), .pointer (some ⟨w.heap.size + 1 + 1, 0, none⟩), .int .i64 (x.1 : Int), .agg #[.slice ao m cap], .func (.func 31) #[] #[.pointer (some ⟨w.heap.size + 1 + 1 + 1, 0, none⟩)], .int .i64 (x.1 : Int), undef, undef, undef, undef], defers := [] }) ?assign ?body ?done ?stop
  case assign =>
    intro l x W K hK
    gi_wp2
    exact hK
  case body =>
    rintro l pre x W ⟨⟨hp, hcw, hcr, hfr⟩, hB⟩ _
    obtain ⟨n, hn⟩ := x
    have hn2 : n ≤ 65535 := by
      by_cases h : n ≤ 65535
      · exact h
      · have := testBit_ge HN.out.lt (n := n) (by omega)
        rw [hn] at this
        cases this
    have hgt : w.heap.size ≤ W.heap.size := hB.size
    cases hT : M.testBit n
    · have HH : Hid (CallsIn (Fence.wide.inRound l) (4 - 1 - 1 - 1) Try.prog 13 #[.agg #[.slice ao' m' cap'], .int .i64 (n : Int)] W fun e w' => e = .returned (.bool false) ∧ Below W.heap.size W w') :=
        Lib.hid (by have := CallsIn.inRound l (callsIn_wide.2 (has_in _ M n W (HV.out.below hB) hn2) : CallsIn Fence.wide (4 - 1 - 1 - 1) _ _ _ _ _); rwa [hT] at this)
      gi_wp2_with (refine ⟨trivial, ?_⟩; gi_at_call 13; refine HH.out.mono ?_; rintro e w' ⟨rfl, hbh⟩; replace hfr := (hbh.frozen (World.block_lt_of_cell? _ _ hcr)).trans hfr; replace hcr := cell_past_ hbh hcr)
      exact ⟨(keeps_of_below hbh).trans (KeepsOthers.setCell _ _ _), ⟨rfl, ⟨⟨n, hn⟩, List.mem_append.2 (.inr (by simp)), hT⟩, World.cell?_setCell_same' _ _ _ (by rw [hcr]; rfl)⟩, (hB.trans (hbh.mono hgt)).setCell (p := ⟨w.heap.size + 1 + 1, 0, none⟩) (by simp; omega) _⟩
    · have HH : Hid (CallsIn (Fence.wide.inRound l) (4 - 1 - 1 - 1) Try.prog 13 #[.agg #[.slice ao' m' cap'], .int .i64 (n : Int)] W fun e w' => e = .returned (.bool true) ∧ Below W.heap.size W w') :=
        Lib.hid (by have := CallsIn.inRound l (callsIn_wide.2 (has_in _ M n W (HV.out.below hB) hn2) : CallsIn Fence.wide (4 - 1 - 1 - 1) _ _ _ _ _); rwa [hT] at this)
      gi_wp2_with (refine ⟨trivial, ?_⟩; gi_at_call 13; refine HH.out.mono ?_; rintro e w' ⟨rfl, hbh⟩)
      exact ⟨keeps_of_below hbh, hbh.mono hgt, ⟨fun y hy => (List.mem_append.1 hy).elim (hp y) (fun e => by simp at e; subst e; exact hT), cell_past_ hbh hcw, cell_past_ hbh hcr, (hbh.frozen (World.block_lt_of_cell? _ _ hcr)).trans hfr⟩, hB.trans (hbh.mono hgt)⟩
  case done =>
    rintro D ys W hD hys ⟨⟨hne, _, hcr, hfr⟩, hB⟩ hK
    have hBt : B = true := HBB.out.2 fun n hn => by
      have hlt : n < 64 * m := by
        by_cases h : n < 64 * m
        · exact h
        · have := testBit_ge HN.out.lt (n := n) (by omega)
          rw [hn] at this
          cases this
      have hin : n ∈ vals N ys := by rw [hys]; exact mem_upto hlt hn
      obtain ⟨y, hy, e⟩ := List.mem_map.1 hin
      rw [← e]
      exact hne y hy
    subst hBt
    gi_wp2
    have hK' := (KeepsOthers.setCell W ⟨w.heap.size + 1 + 1, 0, none⟩ (.bool true)).same D _ hK rfl
    refine ⟨by simp, .inl ⟨_, _, rfl, run_takeDeferred hK', ?_⟩⟩
    have hc5 := cell_kept (World.cell?_setCell_same' W ⟨w.heap.size + 1 + 1, 0, none⟩ (.bool true) (by rw [hcr]; rfl)) (grownBy_putObj' _ D (.deferred none)) (fun r e => by cases e; exact ⟨_, hK', rfl⟩)
    refine ⟨.bool true, ?_, rfl, (hB.setCell (p := ⟨w.heap.size + 1 + 1, 0, none⟩) (by simp; omega) _).trans (belowK_b (w := w) (Nat.le_refl _) _ D _ _ (by simp at hD; omega) hK' rfl rfl)⟩
    simp [results, Try.f24, go_sem, hc5]
  case stop =>
    rintro D c pre W hD hpre ⟨⟨rfl, ⟨y, hy, hy2⟩, hcr⟩, hB⟩ hK
    have hBf : B = false := by
      cases B
      · rfl
      · have := HBB.out.1 rfl y.1 y.2
        rw [hy2] at this
        cases this
    subst hBf
    gi_wp2
    refine ⟨by simp, .inl ⟨_, _, rfl, run_takeDeferred hK, ?_⟩⟩
    have hc5 := cell_kept hcr (grownBy_putObj' _ D (.deferred none)) (fun r e => by cases e; exact ⟨_, hK, rfl⟩)
    refine ⟨.bool false, ?_, rfl, hB.trans (belowK_b (w := w) (Nat.le_refl _) W D _ _ (by simp at hD; omega) hK rfl rfl)⟩
    simp [results, Try.f24, go_sem, hc5]
end Go.Proofs.Ytfjccgihdnemkaa
