/- memo.Memo's Add: contract. -/
import Derived.Test.YtgpfnlbhclefgaaMm
namespace Go.Proofs.Ytgpfnlbhclefgaa
open Go.RowKit Go.Um
set_option linter.unusedSimpArgs false
set_option linter.unusedVariables false
set_option maxHeartbeats 4000000
set_option maxRecDepth 100000
theorem load_map {w : World} {b a : Nat} {u : Value} (h0 : w.cell? ⟨b, a, none⟩ = some u) {ev : Operand → Value} {x : Operand} (hx : ev x = .pointer (some ⟨b, a, none⟩)) {d : Option Tmp} {ty : TypeId} {ps : String} {af : Array Edge} {g : Option (Nat × Bool)} :
    (execOp ev { dst := d, op := .load 45 x, type := ty, pos := ps, after := af, guard := g }).run Try.prog w = .ok (.value u) w := by
  simp [execOp, hx, go_sem, h0]
theorem load_cfg {w : World} {b : Nat} {u0 u1 : Value} (h0 : w.cell? ⟨b, 0, none⟩ = some u0) (h1 : w.cell? ⟨b, 1, none⟩ = some u1) {ev : Operand → Value} {x : Operand} (hx : ev x = .pointer (some ⟨b, 0, none⟩)) {d : Option Tmp} {ty : TypeId} {ps : String} {af : Array Edge} {g : Option (Nat × Bool)} :
    (execOp ev { dst := d, op := .load 55 x, type := ty, pos := ps, after := af, guard := g }).run Try.prog w = .ok (.value (.agg #[u0, u1])) w := by
  simp [execOp, hx, go_sem, h0, h1]
theorem exec_look {w : World} {b n : Nat} {S wd : ByteArray} (h : (Instr.lookup 45 (.map (some b)) (keyV (S, wd)) false).run Try.prog w = .ok (.int .i64 n) w) {ev : Operand → Value} {x y : Operand} (hx : ev x = .map (some b)) (hy : ev y = .agg #[.string S, .string wd]) {d : Option Tmp} {ty : TypeId} {ps : String} {af : Array Edge} {g : Option (Nat × Bool)} :
    (execOp ev { dst := d, op := .lookup 45 x y false, type := ty, pos := ps, after := af, guard := g }).run Try.prog w = .ok (.value (.int .i64 n)) w := by
  unfold keyV at h
  simp [execOp, hx, hy, h, Result.andThen]
open Classical in
noncomputable def addS (ks : List Cfg) (k : Cfg) (sv : Nat) : Nat := if k ∈ ks then sv + 1 else sv
theorem add_off (p : Nat) (T : Nat) (v : Value) (N : Nat) (wd : ByteArray) (w : World) (h : MmAt w p none [] T 0) (hv : SetAt w v N) :
    Calls Try.prog 17 #[.pointer (some ⟨p, 0, none⟩), v, .string wd] w fun e w' => e = .returned (.bool true) ∧ Below w.heap.size w w' := by
  obtain ⟨m, ao, cap, b0, o0, rfl, hrest⟩ := hv
  have HO := Lib.hid (on_any p none _ (h.below (ba (bz w) (.cells #[.slice ao m cap] 33))).c0)
  clear hrest h
  go_enter Try.func17, Try.ntmps17
  go_wp2_with fail
  refine HO.out.mono ?_
  rintro e wX ⟨rfl, rfl⟩
  go_wp2
  go_ret
  exact ⟨rfl, ba (bz w) _⟩
theorem add_on (p b : Nat) (ks : List Cfg) (T sv : Nat) (v : Value) (N : Nat) (S wd : ByteArray) (w : World) (h : MmAt w p (some b) ks T sv) (hv : SetAt w v N) (hK : keyN N S) (h1 : S.size ≤ maxLen) (h2 : wd.size ≤ maxLen) (hT : T ≤ 1000000) (hsv : sv ≤ 1000000) (B : Bool) (hB : B = true ↔ (S, wd) ∈ ks) :
    Calls Try.prog 17 #[.pointer (some ⟨p, 0, none⟩), v, .string wd] w (MmPost p (some b) (addK ks (S, wd)) (T + 1) (addS ks (S, wd) sv) (.bool (!B)) w) := by
  obtain ⟨m, ao, cap, b0, o0, hvv, hrest⟩ := id hv
  subst hvv
  clear hrest
  have HV := Lib.hid (hv.below (ba (bz w) (.cells #[.slice ao m cap] 33)))
  have HM := Lib.hid (h.below (ba (bz w) (.cells #[.slice ao m cap] 33)))
  have HO := Lib.hid (on_any p (some b) _ HM.out.c0)
  have HKY : Hid (∀ W, SetAt W (.agg #[.slice ao m cap]) N → Calls Try.prog 21 #[.agg #[.slice ao m cap]] W fun e w' => e = .returned (.string S) ∧ Below W.heap.size W w') := Lib.hid (fun W hW => key_is hW hK)
  have hpl := h.lt
  have hbl := (h.m b rfl).1.lt
  have HBF := Lib.hid hB
  clear h hv hK hB
  go_enter Try.func17, Try.ntmps17
  go_wp2_with fail
  refine HO.out.mono ?_
  rintro e wX ⟨rfl, rfl⟩
  go_wp2_with fail
  refine (HKY.out _ HV.out).mono ?_
  rintro e w1 ⟨rfl, hb1⟩
  have HM1 := Lib.hid (HM.out.below hb1)
  have HB1 : Hid (Below w.heap.size w w1) := Lib.hid ((ba (bz w) (.cells #[.slice ao m cap] 33)).trans (hb1.mono (by simp)))
  have hs1 := hb1.size
  clear hb1
  go_wp2_with fail
  obtain ⟨c, hc⟩ : ∃ c, c = w1.heap.size := ⟨_, rfl⟩
  have g0 : (w1.alloc (.cells #[.string S, .string wd] 55)).cell? ⟨p, 0, none⟩ = some (.map (some b)) := (HM1.out.below (ba (bz w1) _)).c0
  have g1 : (w1.alloc (.cells #[.string S, .string wd] 55)).cell? ⟨c, 0, none⟩ = some (.string S) := by rw [hc]; simp [go_sem]
  have g2 : (w1.alloc (.cells #[.string S, .string wd] 55)).cell? ⟨c, 1, none⟩ = some (.string wd) := by rw [hc]; simp [go_sem]
  have HM4 := Lib.hid (HM1.out.below (ba (bz w1) (.cells #[.string S, .string wd] 55)))
  have HB4 : Hid (Below w.heap.size w (w1.alloc (.cells #[.string S, .string wd] 55))) := Lib.hid (ba HB1.out _)
  have hcl : ¬ c = b := by have := hs1; simp at this; omega
  rw [← hc]
  generalize w1.alloc (.cells #[.string S, .string wd] 55) = w4 at *
  clear hc HM1 HB1
  have hpb : ¬ p = b := fun e => (HM4.out.m b rfl).2 e.symm
  have hcb : ¬ c = b := hcl
  obtain ⟨n, hnT, hn0, hlk⟩ := mk_lookup (HM4.out.m b rfl).1 (S, wd) h1 h2
  obtain ⟨v5, s5, w5, hme, k5, hl5, hst⟩ := mk_bump (w := w4.drew) ((HM4.out.m b rfl).1.block rfl) (S, wd) h1 h2 n hn0 (fun W hW => hlk W hW)
  obtain ⟨w6, hes, hm6, k6, hl6⟩ := hst (n + 1) (by omega) (by omega)
  have HST := Lib.hid hn0
  obtain ⟨n1, hn1⟩ : ∃ x, x = n + 1 := ⟨_, rfl⟩
  rw [← hn1] at hes hl6
  have hw1 : IntKind.i64.wrap ((n : Int) + 1) = (n1 : Int) := (IntWalk.i64_in _ (by omega)).trans (by omega)
  have HN1 := Lib.hid hn1
  have hlk4 := hlk w4.drew rfl
  have hlk5 := hl5 w5 rfl
  simp only [keyV] at hme hlk4 hlk5
  clear hlk hl5
  clear hst hn0 hn1
  refine wp_region_held_drew (S := (fun W => W.cell? ⟨p, 0, none⟩ = some (.map (some b)) ∧ W.cell? ⟨c, 0, none⟩ = some (.string S) ∧ W.cell? ⟨c, 1, none⟩ = some (.string wd))) (by kernel_rfl) (by exact ⟨g0, g1, g2⟩) (fun hHeld => ?_)
  refine takeD (i := 0) (v := ?zva0) (some 15) rfl rfl (by kernel_rfl) (by kernel_rfl) (by kernel_rfl) (fun _ _ _ h => h) (Or.inl ⟨by rfl, ?zya0⟩) (by assumption) ?zra0
  case zya0 => (intro w hSw; clear hSw; go_simp; try with_reducible rfl)
  try simp only [Act.put, List.setIfInBounds_toArray, List.set_cons_zero, List.set_cons_succ]
  refine takeD (i := 1) (v := ?zva1) (some 16) rfl rfl (by kernel_rfl) (by kernel_rfl) (by kernel_rfl) (fun _ _ _ h => h) (Or.inl ⟨by rfl, ?zya1⟩) (by assumption) ?zra1
  case zya1 => (intro w hSw; clear hSw; go_simp; try with_reducible rfl)
  try simp only [Act.put, List.setIfInBounds_toArray, List.set_cons_zero, List.set_cons_succ]
  refine takeD (i := 2) (v := ?zva2) (some 17) rfl rfl (by kernel_rfl) (by kernel_rfl) (by kernel_rfl) (fun _ _ _ h => h) (Or.inl ⟨by rfl, ?zya2⟩) (by assumption) ?zra2
  case zya2 => (intro w hSw; clear hSw; go_simp; try with_reducible rfl)
  try simp only [Act.put, List.setIfInBounds_toArray, List.set_cons_zero, List.set_cons_succ]
  refine takeD (i := 3) (v := ?zva3) (some 18) rfl rfl (by kernel_rfl) (by kernel_rfl) (by kernel_rfl) (fun _ _ _ h => h) (Or.inl ⟨by rfl, ?zya3⟩) (by assumption) ?zra3
  case zya3 => (intro w hSw; refine load_map hSw.1 ?_; rfl)
  try simp only [Act.put, List.setIfInBounds_toArray, List.set_cons_zero, List.set_cons_succ]
  refine takeD (i := 4) (v := ?zva4) (some 19) rfl rfl (by kernel_rfl) (by kernel_rfl) (by kernel_rfl) (fun _ _ _ h => h) (Or.inl ⟨by rfl, ?zya4⟩) (by assumption) ?zra4
  case zya4 => (intro w hSw; refine load_cfg hSw.2.1 hSw.2.2 ?_; rfl)
  try simp only [Act.put, List.setIfInBounds_toArray, List.set_cons_zero, List.set_cons_succ]
  refine wpAnyH_ready (rs := [5, 7]) (by kernel_rfl) (by simp) ?_
  refine AllReadyH.cons rfl (fun K hK => ?b5) (AllReadyH.cons rfl (fun K hK => ?b7) AllReadyH.nil)
  case b5 =>
    go_simp
    refine hK.out _ _ (by exact hHeld) (fun hHeld2 => ?_)
    clear hK K
    clear hHeld
    have hHeld := hHeld2
    clear hHeld2
    try simp only [Act.put, List.setIfInBounds_toArray, List.set_cons_zero, List.set_cons_succ]
    refine takeD (i := 6) (v := ?zvb6) (some 21) rfl rfl (by kernel_rfl) (by kernel_rfl) (by kernel_rfl) (fun _ _ _ h => h) (Or.inl ⟨by rfl, ?zyb6⟩) (by assumption) ?zrb6
    case zyb6 => (intro w hSw; clear hSw; go_simp; try with_reducible rfl)
    try simp only [Act.put, List.setIfInBounds_toArray, List.set_cons_zero, List.set_cons_succ]
    refine wpAnyH_ready (rs := [7]) (by kernel_rfl) (by simp) ?_
    refine AllReadyH.cons rfl (fun K hK => ?_) AllReadyH.nil
    go_simp
    refine hK.out _ _ (by exact ⟨k5.cell hHeld.1 hpb, k5.cell hHeld.2.1 hcb, k5.cell hHeld.2.2 hcb⟩) (fun hHeld2 => ?_)
    clear hK K
    clear hHeld
    have hHeld := hHeld2
    clear hHeld2
    try simp only [Act.put, List.setIfInBounds_toArray, List.set_cons_zero, List.set_cons_succ]
    refine takeD (i := 8) (v := ?zvb8) (some 23) rfl rfl (by kernel_rfl) (by kernel_rfl) (by kernel_rfl) (fun _ _ _ h => h) (Or.inl ⟨by rfl, ?zyb8⟩) (by assumption) ?zrb8
    case zyb8 => (intro w hSw; clear hSw; go_simp; try with_reducible rfl)
    try simp only [Act.put, List.setIfInBounds_toArray, List.set_cons_zero, List.set_cons_succ]
    refine wpAnyH_ready (rs := [9]) (by kernel_rfl) (by simp) ?_
    refine AllReadyH.cons rfl (fun K hK => ?_) AllReadyH.nil
    go_simp
    refine hK.out _ _ (by exact ⟨k6.cell g0 hpb, k6.cell g1 hcb, k6.cell g2 hcb⟩) (fun hHeld2 => ?_)
    clear hK K
    clear hHeld
    have hHeld := hHeld2
    clear hHeld2
    try simp only [Act.put, List.setIfInBounds_toArray, List.set_cons_zero, List.set_cons_succ]
    refine wpAnyH_done (by kernel_rfl) ?_ _
    obtain ⟨x0, x1, x2⟩ := hHeld
    have xs := k6.cell (show w4.drew.cell? ⟨p, 1, none⟩ = some (.int .i64 sv) from HM4.out.c1) hpb
    have ys := (k6.frozen (show p < w4.drew.heap.size from HM4.out.lt) hpb).trans (show w4.drew.frozen? ⟨p, 1, none⟩ = false from HM4.out.f1)
    have HM6 := Lib.hid hm6
    have HK6 : Hid (Kept (fun i => i = p ∨ some b = some i) w w6) := Lib.hid (Kept.trans (S := fun i => i = p ∨ some b = some i) ((Kept.of_below HB4.out.drew).mono (fun i hi e => absurd hi (by omega))) k6 (fun i hi e => .inr (by rw [e])))
    have hlk6 := hl6
    simp only [keyV] at hlk6
    have HPB := Lib.hid hpb
    have HTW : Hid (∀ j x, w6.cell? ⟨p, j, none⟩ = some x → j < 2) := Lib.hid (fun j x hj => HM4.out.two j x (by rw [← hj]; exact (World.cell?_of_block (w := w4.drew) (a := ⟨p, j, none⟩) (k6.block p HM4.out.lt hpb)).symm))
    clear hm6 k6 hl6 hme hes hlk4 hlk5 k5 g0 g1 g2 hw1 hpb hcb hcl
    cases B
    · have hn0 : n = 0 := HST.out.2 (fun h => by have := HBF.out.2 h; cases this)
      have hn1 : n1 = 1 := by rw [HN1.out, hn0]
      subst hn1
      go_wp2_with fail
      go_region_held3 (fun W => W.cell? ⟨p, 0, none⟩ = some (.map (some b)) ∧ W.cell? ⟨c, 0, none⟩ = some (.string S) ∧ W.cell? ⟨c, 1, none⟩ = some (.string wd) ∧ W.heap[b]? = w6.heap[b]?) (exact ⟨x0, x1, x2, rfl⟩) (fail)
      go_wp2
      go_ret
      have hks : (S, wd) ∉ ks := fun h => by have := HBF.out.2 h; cases this
      have hsv2 : addS ks (S, wd) sv = sv := by unfold addS; rw [if_neg hks]
      rw [hsv2]
      exact ⟨rfl, ⟨x0, xs, ys, fun b' e => by injection e with e; subst e; exact ⟨HM6.out.block rfl, fun e => HPB.out e.symm⟩, (fun e => by cases e), HTW.out⟩, HK6.out.drewN _⟩
    · have hn0 : n ≠ 0 := fun h => HST.out.1 h (HBF.out.1 rfl)
      have z1 : ((n1 : Int) == 1) = false := by have := HN1.out; simp; omega
      go_wp2_with fail
      go_region_held3 (fun W => W.cell? ⟨p, 0, none⟩ = some (.map (some b)) ∧ W.cell? ⟨c, 0, none⟩ = some (.string S) ∧ W.cell? ⟨c, 1, none⟩ = some (.string wd) ∧ W.heap[b]? = w6.heap[b]?) (exact ⟨x0, x1, x2, rfl⟩) (fail)
      go_wp2
      go_ret
      have hks : (S, wd) ∈ ks := HBF.out.1 (by first | rfl | trivial)
      have hsv2 : addS ks (S, wd) sv = sv + 1 := by unfold addS; rw [if_pos hks]
      rw [hsv2]
      refine ⟨rfl, MmAt.below (w := w6.setCell ⟨p, 1, none⟩ (.int .i64 ((sv : Int) + 1))) ⟨by simp [go_sem, x0], by simp [go_sem, xs], by simp [go_sem, ys], fun b' e => ?_, (fun e => by cases e), two_set HTW.out _⟩ (bz _).drew, (HK6.out.setCell (fun _ => .inl rfl) _).drew⟩
      injection e with e
      subst e
      exact ⟨HM6.out.block (Below.heap_setCell _ _ _ _ (fun e => HPB.out e.symm)), fun e => HPB.out e.symm⟩
  case b7 =>
    go_simp
    refine hK.out _ _ (by exact ⟨k5.cell hHeld.1 hpb, k5.cell hHeld.2.1 hcb, k5.cell hHeld.2.2 hcb⟩) (fun hHeld2 => ?_)
    clear hK K
    clear hHeld
    have hHeld := hHeld2
    clear hHeld2
    try simp only [Act.put, List.setIfInBounds_toArray, List.set_cons_zero, List.set_cons_succ]
    refine takeD (i := 8) (v := ?zvc8) (some 23) rfl rfl (by kernel_rfl) (by kernel_rfl) (by kernel_rfl) (fun _ _ _ h => h) (Or.inl ⟨by rfl, ?zyc8⟩) (by assumption) ?zrc8
    case zyc8 => (intro w hSw; clear hSw; go_simp; try with_reducible rfl)
    try simp only [Act.put, List.setIfInBounds_toArray, List.set_cons_zero, List.set_cons_succ]
    refine wpAnyH_ready (rs := [5]) (by kernel_rfl) (by simp) ?_
    refine AllReadyH.cons rfl (fun K hK => ?_) AllReadyH.nil
    go_simp
    refine hK.out _ _ (by exact hHeld) (fun hHeld2 => ?_)
    clear hK K
    clear hHeld
    have hHeld := hHeld2
    clear hHeld2
    try simp only [Act.put, List.setIfInBounds_toArray, List.set_cons_zero, List.set_cons_succ]
    refine takeD (i := 6) (v := ?zvc6) (some 21) rfl rfl (by kernel_rfl) (by kernel_rfl) (by kernel_rfl) (fun _ _ _ h => h) (Or.inl ⟨by rfl, ?zyc6⟩) (by assumption) ?zrc6
    case zyc6 => (intro w hSw; clear hSw; go_simp; try with_reducible rfl)
    try simp only [Act.put, List.setIfInBounds_toArray, List.set_cons_zero, List.set_cons_succ]
    refine wpAnyH_ready (rs := [9]) (by kernel_rfl) (by simp) ?_
    refine AllReadyH.cons rfl (fun K hK => ?_) AllReadyH.nil
    go_simp
    refine hK.out _ _ (by exact ⟨k6.cell g0 hpb, k6.cell g1 hcb, k6.cell g2 hcb⟩) (fun hHeld2 => ?_)
    clear hK K
    clear hHeld
    have hHeld := hHeld2
    clear hHeld2
    try simp only [Act.put, List.setIfInBounds_toArray, List.set_cons_zero, List.set_cons_succ]
    refine wpAnyH_done (by kernel_rfl) ?_ _
    obtain ⟨x0, x1, x2⟩ := hHeld
    have xs := k6.cell (show w4.drew.cell? ⟨p, 1, none⟩ = some (.int .i64 sv) from HM4.out.c1) hpb
    have ys := (k6.frozen (show p < w4.drew.heap.size from HM4.out.lt) hpb).trans (show w4.drew.frozen? ⟨p, 1, none⟩ = false from HM4.out.f1)
    have HM6 := Lib.hid hm6
    have HK6 : Hid (Kept (fun i => i = p ∨ some b = some i) w w6) := Lib.hid (Kept.trans (S := fun i => i = p ∨ some b = some i) ((Kept.of_below HB4.out.drew).mono (fun i hi e => absurd hi (by omega))) k6 (fun i hi e => .inr (by rw [e])))
    have hlk6 := hl6
    simp only [keyV] at hlk6
    have HPB := Lib.hid hpb
    have HTW : Hid (∀ j x, w6.cell? ⟨p, j, none⟩ = some x → j < 2) := Lib.hid (fun j x hj => HM4.out.two j x (by rw [← hj]; exact (World.cell?_of_block (w := w4.drew) (a := ⟨p, j, none⟩) (k6.block p HM4.out.lt hpb)).symm))
    clear hm6 k6 hl6 hme hes hlk4 hlk5 k5 g0 g1 g2 hw1 hpb hcb hcl
    cases B
    · have hn0 : n = 0 := HST.out.2 (fun h => by have := HBF.out.2 h; cases this)
      have hn1 : n1 = 1 := by rw [HN1.out, hn0]
      subst hn1
      go_wp2_with fail
      go_region_held3 (fun W => W.cell? ⟨p, 0, none⟩ = some (.map (some b)) ∧ W.cell? ⟨c, 0, none⟩ = some (.string S) ∧ W.cell? ⟨c, 1, none⟩ = some (.string wd) ∧ W.heap[b]? = w6.heap[b]?) (exact ⟨x0, x1, x2, rfl⟩) (fail)
      go_wp2
      go_ret
      have hks : (S, wd) ∉ ks := fun h => by have := HBF.out.2 h; cases this
      have hsv2 : addS ks (S, wd) sv = sv := by unfold addS; rw [if_neg hks]
      rw [hsv2]
      exact ⟨rfl, ⟨x0, xs, ys, fun b' e => by injection e with e; subst e; exact ⟨HM6.out.block rfl, fun e => HPB.out e.symm⟩, (fun e => by cases e), HTW.out⟩, HK6.out.drewN _⟩
    · have hn0 : n ≠ 0 := fun h => HST.out.1 h (HBF.out.1 rfl)
      have z1 : ((n1 : Int) == 1) = false := by have := HN1.out; simp; omega
      go_wp2_with fail
      go_region_held3 (fun W => W.cell? ⟨p, 0, none⟩ = some (.map (some b)) ∧ W.cell? ⟨c, 0, none⟩ = some (.string S) ∧ W.cell? ⟨c, 1, none⟩ = some (.string wd) ∧ W.heap[b]? = w6.heap[b]?) (exact ⟨x0, x1, x2, rfl⟩) (fail)
      go_wp2
      go_ret
      have hks : (S, wd) ∈ ks := HBF.out.1 (by first | rfl | trivial)
      have hsv2 : addS ks (S, wd) sv = sv + 1 := by unfold addS; rw [if_pos hks]
      rw [hsv2]
      refine ⟨rfl, MmAt.below (w := w6.setCell ⟨p, 1, none⟩ (.int .i64 ((sv : Int) + 1))) ⟨by simp [go_sem, x0], by simp [go_sem, xs], by simp [go_sem, ys], fun b' e => ?_, (fun e => by cases e), two_set HTW.out _⟩ (bz _).drew, (HK6.out.setCell (fun _ => .inl rfl) _).drew⟩
      injection e with e
      subst e
      exact ⟨HM6.out.block (Below.heap_setCell _ _ _ _ (fun e => HPB.out e.symm)), fun e => HPB.out e.symm⟩
end Go.Proofs.Ytgpfnlbhclefgaa
