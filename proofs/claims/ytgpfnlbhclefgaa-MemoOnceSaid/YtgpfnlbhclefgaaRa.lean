/- The document's memo: Add, Reset; few. -/
import Derived.Test.YtgpfnlbhclefgaaRm
import Derived.Deep.AppendLies
namespace Go.Proofs.Ytgpfnlbhclefgaa
open Go.RowKit Go.Um
set_option linter.unusedSimpArgs false
set_option linter.unusedVariables false
set_option maxHeartbeats 4000000
set_option maxRecDepth 100000
theorem info39 : (Try.prog.info? 39).map (fun i => (i.zero, i.size, i.bytes)) = some (some (.agg #[.string ⟨#[]⟩, .string ⟨#[]⟩]), 2, 32) := by kernel_rfl
def RaPost (q : Nat) (on : Bool) (ks : List Cfg) (vl : Value) (sv : Nat) (r : Value) (w : World) (e : Ending) (w' : World) : Prop :=
  ∃ vl', e = .returned r ∧ RmAt w' q on ks vl' sv ∧ Kept (fun i => i = q ∨ vl.ownBlock = some i) w w' ∧ (∀ g, vl'.ownBlock = some g → vl.ownBlock = some g ∨ w.heap.size ≤ g)
theorem radd_off (q : Nat) (ks : List Cfg) (vl : Value) (sv : Nat) (S wd : ByteArray) (w : World) (h : RmAt w q false ks vl sv) :
    Calls Try.prog 18 #[.pointer (some ⟨q, 0, none⟩), .agg #[.string S, .string wd]] w fun e w' => e = .returned (.bool true) ∧ Below w.heap.size w w' := by
  have c0 := (h.below (ba (bz w) (.cells #[.string S, .string wd] 39))).c0
  have hql := h.lt
  clear h
  go_enter Try.func18, Try.ntmps18
  go_wp2
  go_ret
  exact ⟨rfl, ba (bz w) _⟩
theorem radd_there (q : Nat) (ks : List Cfg) (vl : Value) (sv : Nat) (S wd : ByteArray) (w : World) (h : RmAt w q true ks vl sv) (hlen : ks.length ≤ 100000) (hsv : sv ≤ 1000000) (hm : (S, wd) ∈ ks) :
    Calls Try.prog 18 #[.pointer (some ⟨q, 0, none⟩), .agg #[.string S, .string wd]] w (RaPost q true ks vl (sv + 1) (.bool false) w) := by
  have HM := Lib.hid (h.below (ba (bz w) (.cells #[.string S, .string wd] 39)))
  have c0 := HM.out.c0
  have hql := h.lt
  have HC := Lib.hid (rhasm_any q true ks vl sv S wd _ HM.out hlen true (by simpa using hm))
  have HV : Hid (∀ g, vl.ownBlock = some g → g < w.heap.size ∧ q + 1 ≤ g) := Lib.hid (fun g e => ⟨(h.own.lt g e).2, (h.own.lt g e).1⟩)
  clear h hm
  go_enter Try.func18, Try.ntmps18
  go_wp2_with fail
  refine HC.out.mono ?_
  rintro e w1 ⟨rfl, hb⟩
  have HM1 := Lib.hid (HM.out.below hb)
  have HB1 : Hid (Below w.heap.size w w1) := Lib.hid ((ba (bz w) (.cells #[.string S, .string wd] 39)).trans (hb.mono (by simp)))
  have c2 := HM1.out.c2
  have f2 := HM1.out.f2
  clear hb HC c0
  go_wp2
  go_ret
  refine ⟨vl, rfl, ?_, ((Kept.of_below HB1.out).mono (fun i hi e => absurd hi (by omega))).setCell (fun _ => .inl rfl) _, fun g e => .inl e⟩
  have ho := own_setCell HM1.out.own (a := ⟨q, 2, none⟩) (fun e => by have := (HV.out q e).2; omega) (.int .i64 ((sv : Int) + 1))
  exact ⟨by simp [go_sem, HM1.out.c0], by simp [go_sem, HM1.out.c1], by simp [go_sem, c2], by simp [go_sem, HM1.out.f1], by simp [go_sem, f2], ho⟩
theorem radd_new (q : Nat) (ks : List Cfg) (vl : Value) (sv : Nat) (S wd : ByteArray) (w : World) (h : RmAt w q true ks vl sv) (hlen : ks.length ≤ 100000) (hm : (S, wd) ∉ ks) :
    Calls Try.prog 18 #[.pointer (some ⟨q, 0, none⟩), .agg #[.string S, .string wd]] w (RaPost q true (ks ++ [(S, wd)]) vl sv (.bool true) w) := by
  have HM := Lib.hid (h.below (ba (bz w) (.cells #[.string S, .string wd] 39)))
  have c0 := HM.out.c0
  have hql := h.lt
  obtain ⟨i0, hi, hz0, hz1, hz2⟩ := info_parts info39
  have HC := Lib.hid (rhasm_any q true ks vl sv S wd _ HM.out hlen false (by simpa using hm))
  have HV : Hid (∀ g, vl.ownBlock = some g → g < w.heap.size ∧ q + 1 ≤ g) := Lib.hid (fun g e => ⟨(h.own.lt g e).2, (h.own.lt g e).1⟩)
  clear h hm
  go_enter Try.func18, Try.ntmps18
  go_wp2_with fail
  refine HC.out.mono ?_
  rintro e w1 ⟨rfl, hb⟩
  have HM1 := Lib.hid (HM.out.below hb)
  have HB1 : Hid (Below w.heap.size w w1) := Lib.hid ((ba (bz w) (.cells #[.string S, .string wd] 39)).trans (hb.mono (by simp)))
  have c1 := HM1.out.c1
  have f1 := HM1.out.f1
  have x0 := kc hb w.heap.size 0 (.string S) (by simp [go_sem])
  have x1 := kc hb w.heap.size 1 (.string wd) (by simp [go_sem])
  have hs1 := hb.size
  simp only [World.size_alloc] at hs1
  have hq1 : q < w1.heap.size := by omega
  have hne : some q ≠ vl.ownBlock := fun e => by have := (HV.out q e.symm).2; omega
  obtain ⟨n, hn⟩ : ∃ n, n = ks.length := ⟨_, rfl⟩
  have HO1 : Hid (w1.ownsRow (q + 1) 39 2 vl n (ks.flatMap cfgC)) := Lib.hid (by rw [hn]; exact HM1.out.own)
  have HL := Lib.hid hn
  rw [← hn] at hlen
  clear hb HC c0 hn
  go_wp2_with fail
  go_region_law ((refine step_append_lies _ rfl (.tmp 24) (.tmp 26) 28 rfl (q + 1) 39 i0 (.agg #[.string ⟨#[]⟩, .string ⟨#[]⟩]) 2 32 Try.underlying28 hi hz0 hz1 hz2 rfl (by decide) vl n (ks.flatMap cfgC) (by simp [Act.eval, Act.put]) (HO1.out.alloc _).drew ⟨w1.heap.size, 0, none⟩ 1 1 [.string S, .string wd] (by simp [Act.eval, Act.put]) rfl (new_cells w1 39 _ _ rfl) (by simp [Value.oneCell']) (by decide) (by unfold maxLen; omega) (by omega) (by simp; omega) _ rfl ?_; intro g cap w2 hown2 hgrow2 hat hlt2; have d1 : w2.cell? ⟨q, 1, none⟩ = some vl := hgrow2.cell (a := ⟨q, 1, none⟩) (by simp [go_sem, hq1, c1]) hne; have q1 : w2.frozen? ⟨q, 1, none⟩ = false := (hgrow2.frozen_far ⟨q, 1, none⟩ (by simp; omega) hne).trans (by simp [go_sem, hq1, f1])))
  all_goals go_wp2
  all_goals go_ret
  all_goals
    have hat' : vl.ownBlock = some g ∨ g = w1.heap.size + 1 := by simpa using hat
    have hgq : g ≠ q := by
      rcases hat' with h1 | h1
      · intro e; subst e; exact hne h1.symm
      · omega
    have e0 : w2.cell? ⟨q, 0, none⟩ = some (.bool true) := hgrow2.cell (a := ⟨q, 0, none⟩) (by simp [go_sem, hq1, HM1.out.c0]) hne
    have e2 : w2.cell? ⟨q, 2, none⟩ = some (.int .i64 sv) := hgrow2.cell (a := ⟨q, 2, none⟩) (by simp [go_sem, hq1, HM1.out.c2]) hne
    have q2 : w2.frozen? ⟨q, 2, none⟩ = false := (hgrow2.frozen_far ⟨q, 2, none⟩ (by simp; omega) hne).trans (by simp [go_sem, hq1, HM1.out.f2])
    have ho := own_setCell hown2 (a := ⟨q, 1, none⟩) (by simp [Value.ownBlock]; exact hgq) (.slice (some ⟨g, 0, none⟩) (n + 1) cap)
    have hlen2 : (ks ++ [(S, wd)]).length = n + 1 := by simp [HL.out]
    refine ⟨.slice (some ⟨g, 0, none⟩) (n + 1) cap, rfl, ⟨by simp [go_sem, e0], by simp [go_sem, d1], by simp [go_sem, e2], by simp [go_sem, q1], by simp [go_sem, q2], by rw [hlen2, List.flatMap_append]; simpa [cfgC] using ho⟩, ?_, fun k e => ?_⟩
    · exact (((((Kept.of_below HB1.out).mono (fun i hi e => absurd hi (by omega))).alloc _).drew).grown hgrow2 (fun k e hlt => .inr e)).setCell (fun _ => .inl rfl) _
    · simp only [Value.ownBlock, Option.some.injEq] at e
      subst e
      rcases hat' with h1 | h1
      · exact .inl h1
      · right; omega
theorem radd_any (q : Nat) (ks : List Cfg) (vl : Value) (sv : Nat) (S wd : ByteArray) (w : World) (h : RmAt w q true ks vl sv) (hlen : ks.length ≤ 100000) (hsv : sv ≤ 1000000) (B : Bool) (hB : B = true ↔ (S, wd) ∈ ks) :
    Calls Try.prog 18 #[.pointer (some ⟨q, 0, none⟩), .agg #[.string S, .string wd]] w (RaPost q true (addK ks (S, wd)) vl (addS ks (S, wd) sv) (.bool (!B)) w) := by
  cases B
  · have hm : (S, wd) ∉ ks := fun h => by have := hB.2 h; cases this
    unfold addK addS
    rw [if_neg hm, if_neg hm]
    exact radd_new q ks vl sv S wd w h hlen hm
  · have hm : (S, wd) ∈ ks := hB.1 rfl
    unfold addK addS
    rw [if_pos hm, if_pos hm]
    exact radd_there q ks vl sv S wd w h hlen hsv hm
theorem rreset_any (q : Nat) (on : Bool) (ks : List Cfg) (vl : Value) (sv : Nat) (w : World) (h : RmAt w q on ks vl sv) :
    Calls Try.prog 16 #[.pointer (some ⟨q, 0, none⟩)] w (RaPost q on [] vl 0 (.tuple #[]) w) := by
  obtain ⟨c0, c1, c2, f1, f2, ho⟩ := h
  clear ho
  go_enter Try.func16, Try.ntmps16
  go_wp2
  go_end0
  exact ⟨.slice none 0 0, rfl, ⟨by simp [go_sem, c0], by simp [go_sem, c1], by simp [go_sem, c2], by simp [go_sem, f1], by simp [go_sem, f2], World.ownsRow_nil _ _ _ _⟩, ((Kept.refl _ w).setCell (fun _ => .inl rfl) _).setCell (fun _ => .inl rfl) _, fun g e => by simp [Value.ownBlock] at e⟩
end Go.Proofs.Ytgpfnlbhclefgaa
