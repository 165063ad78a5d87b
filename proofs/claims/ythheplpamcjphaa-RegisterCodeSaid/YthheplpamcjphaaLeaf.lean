/- Contracts of the register's small functions: what a step of the program, and of the document, answers. -/
import Derived.Test.YthheplpamcjphaaProg
import Derived.Test.YthheplpamcjphaaGen
import Derived.Deep.RegionHeld3
import Derived.KernelRfl
namespace Go.Proofs.Ythheplpamcjphaa
open Go.RowKit Go.Um
set_option maxHeartbeats 800000

theorem is_any (k v : Int) (w : World) : Calls Try.prog 12 #[.int .u8 k, .int .u16 v] w fun e w' => e = .returned (.agg #[.int .u8 k, .int .u16 v]) ∧ Below w.heap.size w w' := by
  go_enter Try.func12, Try.ntmps12
  go_wp2
  exact bodyPost_ret (v := .agg #[.int .u8 k, .int .u16 v]) (by simp [results, Try.results12, go_sem]) rfl ⟨rfl, (Below.refl _ _).alloc (Nat.le_refl _) _⟩

theorem op_any (f a b : Int) (w : World) : Calls Try.prog 16 #[.int .u8 f, .int .u16 a, .int .u16 b] w fun e w' => e = .returned (.agg #[.int .u8 f, .int .u8 0, .int .u8 0, .int .u16 a, .int .u16 b]) ∧ Below w.heap.size w w' := by
  go_enter Try.func16, Try.ntmps16
  go_wp2
  exact bodyPost_ret (v := .agg #[.int .u8 f, .int .u8 0, .int .u8 0, .int .u16 a, .int .u16 b]) (by simp [results, Try.results16, go_sem]) rfl ⟨rfl, (Below.refl _ _).alloc (Nat.le_refl _) _⟩

theorem new_any (w : World) : Calls Try.prog 20 #[] w fun e w' => e = .returned (.int .u16 0) ∧ w = w' := by
  go_enter Try.func20, Try.ntmps20
  go_wp2
  go_ret
  exact ⟨rfl, rfl⟩

theorem idle_any (f : Int) (w : World) : Calls Try.prog 15 #[.int .u8 f] w fun e w' => e = .returned (.bool (f == 1)) ∧ w = w' := by
  go_enter Try.func15, Try.ntmps15
  go_wp2
  go_ret
  exact ⟨rfl, rfl⟩

/-- what a step does: the state, the answer's K and V, the error -/
def stp (s f a b : Int) : Int × Int × Int × Int :=
  if f = 1 then (s, 1, s, 0) else if f = 2 then (a, 0, 0, 0) else if f = 3 then (if s = a then (b, 3, 0, 0) else (s, 4, 0, 0)) else (s, 0, 0, 10)

theorem ref_any (s f o k a b : Int) (w : World) : Calls Try.prog 14 #[.int .u16 s, .agg #[.int .u8 f, .int .u8 o, .int .u8 k, .int .u16 a, .int .u16 b]] w fun e w' =>
    e = .returned (.tuple #[.int .u16 (stp s f a b).1, .agg #[.int .u8 (stp s f a b).2.1, .int .u16 (stp s f a b).2.2.1], .int .i64 (stp s f a b).2.2.2]) ∧ Below w.heap.size w w' := by
  go_enter Try.func14, Try.ntmps14
  go_wp2
  all_goals (refine bodyPost_ret (by simp [results, Try.results14, go_sem] <;> rfl) rfl ⟨?_, ?_⟩)
  all_goals first | exact ((Below.refl _ _).alloc (Nat.le_refl _) _).alloc (by simp) _ | (simp_all [stp]; done)

def ents : Array MapEntry := #[{ key := .int .u8 1, val := .func (.func 27) #[] #[], born := 0 }, { key := .int .u8 2, val := .func (.func 28) #[] #[], born := 1 }, { key := .int .u8 3, val := .func (.func 29) #[] #[], born := 2 }]

theorem steps_any (w : World) : Calls Try.prog 21 #[] w fun e w' => e = .returned (.map (some w.heap.size)) ∧ w' = w.alloc (.map ents 3) := by
  have hmm := @run_makeMap Try.prog
  have h1 := run_mapUpdate_new (P := Try.prog) (t := 57) Try.underlying57 Try.underlying5 #[] 0 1 (.func (.func 27) #[] #[]) rfl
  have h2 := run_mapUpdate_new (P := Try.prog) (t := 57) Try.underlying57 Try.underlying5 #[{ key := .int .u8 1, val := .func (.func 27) #[] #[], born := 0 }] 1 2 (.func (.func 28) #[] #[]) (by simp [Instr.findNow, Instr.sameNow])
  have h3 := run_mapUpdate_new (P := Try.prog) (t := 57) Try.underlying57 Try.underlying5 #[{ key := .int .u8 1, val := .func (.func 27) #[] #[], born := 0 }, { key := .int .u8 2, val := .func (.func 28) #[] #[], born := 1 }] 2 3 (.func (.func 29) #[] #[]) (by simp [Instr.findNow, Instr.sameNow])
  simp only [List.push_toArray, List.nil_append, List.cons_append, Nat.zero_add, Nat.reduceAdd] at h1 h2 h3
  go_enter Try.func21, Try.ntmps21
  go_wp2
  go_ret
  exact ⟨rfl, rfl⟩

theorem step1_any (s f o k a b : Int) (w : World) : Calls Try.prog 27 #[.int .u16 s, .agg #[.int .u8 f, .int .u8 o, .int .u8 k, .int .u16 a, .int .u16 b]] w fun e w' =>
    e = .returned (.tuple #[.int .u16 s, .agg #[.int .u8 1, .int .u16 s]]) ∧ Below w.heap.size w w' := by
  go_enter Try.func27, Try.ntmps27
  go_wp2
  refine bodyPost_ret (by simp [results, Try.results27, go_sem] <;> rfl) rfl ⟨rfl, ?_⟩
  exact ((Below.refl _ _).alloc (Nat.le_refl _) _).alloc (by simp) _

theorem step2_any (s f o k a b : Int) (w : World) : Calls Try.prog 28 #[.int .u16 s, .agg #[.int .u8 f, .int .u8 o, .int .u8 k, .int .u16 a, .int .u16 b]] w fun e w' =>
    e = .returned (.tuple #[.int .u16 a, .agg #[.int .u8 0, .int .u16 0]]) ∧ Below w.heap.size w w' := by
  go_enter Try.func28, Try.ntmps28
  go_wp2
  refine bodyPost_ret (by simp [results, Try.results28, go_sem] <;> rfl) rfl ⟨rfl, ?_⟩
  exact ((Below.refl _ _).alloc (Nat.le_refl _) _).alloc (by simp) _

theorem step3_any (s f o k a b : Int) (w : World) : Calls Try.prog 29 #[.int .u16 s, .agg #[.int .u8 f, .int .u8 o, .int .u8 k, .int .u16 a, .int .u16 b]] w fun e w' =>
    e = .returned (.tuple #[.int .u16 (if s = a then b else s), .agg #[.int .u8 (if s = a then 3 else 4), .int .u16 0]]) ∧ Below w.heap.size w w' := by
  go_enter Try.func29, Try.ntmps29
  go_wp2
  all_goals (refine bodyPost_ret (by simp [results, Try.results29, go_sem] <;> rfl) rfl ⟨?_, ?_⟩)
  all_goals first | exact ((Below.refl _ _).alloc (Nat.le_refl _) _).alloc (by simp) _ | simp_all

theorem ent_at (w : World) (r : Nat) (h : r = w.heap.size) : (w.alloc (.map ents 3)).drew.heap[r]? = some (.map ents 3) := by subst h; exact heap_alloc_new w _

theorem Step_hit (s f o k a b s' k' v' : Int) (F i : Nat) (w : World) (hfind : Instr.findNow (.int .u8) (.int .u8 f) ents.toList 0 = some (some (i, .func (.func F) #[] #[])))
    (hcf : ∀ args w, (callFunc F args).run Try.prog w = .ok (.enter F args) w)
    (hcl : ∀ w, Calls Try.prog F #[.int .u16 s, .agg #[.int .u8 f, .int .u8 o, .int .u8 k, .int .u16 a, .int .u16 b]] w fun e w' => e = .returned (.tuple #[.int .u16 s', .agg #[.int .u8 k', .int .u16 v']]) ∧ Below w.heap.size w w') :
    Calls Try.prog 13 #[.int .u16 s, .agg #[.int .u8 f, .int .u8 o, .int .u8 k, .int .u16 a, .int .u16 b]] w fun e w' =>
    e = .returned (.tuple #[.int .u16 s', .agg #[.int .u8 k', .int .u16 v'], .int .i64 0]) ∧ Below w.heap.size w w' := by
  have hl := fun w r h => run_lookup_hit (P := Try.prog) (t := 57) Try.underlying57 Try.underlying5 ents 3 f _ i hfind _ r (ent_at w r h)
  have Hcl := Lib.hid hcl
  clear hfind hcl
  go_enter Try.func13, Try.ntmps13
  go_wp2_with fail
  go_region_held3 (fun w' => w'.cell? ⟨w.heap.size, 0, none⟩ = some (.int .u8 f)) (go_keep) (first | (go_at_call 21; refine (steps_any _).mono ?_; rintro e w' ⟨rfl, rfl⟩))
  go_wp2_with fail
  refine (Hcl.out _).mono ?_
  rintro e w1 ⟨rfl, hb⟩
  have c0 := kc hb (w.heap.size + 1) 0 (.int .u8 0) (by simp [go_sem])
  have c1 := kc hb (w.heap.size + 1) 1 (.int .u16 0) (by simp [go_sem])
  have f0 := kf hb (w.heap.size + 1) 0 (by simp) (by simp [go_sem])
  have f1 := kf hb (w.heap.size + 1) 1 (by simp) (by simp [go_sem])
  have hz : w.heap.size + 1 < w1.heap.size := by have := hb.size; simp at this; omega
  go_wp2
  go_region
  go_wp2
  refine bodyPost_ret (by simp [results, Try.results13, go_sem, c0, c1, hz] <;> rfl) rfl ⟨rfl, ?_⟩
  have h0 : Below w.heap.size w w1 := (((((Below.refl _ w).alloc (Nat.le_refl _) _).alloc (by simp) _).alloc (by simp; omega) _).drew).trans (hb.mono (by simp; omega))
  exact (((h0.setCell (by simp) _).setCell (by simp) _).alloc (by simp; omega) _).drew

theorem zero55 (w : World) : (zeroValue 55).run Try.prog w = .ok .nilFunc w := by kernel_rfl

theorem Step_miss (s f o k a b : Int) (w : World) (hfind : Instr.findNow (.int .u8) (.int .u8 f) ents.toList 0 = some none) :
    Calls Try.prog 13 #[.int .u16 s, .agg #[.int .u8 f, .int .u8 o, .int .u8 k, .int .u16 a, .int .u16 b]] w fun e w' =>
    e = .returned (.tuple #[.int .u16 s, .agg #[.int .u8 0, .int .u16 0], .int .i64 10]) ∧ Below w.heap.size w w' := by
  have hl := fun w r h => run_lookup_miss (P := Try.prog) (t := 57) Try.underlying57 Try.underlying5 .nilFunc zero55 ents 3 f hfind _ r (ent_at w r h)
  clear hfind
  go_enter Try.func13, Try.ntmps13
  go_wp2_with fail
  go_region_held3 (fun w' => w'.cell? ⟨w.heap.size, 0, none⟩ = some (.int .u8 f)) (go_keep) (first | (go_at_call 21; refine (steps_any _).mono ?_; rintro e w' ⟨rfl, rfl⟩))
  go_wp2
  refine bodyPost_ret (by simp [results, Try.results13, go_sem] <;> rfl) rfl ⟨rfl, ?_⟩
  exact (((((Below.refl _ w).alloc (Nat.le_refl _) _).alloc (by simp) _).alloc (by simp; omega) _).drew)

theorem Step_any (s f o k a b : Int) (w : World) : Calls Try.prog 13 #[.int .u16 s, .agg #[.int .u8 f, .int .u8 o, .int .u8 k, .int .u16 a, .int .u16 b]] w fun e w' =>
    e = .returned (.tuple #[.int .u16 (stp s f a b).1, .agg #[.int .u8 (stp s f a b).2.1, .int .u16 (stp s f a b).2.2.1], .int .i64 (stp s f a b).2.2.2]) ∧ Below w.heap.size w w' := by
  by_cases h1 : f = 1
  · subst h1
    exact (Step_hit s 1 o k a b s 1 s 27 0 w rfl (by intro _ _; kernel_rfl) (fun w => step1_any _ _ _ _ _ _ w)).mono (by rintro e w' ⟨rfl, hb⟩; exact ⟨by simp [stp], hb⟩)
  by_cases h2 : f = 2
  · subst h2
    exact (Step_hit s 2 o k a b a 0 0 28 1 w rfl (by intro _ _; kernel_rfl) (fun w => step2_any _ _ _ _ _ _ w)).mono (by rintro e w' ⟨rfl, hb⟩; exact ⟨by simp [stp], hb⟩)
  by_cases h3 : f = 3
  · subst h3
    refine (Step_hit s 3 o k a b _ _ _ 29 2 w rfl (by intro _ _; kernel_rfl) (fun w => step3_any _ _ _ _ _ _ w)).mono ?_
    rintro e w' ⟨rfl, hb⟩
    refine ⟨?_, hb⟩
    by_cases h : s = a <;> simp [stp, h]
  · refine (Step_miss s f o k a b w ?_).mono ?_
    · simp [Instr.findNow, Instr.sameNow, ents, beq_eq_false_iff_ne.2 h1, beq_eq_false_iff_ne.2 h2, beq_eq_false_iff_ne.2 h3]
    rintro e w' ⟨rfl, hb⟩
    exact ⟨by simp [stp, h1, h2, h3], hb⟩
end Go.Proofs.Ythheplpamcjphaa
