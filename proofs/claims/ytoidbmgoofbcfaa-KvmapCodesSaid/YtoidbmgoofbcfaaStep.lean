/- The step of the map. -/
import Derived.Test.YtoidbmgoofbcfaaLeafk0
import Derived.Test.YtoidbmgoofbcfaaLeafk1
import Derived.Test.YtoidbmgoofbcfaaLeafk2
import Derived.Test.YtoidbmgoofbcfaaLeafk3
import Derived.Test.YtoidbmgoofbcfaaLeafk4
import Derived.Test.YtoidbmgoofbcfaaLeafk5
import Derived.Test.YtoidbmgoofbcfaaLeafk6
import Derived.Test.YtoidbmgoofbcfaaLeafk7
namespace Go.Proofs.Ytoidbmgoofbcfaa
open Go.RowKit Go.Um
set_option linter.unusedSimpArgs false
set_option linter.unusedVariables false
set_option maxHeartbeats 4000000
set_option maxRecDepth 100000

def _root_.Go.Um.Op5.val (x : Op5) : Value := .agg #[.int .u8 x.f, .int .u8 x.o, .int .u8 x.k, .int .u16 x.a, .int .u16 x.b]
theorem of_6 (o k a b : Int) (w : World) (hk : k < 8) : Calls Try.prog 32 #[.agg #[.int .u8 6, .int .u8 o, .int .u8 k, .int .u16 a, .int .u16 b]] w fun e w' => e = .returned (.func (.func 45) #[] #[]) ∧ Below w.heap.size w w' := by
  have t1 : decide (8 ≤ k) = false := by simp; omega
  clear hk
  go_enter Try.func32, Try.ntmps32
  go_wp2
  go_ret
  exact ⟨rfl, ba (bz w) _⟩
theorem of_7 (o k a b : Int) (w : World) (hk : k < 8) : Calls Try.prog 32 #[.agg #[.int .u8 7, .int .u8 o, .int .u8 k, .int .u16 a, .int .u16 b]] w fun e w' => e = .returned (.func (.func 46) #[] #[]) ∧ Below w.heap.size w w' := by
  have t1 : decide (8 ≤ k) = false := by simp; omega
  clear hk
  go_enter Try.func32, Try.ntmps32
  go_wp2
  go_ret
  exact ⟨rfl, ba (bz w) _⟩
theorem of_8 (o k a b : Int) (w : World) (hk : k < 8) : Calls Try.prog 32 #[.agg #[.int .u8 8, .int .u8 o, .int .u8 k, .int .u16 a, .int .u16 b]] w fun e w' => e = .returned (.func (.func 47) #[] #[]) ∧ Below w.heap.size w w' := by
  have t1 : decide (8 ≤ k) = false := by simp; omega
  clear hk
  go_enter Try.func32, Try.ntmps32
  go_wp2
  go_ret
  exact ⟨rfl, ba (bz w) _⟩
theorem of_9 (o k a b : Int) (w : World) (hk : k < 8) : Calls Try.prog 32 #[.agg #[.int .u8 9, .int .u8 o, .int .u8 k, .int .u16 a, .int .u16 b]] w fun e w' => e = .returned (.func (.func 48) #[] #[]) ∧ Below w.heap.size w w' := by
  have t1 : decide (8 ≤ k) = false := by simp; omega
  clear hk
  go_enter Try.func32, Try.ntmps32
  go_wp2
  go_ret
  exact ⟨rfl, ba (bz w) _⟩
theorem of_big (f o k a b : Int) (w : World) (hk : 8 ≤ k) : Calls Try.prog 32 #[.agg #[.int .u8 f, .int .u8 o, .int .u8 k, .int .u16 a, .int .u16 b]] w fun e w' => e = .returned .nilFunc ∧ Below w.heap.size w w' := by
  have t1 : decide (8 ≤ k) = true := by simp; omega
  clear hk
  go_enter Try.func32, Try.ntmps32
  go_wp2
  go_ret
  exact ⟨rfl, ba (bz w) _⟩
theorem of_not (f o k a b : Int) (w : World) (h6 : f ≠ 6) (h7 : f ≠ 7) (h8 : f ≠ 8) (h9 : f ≠ 9) (hk : k < 8) : Calls Try.prog 32 #[.agg #[.int .u8 f, .int .u8 o, .int .u8 k, .int .u16 a, .int .u16 b]] w fun e w' => e = .returned .nilFunc ∧ Below w.heap.size w w' := by
  have t1 : decide (8 ≤ k) = false := by simp; omega
  have t6 := beq_eq_false_iff_ne.2 h6
  have t7 := beq_eq_false_iff_ne.2 h7
  have t8 := beq_eq_false_iff_ne.2 h8
  have t9 := beq_eq_false_iff_ne.2 h9
  clear hk h6 h7 h8 h9
  go_enter Try.func32, Try.ntmps32
  go_wp2
  go_ret
  exact ⟨rfl, ba (bz w) _⟩

/-- what a step's function leaves -/
def DoPost (p : Nat) (s' : KV) (k v : Int) (w : World) (e : Ending) (w' : World) : Prop :=
  e = .returned (.agg #[.int .u8 k, .int .u16 v]) ∧ KvAt w' p s' ∧ Kept (fun i => i = p) w w'

theorem nil_nil (w : World) : (binOp .eql 69 .nilFunc .nilFunc).run Try.prog w = .ok (.bool true) w := by kernel_rfl
theorem fun_nil (F : Nat) (w : World) : (binOp .eql 69 (.func (.func F) #[] #[]) .nilFunc).run Try.prog w = .ok (.bool false) w := by rfl
theorem Step_miss (s : KV) (x : Op5) (w : World) (hof : ∀ W, Calls Try.prog 32 #[x.val] W fun e w' => e = .returned .nilFunc ∧ Below W.heap.size W w') :
    Calls Try.prog 21 #[s.val, x.val] w fun e w' => e = .returned (.tuple #[s.val, .agg #[.int .u8 0, .int .u16 0], .int .i64 10]) ∧ Below w.heap.size w w' := by
  have HO := Lib.hid hof
  clear hof
  unfold KV.val
  unfold Go.Um.Op5.val at HO ⊢
  have hcmp := nil_nil
  go_enter Try.func21, Try.ntmps21
  go_wp2_with fail
  refine (HO.out _).mono ?_
  rintro e w1 ⟨rfl, hb⟩
  have hbb : Below w.heap.size w w1 := Below.trans (by repeat (first | (with_reducible exact bz w) | (with_reducible apply ba))) (hb.mono (by simp; omega))
  have HB := Lib.hid hbb
  clear hbb
  have c0 := kc hb w.heap.size 0 (.int .u8 s.h) (by simp [go_sem])
  have c1 := kc hb w.heap.size 1 (.int .u16 s.v0) (by simp [go_sem])
  have c2 := kc hb w.heap.size 2 (.int .u16 s.v1) (by simp [go_sem])
  have c3 := kc hb w.heap.size 3 (.int .u16 s.v2) (by simp [go_sem])
  have c4 := kc hb w.heap.size 4 (.int .u16 s.v3) (by simp [go_sem])
  have c5 := kc hb w.heap.size 5 (.int .u16 s.v4) (by simp [go_sem])
  have c6 := kc hb w.heap.size 6 (.int .u16 s.v5) (by simp [go_sem])
  have c7 := kc hb w.heap.size 7 (.int .u16 s.v6) (by simp [go_sem])
  have c8 := kc hb w.heap.size 8 (.int .u16 s.v7) (by simp [go_sem])
  have r0 := kc hb (w.heap.size + 2) 0 (.int .u8 0) (by simp [go_sem])
  have r1 := kc hb (w.heap.size + 2) 1 (.int .u16 0) (by simp [go_sem])
  have r2 := kc hb (w.heap.size + 2) 2 (.int .u16 0) (by simp [go_sem])
  have r3 := kc hb (w.heap.size + 2) 3 (.int .u16 0) (by simp [go_sem])
  have r4 := kc hb (w.heap.size + 2) 4 (.int .u16 0) (by simp [go_sem])
  have r5 := kc hb (w.heap.size + 2) 5 (.int .u16 0) (by simp [go_sem])
  have r6 := kc hb (w.heap.size + 2) 6 (.int .u16 0) (by simp [go_sem])
  have r7 := kc hb (w.heap.size + 2) 7 (.int .u16 0) (by simp [go_sem])
  have r8 := kc hb (w.heap.size + 2) 8 (.int .u16 0) (by simp [go_sem])
  have g0 := kf hb (w.heap.size + 2) 0 (by simp) (by simp [go_sem])
  have g1 := kf hb (w.heap.size + 2) 1 (by simp) (by simp [go_sem])
  have g2 := kf hb (w.heap.size + 2) 2 (by simp) (by simp [go_sem])
  have g3 := kf hb (w.heap.size + 2) 3 (by simp) (by simp [go_sem])
  have g4 := kf hb (w.heap.size + 2) 4 (by simp) (by simp [go_sem])
  have g5 := kf hb (w.heap.size + 2) 5 (by simp) (by simp [go_sem])
  have g6 := kf hb (w.heap.size + 2) 6 (by simp) (by simp [go_sem])
  have g7 := kf hb (w.heap.size + 2) 7 (by simp) (by simp [go_sem])
  have g8 := kf hb (w.heap.size + 2) 8 (by simp) (by simp [go_sem])
  have q0 := kc hb (w.heap.size + 3) 0 (.int .u8 0) (by simp [go_sem])
  have q1 := kc hb (w.heap.size + 3) 1 (.int .u16 0) (by simp [go_sem])
  have gq0 := kf hb (w.heap.size + 3) 0 (by simp) (by simp [go_sem])
  have gq1 := kf hb (w.heap.size + 3) 1 (by simp) (by simp [go_sem])
  have hz : w.heap.size + 3 < w1.heap.size := (by have := hb.size; simp at this; omega)
  have hz2 : w.heap.size + 2 < w1.heap.size := by omega
  have hz1 : w.heap.size + 1 < w1.heap.size := by omega
  have hz0 : w.heap.size < w1.heap.size := by omega
  clear hb
  go_wp2
  refine bodyPost_ret (by simp [results, Try.results21, go_sem, c0, c1, c2, c3, c4, c5, c6, c7, c8, r0, r1, r2, r3, r4, r5, r6, r7, r8, q0, q1, hz, hz2] <;> rfl) rfl ⟨rfl, ?_⟩
  repeat (first | (with_reducible exact HB.out) | (with_reducible refine bs ?_ (by first | (simp; done) | (simp; omega)) _) | (with_reducible apply Below.drew) | (with_reducible refine ba ?_ _))
theorem Step_hit (s s' : KV) (x : Op5) (k v : Int) (F : Nat) (w : World) (hof : ∀ W, Calls Try.prog 32 #[x.val] W fun e w' => e = .returned (.func (.func F) #[] #[]) ∧ Below W.heap.size W w')
    (hcf : ∀ args w, (callFunc F args).run Try.prog w = .ok (.enter F args) w)
    (hdo : ∀ p W, KvAt W p s → Calls Try.prog F #[.pointer (some ⟨p, 0, none⟩), x.val] W (DoPost p s' k v W)) :
    Calls Try.prog 21 #[s.val, x.val] w fun e w' => e = .returned (.tuple #[s'.val, .agg #[.int .u8 k, .int .u16 v], .int .i64 0]) ∧ Below w.heap.size w w' := by
  have HO := Lib.hid hof
  have HD := Lib.hid hdo
  clear hof hdo
  unfold KV.val
  unfold Go.Um.Op5.val at HO HD ⊢
  have hcmp := fun_nil F
  go_enter Try.func21, Try.ntmps21
  go_wp2_with fail
  refine (HO.out _).mono ?_
  rintro e w1 ⟨rfl, hb⟩
  have hbb : Below w.heap.size w w1 := Below.trans (by repeat (first | (with_reducible exact bz w) | (with_reducible apply ba))) (hb.mono (by simp; omega))
  have HB := Lib.hid hbb
  clear hbb
  have c0 := kc hb w.heap.size 0 (.int .u8 s.h) (by simp [go_sem])
  have c1 := kc hb w.heap.size 1 (.int .u16 s.v0) (by simp [go_sem])
  have c2 := kc hb w.heap.size 2 (.int .u16 s.v1) (by simp [go_sem])
  have c3 := kc hb w.heap.size 3 (.int .u16 s.v2) (by simp [go_sem])
  have c4 := kc hb w.heap.size 4 (.int .u16 s.v3) (by simp [go_sem])
  have c5 := kc hb w.heap.size 5 (.int .u16 s.v4) (by simp [go_sem])
  have c6 := kc hb w.heap.size 6 (.int .u16 s.v5) (by simp [go_sem])
  have c7 := kc hb w.heap.size 7 (.int .u16 s.v6) (by simp [go_sem])
  have c8 := kc hb w.heap.size 8 (.int .u16 s.v7) (by simp [go_sem])
  have o0 := kc hb (w.heap.size + 1) 0 (.int .u8 x.f) (by simp [go_sem])
  have o1 := kc hb (w.heap.size + 1) 1 (.int .u8 x.o) (by simp [go_sem])
  have o2 := kc hb (w.heap.size + 1) 2 (.int .u8 x.k) (by simp [go_sem])
  have o3 := kc hb (w.heap.size + 1) 3 (.int .u16 x.a) (by simp [go_sem])
  have o4 := kc hb (w.heap.size + 1) 4 (.int .u16 x.b) (by simp [go_sem])
  have r0 := kc hb (w.heap.size + 2) 0 (.int .u8 0) (by simp [go_sem])
  have r1 := kc hb (w.heap.size + 2) 1 (.int .u16 0) (by simp [go_sem])
  have r2 := kc hb (w.heap.size + 2) 2 (.int .u16 0) (by simp [go_sem])
  have r3 := kc hb (w.heap.size + 2) 3 (.int .u16 0) (by simp [go_sem])
  have r4 := kc hb (w.heap.size + 2) 4 (.int .u16 0) (by simp [go_sem])
  have r5 := kc hb (w.heap.size + 2) 5 (.int .u16 0) (by simp [go_sem])
  have r6 := kc hb (w.heap.size + 2) 6 (.int .u16 0) (by simp [go_sem])
  have r7 := kc hb (w.heap.size + 2) 7 (.int .u16 0) (by simp [go_sem])
  have r8 := kc hb (w.heap.size + 2) 8 (.int .u16 0) (by simp [go_sem])
  have g0 := kf hb (w.heap.size + 2) 0 (by simp) (by simp [go_sem])
  have g1 := kf hb (w.heap.size + 2) 1 (by simp) (by simp [go_sem])
  have g2 := kf hb (w.heap.size + 2) 2 (by simp) (by simp [go_sem])
  have g3 := kf hb (w.heap.size + 2) 3 (by simp) (by simp [go_sem])
  have g4 := kf hb (w.heap.size + 2) 4 (by simp) (by simp [go_sem])
  have g5 := kf hb (w.heap.size + 2) 5 (by simp) (by simp [go_sem])
  have g6 := kf hb (w.heap.size + 2) 6 (by simp) (by simp [go_sem])
  have g7 := kf hb (w.heap.size + 2) 7 (by simp) (by simp [go_sem])
  have g8 := kf hb (w.heap.size + 2) 8 (by simp) (by simp [go_sem])
  have q0 := kc hb (w.heap.size + 3) 0 (.int .u8 0) (by simp [go_sem])
  have q1 := kc hb (w.heap.size + 3) 1 (.int .u16 0) (by simp [go_sem])
  have gq0 := kf hb (w.heap.size + 3) 0 (by simp) (by simp [go_sem])
  have gq1 := kf hb (w.heap.size + 3) 1 (by simp) (by simp [go_sem])
  have hz : w.heap.size + 3 < w1.heap.size := (by have := hb.size; simp at this; omega)
  have hz2 : w.heap.size + 2 < w1.heap.size := by omega
  have hz1 : w.heap.size + 1 < w1.heap.size := by omega
  have hz0 : w.heap.size < w1.heap.size := by omega
  clear hb
  go_wp2_with fail
  have hkv : Hid (KvAt (w1.alloc (.cells #[.int .u8 s.h, .int .u16 s.v0, .int .u16 s.v1, .int .u16 s.v2, .int .u16 s.v3, .int .u16 s.v4, .int .u16 s.v5, .int .u16 s.v6, .int .u16 s.v7] 25)) w1.heap.size s) := Lib.hid (KvAt.new w1 s)
  go_wp2_with fail
  refine (HD.out _ _ hkv.out).mono ?_
  intro e w2 hdp
  unfold DoPost at hdp
  obtain ⟨rfl, hk2, hkk⟩ := hdp
  have d0 : w2.cell? ⟨w.heap.size + 2, 0, none⟩ = some (.int .u8 0) := hkk.cell (by simp [go_sem, hz2, r0]) (by omega)
  have e0 : w2.frozen? ⟨w.heap.size + 2, 0, none⟩ = false := (hkk.frozen (by simp; omega) (by omega)).trans (by simp [go_sem, hz2, g0])
  have d1 : w2.cell? ⟨w.heap.size + 2, 1, none⟩ = some (.int .u16 0) := hkk.cell (by simp [go_sem, hz2, r1]) (by omega)
  have e1 : w2.frozen? ⟨w.heap.size + 2, 1, none⟩ = false := (hkk.frozen (by simp; omega) (by omega)).trans (by simp [go_sem, hz2, g1])
  have d2 : w2.cell? ⟨w.heap.size + 2, 2, none⟩ = some (.int .u16 0) := hkk.cell (by simp [go_sem, hz2, r2]) (by omega)
  have e2 : w2.frozen? ⟨w.heap.size + 2, 2, none⟩ = false := (hkk.frozen (by simp; omega) (by omega)).trans (by simp [go_sem, hz2, g2])
  have d3 : w2.cell? ⟨w.heap.size + 2, 3, none⟩ = some (.int .u16 0) := hkk.cell (by simp [go_sem, hz2, r3]) (by omega)
  have e3 : w2.frozen? ⟨w.heap.size + 2, 3, none⟩ = false := (hkk.frozen (by simp; omega) (by omega)).trans (by simp [go_sem, hz2, g3])
  have d4 : w2.cell? ⟨w.heap.size + 2, 4, none⟩ = some (.int .u16 0) := hkk.cell (by simp [go_sem, hz2, r4]) (by omega)
  have e4 : w2.frozen? ⟨w.heap.size + 2, 4, none⟩ = false := (hkk.frozen (by simp; omega) (by omega)).trans (by simp [go_sem, hz2, g4])
  have d5 : w2.cell? ⟨w.heap.size + 2, 5, none⟩ = some (.int .u16 0) := hkk.cell (by simp [go_sem, hz2, r5]) (by omega)
  have e5 : w2.frozen? ⟨w.heap.size + 2, 5, none⟩ = false := (hkk.frozen (by simp; omega) (by omega)).trans (by simp [go_sem, hz2, g5])
  have d6 : w2.cell? ⟨w.heap.size + 2, 6, none⟩ = some (.int .u16 0) := hkk.cell (by simp [go_sem, hz2, r6]) (by omega)
  have e6 : w2.frozen? ⟨w.heap.size + 2, 6, none⟩ = false := (hkk.frozen (by simp; omega) (by omega)).trans (by simp [go_sem, hz2, g6])
  have d7 : w2.cell? ⟨w.heap.size + 2, 7, none⟩ = some (.int .u16 0) := hkk.cell (by simp [go_sem, hz2, r7]) (by omega)
  have e7 : w2.frozen? ⟨w.heap.size + 2, 7, none⟩ = false := (hkk.frozen (by simp; omega) (by omega)).trans (by simp [go_sem, hz2, g7])
  have d8 : w2.cell? ⟨w.heap.size + 2, 8, none⟩ = some (.int .u16 0) := hkk.cell (by simp [go_sem, hz2, r8]) (by omega)
  have e8 : w2.frozen? ⟨w.heap.size + 2, 8, none⟩ = false := (hkk.frozen (by simp; omega) (by omega)).trans (by simp [go_sem, hz2, g8])
  have dq0 : w2.cell? ⟨w.heap.size + 3, 0, none⟩ = some (.int .u8 0) := hkk.cell (by simp [go_sem, hz, q0]) (by omega)
  have eq0 : w2.frozen? ⟨w.heap.size + 3, 0, none⟩ = false := (hkk.frozen (by simp; omega) (by omega)).trans (by simp [go_sem, hz, gq0])
  have dq1 : w2.cell? ⟨w.heap.size + 3, 1, none⟩ = some (.int .u16 0) := hkk.cell (by simp [go_sem, hz, q1]) (by omega)
  have eq1 : w2.frozen? ⟨w.heap.size + 3, 1, none⟩ = false := (hkk.frozen (by simp; omega) (by omega)).trans (by simp [go_sem, hz, gq1])
  obtain ⟨k0, k1, k2, k3, k4, k5, k6, k7, k8, _, _, _, _, _, _, _, _, _⟩ := hk2
  have hs2 := hkk.size
  have hs3 : w1.heap.size + 1 ≤ w2.heap.size := by simpa using hkk.size
  clear hs2
  have hy3 : w.heap.size + 3 < w2.heap.size := by omega
  have hy2 : w.heap.size + 2 < w2.heap.size := by omega
  have hy1 : w1.heap.size < w2.heap.size := by omega
  have HB2 : Hid (Below w.heap.size w w2) := Lib.hid (Below.trans (ba HB.out _) (hkk.below (fun i hi _ e => by omega) (by simp; omega)))
  clear hkk hkv r0 r1 r2 r3 r4 r5 r6 r7 r8 g0 g1 g2 g3 g4 g5 g6 g7 g8 q0 q1 gq0 gq1 c0 c1 c2 c3 c4 c5 c6 c7 c8 o0 o1 o2 o3 o4
  go_wp2_with fail
  go_region
  go_wp2
  refine bodyPost_ret (by simp [results, Try.results21, go_sem, d0, d1, d2, d3, d4, d5, d6, d7, d8, dq0, dq1, hy3, hy2, hy1] <;> rfl) rfl ⟨rfl, ?_⟩
  repeat (first | (with_reducible exact HB2.out) | (with_reducible refine bs ?_ (by first | (simp; done) | (simp; omega)) _) | (with_reducible apply Below.drew) | (with_reducible refine ba ?_ _))

theorem do_6 (p : Nat) (s : KV) (x : Op5) (W : World) (hs : s.ok) (hf : x.f = 6) (hk0 : 0 ≤ x.k) (hk : x.k < 8) (h : KvAt W p s) : Calls Try.prog 45 #[.pointer (some ⟨p, 0, none⟩), x.val] W (DoPost p (stp s x).1 (stp s x).2.1.1 (stp s x).2.1.2 W) := by
  obtain ⟨f, o, k, a, b⟩ := x
  simp only at hf hk0 hk
  subst hf
  have : k = 0 ∨ k = 1 ∨ k = 2 ∨ k = 3 ∨ k = 4 ∨ k = 5 ∨ k = 6 ∨ k = 7 := by omega
  have key : ∀ (K : Nat), K < 8 → k = (K : Int) → Calls Try.prog 45 #[.pointer (some ⟨p, 0, none⟩), Go.Um.Op5.val ⟨6, o, k, a, b⟩] W (fun e w' => e = .returned (.agg #[.int .u8 (if s.has K then 1 else 2), .int .u16 (if s.has K then s.get K else 0)]) ∧ Below W.heap.size W w') → Calls Try.prog 45 #[.pointer (some ⟨p, 0, none⟩), Go.Um.Op5.val ⟨6, o, k, a, b⟩] W (DoPost p (stp s ⟨6, o, k, a, b⟩).1 (stp s ⟨6, o, k, a, b⟩).2.1.1 (stp s ⟨6, o, k, a, b⟩).2.1.2 W) := fun K hK e hc => by
    subst e
    refine hc.mono fun e w' ⟨h1, h2⟩ => ⟨?_, ?_, ?_⟩
    · rw [h1]
      have h8 : ¬ (8 : Int) ≤ (K : Int) := by omega
      simp only [stp, h8, if_false, if_true, Int.toNat_natCast]
      split <;> rfl
    · have h8 : ¬ (8 : Int) ≤ (K : Int) := by omega
      simp only [stp, h8, if_false, if_true]
      exact h.below h2
    · exact kept1 h2 h.lt
  rcases this with rfl | rfl | rfl | rfl | rfl | rfl | rfl | rfl
  · exact key 0 (by decide) rfl (get_0 p s 6 o a b W hs h)
  · exact key 1 (by decide) rfl (get_1 p s 6 o a b W hs h)
  · exact key 2 (by decide) rfl (get_2 p s 6 o a b W hs h)
  · exact key 3 (by decide) rfl (get_3 p s 6 o a b W hs h)
  · exact key 4 (by decide) rfl (get_4 p s 6 o a b W hs h)
  · exact key 5 (by decide) rfl (get_5 p s 6 o a b W hs h)
  · exact key 6 (by decide) rfl (get_6 p s 6 o a b W hs h)
  · exact key 7 (by decide) rfl (get_7 p s 6 o a b W hs h)

theorem do_7 (p : Nat) (s : KV) (x : Op5) (W : World) (hs : s.ok) (hf : x.f = 7) (hk0 : 0 ≤ x.k) (hk : x.k < 8) (h : KvAt W p s) : Calls Try.prog 46 #[.pointer (some ⟨p, 0, none⟩), x.val] W (DoPost p (stp s x).1 (stp s x).2.1.1 (stp s x).2.1.2 W) := by
  obtain ⟨f, o, k, a, b⟩ := x
  simp only at hf hk0 hk
  subst hf
  have : k = 0 ∨ k = 1 ∨ k = 2 ∨ k = 3 ∨ k = 4 ∨ k = 5 ∨ k = 6 ∨ k = 7 := by omega
  have key : ∀ (K : Nat), K < 8 → k = (K : Int) → Calls Try.prog 46 #[.pointer (some ⟨p, 0, none⟩), Go.Um.Op5.val ⟨7, o, k, a, b⟩] W (fun e w' => e = .returned (.agg #[.int .u8 0, .int .u16 0]) ∧ KvAt w' p (s.lay K a) ∧ Kept (fun i => i = p) W w') → Calls Try.prog 46 #[.pointer (some ⟨p, 0, none⟩), Go.Um.Op5.val ⟨7, o, k, a, b⟩] W (DoPost p (stp s ⟨7, o, k, a, b⟩).1 (stp s ⟨7, o, k, a, b⟩).2.1.1 (stp s ⟨7, o, k, a, b⟩).2.1.2 W) := fun K hK e hc => by
    subst e
    refine hc.mono fun e w' ⟨h1, h2, h3⟩ => ⟨?_, ?_, h3⟩
    · rw [h1]
      have h8 : ¬ (8 : Int) ≤ (K : Int) := by omega
      simp [stp, h8, Int.toNat_natCast]
      try (split <;> simp)
    · have h8 : ¬ (8 : Int) ≤ (K : Int) := by omega
      simp [stp, h8, Int.toNat_natCast]
      exact h2
  rcases this with rfl | rfl | rfl | rfl | rfl | rfl | rfl | rfl
  · exact key 0 (by decide) rfl (put_0 p s 7 o a b W hs h)
  · exact key 1 (by decide) rfl (put_1 p s 7 o a b W hs h)
  · exact key 2 (by decide) rfl (put_2 p s 7 o a b W hs h)
  · exact key 3 (by decide) rfl (put_3 p s 7 o a b W hs h)
  · exact key 4 (by decide) rfl (put_4 p s 7 o a b W hs h)
  · exact key 5 (by decide) rfl (put_5 p s 7 o a b W hs h)
  · exact key 6 (by decide) rfl (put_6 p s 7 o a b W hs h)
  · exact key 7 (by decide) rfl (put_7 p s 7 o a b W hs h)

theorem do_8 (p : Nat) (s : KV) (x : Op5) (W : World) (hs : s.ok) (hf : x.f = 8) (hk0 : 0 ≤ x.k) (hk : x.k < 8) (h : KvAt W p s) : Calls Try.prog 47 #[.pointer (some ⟨p, 0, none⟩), x.val] W (DoPost p (stp s x).1 (stp s x).2.1.1 (stp s x).2.1.2 W) := by
  obtain ⟨f, o, k, a, b⟩ := x
  simp only at hf hk0 hk
  subst hf
  have : k = 0 ∨ k = 1 ∨ k = 2 ∨ k = 3 ∨ k = 4 ∨ k = 5 ∨ k = 6 ∨ k = 7 := by omega
  have key : ∀ (K : Nat), K < 8 → k = (K : Int) → Calls Try.prog 47 #[.pointer (some ⟨p, 0, none⟩), Go.Um.Op5.val ⟨8, o, k, a, b⟩] W (fun e w' => e = .returned (.agg #[.int .u8 (if s.has K then 3 else 4), .int .u16 0]) ∧ KvAt w' p (s.del K) ∧ Kept (fun i => i = p) W w') → Calls Try.prog 47 #[.pointer (some ⟨p, 0, none⟩), Go.Um.Op5.val ⟨8, o, k, a, b⟩] W (DoPost p (stp s ⟨8, o, k, a, b⟩).1 (stp s ⟨8, o, k, a, b⟩).2.1.1 (stp s ⟨8, o, k, a, b⟩).2.1.2 W) := fun K hK e hc => by
    subst e
    refine hc.mono fun e w' ⟨h1, h2, h3⟩ => ⟨?_, ?_, h3⟩
    · rw [h1]
      have h8 : ¬ (8 : Int) ≤ (K : Int) := by omega
      simp [stp, h8, Int.toNat_natCast]
      try (split <;> simp)
    · have h8 : ¬ (8 : Int) ≤ (K : Int) := by omega
      simp [stp, h8, Int.toNat_natCast]
      exact h2
  rcases this with rfl | rfl | rfl | rfl | rfl | rfl | rfl | rfl
  · exact key 0 (by decide) rfl (del_0 p s 8 o a b W hs h)
  · exact key 1 (by decide) rfl (del_1 p s 8 o a b W hs h)
  · exact key 2 (by decide) rfl (del_2 p s 8 o a b W hs h)
  · exact key 3 (by decide) rfl (del_3 p s 8 o a b W hs h)
  · exact key 4 (by decide) rfl (del_4 p s 8 o a b W hs h)
  · exact key 5 (by decide) rfl (del_5 p s 8 o a b W hs h)
  · exact key 6 (by decide) rfl (del_6 p s 8 o a b W hs h)
  · exact key 7 (by decide) rfl (del_7 p s 8 o a b W hs h)

theorem do_9 (p : Nat) (s : KV) (x : Op5) (W : World) (hs : s.ok) (hf : x.f = 9) (hk0 : 0 ≤ x.k) (hk : x.k < 8) (h : KvAt W p s) : Calls Try.prog 48 #[.pointer (some ⟨p, 0, none⟩), x.val] W (DoPost p (stp s x).1 (stp s x).2.1.1 (stp s x).2.1.2 W) := by
  obtain ⟨f, o, k, a, b⟩ := x
  simp only at hf hk0 hk
  subst hf
  have : k = 0 ∨ k = 1 ∨ k = 2 ∨ k = 3 ∨ k = 4 ∨ k = 5 ∨ k = 6 ∨ k = 7 := by omega
  have key : ∀ (K : Nat), K < 8 → k = (K : Int) → Calls Try.prog 48 #[.pointer (some ⟨p, 0, none⟩), Go.Um.Op5.val ⟨9, o, k, a, b⟩] W (fun e w' => e = .returned (.agg #[.int .u8 (if (s.has K && s.get K == a) then 3 else 4), .int .u16 0]) ∧ KvAt w' p (if (s.has K && s.get K == a) then s.lay K b else s) ∧ Kept (fun i => i = p) W w') → Calls Try.prog 48 #[.pointer (some ⟨p, 0, none⟩), Go.Um.Op5.val ⟨9, o, k, a, b⟩] W (DoPost p (stp s ⟨9, o, k, a, b⟩).1 (stp s ⟨9, o, k, a, b⟩).2.1.1 (stp s ⟨9, o, k, a, b⟩).2.1.2 W) := fun K hK e hc => by
    subst e
    refine hc.mono fun e w' ⟨h1, h2, h3⟩ => ⟨?_, ?_, h3⟩
    · rw [h1]
      have h8 : ¬ (8 : Int) ≤ (K : Int) := by omega
      simp [stp, h8, Int.toNat_natCast]
      try (split <;> simp)
    · have h8 : ¬ (8 : Int) ≤ (K : Int) := by omega
      simp [stp, h8, Int.toNat_natCast]
      by_cases hc : s.has K = true ∧ s.get K = a <;> simpa [hc] using h2
  rcases this with rfl | rfl | rfl | rfl | rfl | rfl | rfl | rfl
  · exact key 0 (by decide) rfl (swap_0 p s 9 o a b W hs h)
  · exact key 1 (by decide) rfl (swap_1 p s 9 o a b W hs h)
  · exact key 2 (by decide) rfl (swap_2 p s 9 o a b W hs h)
  · exact key 3 (by decide) rfl (swap_3 p s 9 o a b W hs h)
  · exact key 4 (by decide) rfl (swap_4 p s 9 o a b W hs h)
  · exact key 5 (by decide) rfl (swap_5 p s 9 o a b W hs h)
  · exact key 6 (by decide) rfl (swap_6 p s 9 o a b W hs h)
  · exact key 7 (by decide) rfl (swap_7 p s 9 o a b W hs h)

theorem Step_any (s : KV) (x : Op5) (w : World) (hs : s.ok) (hx : x.ok) : Calls Try.prog 21 #[s.val, x.val] w fun e w' => e = .returned (.tuple #[(stp s x).1.val, .agg #[.int .u8 (stp s x).2.1.1, .int .u16 (stp s x).2.1.2], .int .i64 (stp s x).2.2]) ∧ Below w.heap.size w w' := by
  have hk0 : 0 ≤ x.k := hx.k.1
  by_cases hk : 8 ≤ x.k
  · have e : stp s x = (s, (0, 0), 10) := by simp [stp, hk]
    rw [e]
    exact Step_miss s x w fun W => of_big x.f x.o x.k x.a x.b W hk
  have hk' : x.k < 8 := by omega
  by_cases h6 : x.f = 6
  · have e : (stp s x).2.2 = 0 := by simp [stp, hk, h6]
    rw [e]
    exact Step_hit s _ x _ _ 45 w (fun W => by have := of_6 x.o x.k x.a x.b W hk'; rw [← h6] at this; exact this) (by intro _ _; kernel_rfl) (fun p W h => do_6 p s x W hs h6 hk0 hk' h)
  by_cases h7 : x.f = 7
  · have e : (stp s x).2.2 = 0 := by simp [stp, hk, h7]
    rw [e]
    exact Step_hit s _ x _ _ 46 w (fun W => by have := of_7 x.o x.k x.a x.b W hk'; rw [← h7] at this; exact this) (by intro _ _; kernel_rfl) (fun p W h => do_7 p s x W hs h7 hk0 hk' h)
  by_cases h8 : x.f = 8
  · have e : (stp s x).2.2 = 0 := by simp [stp, hk, h8]
    rw [e]
    exact Step_hit s _ x _ _ 47 w (fun W => by have := of_8 x.o x.k x.a x.b W hk'; rw [← h8] at this; exact this) (by intro _ _; kernel_rfl) (fun p W h => do_8 p s x W hs h8 hk0 hk' h)
  by_cases h9 : x.f = 9
  · have e : (stp s x).2.2 = 0 := by simp [stp, hk, h9]; split <;> rfl
    rw [e]
    exact Step_hit s _ x _ _ 48 w (fun W => by have := of_9 x.o x.k x.a x.b W hk'; rw [← h9] at this; exact this) (by intro _ _; kernel_rfl) (fun p W h => do_9 p s x W hs h9 hk0 hk' h)
  · have e : stp s x = (s, (0, 0), 10) := by simp [stp, hk, h6, h7, h8, h9]
    rw [e]
    exact Step_miss s x w fun W => of_not x.f x.o x.k x.a x.b W h6 h7 h8 h9 hk'
end Go.Proofs.Ytoidbmgoofbcfaa
