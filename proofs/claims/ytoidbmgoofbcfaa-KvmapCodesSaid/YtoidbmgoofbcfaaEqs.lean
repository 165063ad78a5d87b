/- Two states held against each other. -/
import Derived.Test.YtoidbmgoofbcfaaProg
import Derived.Test.YtoidbmgoofbcfaaKv
import Derived.WalkKit
import Derived.KernelRfl
import Derived.ChangeKeysEq
namespace Go.Proofs.Ytoidbmgoofbcfaa
open Go.RowKit Go.Um
set_option linter.unusedSimpArgs false
set_option linter.unusedVariables false
set_option maxHeartbeats 4000000
theorem info22 : (Try.prog.info? 22).map (fun i => i.size) = some 1 := by kernel_rfl
theorem eq23 (d : Nat) (a0 a1 a2 a3 a4 a5 a6 a7 b0 b1 b2 b3 b4 b5 b6 b7 : Int) (W : World) : (Op.equalIn (d + 2) 23 (.agg #[.int .u16 a0, .int .u16 a1, .int .u16 a2, .int .u16 a3, .int .u16 a4, .int .u16 a5, .int .u16 a6, .int .u16 a7]) (.agg #[.int .u16 b0, .int .u16 b1, .int .u16 b2, .int .u16 b3, .int .u16 b4, .int .u16 b5, .int .u16 b6, .int .u16 b7])).run Try.prog W = .ok (a0 == b0 && (a1 == b1 && (a2 == b2 && (a3 == b3 && (a4 == b4 && (a5 == b5 && (a6 == b6 && a7 == b7))))))) W := by
  obtain ⟨i, hi, hs⟩ := Option.map_eq_some_iff.1 info22
  have hc : Try.prog.cellsOf 22 = 1 := by kernel_rfl
  rw [run_equalIn_array W (d + 1) _ _ Try.underlying23 hi, hc]
  simp only [List.range, List.range.loop]
  simp only [Op.eqItems]
  simp [go_sem]
  rcases Classical.em (¬ a0 = b0) with e0 | e0
  · simp [e0]
  replace e0 := Classical.not_not.1 e0
  rcases Classical.em (¬ a1 = b1) with e1 | e1
  · simp [e0, e1]
  replace e1 := Classical.not_not.1 e1
  rcases Classical.em (¬ a2 = b2) with e2 | e2
  · simp [e0, e1, e2]
  replace e2 := Classical.not_not.1 e2
  rcases Classical.em (¬ a3 = b3) with e3 | e3
  · simp [e0, e1, e2, e3]
  replace e3 := Classical.not_not.1 e3
  rcases Classical.em (¬ a4 = b4) with e4 | e4
  · simp [e0, e1, e2, e3, e4]
  replace e4 := Classical.not_not.1 e4
  rcases Classical.em (¬ a5 = b5) with e5 | e5
  · simp [e0, e1, e2, e3, e4, e5]
  replace e5 := Classical.not_not.1 e5
  rcases Classical.em (¬ a6 = b6) with e6 | e6
  · simp [e0, e1, e2, e3, e4, e5, e6]
  replace e6 := Classical.not_not.1 e6
  rcases Classical.em (¬ a7 = b7) with e7 | e7
  · simp [e0, e1, e2, e3, e4, e5, e6, e7]
  replace e7 := Classical.not_not.1 e7
  simp [e0, e1, e2, e3, e4, e5, e6, e7]
theorem eq25g (h a0 a1 a2 a3 a4 a5 a6 a7 h' b0 b1 b2 b3 b4 b5 b6 b7 : Int) (W : World) : (binOp .eql 25 (.agg #[.int .u8 h, .int .u16 a0, .int .u16 a1, .int .u16 a2, .int .u16 a3, .int .u16 a4, .int .u16 a5, .int .u16 a6, .int .u16 a7]) (.agg #[.int .u8 h', .int .u16 b0, .int .u16 b1, .int .u16 b2, .int .u16 b3, .int .u16 b4, .int .u16 b5, .int .u16 b6, .int .u16 b7])).run Try.prog W = .ok (.bool (h == h' && (a0 == b0 && (a1 == b1 && (a2 == b2 && (a3 == b3 && (a4 == b4 && (a5 == b5 && (a6 == b6 && a7 == b7))))))))) W := by
  by_cases e : h = h'
  · simp [go_sem, e, eq23]
    generalize (a0 == b0 && (a1 == b1 && (a2 == b2 && (a3 == b3 && (a4 == b4 && (a5 == b5 && (a6 == b6 && a7 == b7))))))) = c
    cases c <;> rfl
  · simp [go_sem, e]
theorem eqb_kv (s t : KV) : (s.h == t.h && (s.v0 == t.v0 && (s.v1 == t.v1 && (s.v2 == t.v2 && (s.v3 == t.v3 && (s.v4 == t.v4 && (s.v5 == t.v5 && (s.v6 == t.v6 && s.v7 == t.v7)))))))) = decide (s = t) := by
  obtain ⟨h, a0, a1, a2, a3, a4, a5, a6, a7⟩ := s
  obtain ⟨h', b0, b1, b2, b3, b4, b5, b6, b7⟩ := t
  rw [Bool.eq_iff_iff]
  simp
theorem eq25_kv (s t : KV) (W : World) : (binOp .eql 25 (.agg #[.int .u8 s.h, .int .u16 s.v0, .int .u16 s.v1, .int .u16 s.v2, .int .u16 s.v3, .int .u16 s.v4, .int .u16 s.v5, .int .u16 s.v6, .int .u16 s.v7]) (.agg #[.int .u8 t.h, .int .u16 t.v0, .int .u16 t.v1, .int .u16 t.v2, .int .u16 t.v3, .int .u16 t.v4, .int .u16 t.v5, .int .u16 t.v6, .int .u16 t.v7])).run Try.prog W = .ok (.bool (decide (s = t))) W := by
  rw [eq25g, eqb_kv]
end Go.Proofs.Ytoidbmgoofbcfaa
