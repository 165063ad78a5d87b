/- A state that came in, opened. -/
import Derived.Test.YtoidbmgoofbcfaaProg
import Derived.Test.YtoidbmgoofbcfaaKv
namespace Go.Proofs.Ytoidbmgoofbcfaa
open Go.RowKit Go.ChangeShapes Go.WideShapes Go.ChangeAt Go.Deep Go.Um
set_option linter.unusedSimpArgs false
set_option linter.unusedVariables false
set_option maxHeartbeats 1000000
set_option maxRecDepth 100000
theorem open_kv {H : Type} {enc : TypeId × Value → H} {W : World} {r : Reach} {b0 : Nat} {v : Value} {d : DataW H} {p : List MemPlace} (hv : Value.okWide Try.prog W r b0 25 v) (h : DataW.Trod enc Try.prog W 0 (fun _ => true) true 25 v d p) : ∃ s : KV, v = s.val ∧ s.ok := by
  have hC : Try.prog.cellsOf 25 = 9 := by kernel_rfl
  have h5 : Try.prog.cellsOf 5 = 1 := by kernel_rfl
  have h23 : Try.prog.cellsOf 23 = 8 := by kernel_rfl
  have h22 : Try.prog.cellsOf 22 = 1 := by kernel_rfl
  obtain ⟨cs, rfl, hsz⟩ := okWide_struct Try.underlying25 hv
  obtain ⟨l⟩ := cs
  match l, hsz.trans hC with
  | [c0, c1, c2, c3, c4, c5, c6, c7, c8], _ =>
    obtain ⟨fuel, hf⟩ := h
    obtain ⟨xs, n, _, hx, _, hlen, hg⟩ := DataW.trod_struct Try.underlying25 hf
    match xs, hlen with
    | [y0, y1], _ =>
      have g0 := hg 0 _ rfl
      have g1 := hg 1 _ rfl
      simp [Value.cells, h5, h23] at g0 g1
      obtain ⟨n0, q0, _, w0⟩ := DataW.trod_int Try.underlying5 g0
      obtain ⟨zs, m, _, _, _, hzl, hz⟩ := DataW.trod_array Try.underlying23 g1
      match zs, hzl with
      | [z0, z1, z2, z3, z4, z5, z6, z7], _ =>
        have k0 := hz 0 (by omega)
        have k1 := hz 1 (by omega)
        have k2 := hz 2 (by omega)
        have k3 := hz 3 (by omega)
        have k4 := hz 4 (by omega)
        have k5 := hz 5 (by omega)
        have k6 := hz 6 (by omega)
        have k7 := hz 7 (by omega)
        simp [h22] at k0 k1 k2 k3 k4 k5 k6 k7
        obtain ⟨a0, e0, _, u0⟩ := DataW.trod_int Try.underlying22 k0
        obtain ⟨a1, e1, _, u1⟩ := DataW.trod_int Try.underlying22 k1
        obtain ⟨a2, e2, _, u2⟩ := DataW.trod_int Try.underlying22 k2
        obtain ⟨a3, e3, _, u3⟩ := DataW.trod_int Try.underlying22 k3
        obtain ⟨a4, e4, _, u4⟩ := DataW.trod_int Try.underlying22 k4
        obtain ⟨a5, e5, _, u5⟩ := DataW.trod_int Try.underlying22 k5
        obtain ⟨a6, e6, _, u6⟩ := DataW.trod_int Try.underlying22 k6
        obtain ⟨a7, e7, _, u7⟩ := DataW.trod_int Try.underlying22 k7
        simp only [List.cons.injEq, and_true] at q0 e0 e1 e2 e3 e4 e5 e6 e7
        subst q0 e0 e1 e2 e3 e4 e5 e6 e7
        refine ⟨⟨n0, a0, a1, a2, a3, a4, a5, a6, a7⟩, rfl, in8_of w0, fun k => ?_⟩
        rcases k with _ | _ | _ | _ | _ | _ | _ | _ | k
        · exact in16_of u0
        · exact in16_of u1
        · exact in16_of u2
        · exact in16_of u3
        · exact in16_of u4
        · exact in16_of u5
        · exact in16_of u6
        · exact in16_of u7
        · exact ⟨by simp [KV.get], by simp [KV.get]⟩
end Go.Proofs.Ytoidbmgoofbcfaa
