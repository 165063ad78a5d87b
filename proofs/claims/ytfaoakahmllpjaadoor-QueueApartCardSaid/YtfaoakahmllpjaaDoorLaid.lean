/- What the rows' premises give: the table of kinds (laid), values as arguments; a world for the witnesses. -/
import Derived.Test.YtfaoakahmllpjaaDoorCards
import Derived.Test.YtfaoakahmllpjaaDoorTie
import Derived.Test.YtfaoakahmllpjaaDoorLeaf
import Derived.Deep.DeepHandedRow
import Derived.Lib.LaidTab
namespace Go.Proofs.YtfaoakahmllpjaaDoor
open Go.ChangeShapes Go.WideShapes Go.ChangeAt Go.RowKit Go.Um Go.Deep

theorem ownNone : ownKnob Tryd.prog.godebug = none := by kernel_rfl
theorem gKinds : Tryd.prog.globalNamed "umpire/op.kinds" = some 0 := by kernel_rfl
theorem gKindsType : (Tryd.prog.globals[0]?).map (·.type) = some 82 := by kernel_rfl
theorem cells79 : Tryd.prog.cellsOf 79 = 3 := by kernel_rfl
theorem cells82 : Tryd.prog.cellsOf 82 = 36 := by kernel_rfl
theorem cells23 : Tryd.prog.cellsOf 23 = 1 := by kernel_rfl
theorem cells5 : Tryd.prog.cellsOf 5 = 1 := by kernel_rfl
theorem cells9 : Tryd.prog.cellsOf 9 = 1 := by kernel_rfl

def kindD {H : Type} (x : Int × List UInt8 × Int × Bool) : DataW H := .agg [.lit (.int .u8 x.1), .lit (.string x.2.1), .lit (.int .u8 x.2.2.1)]
def kindF (x : Int × List UInt8 × Int × Bool) : List Value := kindC x.1 x.2.1 x.2.2.1
theorem kindF_len (x : Int × List UInt8 × Int × Bool) : (kindF x).length = 3 := rfl
theorem kindL_eq : kindL = kTab.flatMap kindF := rfl
theorem laid_eq {H : Type} : (Rows.laid_umpire_op_kinds : DataW H) = .agg (kTab.map kindD) := rfl

theorem kind_cells {H : Type} {enc : TypeId × Value → H} {w : World} {base : Nat} {sp : Nat → Bool} {held : Bool} {fuel : Nat} {cs : List Value} {x : Int × List UInt8 × Int × Bool} {p : List MemPlace}
    (h : DataW.trod enc Tryd.prog w base sp held fuel 79 cs = some (kindD x, p)) : cs = kindF x := by
  obtain ⟨xs, n, _, hx, hcl, hlen, hg⟩ := DataW.trod_struct Tryd.underlying79 h
  rw [cells79] at hcl
  match cs, hcl, xs, hlen with
  | [c0, c1, c2], _, [y0, y1, y2], _ =>
    have g0 : DataW.trod enc Tryd.prog w base sp held n 5 [c0] = some y0 := by have := hg 0 _ rfl; simpa [cells5] using this
    have g1 : DataW.trod enc Tryd.prog w base sp held n 9 [c1] = some y1 := by have := hg 1 _ rfl; simpa [cells9] using this
    have g2 : DataW.trod enc Tryd.prog w base sp held n 5 [c2] = some y2 := by have := hg 2 _ rfl; simpa [cells5] using this
    obtain ⟨n0, q0, e0, _⟩ := DataW.trod_int Tryd.underlying5 g0
    obtain ⟨s1, q1, e1, _⟩ := DataW.trod_string Tryd.underlying9 g1
    obtain ⟨n2, q2, e2, _⟩ := DataW.trod_int Tryd.underlying5 g2
    simp only [List.cons.injEq, and_true] at q0 q1 q2
    subst q0 q1 q2 e0 e1 e2
    obtain ⟨m, s, k, bo⟩ := x
    have hx1 := congrArg Prod.fst hx
    simp only [kindD, List.map_cons, List.map_nil, DataW.agg.injEq, List.cons.injEq, DataW.lit.injEq, Lit.int.injEq, Lit.string.injEq, true_and, and_true] at hx1
    obtain ⟨rfl, rfl, rfl⟩ := hx1
    rfl

/-- WHAT THE ROW's LIST GIVES. -/
theorem kinds_of {W : World} (h : laidMetH Tryd.prog [("umpire/op.kinds", Rows.laid_umpire_op_kinds)] W) : Kinds W := by
  obtain ⟨ps, ⟨g', t', cs, fuel, p, q, hg', ht', hvar, hd, _, _⟩, _⟩ := h
  obtain rfl := Option.some.inj (gKinds.symm.trans hg')
  obtain rfl := Option.some.inj (gKindsType.symm.trans ht')
  rw [laid_eq] at hd
  have hcell : ∀ i v, kindL[i]? = some v → W.cell? ⟨0, i, none⟩ = some v := by
    intro i v hv
    rw [World.var?_cell gKinds hvar i]
    cases fuel with
    | zero => simp [DataW.trod] at hd
    | succ fuel =>
      simp only [DataW.trod, Tryd.underlying82, cells79, cells82] at hd
      split at hd
      · rename_i hl
        obtain ⟨xs, hm, hx⟩ := Option.map_eq_some_iff.1 hd
        have hxs : xs.map (·.1) = kTab.map kindD := by
          have := congrArg Prod.fst hx
          simpa using this
        have hi : i < 36 := by
          have := (List.getElem?_eq_some_iff.1 hv).1
          rw [kindL_eq, length_flat kindF_len] at this
          exact this
        have hk : i / 3 < 12 := by omega
        obtain ⟨b, hb, hf⟩ := Lib.mapM_at hm (i / 3) (i / 3) (by simp [hk])
        have hkk : i / 3 < kTab.length := hk
        have h2 : (xs.map (·.1))[i / 3]? = some b.1 := by simp [hb]
        rw [hxs, List.getElem?_map, List.getElem?_eq_getElem hkk] at h2
        simp only [Option.map_some, Option.some.injEq] at h2
        have hc := kind_cells (x := kTab[i / 3]) (p := b.2) (by rw [hf, h2])
        have hij : i / 3 * 3 + i % 3 = i := by omega
        have h3 := cell_of kindF_len kTab (i / 3) _ (List.getElem?_eq_getElem hkk) (i % 3) (by omega)
        rw [← kindL_eq, hij, hv, ← hc, List.getElem?_take, List.getElem?_drop, hij, if_pos (by omega)] at h3
        rw [h3]
        simp
      · cases hd
  exact ⟨hcell, World.block_lt_of_cell? W _ (hcell 0 _ rfl)⟩

section
variable {H : Type} {enc : TypeId × Value → H} {W : World}
/-- a slice of values -/
theorem open_us {r : Reach} {b0 : Nat} {v : Value} {d : DataW H} {p : List MemPlace} (hv : Value.okWide Tryd.prog W r b0 22 v) (h : DataW.Trod enc Tryd.prog W 0 (fun _ => true) true 22 v d p) :
    ∃ l : List Int, Lies W l v ∧ ∀ n ∈ l, in16 n := by
  obtain ⟨a0, len0, cap0, rfl⟩ := okWide_slice Tryd.underlying22 hv
  obtain ⟨fuel, hf⟩ := h
  rcases open_ints Tryd.underlying22 Tryd.underlying23 cells23 hf with ⟨hcs, _⟩ | ⟨a, len, cap, zs, hcs, hb, hl, hm, hz, hx, hc, hwf⟩
  · simp [Value.cells] at hcs
    obtain ⟨rfl, rfl, rfl⟩ := hcs
    exact ⟨[], ⟨none, 0, 0, 0, rfl, ⟨rfl, Nat.le_refl _, Nat.zero_le _, fun h => absurd h (by decide), fun h => absurd h (by decide), fun j u hu => by simp [us] at hu⟩⟩, fun n hn => by cases hn⟩
  · simp [Value.cells] at hcs
    obtain ⟨rfl, rfl, rfl⟩ := hcs
    simp only [if_true] at hz
    have hlen : (zs.take len0).length = len0 := by rw [List.length_take]; omega
    have hcell : ∀ j u, (us (zs.take len0))[j]? = some u → W.cell? (a.add j) = some u := by
      intro j u hu
      have hj : j < len0 := by have := (List.getElem?_eq_some_iff.1 hu).1; rw [us_len, hlen] at this; omega
      rw [hc j (by omega)]
      simp only [us, List.getElem?_map, List.getElem?_take, if_pos hj, Option.map_eq_some_iff] at hu
      obtain ⟨z, hz', rfl⟩ := hu
      rw [List.getD_eq_getElem?_getD, hz']
      rfl
    have hspot : 0 < (us (zs.take len0)).length → a.spot = none := by
      intro hp
      have h0 := hcell 0 _ (List.getElem?_eq_getElem hp)
      simpa [Addr.add] using World.cell?_spot h0
    refine ⟨zs.take len0, ⟨some a, cap0, a.block, a.off, by rw [hlen], ⟨us_len _, by omega, hm, fun hp => ?_, fun hp => ?_, fun j u hu => ?_⟩⟩, fun n hn => in16_of (hwf n (List.mem_of_mem_take hn))⟩
    · have := hspot hp
      cases a
      simp only at this
      subst this
      rfl
    · have h0 := hcell 0 _ (List.getElem?_eq_getElem hp)
      have := World.block_lt_of_cell? W _ h0
      simpa [Addr.add] using this
    · have h0 := hcell j u hu
      have hp : 0 < (us (zs.take len0)).length := by have := (List.getElem?_eq_some_iff.1 hu).1; omega
      have hsp := hspot hp
      obtain ⟨ab, aoff, aspot⟩ := a
      simp only at hsp
      subst hsp
      rwa [Addr.add_lit] at h0
end

/-- A WORLD FOR THE WITNESS: the settled one, the table (block 0) holding what its initialiser lays. -/
noncomputable def laidWorld (os : Os) : World :=
  { World.holding Tryd.prog os ⟨#[], #[], []⟩ with heap := (World.holding Tryd.prog os ⟨#[], #[], []⟩).heap.modify 0 fun
      | .cells _ t frozen => .cells kindL.toArray t frozen
      | o => o }
end Go.Proofs.YtfaoakahmllpjaaDoor
