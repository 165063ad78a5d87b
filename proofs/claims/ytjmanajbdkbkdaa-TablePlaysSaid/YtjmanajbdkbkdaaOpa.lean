/- Acts of the table, opened. -/
import Derived.Test.YtjmanajbdkbkdaaTi
import Derived.ChangeArms
namespace Go.Um
open Go.RowKit Go.ChangeShapes Go.WideShapes Go.ChangeAt Go.Deep
/-- a slice of whatever takes C cells, opened -/
theorem open_elems {H : Type} {enc : TypeId × Value → H} {P : Program} {W : World} {t e : TypeId} {C : Nat} {r : Reach} {b0 : Nat} {v : Value} {d : DataW H} {p : List MemPlace} (ht : P.underlying t = some (.slice e))
    (hC : P.cellsOf e = C) (hv : Value.okWide P W r b0 t v) (h : DataW.Trod enc P W 0 (fun _ => true) true t v d p) :
    ∃ (n : Nat) (ao : Option Addr) (cap b o : Nat) (E : Nat → Nat → Value), v = .slice ao n cap ∧ SlAt W C n ((List.range n).flatMap fun i => (List.range C).map (E i)) ao cap b o ∧
      ∀ i, i < n → ∃ m y, DataW.trod enc P W 0 (fun _ => true) true m e ((List.range C).map (E i)) = some y := by
  obtain ⟨a0, len0, cap0, rfl⟩ := okWide_slice ht hv
  obtain ⟨fuel, hf⟩ := h
  rcases open_slice ht hf with ⟨hcs, _⟩ | ⟨a, len, cap, m, k, D, Pl, hcs, hb, hl, hm, hmm, hx, hi⟩
  · simp [Value.cells] at hcs
    obtain ⟨rfl, rfl, rfl⟩ := hcs
    exact ⟨0, none, 0, 0, 0, fun _ _ => .bool false, rfl, ⟨by simp, Nat.le_refl _, Nat.zero_le _, fun h => by simp at h, fun h => by simp at h, fun j u hu => by simp at hu⟩, fun i hi => absurd hi (Nat.not_lt_zero _)⟩
  · simp [Value.cells] at hcs
    obtain ⟨rfl, rfl, rfl⟩ := hcs
    simp only [if_true] at hmm
    subst hmm
    have each : ∀ i, i < len0 → ∃ F : Nat → Value, (∀ j, j < C → W.cell? (a.add (i * C + j)) = some (F j)) ∧ ∃ m y, DataW.trod enc P W 0 (fun _ => true) true m e ((List.range C).map F) = some y := by
      intro i hilt
      obtain ⟨cs', hc, htr⟩ := hi i (by omega)
      rw [hC] at hc
      obtain ⟨_, hcl, hat⟩ := World.cells?_some hc
      refine ⟨fun j => cs'.getD j (.bool false), fun j hj => ?_, ?_⟩
      · have := hat j hj
        rw [Go.Deep.add_add] at this
        rw [this]
        show _ = some (cs'.getD j (.bool false))
        rw [List.getD_eq_getElem?_getD, List.getElem?_eq_getElem (by omega)]
        rfl
      · have he : (List.range C).map (fun j => cs'.getD j (.bool false)) = cs' := by
          apply List.ext_getElem (by simp [hcl])
          intro j h1 h2
          simp [List.getElem?_eq_getElem h2]
        rw [he]
        exact ⟨k, _, htr⟩
    have each' : ∃ E : Nat → Nat → Value, ∀ i, i < len0 → (∀ j, j < C → W.cell? (a.add (i * C + j)) = some (E i j)) ∧ ∃ m y, DataW.trod enc P W 0 (fun _ => true) true m e ((List.range C).map (E i)) = some y := by
      classical
      refine ⟨fun i => if hi : i < len0 then Classical.choose (each i hi) else fun _ => .bool false, fun i hi => ?_⟩
      simp only [dif_pos hi]
      exact Classical.choose_spec (each i hi)
    obtain ⟨E, hE⟩ := each'
    have hlen : ((List.range len0).flatMap fun i => (List.range C).map (E i)).length = len0 * C := by
      have := length_flat (f := fun i => (List.range C).map (E i)) (size := C) (fun _ => by simp) (List.range len0)
      simpa using this
    have hspot : 0 < ((List.range len0).flatMap fun i => (List.range C).map (E i)).length → a.spot = none := by
      intro hp
      rw [hlen] at hp
      have h1 : 0 < len0 := Nat.pos_of_ne_zero (fun h => by subst h; simp at hp)
      have h2 : 0 < C := Nat.pos_of_ne_zero (fun h => by rw [h] at hp; simp at hp)
      have := (hE 0 h1).1 0 h2
      simpa [Addr.add] using World.cell?_spot this
    refine ⟨len0, some a, m, a.block, a.off, E, rfl, ⟨hlen, hl, hm, fun hp => ?_, fun hp => ?_, fun j u hu => ?_⟩, fun i hi => (hE i hi).2⟩
    · have := hspot hp
      cases a
      simp only at this
      subst this
      rfl
    · rw [hlen] at hp
      have h1 : 0 < len0 := Nat.pos_of_ne_zero (fun h => by subst h; simp at hp)
      have h2 : 0 < C := Nat.pos_of_ne_zero (fun h => by rw [h] at hp; simp at hp)
      have := World.block_lt_of_cell? W _ ((hE 0 h1).1 0 h2)
      simpa [Addr.add] using this
    · have hj : j < len0 * C := by rw [← hlen]; exact (List.getElem?_eq_some_iff.1 hu).1
      have hp : 0 < C := Nat.pos_of_ne_zero (fun h => by rw [h] at hj; simp at hj)
      have hq : j / C < len0 := Nat.div_lt_of_lt_mul (by rw [Nat.mul_comm]; exact hj)
      have hr : j % C < C := Nat.mod_lt _ hp
      have e1 : j = j / C * C + j % C := by rw [Nat.mul_comm]; exact (Nat.div_add_mod j C).symm
      have h1 := cell_of (f := fun i => (List.range C).map (E i)) (size := C) (fun _ => by simp) (List.range len0) (j / C) (j / C) (by simp [hq]) (j % C) hr
      rw [← e1, hu] at h1
      have h2 : ((List.range C).map (E (j / C)))[j % C]? = some (E (j / C) (j % C)) := by simp [hr]
      rw [h2] at h1
      obtain rfl := Option.some.inj h1
      have h3 := (hE _ hq).1 _ hr
      rw [← e1] at h3
      have hsp := hspot (by rw [hlen]; omega)
      obtain ⟨ab, aoff, aspot⟩ := a
      simp only at hsp
      subst hsp
      rw [Addr.add_lit] at h3
      exact h3
end Go.Um
namespace Go.Proofs.Ytjmanajbdkbkdaa
open Go.RowKit Go.Um Go.ChangeShapes Go.WideShapes Go.ChangeAt Go.Deep
structure Ac where
  wh : Int
  cl : Int
  id : Int
  f : Int
  ob : Int
  ke : Int
  a : Int
  b : Int
  k : Int
  v : Int
  t : Int
def Ac.cells (x : Ac) : List Value := [.int .u8 x.wh, .int .u8 x.cl, .int .u16 x.id, .int .u8 x.f, .int .u8 x.ob, .int .u8 x.ke, .int .u16 x.a, .int .u16 x.b, .int .u8 x.k, .int .u16 x.v, .int .i64 x.t]
theorem Ac.eleven (x : Ac) : x.cells.length = 11 := rfl
structure Ac.ok (x : Ac) : Prop where
  wh : in8 x.wh
  t : -9223372036854775808 ≤ x.t ∧ x.t ≤ 9223372036854775807
theorem in64_of {n : Int} (h : (Lit.int .i64 n).wf = true) : -9223372036854775808 ≤ n ∧ n ≤ 9223372036854775807 := by
  simpa [Lit.wf, IntKind.min, IntKind.max, IntKind.signed, IntKind.bits] using h
theorem trod_act {H : Type} {enc : TypeId × Value → H} {W : World} {fuel : Nat} {cs : List Value} {y : DataW H × List MemPlace} (h : DataW.trod enc Try.prog W 0 (fun _ => true) true fuel 33 cs = some y) : ∃ x : Ac, cs = x.cells ∧ x.ok := by
  obtain ⟨xs, n, _, hx, hcl, hlen, hg⟩ := DataW.trod_struct Try.underlying33 h
  have hC : Try.prog.cellsOf 33 = 11 := by kernel_rfl
  match cs, hcl.trans hC, xs, hlen with
  | [c0, c1, c2, c3, c4, c5, c6, c7, c8, c9, c10], _, [y0, y1, y2, y3, y4, y5], _ =>
    have h0 := hg 0 _ rfl
    have h1 := hg 1 _ rfl
    have h2 := hg 2 _ rfl
    have h3 := hg 3 _ rfl
    have h4 := hg 4 _ rfl
    have h5 := hg 5 _ rfl
    have gg1 : DataW.trod enc Try.prog W 0 (fun _ => true) true n 5 [c0] = some y0 := (h0).trans rfl
    obtain ⟨n0, q0, _, w0⟩ := DataW.trod_int Try.underlying5 gg1
    have gg2 : DataW.trod enc Try.prog W 0 (fun _ => true) true n 5 [c1] = some y1 := (h1).trans rfl
    obtain ⟨n1, q1, _, w1⟩ := DataW.trod_int Try.underlying5 gg2
    have gg3 : DataW.trod enc Try.prog W 0 (fun _ => true) true n 27 [c2] = some y2 := (h2).trans rfl
    obtain ⟨n2, q2, _, w2⟩ := DataW.trod_int Try.underlying27 gg3
    have gg4 : DataW.trod enc Try.prog W 0 (fun _ => true) true n 29 [c3, c4, c5, c6, c7] = some y3 := (h3).trans rfl
    obtain ⟨xs3, m3, _, _, _, hl3, hg3⟩ := DataW.trod_struct Try.underlying29 gg4
    have gg5 : DataW.trod enc Try.prog W 0 (fun _ => true) true n 31 [c8, c9] = some y4 := (h4).trans rfl
    obtain ⟨xs4, m4, _, _, _, hl4, hg4⟩ := DataW.trod_struct Try.underlying31 gg5
    match xs3, hl3, xs4, hl4 with
    | [z0, z1, z2, z3, z4], _, [u0, u1], _ =>
    have gg6 : DataW.trod enc Try.prog W 0 (fun _ => true) true m3 5 [c3] = some z0 := (hg3 0 _ rfl).trans rfl
    obtain ⟨n3, q3, _, w3⟩ := DataW.trod_int Try.underlying5 gg6
    have gg7 : DataW.trod enc Try.prog W 0 (fun _ => true) true m3 5 [c4] = some z1 := (hg3 1 _ rfl).trans rfl
    obtain ⟨n4, q4, _, w4⟩ := DataW.trod_int Try.underlying5 gg7
    have gg8 : DataW.trod enc Try.prog W 0 (fun _ => true) true m3 5 [c5] = some z2 := (hg3 2 _ rfl).trans rfl
    obtain ⟨n5, q5, _, w5⟩ := DataW.trod_int Try.underlying5 gg8
    have gg9 : DataW.trod enc Try.prog W 0 (fun _ => true) true m3 27 [c6] = some z3 := (hg3 3 _ rfl).trans rfl
    obtain ⟨n6, q6, _, w6⟩ := DataW.trod_int Try.underlying27 gg9
    have gg10 : DataW.trod enc Try.prog W 0 (fun _ => true) true m3 27 [c7] = some z4 := (hg3 4 _ rfl).trans rfl
    obtain ⟨n7, q7, _, w7⟩ := DataW.trod_int Try.underlying27 gg10
    have gg11 : DataW.trod enc Try.prog W 0 (fun _ => true) true m4 5 [c8] = some u0 := (hg4 0 _ rfl).trans rfl
    obtain ⟨n8, q8, _, w8⟩ := DataW.trod_int Try.underlying5 gg11
    have gg12 : DataW.trod enc Try.prog W 0 (fun _ => true) true m4 27 [c9] = some u1 := (hg4 1 _ rfl).trans rfl
    obtain ⟨n9, q9, _, w9⟩ := DataW.trod_int Try.underlying27 gg12
    have gg13 : DataW.trod enc Try.prog W 0 (fun _ => true) true n 3 [c10] = some y5 := (h5).trans rfl
    obtain ⟨n10, q10, _, w10⟩ := DataW.trod_int Try.underlying3 gg13
    simp only [List.cons.injEq, and_true] at q0 q1 q2 q3 q4 q5 q6 q7 q8 q9 q10
    subst q0 q1 q2 q3 q4 q5 q6 q7 q8 q9 q10
    exact ⟨⟨n0, n1, n2, n3, n4, n5, n6, n7, n8, n9, n10⟩, rfl, in8_of w0, in64_of w10⟩
theorem open_acts {H : Type} {enc : TypeId × Value → H} {W : World} {r : Reach} {b0 : Nat} {v : Value} {d : DataW H} {p : List MemPlace}
    (hv : Value.okWide Try.prog W r b0 22 v) (h : DataW.Trod enc Try.prog W 0 (fun _ => true) true 22 v d p) :
    ∃ (l : List Ac) (ao : Option Addr) (cap b o : Nat), v = .slice ao l.length cap ∧ SlAt W 11 l.length (l.flatMap Ac.cells) ao cap b o ∧ ∀ x ∈ l, x.ok := by
  obtain ⟨n, ao, cap, b, o, E, rfl, hsl, hE⟩ := open_elems Try.underlying22 (C := 11) (by kernel_rfl) hv h
  have each : ∀ i, i < n → ∃ x : Ac, (List.range 11).map (E i) = x.cells ∧ x.ok := fun i hi => by
    obtain ⟨m, y, g⟩ := hE i hi
    exact trod_act g
  have each' : ∃ X : Nat → Ac, ∀ i, i < n → (List.range 11).map (E i) = (X i).cells ∧ (X i).ok := by
    classical
    refine ⟨fun i => if hi : i < n then Classical.choose (each i hi) else ⟨0, 0, 0, 0, 0, 0, 0, 0, 0, 0, 0⟩, fun i hi => ?_⟩
    simp only [dif_pos hi]
    exact Classical.choose_spec (each i hi)
  obtain ⟨X, hX⟩ := each'
  refine ⟨(List.range n).map X, ao, cap, b, o, by simp, ?_, ?_⟩
  · have he : ((List.range n).map X).flatMap Ac.cells = (List.range n).flatMap fun i => (List.range 11).map (E i) := by
      rw [List.flatMap_map]
      refine flatMap_congr_range fun i hi => ?_
      exact (hX i hi).1.symm
    rw [he, List.length_map, List.length_range]
    exact hsl
  · intro x hx
    obtain ⟨i, hi, rfl⟩ := List.mem_map.1 hx
    exact (hX i (List.mem_range.1 hi)).2
/-- a number's two lowest bits -/
theorem and3 (n : Int) : 0 ≤ bits .and .i64 n 3 ∧ bits .and .i64 n 3 ≤ 3 := by
  have h : (BitVec.ofInt 64 n &&& BitVec.ofInt 64 3).toNat ≤ 3 := by
    rw [BitVec.toNat_and]
    have : (BitVec.ofInt 64 3).toNat = 3 := by decide
    rw [this]
    exact Nat.and_le_right
  have e : bits .and .i64 n 3 = IntKind.i64.wrap ((BitVec.ofInt 64 n &&& BitVec.ofInt 64 3).toNat : Int) := rfl
  rw [e, IntWalk.i64_in _ (by omega)]
  omega
end Go.Proofs.Ytjmanajbdkbkdaa
