/- Arguments opened, and a law's post: no program in sight. -/
import Derived.Test.YtjmanajbdkbkdaaGen
import Derived.ProofKit
import Derived.OpenShut
import Derived.Lib.SmallJoins
import Derived.Deep.Slices
import Derived.Deep.Fields
import Derived.ChangeSame
import Derived.Carry
namespace Go.Um
open Go.RowKit Go.ChangeShapes Go.WideShapes Go.ChangeAt Go.Deep

/-- an operation (api.Op) -/
structure Op5 where
  f : Int
  o : Int
  k : Int
  a : Int
  b : Int
def Op5.cells (x : Op5) : List Value := [.int .u8 x.f, .int .u8 x.o, .int .u8 x.k, .int .u16 x.a, .int .u16 x.b]
theorem Op5.five (x : Op5) : x.cells.length = 5 := rfl
def in8 (n : Int) : Prop := 0 ≤ n ∧ n ≤ 255
def in16 (n : Int) : Prop := 0 ≤ n ∧ n ≤ 65535
structure Op5.ok (x : Op5) : Prop where
  f : in8 x.f
  o : in8 x.o
  k : in8 x.k
  a : in16 x.a
  b : in16 x.b

theorem in8_of {n : Int} (h : (Lit.int .u8 n).wf = true) : in8 n := by
  simpa [in8, Lit.wf, IntKind.min, IntKind.max, IntKind.signed, IntKind.bits] using h
theorem in16_of {n : Int} (h : (Lit.int .u16 n).wf = true) : in16 n := by
  simpa [in16, Lit.wf, IntKind.min, IntKind.max, IntKind.signed, IntKind.bits] using h

section
variable {H : Type} {enc : TypeId × Value → H} {P : Program} {W : World}

/-- a law's post: it answered true, and nothing that was there has turned -/
theorem trodAll_stays (hl : laidOutB P = true) {W' : World} (hb : Below W.heap.size W W') : ∀ (ts : List TypeId) (vs : List Value) (ds : List (DataW H)) (ps : List MemPlace), (∀ t ∈ ts, P.readableRec t = true ∧ t < P.types.size) →
    DataW.TrodAll enc P W 0 (fun _ => true) true ts vs ds ps → (∀ x ∈ ps, x.block < W.heap.size) → DataW.TrodAll enc P W' 0 (fun b => decide (b < W.heap.size)) true ts vs ds ps
  | [], vs, ds, ps, _, h, _ => by
    obtain ⟨rfl, rfl, rfl⟩ := trodAll_nil h
    exact trodAll_mk0
  | t :: ts, vs, ds, ps, hr, h, hlt => by
    obtain ⟨v, vs', d, ds', p, q, rfl, rfl, rfl, h1, h2⟩ := trodAll_cons h
    exact trodAll_cons_mk (Below.trod hl (hr t (by simp)).1 (hr t (by simp)).2 h1 hb (fun x hx => hlt x (List.mem_append_left _ hx)))
      (trodAll_stays hl hb ts vs' ds' q (fun t ht => hr t (by simp [ht])) h2 (fun x hx => hlt x (List.mem_append_right _ hx)))

theorem law_post {f : Func} {s : ChangeSpec} {T : TypeId} {W' : World} {args : Array Value} {ds gs : List (DataW H)} {before : List MemPlace} (hl : laidOutB P = true)
    (hread : (f.params.toList.all fun t => P.readableRec t && decide (t < P.types.size)) = true) (hT : f.resultTypes = #[T]) (hbool : P.underlying T = some .bool) (hv : s.vars = [])
    (hs : s.fn H (ds ++ gs) = { results := [.lit (.bool true)], args := ds }) (hW : DataW.Whole enc P f.params.toList s.vars false W args.toList ds gs before) (hbel : Below W.heap.size W W') :
    s.post enc P f false true false false W args (.bool true) W' := by
  have hlt := hW.lt
  have hW' := hW
  obtain ⟨p, q, hA, hV, rfl, hfz, hnd⟩ := hW
  refine ⟨ds, gs, p ++ q, [], p, [], hW', ?_, ?_, ?_, hbel.frame _, fun h => by cases h⟩
  · rw [hs, hT]
    exact trodAll_mk1 (shut_bool hbool true)
  · rw [hs]
    refine trodAll_stays hl hbel _ _ _ _ (fun t ht => ?_) hA (fun x hx => hlt x (List.mem_append_left _ hx))
    have := List.all_eq_true.1 hread t ht
    simpa using this
  · rw [hs, hv]
    rfl

/-- a slice of structs of one-cell fields, opened -/
theorem open_structs {t e : TypeId} {fs : Array Field} {r : Reach} {b0 : Nat} {v : Value} {d : DataW H} {p : List MemPlace} (ht : P.underlying t = some (.slice e)) (he : P.underlying e = some (.struct fs))
    (hone : oneCellFields P fs = true) (hC : P.cellsOf e = fs.size) (hv : Value.okWide P W r b0 t v) (h : DataW.Trod enc P W 0 (fun _ => true) true t v d p) :
    ∃ (n : Nat) (ao : Option Addr) (cap b o : Nat) (E : Nat → Nat → Value), v = .slice ao n cap ∧ SlAt W fs.size n ((List.range n).flatMap fun i => (List.range fs.size).map (E i)) ao cap b o ∧
      ∀ i, i < n → ∀ (j : Nat) (f : Field), fs[j]? = some f → ∃ m y, DataW.trod enc P W 0 (fun _ => true) true m f.type [E i j] = some y := by
  obtain ⟨a0, len0, cap0, rfl⟩ := okWide_slice ht hv
  obtain ⟨fuel, hf⟩ := h
  rcases open_slice ht hf with ⟨hcs, _⟩ | ⟨a, len, cap, m, k, D, Pl, hcs, hb, hl, hm, hmm, hx, hi⟩
  · simp [Value.cells] at hcs
    obtain ⟨rfl, rfl, rfl⟩ := hcs
    exact ⟨0, none, 0, 0, 0, fun _ _ => .bool false, rfl, ⟨by simp, Nat.le_refl _, Nat.zero_le _, fun h => by simp at h, fun h => by simp at h, fun j u hu => by simp at hu⟩, fun i hi => absurd hi (Nat.not_lt_zero _)⟩
  · simp [Value.cells] at hcs
    obtain ⟨rfl, rfl, rfl⟩ := hcs
    simp only [if_true] at hmm
    subst hmm
    have each : ∀ i, i < len0 → ∃ F : Nat → Value, (∀ j, j < fs.size → W.cell? (a.add (i * fs.size + j)) = some (F j)) ∧ ∀ (j : Nat) (f : Field), fs[j]? = some f → ∃ m y, DataW.trod enc P W 0 (fun _ => true) true m f.type [F j] = some y := by
      intro i hilt
      obtain ⟨cs', hc, htr⟩ := hi i (by omega)
      rw [hC] at hc
      obtain ⟨ys, n', hn', hy, hlen, hyl, hfl⟩ := DataW.trod_struct he htr
      obtain ⟨_, hcl, hat⟩ := World.cells?_some hc
      refine ⟨fun j => cs'.getD j (.bool false), fun j hj => ?_, fun j f hj => ?_⟩
      · have := hat j hj
        rw [Go.Deep.add_add] at this
        rw [this]
        show _ = some (cs'.getD j (.bool false))
        rw [List.getD_eq_getElem?_getD, List.getElem?_eq_getElem (by omega)]
        rfl
      · obtain ⟨ho, hk⟩ := hone_of hone j f hj
        have hjl : j < fs.size := (Array.getElem?_eq_some_iff.1 hj).1
        have h1 := hfl j f hj
        rw [ho, hk] at h1
        have hone' : (cs'.drop j).take 1 = [cs'.getD j (.bool false)] := by
          rw [List.drop_eq_getElem_cons (by omega), List.getD_eq_getElem?_getD, List.getElem?_eq_getElem (by omega)]
          rfl
        rw [hone'] at h1
        exact ⟨n', ys[j]'(by omega), h1.trans (List.getElem?_eq_getElem (by omega))⟩
    have each' : ∃ E : Nat → Nat → Value, ∀ i, i < len0 → (∀ j, j < fs.size → W.cell? (a.add (i * fs.size + j)) = some (E i j)) ∧ ∀ (j : Nat) (f : Field), fs[j]? = some f → ∃ m y, DataW.trod enc P W 0 (fun _ => true) true m f.type [E i j] = some y := by
      classical
      refine ⟨fun i => if hi : i < len0 then Classical.choose (each i hi) else fun _ => .bool false, fun i hi => ?_⟩
      simp only [dif_pos hi]
      exact Classical.choose_spec (each i hi)
    obtain ⟨E, hE⟩ := each'
    have hlen : ((List.range len0).flatMap fun i => (List.range fs.size).map (E i)).length = len0 * fs.size := by
      have := length_flat (f := fun i => (List.range fs.size).map (E i)) (size := fs.size) (fun _ => by simp) (List.range len0)
      simpa using this
    have hspot : 0 < ((List.range len0).flatMap fun i => (List.range fs.size).map (E i)).length → a.spot = none := by
      intro hp
      rw [hlen] at hp
      have h1 : 0 < len0 := Nat.pos_of_ne_zero (fun h => by subst h; simp at hp)
      have h2 : 0 < fs.size := Nat.pos_of_ne_zero (fun h => by rw [h] at hp; simp at hp)
      have := (hE 0 h1).1 0 h2
      simpa [Addr.add] using World.cell?_spot this
    refine ⟨len0, some a, m, a.block, a.off, E, rfl, ⟨hlen, hl, hm, fun hp => ?_, fun hp => ?_, fun j u hu => ?_⟩, fun i hi => (hE i hi).2⟩
    · have := hspot hp
      cases a
      simp only at this
      subst this
      rfl
    · rw [hlen] at hp
      have h1 : 0 < len0 := Nat.pos_of_ne_zero (fun h => by subst h; simp at hp)
      have h2 : 0 < fs.size := Nat.pos_of_ne_zero (fun h => by rw [h] at hp; simp at hp)
      have := World.block_lt_of_cell? W _ ((hE 0 h1).1 0 h2)
      simpa [Addr.add] using this
    · have hj : j < len0 * fs.size := by rw [← hlen]; exact (List.getElem?_eq_some_iff.1 hu).1
      have hp : 0 < fs.size := Nat.pos_of_ne_zero (fun h => by rw [h] at hj; simp at hj)
      have hq : j / fs.size < len0 := Nat.div_lt_of_lt_mul (by rw [Nat.mul_comm]; exact hj)
      have hr : j % fs.size < fs.size := Nat.mod_lt _ hp
      have e1 : j = j / fs.size * fs.size + j % fs.size := by rw [Nat.mul_comm]; exact (Nat.div_add_mod j fs.size).symm
      have h1 := cell_of (f := fun i => (List.range fs.size).map (E i)) (size := fs.size) (fun _ => by simp) (List.range len0) (j / fs.size) (j / fs.size) (by simp [hq]) (j % fs.size) hr
      rw [← e1, hu] at h1
      have h2 : ((List.range fs.size).map (E (j / fs.size)))[j % fs.size]? = some (E (j / fs.size) (j % fs.size)) := by simp [hr]
      rw [h2] at h1
      obtain rfl := Option.some.inj h1
      have h3 := (hE _ hq).1 _ hr
      rw [← e1] at h3
      have hsp := hspot (by rw [hlen]; omega)
      obtain ⟨ab, aoff, aspot⟩ := a
      simp only at hsp
      subst hsp
      rw [Addr.add_lit] at h3
      exact h3

/-- an operation by value -/
theorem open_op {r : Reach} {b0 : Nat} {t t0 t1 t2 t3 t4 : TypeId} {s0 s1 s2 s3 s4 : Field} {v : Value} {d : DataW H} {p : List MemPlace} (hs : P.underlying t = some (.struct #[s0, s1, s2, s3, s4])) (hone : oneCellFields P #[s0, s1, s2, s3, s4] = true) (hC : P.cellsOf t = 5)
    (e0 : s0.type = t0) (e1 : s1.type = t1) (e2 : s2.type = t2) (e3 : s3.type = t3) (e4 : s4.type = t4)
    (u0 : P.underlying t0 = some (.int .u8)) (u1 : P.underlying t1 = some (.int .u8)) (u2 : P.underlying t2 = some (.int .u8)) (u3 : P.underlying t3 = some (.int .u16)) (u4 : P.underlying t4 = some (.int .u16))
    (hv : Value.okWide P W r b0 t v) (h : DataW.Trod enc P W 0 (fun _ => true) true t v d p) : ∃ x : Op5, v = .agg x.cells.toArray ∧ x.ok := by
  obtain ⟨cs, rfl, hsz⟩ := okWide_struct hs hv
  obtain ⟨l⟩ := cs
  subst e0 e1 e2 e3 e4
  match l, hsz.trans hC with
  | [c0, c1, c2, c3, c4], _ =>
    obtain ⟨fuel, hf⟩ := h
    obtain ⟨xs, n, _, hx, _, hlen, hg⟩ := DataW.trod_struct hs hf
    obtain ⟨o0, k0⟩ := hone_of hone 0 s0 rfl
    obtain ⟨o1, k1⟩ := hone_of hone 1 s1 rfl
    obtain ⟨o2, k2⟩ := hone_of hone 2 s2 rfl
    obtain ⟨o3, k3⟩ := hone_of hone 3 s3 rfl
    obtain ⟨o4, k4⟩ := hone_of hone 4 s4 rfl
    match xs, hlen with
    | [y0, y1, y2, y3, y4], _ =>
      have g0 : DataW.trod enc P W 0 (fun _ => true) true n s0.type [c0] = some y0 := by simpa [Value.cells, o0, k0] using hg 0 s0 rfl
      have g1 : DataW.trod enc P W 0 (fun _ => true) true n s1.type [c1] = some y1 := by simpa [Value.cells, o1, k1] using hg 1 s1 rfl
      have g2 : DataW.trod enc P W 0 (fun _ => true) true n s2.type [c2] = some y2 := by simpa [Value.cells, o2, k2] using hg 2 s2 rfl
      have g3 : DataW.trod enc P W 0 (fun _ => true) true n s3.type [c3] = some y3 := by simpa [Value.cells, o3, k3] using hg 3 s3 rfl
      have g4 : DataW.trod enc P W 0 (fun _ => true) true n s4.type [c4] = some y4 := by simpa [Value.cells, o4, k4] using hg 4 s4 rfl
      obtain ⟨n0, q0, _, w0⟩ := DataW.trod_int u0 g0
      obtain ⟨n1, q1, _, w1⟩ := DataW.trod_int u1 g1
      obtain ⟨n2, q2, _, w2⟩ := DataW.trod_int u2 g2
      obtain ⟨n3, q3, _, w3⟩ := DataW.trod_int u3 g3
      obtain ⟨n4, q4, _, w4⟩ := DataW.trod_int u4 g4
      simp only [List.cons.injEq, and_true] at q0 q1 q2 q3 q4
      subst q0 q1 q2 q3 q4
      exact ⟨⟨n0, n1, n2, n3, n4⟩, rfl, in8_of w0, in8_of w1, in8_of w2, in16_of w3, in16_of w4⟩

/-- an operation among other cells -/
theorem trod_op {t t0 t1 t2 t3 t4 : TypeId} {s0 s1 s2 s3 s4 : Field} {fuel : Nat} {cs : List Value} {y : DataW H × List MemPlace} (hs : P.underlying t = some (.struct #[s0, s1, s2, s3, s4])) (hone : oneCellFields P #[s0, s1, s2, s3, s4] = true) (hC : P.cellsOf t = 5)
    (e0 : s0.type = t0) (e1 : s1.type = t1) (e2 : s2.type = t2) (e3 : s3.type = t3) (e4 : s4.type = t4)
    (u0 : P.underlying t0 = some (.int .u8)) (u1 : P.underlying t1 = some (.int .u8)) (u2 : P.underlying t2 = some (.int .u8)) (u3 : P.underlying t3 = some (.int .u16)) (u4 : P.underlying t4 = some (.int .u16))
    (h : DataW.trod enc P W 0 (fun _ => true) true fuel t cs = some y) : ∃ x : Op5, cs = x.cells ∧ x.ok := by
  subst e0 e1 e2 e3 e4
  obtain ⟨xs, n, _, hx, hcl, hlen, hg⟩ := DataW.trod_struct hs h
  obtain ⟨o0, k0⟩ := hone_of hone 0 s0 rfl
  obtain ⟨o1, k1⟩ := hone_of hone 1 s1 rfl
  obtain ⟨o2, k2⟩ := hone_of hone 2 s2 rfl
  obtain ⟨o3, k3⟩ := hone_of hone 3 s3 rfl
  obtain ⟨o4, k4⟩ := hone_of hone 4 s4 rfl
  match cs, hcl.trans hC, xs, hlen with
  | [c0, c1, c2, c3, c4], _, [y0, y1, y2, y3, y4], _ =>
    have g0 : DataW.trod enc P W 0 (fun _ => true) true n s0.type [c0] = some y0 := by simpa [o0, k0] using hg 0 s0 rfl
    have g1 : DataW.trod enc P W 0 (fun _ => true) true n s1.type [c1] = some y1 := by simpa [o1, k1] using hg 1 s1 rfl
    have g2 : DataW.trod enc P W 0 (fun _ => true) true n s2.type [c2] = some y2 := by simpa [o2, k2] using hg 2 s2 rfl
    have g3 : DataW.trod enc P W 0 (fun _ => true) true n s3.type [c3] = some y3 := by simpa [o3, k3] using hg 3 s3 rfl
    have g4 : DataW.trod enc P W 0 (fun _ => true) true n s4.type [c4] = some y4 := by simpa [o4, k4] using hg 4 s4 rfl
    obtain ⟨n0, q0, _, w0⟩ := DataW.trod_int u0 g0
    obtain ⟨n1, q1, _, w1⟩ := DataW.trod_int u1 g1
    obtain ⟨n2, q2, _, w2⟩ := DataW.trod_int u2 g2
    obtain ⟨n3, q3, _, w3⟩ := DataW.trod_int u3 g3
    obtain ⟨n4, q4, _, w4⟩ := DataW.trod_int u4 g4
    simp only [List.cons.injEq, and_true] at q0 q1 q2 q3 q4
    subst q0 q1 q2 q3 q4
    exact ⟨⟨n0, n1, n2, n3, n4⟩, rfl, in8_of w0, in8_of w1, in8_of w2, in16_of w3, in16_of w4⟩

/-- a slice of operations -/
theorem open_ops {r : Reach} {b0 : Nat} {t e t0 t1 t2 t3 t4 : TypeId} {s0 s1 s2 s3 s4 : Field} {v : Value} {d : DataW H} {p : List MemPlace} (ht : P.underlying t = some (.slice e)) (hs : P.underlying e = some (.struct #[s0, s1, s2, s3, s4])) (hone : oneCellFields P #[s0, s1, s2, s3, s4] = true) (hC : P.cellsOf e = 5)
    (e0 : s0.type = t0) (e1 : s1.type = t1) (e2 : s2.type = t2) (e3 : s3.type = t3) (e4 : s4.type = t4)
    (u0 : P.underlying t0 = some (.int .u8)) (u1 : P.underlying t1 = some (.int .u8)) (u2 : P.underlying t2 = some (.int .u8)) (u3 : P.underlying t3 = some (.int .u16)) (u4 : P.underlying t4 = some (.int .u16))
    (hv : Value.okWide P W r b0 t v) (h : DataW.Trod enc P W 0 (fun _ => true) true t v d p) :
    ∃ (l : List Op5) (ao : Option Addr) (cap b o : Nat), v = .slice ao l.length cap ∧ SlAt W 5 l.length (l.flatMap Op5.cells) ao cap b o ∧ ∀ x ∈ l, x.ok := by
  obtain ⟨n, ao, cap, b, o, E, rfl, hsl, hE⟩ := open_structs ht hs hone hC hv h
  subst e0 e1 e2 e3 e4
  have each : ∀ i, i < n → (E i 0 = .int .u8 (intOf (E i 0)) ∧ E i 1 = .int .u8 (intOf (E i 1)) ∧ E i 2 = .int .u8 (intOf (E i 2)) ∧ E i 3 = .int .u16 (intOf (E i 3)) ∧ E i 4 = .int .u16 (intOf (E i 4))) ∧
      in8 (intOf (E i 0)) ∧ in8 (intOf (E i 1)) ∧ in8 (intOf (E i 2)) ∧ in16 (intOf (E i 3)) ∧ in16 (intOf (E i 4)) := by
    intro i hi
    obtain ⟨m0, y0, g0⟩ := hE i hi 0 s0 rfl
    obtain ⟨m1, y1, g1⟩ := hE i hi 1 s1 rfl
    obtain ⟨m2, y2, g2⟩ := hE i hi 2 s2 rfl
    obtain ⟨m3, y3, g3⟩ := hE i hi 3 s3 rfl
    obtain ⟨m4, y4, g4⟩ := hE i hi 4 s4 rfl
    obtain ⟨n0, q0, _, w0⟩ := DataW.trod_int u0 g0
    obtain ⟨n1, q1, _, w1⟩ := DataW.trod_int u1 g1
    obtain ⟨n2, q2, _, w2⟩ := DataW.trod_int u2 g2
    obtain ⟨n3, q3, _, w3⟩ := DataW.trod_int u3 g3
    obtain ⟨n4, q4, _, w4⟩ := DataW.trod_int u4 g4
    simp only [List.cons.injEq, and_true] at q0 q1 q2 q3 q4
    rw [q0, q1, q2, q3, q4]
    exact ⟨⟨rfl, rfl, rfl, rfl, rfl⟩, in8_of w0, in8_of w1, in8_of w2, in16_of w3, in16_of w4⟩
  refine ⟨(List.range n).map fun i => ⟨intOf (E i 0), intOf (E i 1), intOf (E i 2), intOf (E i 3), intOf (E i 4)⟩, ao, cap, b, o, by simp, ?_, ?_⟩
  · have he : ((List.range n).map fun i => (⟨intOf (E i 0), intOf (E i 1), intOf (E i 2), intOf (E i 3), intOf (E i 4)⟩ : Op5)).flatMap Op5.cells = (List.range n).flatMap fun i => (List.range 5).map (E i) := by
      rw [List.flatMap_map]
      refine flatMap_congr_range fun i hi => ?_
      obtain ⟨⟨q0, q1, q2, q3, q4⟩, _⟩ := each i hi
      show _ = [E i 0, E i 1, E i 2, E i 3, E i 4]
      simp only [Op5.cells]
      rw [← q0, ← q1, ← q2, ← q3, ← q4]
    rw [he]
    simpa using hsl
  · intro x hx
    obtain ⟨i, hi, rfl⟩ := List.mem_map.1 hx
    obtain ⟨_, h0, h1, h2, h3, h4⟩ := each i (List.mem_range.1 hi)
    exact ⟨h0, h1, h2, h3, h4⟩
end
end Go.Um
