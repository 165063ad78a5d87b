/- Lemmas on worlds, maps and slices that the walks of this seat share; no program in sight. -/
import Derived.WalkKit
import Derived.WalkLawsBesides
import Derived.MapKept
import Derived.Lib.Hide
namespace Go.Um
open Go.RowKit Go.MapKept

/-! ### a map with integer keys that is written out -/

theorem run_mapUpdate_new {P : Program} {t kt et : TypeId} {q : IntKind} (ht : P.underlying t = some (.map kt et)) (hk : P.underlying kt = some (.int q)) (es : Array MapEntry) (clock : Nat) (n : Int) (v : Value)
    (hn : Instr.findNow (.int q) (.int q n) es.toList 0 = some none) (w : World) (r : Nat) (hr : r = w.heap.size) :
    (Instr.mapUpdate t (.map (some r)) (.int q n) v).run P (w.alloc (.map es clock)) = .ok () (w.alloc (.map (es.push { key := .int q n, val := v, born := clock }) (clock + 1))) := by
  subst hr
  have hb : (w.alloc (.map es clock)).heap[w.heap.size]? = some (.map es clock) := heap_alloc_new w _
  have hkey : IsKey (.int q) (.int q n) := by simp [IsKey]
  simp only [Instr.mapUpdate, Sem.run_bind, run_underlying ht, MapKept.run_getObj_map hb, MapKept.run_checkKey hk hkey, MapKept.run_findKey hk hn, MapKept.run_setObj_map _ hb, Result.andThen]
  have he : (w.alloc (.map es clock)).heap.setIfInBounds w.heap.size (Obj.map (es.push { key := Value.int q n, val := v, born := clock }) (clock + 1)) = w.heap.push (Obj.map (es.push { key := Value.int q n, val := v, born := clock }) (clock + 1)) := by
    show (w.heap.push _).setIfInBounds w.heap.size _ = _
    apply Array.ext_getElem?
    intro i
    rw [Array.getElem?_setIfInBounds, Array.getElem?_push, Array.getElem?_push]
    by_cases h : w.heap.size = i
    · subst h; simp
    · rw [if_neg h, if_neg (fun e => h e.symm), if_neg (fun e => h e.symm)]
  rw [he]; rfl

theorem run_lookup_hit {P : Program} {t kt et : TypeId} {q : IntKind} (ht : P.underlying t = some (.map kt et)) (hk : P.underlying kt = some (.int q)) (es : Array MapEntry) (clock : Nat) (n : Int) (v : Value) (i : Nat)
    (hn : Instr.findNow (.int q) (.int q n) es.toList 0 = some (some (i, v))) (w : World) (r : Nat) (hb : w.heap[r]? = some (.map es clock)) :
    (Instr.lookup t (.map (some r)) (.int q n) true).run P w = .ok (.tuple #[v, .bool true]) w := by
  have hkey : IsKey (.int q) (.int q n) := by simp [IsKey]
  simp [Instr.lookup, run_underlying ht, MapKept.run_getObj_map hb, MapKept.run_checkKey hk hkey, MapKept.run_findKey hk hn, Result.andThen]

theorem run_lookup_miss {P : Program} {t kt et : TypeId} {q : IntKind} (ht : P.underlying t = some (.map kt et)) (hk : P.underlying kt = some (.int q)) (z : Value) (hz : ∀ w, (zeroValue et).run P w = .ok z w) (es : Array MapEntry) (clock : Nat) (n : Int)
    (hn : Instr.findNow (.int q) (.int q n) es.toList 0 = some none) (w : World) (r : Nat) (hb : w.heap[r]? = some (.map es clock)) :
    (Instr.lookup t (.map (some r)) (.int q n) true).run P w = .ok (.tuple #[z, .bool false]) w := by
  have hkey : IsKey (.int q) (.int q n) := by simp [IsKey]
  simp [Instr.lookup, run_underlying ht, MapKept.run_getObj_map hb, MapKept.run_checkKey hk hkey, MapKept.run_findKey hk hn, hz, Result.andThen]

/-! ### what stays behind a callee -/

theorem bt {a b c : World} (h1 : Below a.heap.size a b) (h2 : Below b.heap.size b c) : Below a.heap.size a c := h1.trans (h2.mono h1.size)
theorem ba {a w : World} (h : Below a.heap.size a w) (o : Obj) : Below a.heap.size a (w.alloc o) := h.alloc h.size o
theorem bs {a w : World} (h : Below a.heap.size a w) {p : Addr} (hp : a.heap.size ≤ p.block) (u : Value) : Below a.heap.size a (w.setCell p u) := h.setCell hp u
theorem bz (w : World) : Below w.heap.size w w := Below.refl _ _
theorem kc {W w1 : World} (hb : Below W.heap.size W w1) (b o : Nat) (v : Value) (h : W.cell? ⟨b, o, none⟩ = some v) : w1.cell? ⟨b, o, none⟩ = some v := by
  rw [hb.cell (p := ⟨b, o, none⟩) (World.block_lt_of_cell? W _ h)]; exact h
theorem kf {W w1 : World} (hb : Below W.heap.size W w1) (b o : Nat) (hlt : b < W.heap.size) (h : W.frozen? ⟨b, o, none⟩ = false) : w1.frozen? ⟨b, o, none⟩ = false := by
  rw [hb.frozen (p := ⟨b, o, none⟩) hlt]; exact h

/-! ### what a callee may turn: the blocks that S names, and new ones -/

structure Kept (S : Nat → Prop) (w w' : World) : Prop where
  os : w'.os = w.os
  tape : w'.tape = w.tape
  output : w'.output = w.output
  size : w.heap.size ≤ w'.heap.size
  block : ∀ k, k < w.heap.size → ¬ S k → w'.heap[k]? = w.heap[k]?

theorem Kept.refl (S : Nat → Prop) (w : World) : Kept S w w := ⟨rfl, rfl, rfl, Nat.le_refl _, fun _ _ _ => rfl⟩
theorem Kept.trans {S S' : Nat → Prop} {a b c : World} (h : Kept S a b) (k : Kept S' b c) (hS : ∀ i, i < a.heap.size → S' i → S i) : Kept S a c :=
  ⟨k.os.trans h.os, k.tape.trans h.tape, k.output.trans h.output, Nat.le_trans h.size k.size, fun i hi hn => (k.block i (Nat.lt_of_lt_of_le hi h.size) (fun h' => hn (hS i hi h'))).trans (h.block i hi hn)⟩
theorem Kept.mono {S S' : Nat → Prop} {a b : World} (h : Kept S a b) (hS : ∀ i, i < a.heap.size → S i → S' i) : Kept S' a b :=
  ⟨h.os, h.tape, h.output, h.size, fun i hi hn => h.block i hi (fun h' => hn (hS i hi h'))⟩
theorem Kept.drew {S : Nat → Prop} {a w : World} (h : Kept S a w) : Kept S a w.drew := ⟨h.os, h.tape, h.output, h.size, h.block⟩
theorem Kept.drewN {S : Nat → Prop} {a w : World} (h : Kept S a w) (n : Nat) : Kept S a (w.drewN n) := ⟨h.os, h.tape, h.output, h.size, h.block⟩
theorem Kept.alloc {S : Nat → Prop} {a w : World} (h : Kept S a w) (o : Obj) : Kept S a (w.alloc o) :=
  h.trans (S' := fun _ => False) ⟨rfl, rfl, rfl, by simp, fun k hk _ => Below.heap_alloc _ _ _ hk⟩ (fun _ _ h => h.elim)
theorem Kept.setCell {S : Nat → Prop} {a w : World} (h : Kept S a w) {p : Addr} (hp : p.block < a.heap.size → S p.block) (u : Value) : Kept S a (w.setCell p u) :=
  h.trans (S' := fun k => k = p.block) ⟨rfl, rfl, rfl, by simp [World.setCell], fun k _ hk => Below.heap_setCell _ _ _ _ hk⟩ (fun i hi e => by subst e; exact hp hi)
theorem Kept.grown {S : Nat → Prop} {a w w' : World} {row : Option Nat} (h : Kept S a w) (hg : w.grownBy w' row) (hr : ∀ k, row = some k → k < a.heap.size → S k) : Kept S a w' :=
  h.trans (S' := fun k => row = some k) ⟨hg.os, hg.tape, hg.output, hg.size, fun k hk hn => hg.block k hk (fun e => hn e.symm)⟩ (fun i hi e => hr i e hi)
theorem Kept.cell {S : Nat → Prop} {w w' : World} (h : Kept S w w') {b o : Nat} {v : Value} (hc : w.cell? ⟨b, o, none⟩ = some v) (hn : ¬ S b) : w'.cell? ⟨b, o, none⟩ = some v :=
  (World.cell?_of_block (w := w) (a := ⟨b, o, none⟩) (h.block b (World.block_lt_of_cell? w _ hc) hn)).trans hc
theorem Kept.frozen {S : Nat → Prop} {w w' : World} (h : Kept S w w') {b o : Nat} (hlt : b < w.heap.size) (hn : ¬ S b) : w'.frozen? ⟨b, o, none⟩ = w.frozen? ⟨b, o, none⟩ :=
  World.frozen?_of_block (w := w) (a := ⟨b, o, none⟩) (h.block b hlt hn)
theorem Kept.of_below {B : Nat} {w w' : World} (h : Below B w w') : Kept (fun k => B ≤ k) w w' := ⟨h.os, h.tape, h.output, h.size, fun k _ hn => h.block k (by omega)⟩
theorem Kept.below {S : Nat → Prop} {B : Nat} {w w' : World} (h : Kept S w w') (hS : ∀ k, k < B → k < w.heap.size → ¬ S k) (hB : B ≤ w.heap.size) : Below B w w' :=
  ⟨h.os, h.tape, h.output, h.size, fun k hk => h.block k (by omega) (hS k hk (by omega))⟩

/-! ### slices that are read: n elements of `size` cells each, cs: all cells -/

structure SlAt (w : World) (size n : Nat) (cs : List Value) (ao : Option Addr) (cap b o : Nat) : Prop where
  len : cs.length = n * size
  le : n ≤ cap
  max : cap ≤ maxLen
  addr : 0 < cs.length → ao = some ⟨b, o, none⟩
  lt : 0 < cs.length → b < w.heap.size
  cell : ∀ j u, cs[j]? = some u → w.cell? ⟨b, o + j, none⟩ = some u

theorem SlAt.below {w w' : World} {size n cap b o : Nat} {cs : List Value} {ao : Option Addr} (h : SlAt w size n cs ao cap b o) (hb : Below w.heap.size w w') : SlAt w' size n cs ao cap b o :=
  ⟨h.len, h.le, h.max, h.addr, fun hp => Nat.lt_of_lt_of_le (h.lt hp) hb.size, fun j u hu => by
    have hp : 0 < cs.length := by have := (List.getElem?_eq_some_iff.1 hu).1; omega
    rw [hb.cell (p := ⟨b, o + j, none⟩) (h.lt hp)]; exact h.cell j u hu⟩

theorem SlAt.below' {B : Nat} {w w' : World} {size n cap b o : Nat} {cs : List Value} {ao : Option Addr} (h : SlAt w size n cs ao cap b o) (hb : Below B w w') (hB : 0 < cs.length → b < B) : SlAt w' size n cs ao cap b o :=
  ⟨h.len, h.le, h.max, h.addr, fun hp => Nat.lt_of_lt_of_le (h.lt hp) hb.size, fun j u hu => by
    have hp : 0 < cs.length := by have := (List.getElem?_eq_some_iff.1 hu).1; omega
    rw [hb.cell (p := ⟨b, o + j, none⟩) (hB hp)]; exact h.cell j u hu⟩

/-- a row that was just laid -/
theorem SlAt.new (w : World) (t : TypeId) (size n : Nat) (cs : List Value) (g : Nat) (hg : g = w.heap.size) (hn : cs.length = n * size) (hm : n ≤ maxLen) : SlAt (w.alloc (.cells cs.toArray t)) size n cs (some ⟨g, 0, none⟩) n g 0 :=
  ⟨hn, Nat.le_refl _, hm, fun _ => rfl, fun _ => by subst hg; simp, fun j u hu => by subst hg; rw [Nat.zero_add, World.cell?_alloc_new]; simpa using hu⟩

/-- the address of element i, WITHOUT an equation on the slice's own address (the walk would write it into the frame) -/
theorem SlAt.idx {P : Program} {t e : TypeId} {w0 : World} {size n cap b o : Nat} {cs : List Value} {ao : Option Addr} (h : SlAt w0 size n cs ao cap b o) (ht : P.underlying t = some (.slice e)) (hs : (P.info? e).map (·.size) = some size) (hp : 0 < size) :
    ∀ (i : Int), 0 ≤ i → i < n → ∀ w, (Instr.indexAt t (.slice ao n cap) (.int .i64 i)).run P w = .ok (.pointer (some ⟨b, o + i.toNat * size, none⟩)) w := by
  intro i h0 h1 w
  have hn : 0 < n := by omega
  rw [h.addr (by rw [h.len]; exact Nat.mul_pos hn hp)]
  obtain ⟨ti, hi, hti⟩ := Option.map_eq_some_iff.1 hs
  have he : P.elem t = e := by simp [Program.elem, ht]
  rw [run_indexAt_slice (h := by rw [he]; exact ht), if_pos ⟨h0, h1⟩, he]
  simp [sizeOf, typeInfo, hi, hti, Result.andThen, Addr.add_lit]

/-- what the call owns reads -/
theorem SlAt.owned {w : World} {base size n : Nat} {e : TypeId} {v : Value} {xs : List Value} (h : w.ownsRow base e size v n xs) :
    ∃ ao cap b o, v = .slice ao n cap ∧ SlAt w size n xs ao cap b o ∧ (0 < xs.length → base ≤ b) := by
  obtain ⟨hl, h⟩ := h
  rcases h with ⟨rfl, rfl⟩ | ⟨g, cap, cur, rfl, hb, hg, hn, hm, hs, ht⟩
  · have hx : xs = [] := List.eq_nil_of_length_eq_zero (by simpa using hl)
    subst hx
    exact ⟨none, 0, 0, 0, rfl, ⟨hl, Nat.le_refl _, Nat.zero_le _, fun h => absurd h (by simp), fun h => absurd h (by simp), fun j u hu => by simp at hu⟩, fun h => absurd h (by simp)⟩
  · refine ⟨some ⟨g, 0, none⟩, cap, g, 0, rfl, ⟨hl, hn, hm, fun _ => rfl, fun _ => (Array.getElem?_eq_some_iff.1 hg).1, fun j u hu => ?_⟩, fun _ => hb⟩
    rw [← ht, List.getElem?_take] at hu
    split at hu
    · simp only [World.cell?, hg, Nat.zero_add]
      simpa using hu
    · cases hu

/-- the cells of a block that was just laid -/
theorem new_cells (w : World) (t : TypeId) (cs : List Value) (n : Nat) (hn : n = w.heap.size) : ∀ j u, cs[j]? = some u → (w.alloc (.cells cs.toArray t)).cell? ((⟨n, 0, none⟩ : Addr).add j) = some u := by
  intro j u hu
  subst hn
  rw [Addr.add_lit, Nat.zero_add, World.cell?_alloc_new]
  simpa using hu

theorem grown_of_below {W w1 : World} (hb : Below W.heap.size W w1) (row : Option Nat) : W.grownBy w1 row :=
  ⟨hb.os, hb.tape, hb.output, hb.size, fun k hk _ => hb.block k hk⟩

/-- what the call owns stays owned behind a callee -/
theorem own_past {W w1 : World} {base size n : Nat} {e : TypeId} {v : Value} {xs : List Value} (h : W.ownsRow base e size v n xs) (hb : Below W.heap.size W w1) : w1.ownsRow base e size v n xs :=
  h.kept (grown_of_below hb none) (by cases hv : v.ownBlock <;> simp)

theorem own_setCell {w : World} {base size n : Nat} {e : TypeId} {v : Value} {xs : List Value} (h : w.ownsRow base e size v n xs) {a : Addr} (ha : v.ownBlock ≠ some a.block) (u : Value) : (w.setCell a u).ownsRow base e size v n xs := by
  obtain ⟨h1, h2⟩ := h
  refine ⟨h1, ?_⟩
  rcases h2 with h2 | ⟨g, cap, cur, rfl, hg, hh, r⟩
  · exact Or.inl h2
  · exact Or.inr ⟨g, cap, cur, rfl, hg, by rw [Below.heap_setCell _ _ _ _ (fun e => ha (by simp [Value.ownBlock, e]))]; exact hh, r⟩

theorem own_base {w : World} {base base' size n : Nat} {e : TypeId} {v : Value} {xs : List Value} (h : w.ownsRow base e size v n xs) (hb : base' ≤ base) : w.ownsRow base' e size v n xs := by
  obtain ⟨h1, h2⟩ := h
  refine ⟨h1, ?_⟩
  rcases h2 with h2 | ⟨g, cap, cur, hv, hg, r⟩
  · exact Or.inl h2
  · exact Or.inr ⟨g, cap, cur, hv, by omega, r⟩

theorem below_own {B : Nat} {a w w' : World} {base size n : Nat} {e : TypeId} {v : Value} {xs : List Value} (h : Below B a w) (hown : w.ownsRow base e size v n xs) (hg : w.grownBy w' v.ownBlock) (hB : B ≤ base) (hs : B ≤ w.heap.size) : Below B a w' :=
  h.grown hg hs (fun k hk => Nat.le_trans hB (hown.lt k hk).1)

/-- element k of a list of elements of one size, as cells -/
theorem cell_of {α : Type} {f : α → List Value} {size : Nat} (hf : ∀ x, (f x).length = size) (l : List α) (k : Nat) (x : α) (hk : l[k]? = some x) (j : Nat) (hj : j < size) :
    (l.flatMap f)[k * size + j]? = (f x)[j]? := by
  induction l generalizing k with
  | nil => simp at hk
  | cons y l ih =>
    rw [List.flatMap_cons]
    cases k with
    | zero =>
      simp only [List.getElem?_cons_zero, Option.some.injEq] at hk
      subst hk
      rw [Nat.zero_mul, Nat.zero_add, List.getElem?_append_left (by rw [hf]; exact hj)]
    | succ k =>
      have e : (k + 1) * size + j = (f y).length + (k * size + j) := by rw [hf, Nat.add_mul]; omega
      rw [e, List.getElem?_append_right (by omega), Nat.add_sub_cancel_left]
      exact ih k (by simpa using hk)

theorem length_flat {α : Type} {f : α → List Value} {size : Nat} (hf : ∀ x, (f x).length = size) (l : List α) : (l.flatMap f).length = l.length * size := by
  induction l with
  | nil => simp
  | cons y l ih => rw [List.flatMap_cons, List.length_append, ih, hf, List.length_cons, Nat.add_mul]; omega

end Go.Um
