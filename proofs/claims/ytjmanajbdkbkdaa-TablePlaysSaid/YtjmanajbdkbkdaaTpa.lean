/- TablePlays: both tables side by side. -/
import Derived.Test.YtjmanajbdkbkdaaTsm
import Derived.Test.YtjmanajbdkbkdaaTre
import Derived.Test.YtjmanajbdkbkdaaTcp
import Derived.Test.YtjmanajbdkbkdaaTrc
import Derived.Test.YtjmanajbdkbkdaaTwi
import Derived.Test.YtjmanajbdkbkdaaTz
namespace Go.Proofs.Ytjmanajbdkbkdaa
open Go.RowKit Go.Um
set_option linter.unusedSimpArgs false
set_option linter.unusedVariables false
set_option maxHeartbeats 4000000
set_option maxRecDepth 100000
theorem own_kept {S : Nat → Prop} {w w' : World} {base size n : Nat} {e : TypeId} {v : Value} {xs : List Value} (h : w.ownsRow base e size v n xs) (hK : Kept S w w') (hS : ∀ b, v.ownBlock = some b → ¬ S b) : w'.ownsRow base e size v n xs := by
  obtain ⟨h1, h2⟩ := h
  refine ⟨h1, ?_⟩
  rcases h2 with h2 | ⟨g, cap, cur, rfl, hg, hh, r⟩
  · exact Or.inl h2
  · exact Or.inr ⟨g, cap, cur, rfl, hg, (hK.block g (Array.getElem?_eq_some_iff.1 hh).1 (hS g rfl)).trans hh, r⟩
theorem TabAt.kept {S : Nat → Prop} {base : Nat} {w W : World} {p : Nat} {v : Value} {L : List Rw} {nx : Int} (h : TabAt base w p v L nx) (hK : Kept S w W) (hS : ∀ b, Own p v b → ¬ S b) : TabAt base W p v L nx :=
  ⟨hK.cell h.c0 (hS p (.inl rfl)), (hK.frozen h.lt (hS p (.inl rfl))).trans h.f0, hK.cell h.c1 (hS p (.inl rfl)), (hK.frozen h.lt (hS p (.inl rfl))).trans h.f1, hK.cell h.c2 (hS p (.inl rfl)), own_kept h.own hK (fun b hb => hS b (.inr hb)), h.ne⟩
theorem RTab.kept {S : Nat → Prop} {base : Nat} {w W : World} {p : Nat} {v : Value} {L : List Rw} {nx : Int} (h : RTab base w p v L nx) (hK : Kept S w W) (hS : ∀ b, Own p v b → ¬ S b) : RTab base W p v L nx :=
  ⟨hK.cell h.c0 (hS p (.inl rfl)), (hK.frozen h.lt (hS p (.inl rfl))).trans h.f0, hK.cell h.c1 (hS p (.inl rfl)), (hK.frozen h.lt (hS p (.inl rfl))).trans h.f1, own_kept h.own hK (fun b hb => hS b (.inr hb)), h.ne⟩
theorem TabAt.own_lt {base : Nat} {w : World} {p b : Nat} {v : Value} {L : List Rw} {nx : Int} (h : TabAt base w p v L nx) (ho : Own p v b) : b < w.heap.size := by
  rcases ho with rfl | ho
  · exact h.lt
  · exact (Go.Proofs.Ytjmanajbdkbkdaa.own_lt h.own ho).2
theorem RTab.own_lt {base : Nat} {w : World} {p b : Nat} {v : Value} {L : List Rw} {nx : Int} (h : RTab base w p v L nx) (ho : Own p v b) : b < w.heap.size := by
  rcases ho with rfl | ho
  · exact h.lt
  · exact (Go.Proofs.Ytjmanajbdkbkdaa.own_lt h.own ho).2
theorem TabAt.base {base base' : Nat} {w : World} {p : Nat} {v : Value} {L : List Rw} {nx : Int} (h : TabAt base w p v L nx) (hb : base' ≤ base) : TabAt base' w p v L nx :=
  ⟨h.c0, h.f0, h.c1, h.f1, h.c2, own_base h.own hb, h.ne⟩
theorem RTab.base {base base' : Nat} {w : World} {p : Nat} {v : Value} {L : List Rw} {nx : Int} (h : RTab base w p v L nx) (hb : base' ≤ base) : RTab base' w p v L nx :=
  ⟨h.c0, h.f0, h.c1, h.f1, own_base h.own hb, h.ne⟩
theorem ActC.kept {S : Nat → Prop} {w W : World} {b o : Nat} {x : Ac} (h : ActC w b o x) (hK : Kept S w W) (hS : ¬ S b) : ActC W b o x :=
  ⟨hK.cell h.c0 hS, hK.cell h.c1 hS, hK.cell h.c2 hS, hK.cell h.c3 hS, hK.cell h.c4 hS, hK.cell h.c5 hS, hK.cell h.c6 hS, hK.cell h.c7 hS, hK.cell h.c8 hS, hK.cell h.c9 hS, hK.cell h.c10 hS⟩
theorem Kept.below' {S : Nat → Prop} {w w' : World} (h : Below w.heap.size w w') : Kept S w w' := (Kept.of_below h).mono (fun i hi hk => absurd hk (by omega))
theorem Fr.own {w : World} {p b : Nat} {v v' : Value} (h : Fr w v v') (ho : Own p v' b) : Own p v b ∨ w.heap.size ≤ b := by
  rcases ho with rfl | ho
  · exact .inl (.inl rfl)
  · exact (h b ho).elim (fun e => .inl (.inr e)) .inr
/-- both tables, apart from one another and from X -/
structure PT (base : Nat) (w : World) (p q : Nat) (v u : Value) (L : List Rw) (nx : Int) (M : List Rw) (mx : Int) (X : Nat → Prop) : Prop where
  t : TabAt base w p v L nx
  r : RTab base w q u M mx
  ap : ∀ b, Own p v b → ¬ Own q u b
  xa : ∀ b, X b → ¬ Own p v b ∧ ¬ Own q u b
  xl : ∀ b, X b → b < w.heap.size
  pb : base ≤ p
  qb : base ≤ q
  wb : base ≤ w.heap.size
theorem PT.below {base : Nat} {w W : World} {p q : Nat} {v u : Value} {L M : List Rw} {nx mx : Int} {X : Nat → Prop} (h : PT base w p q v u L nx M mx X) (hb : Below w.heap.size w W) : PT base W p q v u L nx M mx X :=
  ⟨h.t.below hb, h.r.below hb, h.ap, h.xa, fun b hx => Nat.lt_of_lt_of_le (h.xl b hx) hb.size, h.pb, h.qb, Nat.le_trans h.wb hb.size⟩
theorem PT.lt {base : Nat} {w : World} {p q b : Nat} {v u : Value} {L M : List Rw} {nx mx : Int} {X : Nat → Prop} (h : PT base w p q v u L nx M mx X) (ho : Own p v b ∨ Own q u b) : b < w.heap.size :=
  ho.elim h.t.own_lt h.r.own_lt
theorem PT.ge {base : Nat} {w : World} {p q b : Nat} {v u : Value} {L M : List Rw} {nx mx : Int} {X : Nat → Prop} (h : PT base w p q v u L nx M mx X) (ho : Own p v b ∨ Own q u b) : base ≤ b := by
  rcases ho with (rfl | ho) | (rfl | ho)
  · exact h.pb
  · exact (own_lt h.t.own ho).1
  · exact h.qb
  · exact (own_lt h.r.own ho).1
/-- a new block is kept apart too -/
theorem PT.more {base : Nat} {w W : World} {p q pc : Nat} {v u : Value} {L M : List Rw} {nx mx : Int} {X : Nat → Prop} (h : PT base w p q v u L nx M mx X) (hb : Below w.heap.size w W) (h1 : w.heap.size ≤ pc) (h2 : pc < W.heap.size) : PT base W p q v u L nx M mx (fun b => X b ∨ b = pc) :=
  ⟨h.t.below hb, h.r.below hb, h.ap, fun b hx => hx.elim (h.xa b) (fun e => ⟨fun ho => by have := h.lt (.inl ho); omega, fun ho => by have := h.lt (.inr ho); omega⟩), fun b hx => hx.elim (fun k => Nat.lt_of_lt_of_le (h.xl b k) hb.size) (fun e => by omega), h.pb, h.qb, Nat.le_trans h.wb hb.size⟩
theorem PT.less {base : Nat} {w : World} {p q : Nat} {v u : Value} {L M : List Rw} {nx mx : Int} {X Y : Nat → Prop} (h : PT base w p q v u L nx M mx X) (hX : ∀ b, Y b → X b) : PT base w p q v u L nx M mx Y :=
  ⟨h.t, h.r, h.ap, fun b hb => h.xa b (hX b hb), fun b hb => h.xl b (hX b hb), h.pb, h.qb, h.wb⟩
def OwnB (p q : Nat) (v u : Value) (b : Nat) : Prop := Own p v b ∨ Own q u b
/-- what a call of the program's table leaves -/
def LPost (base : Nat) (p q : Nat) (v u : Value) (E : Int) (L' : List Rw) (nx' : Int) (M : List Rw) (mx : Int) (X : Nat → Prop) (w : World) (e : Ending) (w' : World) : Prop :=
  e = .returned (.int .i64 E) ∧ ∃ v', PT base w' p q v' u L' nx' M mx X ∧ Kept (OwnB p q v u) w w' ∧ Fr w v v'
theorem PT.left {base : Nat} {w w' : World} {p q : Nat} {v u : Value} {L M L' : List Rw} {nx mx nx' E : Int} {X : Nat → Prop} {e : Ending} (h : PT base w p q v u L nx M mx X) (ht : TPost base p v E L' nx' w e w') : LPost base p q v u E L' nx' M mx X w e w' := by
  obtain ⟨rfl, v', hT', hK, hF⟩ := ht
  have hf := hF.fr
  refine ⟨rfl, v', ⟨hT', h.r.kept hK (fun b hb ho => h.ap b ho hb), ?_, ?_, ?_, h.pb, h.qb, Nat.le_trans h.wb hK.size⟩, hK.mono (fun i _ ho => .inl ho), hf⟩
  · intro b hb hu
    rcases hf.own hb with ho | ho
    · exact h.ap b ho hu
    · have := h.lt (.inr hu); omega
  · intro b hb
    refine ⟨fun ho => ?_, (h.xa b hb).2⟩
    rcases hf.own ho with ho | ho
    · exact (h.xa b hb).1 ho
    · have := h.xl b hb; omega
  · exact fun b hb => Nat.lt_of_lt_of_le (h.xl b hb) hK.size
def MPost (base : Nat) (p q : Nat) (v u : Value) (E : Int) (L : List Rw) (nx : Int) (M' : List Rw) (mx' : Int) (X : Nat → Prop) (w : World) (e : Ending) (w' : World) : Prop :=
  e = .returned (.int .i64 E) ∧ ∃ u', PT base w' p q v u' L nx M' mx' X ∧ Kept (OwnB p q v u) w w' ∧ Fr w u u'
theorem PT.right {base : Nat} {w w' : World} {p q : Nat} {v u : Value} {L M M' : List Rw} {nx mx mx' E : Int} {X : Nat → Prop} {e : Ending} (h : PT base w p q v u L nx M mx X) (ht : RPost base q u E M' mx' w e w') : MPost base p q v u E L nx M' mx' X w e w' := by
  obtain ⟨rfl, u', hT', hK, hf⟩ := ht
  refine ⟨rfl, u', ⟨h.t.kept hK (fun b hb ho => h.ap b hb ho), hT', ?_, ?_, ?_, h.pb, h.qb, Nat.le_trans h.wb hK.size⟩, hK.mono (fun i _ ho => .inr ho), hf⟩
  · intro b hb hu
    rcases hf.own hu with ho | ho
    · exact h.ap b hb ho
    · have := h.lt (.inl hb); omega
  · intro b hb
    refine ⟨(h.xa b hb).1, fun ho => ?_⟩
    rcases hf.own ho with ho | ho
    · exact (h.xa b hb).2 ho
    · have := h.xl b hb; omega
  · exact fun b hb => Nat.lt_of_lt_of_le (h.xl b hb) hK.size
theorem RmPost.tpost {base p : Nat} {v : Value} {E : Int} {L' : List Rw} {nx : Int} {w : World} {e : Ending} {w' : World} (h : RmPost base p v E L' nx w e w') : TPost base p v E L' nx w e w' := by
  obtain ⟨h1, v', h2, h3, h4⟩ := h
  exact ⟨h1, v', h2, h3, .inl h4⟩
/-- what both calls leave -/
def OnePost (base : Nat) (p q : Nat) (v u : Value) (n : Nat) (X : Nat → Prop) (w : World) (e : Ending) (w' : World) : Prop :=
  e = .returned (.bool true) ∧ ∃ v' u' L' nx', PT base w' p q v' u' L' nx' L' nx' X ∧ 0 ≤ nx' ∧ L'.length ≤ n + 1 ∧ Kept (OwnB p q v u) w w'
theorem PT.done {base : Nat} {w w1 w2 w3 : World} {p q : Nat} {v u v' u' : Value} {L' : List Rw} {nx' : Int} {X : Nat → Prop} {n pc : Nat} (hT : PT base w3 p q v' u' L' nx' L' nx' (fun b => X b ∨ b = pc)) (h1 : Below w.heap.size w w1) (h2 : Kept (OwnB p q v u) w1 w2) (hf : Fr w1 v v') (h3 : Kept (OwnB p q v' u) w2 w3) (hnx : 0 ≤ nx') (hlen : L'.length ≤ n + 1) : OnePost base p q v u n X w (.returned (.bool true)) w3 := by
  refine ⟨rfl, v', u', L', nx', hT.less (fun b hb => .inl hb), hnx, hlen, ?_⟩
  have hk := (Kept.below' (S := OwnB p q v u) h1).trans h2 (fun i _ h => h)
  refine hk.trans h3 (fun i hi ho => ?_)
  rcases ho with ho | ho
  · rcases hf.own ho with ho | ho
    · exact .inl ho
    · have := h1.size; omega
  · exact .inr ho
end Go.Proofs.Ytjmanajbdkbkdaa
