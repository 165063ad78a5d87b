/- What is taken out comes in the order in which it was put in: the plain law. -/
import Derived.Test.YtfaoakahmllpjaaDoorLawRuns
namespace Go.Proofs.YtfaoakahmllpjaaDoor
open Go.RowKit Go.Um

/-- what is put in -/
def putIn (l : List Op5) : List Int := (l.filter fun x => x.f == 4).map Op5.a
/-- what is taken out -/
def outs (l : List (Int × Int)) : List Int := (l.filter fun r => r.1 == 1).map Prod.snd
theorem putIn_snoc (l : List Op5) (x : Op5) : putIn (l ++ [x]) = putIn l ++ if x.f = 4 then [x.a] else [] := by
  unfold putIn
  rw [List.filter_append, List.map_append]
  by_cases h : x.f = 4 <;> simp [h]
theorem outs_snoc (l : List (Int × Int)) (r : Int × Int) : outs (l ++ [r]) = outs l ++ if r.1 = 1 then [r.2] else [] := by
  unfold outs
  rw [List.filter_append, List.map_append]
  by_cases h : r.1 = 1 <;> simp [h]
theorem all_good {l : List Op5} (h : ∀ x ∈ l, good x = true) : stopAt l = l.length := by
  unfold stopAt
  induction l with
  | nil => rfl
  | cons y l ih => rw [List.takeWhile_cons_of_pos (h y List.mem_cons_self), List.length_cons, ih (fun x hx => h x (List.mem_cons_of_mem _ hx)), List.length_cons]
/-- the three ways of a good operation -/
theorem good_ways {q : List Int} {x : Op5} (h : good x = true) :
    (x.f = 4 ∧ ans q x = (0, 0) ∧ nxt q x = q ++ [x.a]) ∨ (x.f = 5 ∧ q = [] ∧ ans q x = (2, 0) ∧ nxt q x = []) ∨ (∃ y r, x.f = 5 ∧ q = y :: r ∧ ans q x = (1, y) ∧ nxt q x = r) := by
  rcases good_f h with h4 | h5
  · left; exact ⟨h4, by simp [ans, h, h4], by simp [nxt, h, h4]⟩
  · right
    cases q with
    | nil => left; exact ⟨h5, rfl, by simp [ans, h, h5], by simp [nxt, h, h5]⟩
    | cons y r => right; exact ⟨y, r, h5, rfl, by simp [ans, h, h5], by simp [nxt, h, h5]⟩
theorem order_inv (s : List Int) (l : List Op5) (hg : ∀ x ∈ l, good x = true) : ∀ k, k ≤ l.length → outs (outN s l k) ++ stN s l k = s ++ putIn (l.take k) := by
  intro k
  induction k with
  | zero => intro _; simp [outN, stN, outs, putIn]
  | succ k ih =>
    intro hk
    have hx : l[k]? = some l[k] := List.getElem?_eq_getElem (by omega)
    rw [outN_succ hx, stN_succ hx, List.take_add_one, hx, outs_snoc]
    show _ = s ++ putIn (l.take k ++ [l[k]])
    rw [putIn_snoc, ← List.append_assoc, ← ih (by omega)]
    rcases good_ways (q := stN s l k) (hg l[k] (List.getElem_mem _)) with ⟨h4, ha, hn⟩ | ⟨h5, hq, ha, hn⟩ | ⟨y, r, h5, hq, ha, hn⟩
    · rw [ha, hn, if_pos h4]; simp
    · have h4 : ¬ l[k].f = 4 := by omega
      rw [ha, hn, hq, if_neg h4]; simp
    · have h4 : ¬ l[k].f = 4 := by omega
      rw [ha, hn, hq, if_neg h4]; simp
theorem order_end (s : List Int) (l : List Op5) (hg : ∀ x ∈ l, good x = true) : outs (outN s l l.length) ++ stN s l l.length = s ++ putIn l := by
  have := order_inv s l hg l.length (Nat.le_refl _)
  rwa [List.take_length] at this
/-- the operations that are the queue's -/
def goods (l : List Op5) : List Op5 := l.filter good
theorem goods_good (l : List Op5) : ∀ x ∈ goods l, good x = true := fun x hx => (List.mem_filter.1 hx).2
theorem goods_snoc {l : List Op5} {k : Nat} {x : Op5} (h : l[k]? = some x) : goods (l.take (k + 1)) = goods (l.take k) ++ if good x then [x] else [] := by
  unfold goods
  rw [List.take_add_one, h]
  cases hg : good x <;> simp [List.filter_append, hg]
theorem goods_le (l : List Op5) : (goods l).length ≤ l.length := List.length_filter_le _ _
theorem putIn_le (l : List Op5) : (putIn l).length ≤ l.length := by unfold putIn; rw [List.length_map]; exact List.length_filter_le _ _

theorem outs_le (s : List Int) (l : List Op5) (k : Nat) (hk : k ≤ l.length) : (outs (outN s l k)).length ≤ k := by
  have h := outN_len s l k hk
  unfold outs
  rw [List.length_map]
  exact Nat.le_trans (List.length_filter_le _ _) (by omega)
theorem outN_take (s : List Int) (l : List Op5) (k : Nat) : ∀ n, n ≤ l.length → (outN s l n)[k]? = if k < n then (l[k]?).map (ans (stN s l k)) else none := by
  intro n
  induction n with
  | zero => intro _; simp [outN]
  | succ n ih =>
    intro hn
    have hx : l[n]? = some l[n] := List.getElem?_eq_getElem (by omega)
    have hl := outN_len s l n (by omega)
    rw [outN_succ hx]
    by_cases hk : k < n
    · rw [List.getElem?_append_left (by omega), ih (by omega), if_pos hk, if_pos (by omega)]
    · by_cases hkn : k = n
      · subst hkn
        rw [List.getElem?_append_right (by omega), hl, Nat.sub_self, if_pos (by omega), hx]; rfl
      · rw [if_neg (by omega), List.getElem?_eq_none]; simp; omega
theorem outN_get {s : List Int} {l : List Op5} {k : Nat} {x : Op5} (h : l[k]? = some x) : (outN s l l.length)[k]? = some (ans (stN s l k) x) := by
  rw [outN_take s l k l.length (Nat.le_refl _), if_pos (List.getElem?_eq_some_iff.1 h).1, h]; rfl

/-! ### two rows that one loop makes -/
structure Two (w : World) (A : List Op5) (B : List Int) (t5 t6 : Value) (wr : World) : Prop where
  o5 : wr.ownsRow w.heap.size 25 5 t5 A.length (A.flatMap Op5.cells)
  o6 : wr.ownsRow w.heap.size 23 1 t6 B.length (us B)
  ap : t5.ownBlock = none ∨ t5.ownBlock ≠ t6.ownBlock
  bel : Below w.heap.size w wr
theorem Two.past {w wr w1 : World} {A : List Op5} {B : List Int} {t5 t6 : Value} (h : Two w A B t5 t6 wr) (hb : Below wr.heap.size wr w1) : Two w A B t5 t6 w1 :=
  ⟨own_past h.o5 hb, own_past h.o6 hb, h.ap, h.bel.trans (hb.mono h.bel.size)⟩
theorem Two.put5 {w wr w2 : World} {A : List Op5} {B : List Int} {t5 t6 : Value} {x : Op5} {g cap H : Nat} (h : Two w A B t5 t6 wr) (hg : wr.grownBy w2 t5.ownBlock)
    (ho : w2.ownsRow w.heap.size 25 5 (.slice (some ⟨g, 0, none⟩) (A.length + 1) cap) (A.length + 1) (A.flatMap Op5.cells ++ x.cells)) (hH : H = wr.heap.size) (hat : t5.ownBlock = some g ∨ g = H) :
    Two w (A ++ [x]) B (.slice (some ⟨g, 0, none⟩) (A.length + 1) cap) t6 w2 := by
  refine ⟨by simpa using ho, h.o6.kept hg ?_, .inr ?_, below_own h.bel h.o5 hg (Nat.le_refl _) h.bel.size⟩
  · rcases h.ap with e | e
    · rw [e]
      cases t6.ownBlock <;> simp
    · exact .inr (fun e' => e e'.symm)
  · intro e
    have hl := h.o6.lt g e.symm
    rcases hat with e' | e'
    · rcases h.ap with e2 | e2
      · rw [e2] at e'; cases e'
      · exact e2 (e'.trans e)
    · omega
theorem Two.put6 {w wr w2 : World} {A : List Op5} {B : List Int} {t5 t6 : Value} {y : Int} {g cap H : Nat} (h : Two w A B t5 t6 wr) (hg : wr.grownBy w2 t6.ownBlock)
    (ho : w2.ownsRow w.heap.size 23 1 (.slice (some ⟨g, 0, none⟩) (B.length + 1) cap) (B.length + 1) (us B ++ [.int .u16 y])) (hH : H = wr.heap.size) (hat : t6.ownBlock = some g ∨ g = H) :
    Two w A (B ++ [y]) t5 (.slice (some ⟨g, 0, none⟩) (B.length + 1) cap) w2 := by
  refine ⟨h.o5.kept hg h.ap, by simpa [us] using ho, ?_, below_own h.bel h.o6 hg (Nat.le_refl _) h.bel.size⟩
  rcases hat with e' | e'
  · rcases h.ap with e2 | e2
    · exact .inl e2
    · exact .inr (fun e => e2 (e.trans e'.symm))
  · right
    intro e
    have hl := h.o5.lt g e
    omega
end Go.Proofs.YtfaoakahmllpjaaDoor
