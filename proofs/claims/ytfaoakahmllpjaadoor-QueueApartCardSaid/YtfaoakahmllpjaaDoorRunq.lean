/- The queue's Run: what is known of a run, in plain Lean. -/
import Derived.Test.YtfaoakahmllpjaaDoorStep
namespace Go.Proofs.YtfaoakahmllpjaaDoor
open Go.RowKit Go.Um
set_option maxHeartbeats 1000000

/-- an answer -/
def resC (x : Int × Int) : List Value := [.int .u8 x.1, .int .u16 x.2]
theorem resC_two (x : Int × Int) : (resC x).length = 2 := rfl

/-- the state behind the first k operations -/
def stN (s : List Int) (l : List Op5) : Nat → List Int
  | 0 => s
  | k + 1 => match l[k]? with
    | some x => nxt (stN s l k) x
    | none => stN s l k
/-- the answers of the first k operations -/
def outN (s : List Int) (l : List Op5) : Nat → List (Int × Int)
  | 0 => []
  | k + 1 => match l[k]? with
    | some x => outN s l k ++ [ans (stN s l k) x]
    | none => outN s l k
def stopAt (l : List Op5) : Nat := (l.takeWhile good).length

theorem op_at {w : World} {l : List Op5} {ao : Option Addr} {n cap b o k : Nat} {x : Op5} (h : SlAt w 5 n (l.flatMap Op5.cells) ao cap b o) (hx : l[k]? = some x) :
    w.cell? ⟨b, o + k * 5, none⟩ = some (.int .u8 x.f) ∧ w.cell? ⟨b, o + k * 5 + 1, none⟩ = some (.int .u8 x.o) ∧ w.cell? ⟨b, o + k * 5 + 2, none⟩ = some (.int .u8 x.k) ∧
    w.cell? ⟨b, o + k * 5 + 3, none⟩ = some (.int .u16 x.a) ∧ w.cell? ⟨b, o + k * 5 + 4, none⟩ = some (.int .u16 x.b) := by
  have g := fun j (hj : j < 5) u (hu : x.cells[j]? = some u) => h.cell (k * 5 + j) u ((cell_of Op5.five l k x hx j hj).trans hu)
  exact ⟨g 0 (by omega) _ rfl, g 1 (by omega) _ rfl, g 2 (by omega) _ rfl, g 3 (by omega) _ rfl, g 4 (by omega) _ rfl⟩

theorem stopAt_le (l : List Op5) : stopAt l ≤ l.length := (List.takeWhile_sublist _).length_le
theorem stopAt_lt {l : List Op5} {k : Nat} {x : Op5} (hx : l[k]? = some x) (hk : k ≤ stopAt l) (hkn : good x = true) : k + 1 ≤ stopAt l := by
  unfold stopAt at *
  induction l generalizing k with
  | nil => simp at hx
  | cons y l ih =>
    by_cases hy : good y = true
    · rw [List.takeWhile_cons_of_pos hy] at hk ⊢
      cases k with
      | zero => simp
      | succ k => have := ih (k := k) (by simpa using hx) (by simpa using hk); simp only [List.length_cons]; omega
    · rw [List.takeWhile_cons_of_neg hy] at hk
      cases k with
      | zero => simp at hx; subst hx; exact absurd hkn hy
      | succ k => simp at hk
theorem stopAt_eq {l : List Op5} {k : Nat} {x : Op5} (hx : l[k]? = some x) (hk : k ≤ stopAt l) (hkn : good x = false) : stopAt l = k := by
  unfold stopAt at *
  induction l generalizing k with
  | nil => simp at hx
  | cons y l ih =>
    by_cases hy : good y = true
    · rw [List.takeWhile_cons_of_pos hy] at hk ⊢
      cases k with
      | zero => simp at hx; subst hx; rw [hy] at hkn; cases hkn
      | succ k => simp only [List.length_cons]; rw [ih (k := k) (by simpa using hx) (by simpa using hk)]
    · rw [List.takeWhile_cons_of_neg hy] at hk ⊢
      cases k with
      | zero => rfl
      | succ k => simp at hk

/-- the error of Run -/
def errAt (l : List Op5) : Int := if stopAt l = l.length then 0 else 10

theorem nxt_len (l : List Int) (x : Op5) : (nxt l x).length ≤ l.length + 1 := by
  unfold nxt
  split
  · split
    · simp
    · simp; omega
  · omega
theorem stN_len (s : List Int) (l : List Op5) (k : Nat) : (stN s l k).length ≤ s.length + k := by
  induction k with
  | zero => simp [stN]
  | succ k ih =>
    unfold stN
    split
    · have := nxt_len (stN s l k) ‹_›; omega
    · omega
theorem stN_succ {s : List Int} {l : List Op5} {k : Nat} {x : Op5} (h : l[k]? = some x) : stN s l (k + 1) = nxt (stN s l k) x := by simp [stN, h]
theorem outN_succ {s : List Int} {l : List Op5} {k : Nat} {x : Op5} (h : l[k]? = some x) : outN s l (k + 1) = outN s l k ++ [ans (stN s l k) x] := by simp [outN, h]
theorem nxt_bad {l : List Int} {x : Op5} (h : good x = false) : nxt l x = l := by simp [nxt, h]

theorem size25 : (Tryd.prog.info? 25).map (·.size) = some 5 := by kernel_rfl
theorem info31 : (Tryd.prog.info? 31).map (fun i => (i.zero, i.size, i.bytes)) = some (some (.agg #[.int .u8 0, .int .u16 0]), 2, 4) := by kernel_rfl

/-- what Run leaves -/
def RunPost (S : Nat → Prop) (s : List Int) (l : List Op5) (w : World) (e : Ending) (w' : World) : Prop :=
  ∃ v v', e = .returned (.tuple #[.agg #[v], v', .int .i64 (errAt l)]) ∧ Far (fun b => S b ∨ w.heap.size ≤ b) w' (stN s l (stopAt l)) v ∧
      w'.ownsRow w.heap.size 31 2 v' (stopAt l) ((outN s l (stopAt l)).flatMap resC) ∧ Below w.heap.size w w'
/-- what the document's Run leaves -/
def RRunPost (S : Nat → Prop) (s : List Int) (l : List Op5) (w : World) (e : Ending) (w' : World) : Prop :=
  ∃ v v', e = .returned (.tuple #[v, v', .int .i64 (errAt l)]) ∧ Far (fun b => S b ∨ w.heap.size ≤ b) w' (stN s l (stopAt l)) v ∧
      w'.ownsRow w.heap.size 31 2 v' (stopAt l) ((outN s l (stopAt l)).flatMap resC) ∧ Below w.heap.size w w'

/-- at the head of a round of the document's Run: the state lies apart from the answers -/
structure RInv (S : Nat → Prop) (w : World) (q : List Int) (n : Nat) (out : List Value) (t0 t7 : Value) (wr : World) : Prop where
  st : Far (fun b => (S b ∨ w.heap.size ≤ b) ∧ t7.ownBlock ≠ some b) wr q t0
  own : wr.ownsRow w.heap.size 31 2 t7 n out
  bel : Below w.heap.size w wr

theorem RInv.start {S : Nat → Prop} {w : World} {q : List Int} {v : Value} (h : Far S w q v) : RInv S w q 0 [] v (.slice none 0 0) w :=
  ⟨h.mono fun b _ hb => ⟨.inl hb, by simp [Value.ownBlock]⟩, World.ownsRow_nil _ _ _ _, bz w⟩
/-- an append to the answers -/
theorem RInv.put {S : Nat → Prop} {w w1 w2 : World} {q : List Int} {m : Nat} {out' : List Value} {t0 t7 v' : Value} (h0 : Far (fun b => (S b ∨ w.heap.size ≤ b) ∧ t7.ownBlock ≠ some b) w1 q t0)
    (hlt : ∀ g, t7.ownBlock = some g → w.heap.size ≤ g) (hb : Below w.heap.size w w1) (hg : w1.grownBy w2 t7.ownBlock) (hown : w2.ownsRow w.heap.size 31 2 v' m out') (hv : v'.ownBlock = t7.ownBlock ∨ ∀ g, v'.ownBlock = some g → w1.heap.size ≤ g) :
    RInv S w q m out' t0 v' w2 := by
  obtain ⟨ao, cap, b, o, rfl, hs, k⟩ := h0
  refine ⟨⟨ao, cap, b, o, rfl, ⟨hs.len, hs.le, hs.max, hs.addr, fun hp => Nat.lt_of_lt_of_le (hs.lt hp) hg.size, fun j u hu => ?_⟩, fun hp => ⟨(k hp).1, ?_⟩⟩, hown, hb.grown hg hb.size hlt⟩
  · have hp : 0 < (us q).length := by have := (List.getElem?_eq_some_iff.1 hu).1; omega
    exact hg.cell (hs.cell j u hu) (fun e => (k (by rw [us_len] at hp; omega)).2 e.symm)
  · rcases hv with hv | hv
    · rw [hv]; exact (k hp).2
    · intro e
      have h1 := hv _ e
      have h2 := hs.lt (by rw [us_len]; omega)
      omega
end Go.Proofs.YtfaoakahmllpjaaDoor
