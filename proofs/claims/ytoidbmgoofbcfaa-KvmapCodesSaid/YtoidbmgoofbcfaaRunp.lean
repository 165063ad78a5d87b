/- The states and the answers behind operations. -/
import Derived.Test.YtoidbmgoofbcfaaKv
namespace Go.Proofs.Ytoidbmgoofbcfaa
open Go.RowKit Go.Um
set_option linter.unusedSimpArgs false
set_option linter.unusedVariables false

/-- an answer -/
def resC (x : Int × Int) : List Value := [.int .u8 x.1, .int .u16 x.2]
theorem resC_two (x : Int × Int) : (resC x).length = 2 := rfl
/-- the state behind the first k operations -/
def stN (s : KV) (l : List Op5) : Nat → KV
  | 0 => s
  | k + 1 => match l[k]? with
    | some x => (stp (stN s l k) x).1
    | none => stN s l k
/-- the answers of the first k operations -/
def outN (s : KV) (l : List Op5) : Nat → List (Int × Int)
  | 0 => []
  | k + 1 => match l[k]? with
    | some x => outN s l k ++ [(stp (stN s l k) x).2.1]
    | none => outN s l k
def known (x : Op5) : Bool := !decide (8 ≤ x.k) && (x.f == 6 || x.f == 7 || x.f == 8 || x.f == 9)
def stopAt (l : List Op5) : Nat := (l.takeWhile known).length
theorem stN_succ {s : KV} {l : List Op5} {k : Nat} {x : Op5} (h : l[k]? = some x) : stN s l (k + 1) = (stp (stN s l k) x).1 := by simp [stN, h]
theorem outN_succ {s : KV} {l : List Op5} {k : Nat} {x : Op5} (h : l[k]? = some x) : outN s l (k + 1) = outN s l k ++ [(stp (stN s l k) x).2.1] := by simp [outN, h]
theorem op_at {w : World} {l : List Op5} {ao : Option Addr} {n cap b o k : Nat} {x : Op5} (h : SlAt w 5 n (l.flatMap Op5.cells) ao cap b o) (hx : l[k]? = some x) :
    w.cell? ⟨b, o + k * 5, none⟩ = some (.int .u8 x.f) ∧ w.cell? ⟨b, o + k * 5 + 1, none⟩ = some (.int .u8 x.o) ∧ w.cell? ⟨b, o + k * 5 + 2, none⟩ = some (.int .u8 x.k) ∧
    w.cell? ⟨b, o + k * 5 + 3, none⟩ = some (.int .u16 x.a) ∧ w.cell? ⟨b, o + k * 5 + 4, none⟩ = some (.int .u16 x.b) := by
  have g := fun j (hj : j < 5) u (hu : x.cells[j]? = some u) => h.cell (k * 5 + j) u ((cell_of Op5.five l k x hx j hj).trans hu)
  exact ⟨g 0 (by omega) _ rfl, g 1 (by omega) _ rfl, g 2 (by omega) _ rfl, g 3 (by omega) _ rfl, g 4 (by omega) _ rfl⟩

theorem stopAt_le (l : List Op5) : stopAt l ≤ l.length := (List.takeWhile_sublist _).length_le
theorem stopAt_lt {l : List Op5} {k : Nat} {x : Op5} (hx : l[k]? = some x) (hk : k ≤ stopAt l) (hkn : known x = true) : k + 1 ≤ stopAt l := by
  unfold stopAt at *
  induction l generalizing k with
  | nil => simp at hx
  | cons y l ih =>
    by_cases hy : known y = true
    · rw [List.takeWhile_cons_of_pos hy] at hk ⊢
      cases k with
      | zero => simp
      | succ k => have := ih (k := k) (by simpa using hx) (by simpa using hk); simp only [List.length_cons]; omega
    · rw [List.takeWhile_cons_of_neg hy] at hk
      cases k with
      | zero => simp at hx; subst hx; exact absurd hkn hy
      | succ k => simp at hk
theorem stopAt_eq {l : List Op5} {k : Nat} {x : Op5} (hx : l[k]? = some x) (hk : k ≤ stopAt l) (hkn : known x = false) : stopAt l = k := by
  unfold stopAt at *
  induction l generalizing k with
  | nil => simp at hx
  | cons y l ih =>
    by_cases hy : known y = true
    · rw [List.takeWhile_cons_of_pos hy] at hk ⊢
      cases k with
      | zero => simp at hx; subst hx; rw [hy] at hkn; cases hkn
      | succ k => simp only [List.length_cons]; rw [ih (k := k) (by simpa using hx) (by simpa using hk)]
    · rw [List.takeWhile_cons_of_neg hy] at hk ⊢
      cases k with
      | zero => rfl
      | succ k => simp at hk

theorem known_err {s : KV} {x : Op5} (h : known x = true) : (stp s x).2.2 = 0 := by
  simp only [known, Bool.and_eq_true, Bool.not_eq_true', decide_eq_false_iff_not, Bool.or_eq_true, beq_iff_eq] at h
  obtain ⟨hk, h⟩ := h
  unfold stp
  rw [if_neg hk]
  rcases h with ((h | h) | h) | h
  · simp [h]
  · simp [h]
  · simp [h]
  · simp [h]; split <;> rfl
theorem foreign {s : KV} {x : Op5} (h : known x = false) : stp s x = (s, (0, 0), 10) := by
  unfold stp
  by_cases hk : 8 ≤ x.k
  · simp [hk]
  · simp only [known, hk, decide_false, Bool.not_false, Bool.true_and, Bool.or_eq_false_iff, beq_eq_false_iff_ne] at h
    simp [hk, h.1.1.1, h.1.1.2, h.1.2, h.2]
/-- the error of Run -/
def errAt (l : List Op5) : Int := if stopAt l = l.length then 0 else 10
theorem stN_ok {s : KV} {l : List Op5} (hs : s.ok) (hl : ∀ x ∈ l, x.ok) : ∀ k, (stN s l k).ok
  | 0 => hs
  | k + 1 => by
    cases h : l[k]? with
    | none => simp [stN, h]; exact stN_ok hs hl k
    | some x => rw [stN_succ h]; exact stp_ok (stN_ok hs hl k) (hl x (List.mem_of_getElem? h))
end Go.Proofs.Ytoidbmgoofbcfaa
