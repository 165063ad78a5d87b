/- Orders grow: the plain laws. -/
import Derived.Test.YtggbcailaeebfaaWorks
namespace Go.Proofs.Ytggbcailaeebfaa
open Go.RowKit Go.Um

/-- a read -/
structure Rd where
  key : Nat
  L : List Int
  cop : Bool
  ao : Option Addr
  cap : Nat
  b : Nat
  o : Nat
def Rd.cells (x : Rd) : List Value := [.int .u8 x.key, .slice x.ao x.L.length x.cap, .bool x.cop]
theorem Rd.three (x : Rd) : x.cells.length = 3 := rfl
theorem Rd.one (x : Rd) : ∀ u ∈ x.cells, u.oneCell' = true := by intro u hu; simp [Rd.cells] at hu; rcases hu with rfl | rfl | rfl <;> rfl
structure Rd.Ok (w : World) (x : Rd) : Prop where
  key : x.key ≤ 255
  at' : SlAt w 1 x.L.length (us x.L) x.ao x.cap x.b x.o
theorem Rd.Ok.below {w w' : World} {x : Rd} (h : x.Ok w) (hb : Below w.heap.size w w') : x.Ok w' := ⟨h.key, h.at'.below hb⟩

/-- the lists behind the first i reads -/
def ordN (l : List Rd) : Nat → (Nat → List Int)
  | 0 => fun _ => []
  | i + 1 => match l[i]? with
    | some x => takeL (ordN l i) x.key x.L
    | none => ordN l i
/-- the reads that were taken among the first i -/
def tkN (l : List Rd) : Nat → List Rd
  | 0 => []
  | i + 1 => match l[i]? with
    | some x => tkN l i ++ if takeB (ordN l i) x.key x.L = true then [x] else []
    | none => tkN l i
theorem ordN_succ {l : List Rd} {i : Nat} {x : Rd} (h : l[i]? = some x) : ordN l (i + 1) = takeL (ordN l i) x.key x.L := by simp [ordN, h]
theorem tkN_succ {l : List Rd} {i : Nat} {x : Rd} (h : l[i]? = some x) : tkN l (i + 1) = tkN l i ++ if takeB (ordN l i) x.key x.L = true then [x] else [] := by simp [tkN, h]
theorem tkN_len (l : List Rd) (i : Nat) : (tkN l i).length ≤ i := by
  induction i with
  | zero => simp [tkN]
  | succ i ih =>
    unfold tkN
    split
    · rw [List.length_append]; split <;> simp <;> omega
    · omega
theorem tkN_mem {l : List Rd} {i : Nat} : ∀ x ∈ tkN l i, x ∈ l := by
  induction i with
  | zero => intro x hx; simp [tkN] at hx
  | succ i ih =>
    intro x hx
    unfold tkN at hx
    split at hx
    · rename_i y hy
      rcases List.mem_append.1 hx with h | h
      · exact ih x h
      · split at h
        · obtain rfl : x = y := by simpa using h
          exact List.mem_of_getElem? hy
        · cases h
    · exact ih x hx

theorem takeB_E {L : Nat → List Int} {k : Nat} {l : List Int} (h : takeB L k l = true) : takeE k l = 0 ∧ k < 8 := by
  unfold takeB at h
  simp only [Bool.and_eq_true, decide_eq_true_eq] at h
  unfold takeE
  rw [if_neg (by omega), if_neg (by omega)]
  exact ⟨rfl, h.1.1.1⟩
theorem bgn_refl (l : List Int) : bgn l l = true := decide_eq_true (List.prefix_refl l)
theorem bgn_trans {a b c : List Int} (h : bgn a b = true) (k : bgn b c = true) : bgn a c = true :=
  decide_eq_true ((of_decide_eq_true h).trans (of_decide_eq_true k))
/-- another key, or not taken: the list stays -/
theorem takeL_other (L : Nat → List Int) (k : Nat) (l : List Int) (j : Nat) (h : j ≠ k ∨ takeB L k l = false) : takeL L k l j = L j := by
  unfold takeL
  split
  · rename_i h1
    rcases h with h | h
    · unfold setL; rw [if_neg h]
    · rw [h1.1] at h; cases h
  · rfl
/-- a list only grows -/
theorem takeL_grows (L : Nat → List Int) (k : Nat) (l : List Int) (j : Nat) : bgn (L j) (takeL L k l j) = true := by
  by_cases h : j = k ∧ takeB L k l = true
  · obtain ⟨rfl, hB⟩ := h
    unfold takeL
    split
    · rename_i h1
      unfold setL
      rw [if_pos rfl]
      unfold takeB at hB
      rw [h1.2] at hB
      simp only [Bool.and_eq_true, Bool.false_or] at hB
      exact hB.2
    · exact bgn_refl _
  · rw [takeL_other L k l j (by
      by_cases e : j = k
      · right
        cases hB : takeB L k l with
        | false => rfl
        | true => exact absurd ⟨e, hB⟩ h
      · exact .inl e)]
    exact bgn_refl _
/-- what was taken begins the key's list -/
theorem takeL_taken {L : Nat → List Int} {k : Nat} {l : List Int} (h : takeB L k l = true) : bgn l (takeL L k l k) = true := by
  unfold takeL
  by_cases hb : bgn l (L k) = true
  · rw [if_neg (by rw [hb]; simp)]; exact hb
  · rw [if_pos ⟨h, by simpa using hb⟩]
    unfold setL
    rw [if_pos rfl]
    exact bgn_refl _
theorem ordN_grows (l : List Rd) (j : Nat) : ∀ i, bgn (ordN l i j) (ordN l (i + 1) j) = true := by
  intro i
  cases hx : l[i]? with
  | none => simp [ordN, hx, bgn_refl]
  | some x => rw [ordN_succ hx]; exact takeL_grows _ _ _ _
theorem tkN_begins (l : List Rd) : ∀ i, ∀ x ∈ tkN l i, bgn x.L (ordN l i x.key) = true ∧ x.key < 8 := by
  intro i
  induction i with
  | zero => intro x hx; simp [tkN] at hx
  | succ i ih =>
    intro x hx
    cases hy : l[i]? with
    | none => simp only [tkN, ordN, hy] at hx ⊢; exact ih x hx
    | some y =>
      rw [tkN_succ hy] at hx
      rcases List.mem_append.1 hx with h | h
      · exact ⟨bgn_trans (ih x h).1 (ordN_grows l x.key i), (ih x h).2⟩
      · split at h
        · rename_i hB
          obtain rfl : x = y := by simpa using h
          rw [ordN_succ hy]
          exact ⟨takeL_taken hB, (takeB_E hB).2⟩
        · cases h
end Go.Proofs.Ytggbcailaeebfaa
