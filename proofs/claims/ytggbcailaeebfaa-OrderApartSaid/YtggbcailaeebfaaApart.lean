/- A read that is not taken has a reason, and stays out: the plain laws. -/
import Derived.Test.YtggbcailaeebfaaReads
namespace Go.Proofs.Ytggbcailaeebfaa
open Go.RowKit Go.Um

/-- the reads that were left among the first i -/
def lfN (l : List Rd) : Nat → List Rd
  | 0 => []
  | i + 1 => match l[i]? with
    | some x => lfN l i ++ if takeB (ordN l i) x.key x.L = false ∧ takeE x.key x.L = 0 then [x] else []
    | none => lfN l i
theorem lfN_succ {l : List Rd} {i : Nat} {x : Rd} (h : l[i]? = some x) : lfN l (i + 1) = lfN l i ++ if takeB (ordN l i) x.key x.L = false ∧ takeE x.key x.L = 0 then [x] else [] := by simp [lfN, h]
theorem lfN_len (l : List Rd) (i : Nat) : (lfN l i).length ≤ i := by
  induction i with
  | zero => simp [lfN]
  | succ i ih =>
    unfold lfN
    split
    · rw [List.length_append]; split <;> simp <;> omega
    · omega
theorem lfN_mem {l : List Rd} {i : Nat} : ∀ x ∈ lfN l i, x ∈ l := by
  induction i with
  | zero => intro x hx; simp [lfN] at hx
  | succ i ih =>
    intro x hx
    unfold lfN at hx
    split at hx
    · rename_i y hy
      rcases List.mem_append.1 hx with h | h
      · exact ih x h
      · split at h
        · obtain rfl : x = y := by simpa using h
          exact List.mem_of_getElem? hy
        · cases h
    · exact ih x hx
theorem takeE_zero {k : Nat} {l : List Int} (h : takeE k l = 0) : k < 8 ∧ l.length ≤ 32 := by
  unfold takeE at h
  split at h
  · cases h
  · split at h
    · cases h
    · omega
/-- each order is none, or that of a read that was taken -/
theorem ordN_from (l : List Rd) (j : Nat) : ∀ i, ordN l i j = [] ∨ ∃ x ∈ tkN l i, x.key = j ∧ x.L = ordN l i j := by
  intro i
  induction i with
  | zero => exact .inl rfl
  | succ i ih =>
    cases hy : l[i]? with
    | none => simp only [tkN, ordN, hy]; exact ih
    | some y =>
      rw [ordN_succ hy, tkN_succ hy]
      by_cases hset : (takeB (ordN l i) y.key y.L = true ∧ bgn y.L (ordN l i y.key) = false) ∧ j = y.key
      · right
        obtain ⟨h1, rfl⟩ := hset
        refine ⟨y, by rw [if_pos h1.1]; simp, rfl, ?_⟩
        unfold takeL setL
        rw [if_pos h1, if_pos rfl]
      · have hsame : takeL (ordN l i) y.key y.L j = ordN l i j := by
          unfold takeL
          split
          · rename_i h1
            unfold setL
            rw [if_neg (fun e => hset ⟨h1, e⟩)]
          · rfl
        rw [hsame]
        rcases ih with h | ⟨x, hx, hk, hl⟩
        · exact .inl h
        · exact .inr ⟨x, List.mem_append_left _ hx, hk, hl⟩
/-- does a read that was taken part from this one? -/
def parts (x y : Rd) : Bool := y.key == x.key && !bgn y.L x.L && !bgn x.L y.L
/-- why a read is not taken -/
theorem left_why {l : List Rd} {i : Nat} {x : Rd} (hB : takeB (ordN l i) x.key x.L = false) (hE : takeE x.key x.L = 0) : ((tkN l i).any (parts x) || !decide x.L.Nodup) = true := by
  obtain ⟨h8, h32⟩ := takeE_zero hE
  by_cases hd : x.L.Nodup
  · unfold takeB at hB
    rw [decide_eq_true h8, decide_eq_true h32, decide_eq_true hd] at hB
    simp only [Bool.true_and, Bool.or_eq_false_iff] at hB
    rcases ordN_from l x.key i with h | ⟨y, hy, hk, hl⟩
    · rw [h] at hB
      have : bgn [] x.L = true := decide_eq_true (List.nil_prefix)
      rw [this] at hB
      cases hB.2
    · rw [Bool.or_eq_true]
      left
      rw [List.any_eq_true]
      refine ⟨y, hy, ?_⟩
      unfold parts
      rw [hl, hB.1, hB.2, hk]
      simp
  · simp [hd]
/-- what neither begins stays so when the other one grows -/
theorem apart_grows {a c c' : List Int} (h1 : bgn a c = false) (h2 : bgn c a = false) (hc : bgn c c' = true) : bgn a c' = false ∧ bgn c' a = false := by
  have p := of_decide_eq_true hc
  have n1 := of_decide_eq_false h1
  have n2 := of_decide_eq_false h2
  refine ⟨decide_eq_false fun h => ?_, decide_eq_false fun h => n2 (p.trans h)⟩
  rcases List.prefix_or_prefix_of_prefix h p with h | h
  · exact n1 h
  · exact n2 h
theorem takeB_stays (L L' : Nat → List Int) (k : Nat) (l : List Int) (h : takeB L k l = false) (hE : takeE k l = 0) (hg : bgn (L k) (L' k) = true) : takeB L' k l = false := by
  obtain ⟨h8, h32⟩ := takeE_zero hE
  unfold takeB at h ⊢
  by_cases hd : l.Nodup
  · rw [decide_eq_true h8, decide_eq_true h32, decide_eq_true hd] at h ⊢
    simp only [Bool.true_and, Bool.or_eq_false_iff] at h ⊢
    exact apart_grows h.1 h.2 hg
  · rw [decide_eq_false hd]; simp
theorem left_stays (l : List Rd) : ∀ i, ∀ x ∈ lfN l i, takeB (ordN l i) x.key x.L = false ∧ takeE x.key x.L = 0 := by
  intro i
  induction i with
  | zero => intro x hx; simp [lfN] at hx
  | succ i ih =>
    intro x hx
    cases hy : l[i]? with
    | none => simp only [lfN, ordN, hy] at hx ⊢; exact ih x hx
    | some y =>
      rw [lfN_succ hy] at hx
      have hg := ordN_grows l x.key i
      rcases List.mem_append.1 hx with h | h
      · have h1 := ih x h
        exact ⟨takeB_stays _ _ _ _ h1.1 h1.2 hg, h1.2⟩
      · split at h
        · rename_i hc
          obtain rfl : x = y := by simpa using h
          exact ⟨takeB_stays _ _ _ _ hc.1 hc.2 hg, hc.2⟩
        · cases h
theorem takeL_not {L : Nat → List Int} {k : Nat} {l : List Int} (h : takeB L k l = false) : takeL L k l = L := by
  unfold takeL
  rw [if_neg (by rw [h]; simp)]
theorem nodup_snoc {l : List Int} {k : Nat} {x : Int} (h : l[k]? = some x) : (!decide (l.take (k + 1)).Nodup) = (!decide (l.take k).Nodup || decide (x ∈ l.take k)) := by
  rw [List.take_add_one, h]
  show (!decide (l.take k ++ [x]).Nodup) = _
  by_cases h1 : (l.take k).Nodup <;> by_cases h2 : x ∈ l.take k <;> simp [List.nodup_append, h1, h2]
  intro a ha e
  exact h2 (e ▸ ha)
theorem any_snoc {T : List Rd} {f : Rd → Bool} {k : Nat} {y : Rd} (h : T[k]? = some y) : (T.take (k + 1)).any f = ((T.take k).any f || f y) := by
  rw [List.take_add_one, h]; simp
end Go.Proofs.Ytggbcailaeebfaa
