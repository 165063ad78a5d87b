/- The document's sets: rising lists; and the number whose bits they are. No program in sight. Printed from Lisn.tmpl. -/
import Derived.Test.YtfjccgihdnemkaaBitn
namespace Go.Um
open Go.RowKit
set_option linter.unusedSimpArgs false
set_option linter.unusedVariables false

def orL (L : List Nat) : Nat := L.foldl (fun a x => a ||| 2 ^ x) 0
theorem orL_snoc (L : List Nat) (x : Nat) : orL (L ++ [x]) = orL L ||| 2 ^ x := by simp [orL]
theorem orL_bit (L : List Nat) (n : Nat) : (orL L).testBit n = decide (n ∈ L) := by
  have key : ∀ (L : List Nat) (a : Nat), (L.foldl (fun a x => a ||| 2 ^ x) a).testBit n = (a.testBit n || decide (n ∈ L)) := by
    intro L
    induction L with
    | nil => intro a; simp
    | cons x L ih =>
      intro a
      rw [List.foldl_cons, ih, Nat.testBit_or, Nat.testBit_two_pow]
      by_cases h : x = n
      · subst h; simp
      · have : ¬ n = x := fun e => h e.symm
        simp [h, this]
  have := key L 0
  simpa [orL] using this
/-- a list is a set's numbers, rising -/
structure LisN (L : List Nat) (N : Nat) : Prop where
  bd : ∀ x ∈ L, x ≤ 65535
  up : L.Pairwise (· < ·)
  or : N = orL L
theorem LisN.bit {L : List Nat} {N : Nat} (h : LisN L N) (n : Nat) : N.testBit n = decide (n ∈ L) := by rw [h.or, orL_bit]
theorem LisN.nil : LisN [] 0 := ⟨by simp, List.Pairwise.nil, rfl⟩
def insL (L : List Nat) (n : Nat) : List Nat := if n ∈ L then L else L.takeWhile (fun x => decide (x < n)) ++ (n :: L.dropWhile (fun x => decide (x < n)))
theorem or_same {N n : Nat} (h : N.testBit n = true) : N ||| 2 ^ n = N := by
  apply Nat.eq_of_testBit_eq
  intro i
  rw [Nat.testBit_or, Nat.testBit_two_pow]
  by_cases e : n = i
  · subst e; simp [h]
  · simp [e]
theorem drop_ge {n : Nat} : ∀ {L : List Nat}, L.Pairwise (· < ·) → ∀ x ∈ L.dropWhile (fun x => decide (x < n)), n ≤ x
  | [], _, x, hx => by simp at hx
  | y :: L, h, x, hx => by
    rw [List.dropWhile_cons] at hx
    split at hx
    · exact drop_ge (List.pairwise_cons.1 h).2 x hx
    · rename_i hy
      simp only [decide_eq_true_eq] at hy
      rcases List.mem_cons.1 hx with rfl | hx
      · omega
      · have := (List.pairwise_cons.1 h).1 x hx; omega
theorem take_lt {n : Nat} (L : List Nat) : ∀ x ∈ L.takeWhile (fun x => decide (x < n)), x < n := by
  induction L with
  | nil => intro x hx; simp at hx
  | cons y L ih =>
    intro x hx
    rw [List.takeWhile_cons] at hx
    split at hx
    · rename_i hy
      rcases List.mem_cons.1 hx with rfl | hx
      · simpa using hy
      · exact ih x hx
    · cases hx
theorem LisN.ins {L : List Nat} {N n : Nat} (h : LisN L N) (hn : n ≤ 65535) : LisN (insL L n) (N ||| 2 ^ n) := by
  unfold insL
  split
  · rename_i hm
    rw [or_same (by rw [h.bit]; simpa using hm)]; exact h
  · rename_i hm
    have hsp := List.takeWhile_append_dropWhile (p := fun x => decide (x < n)) (l := L)
    refine ⟨?_, ?_, ?_⟩
    · intro x hx
      simp only [List.mem_append, List.mem_cons] at hx
      rcases hx with hx | rfl | hx
      · have := take_lt L x hx; omega
      · exact hn
      · exact h.bd x (by rw [← hsp]; exact List.mem_append_right _ hx)
    · have hup := h.up
      rw [← hsp, List.pairwise_append] at hup
      rw [List.pairwise_append, List.pairwise_cons]
      refine ⟨hup.1, ⟨fun x hx => ?_, hup.2.1⟩, fun x hx y hy => ?_⟩
      · have h1 := drop_ge h.up x hx
        have h2 : x ≠ n := fun e => hm (by rw [← hsp]; exact List.mem_append_right _ (e ▸ hx))
        omega
      · have h1 := take_lt L x hx
        rcases List.mem_cons.1 hy with rfl | hy
        · exact h1
        · exact hup.2.2 x hx y hy
    · apply Nat.eq_of_testBit_eq
      intro i
      rw [Nat.testBit_or, Nat.testBit_two_pow, h.bit, orL_bit]
      have hmem : i ∈ L ↔ (i ∈ L.takeWhile (fun x => decide (x < n)) ∨ i ∈ L.dropWhile (fun x => decide (x < n))) := by
        conv => lhs; rw [← hsp]
        exact List.mem_append
      by_cases e : n = i
      · subst e; simp
      · have e' : ¬ i = n := fun x => e x.symm
        simp [hmem, e, e']
/-- the place of a number that is not there -/
theorem take_while_len (L : List Nat) (n i : Nat) (hi : i ≤ L.length) (h1 : ∀ j x, j < i → L[j]? = some x → x < n) (h2 : ∀ x, L[i]? = some x → ¬ x < n) :
    L.takeWhile (fun x => decide (x < n)) = L.take i ∧ L.dropWhile (fun x => decide (x < n)) = L.drop i := by
  induction L generalizing i with
  | nil => simp
  | cons y L ih =>
    cases i with
    | zero =>
      have := h2 y rfl
      simp [List.takeWhile_cons, List.dropWhile_cons, this]
    | succ i =>
      have hy := h1 0 y (by omega) rfl
      obtain ⟨a, b⟩ := ih i (by simpa using hi) (fun j x hj hx => h1 (j + 1) x (by omega) (by simpa using hx)) (fun x hx => h2 x (by simpa using hx))
      simp [List.takeWhile_cons, List.dropWhile_cons, hy, a, b]
/-- how many bytes a rising list needs -/
theorem LisN.needs {L : List Nat} {N : Nat} {last : Nat} (h : LisN L N) (hl : L.getLast? = some last) : Needs 8 (last / 8 + 1) N := by
  have hmem : last ∈ L := List.mem_of_getLast? hl
  have hall : ∀ x ∈ L, x ≤ last := by
    intro x hx
    obtain ⟨ys, rfl⟩ := List.getLast?_eq_some_iff.1 hl
    have hup := h.up
    rw [List.pairwise_append] at hup
    simp only [List.mem_append, List.mem_singleton] at hx
    rcases hx with hx | rfl
    · have := hup.2.2 x hx last (by simp); omega
    · exact Nat.le_refl _
  refine ⟨lt_of_bits (fun n hn => ?_), .inr ?_⟩
  · rw [h.bit]
    simp only [decide_eq_false_iff_not]
    intro hx
    have := hall n hx
    omega
  · have h1 := pow_le_of_bit (N := N) (n := last) (by rw [h.bit]; simpa using hmem)
    have h2 : 2 ^ (8 * (last / 8 + 1 - 1)) ≤ 2 ^ last := Nat.pow_le_pow_right (by decide) (by omega)
    omega
/-- a number is laid among the bytes -/
theorem bytesN_or (N n k : Nat) (h : N.testBit n = false) : bytesN (N ||| 2 ^ n) k = (bytesN N k).modify (n / 8) (fun x => x + 2 ^ (n % 8)) := by
  apply List.ext_getElem?
  intro i
  rw [List.getElem?_modify]
  by_cases hi : i < k
  · rw [bytesN_at _ _ _ hi, bytesN_at _ _ _ hi, byte_or]
    by_cases e : n / 8 = i
    · subst e
      have : (byteN N (n / 8)).testBit (n % 8) = false := by
        rw [testBit_byte, Nat.div_add_mod, h]; simp
      simp [or_add _ _ this]
    · have : ¬ i = n / 8 := fun x => e x.symm
      simp [e, this]
  · rw [List.getElem?_eq_none (by rw [bytesN_len]; omega), List.getElem?_eq_none (by rw [bytesN_len]; omega)]
    simp
theorem byte_add_lt (N n : Nat) (h : N.testBit n = false) : byteN N (n / 8) + 2 ^ (n % 8) < 256 := by
  have h1 : (byteN N (n / 8)).testBit (n % 8) = false := by
    rw [testBit_byte, Nat.div_add_mod, h]; simp
  rw [← or_add _ _ h1]
  exact Nat.or_lt_two_pow (n := 8) (byteN_lt _ _) (Nat.pow_lt_pow_right (by decide) (Nat.mod_lt _ (by decide)))
end Go.Um
