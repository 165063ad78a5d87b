/- The number whose bytes a key's are. No program in sight. Printed from Fkp.tmpl. -/
import Derived.Test.YtfjccgihdnemkaaBitn
namespace Go.Um
open Go.RowKit
set_option linter.unusedSimpArgs false
set_option linter.unusedVariables false
def kn (l : List Nat) : Nat → Nat
  | 0 => 0
  | i + 1 => kn l i ||| ((l[i]?).getD 0 * 2 ^ (8 * i))
theorem byte_none {b j : Nat} (h : b < 256) (hj : 8 ≤ j) : b.testBit j = false := testBit_ge (m := 8) h hj
theorem kn_bit (l : List Nat) (hl : ∀ b ∈ l, b < 256) (n : Nat) : ∀ i, (kn l i).testBit n = (decide (n / 8 < i) && ((l[n / 8]?).getD 0).testBit (n % 8))
  | 0 => by simp [kn]
  | i + 1 => by
    have hb : ∀ j : Nat, (l[j]?).getD 0 < 256 := fun j => by
      cases h : l[j]? with
      | none => simp
      | some x => exact hl x (List.mem_of_getElem? h)
    rw [kn, Nat.testBit_or, kn_bit l hl n i, Nat.testBit_mul_two_pow]
    rcases Nat.lt_trichotomy (n / 8) i with h | h | h
    · have h1 : ¬ 8 * i ≤ n := by omega
      have h2 : n / 8 < i + 1 := by omega
      simp [h, h1, h2]
    · have h1 : 8 * i ≤ n := by omega
      have h2 : n - 8 * i = n % 8 := by omega
      subst h
      rw [h2]
      simp [h1]
    · have h1 : ¬ n / 8 < i := by omega
      have h2 : ¬ n / 8 < i + 1 := by omega
      have h3 := byte_none (hb i) (show 8 ≤ n - 8 * i by omega)
      simp [h1, h2, h3]
theorem kn_lt (l : List Nat) (hl : ∀ b ∈ l, b < 256) (i : Nat) : kn l i < 2 ^ (8 * i) := lt_of_bits (fun n hn => by
  rw [kn_bit l hl]
  have : ¬ n / 8 < i := by omega
  simp [this])
theorem kn_byte (l : List Nat) (hl : ∀ b ∈ l, b < 256) (i j : Nat) (h : j < i) : byteN (kn l i) j = (l[j]?).getD 0 := by
  have hb : (l[j]?).getD 0 < 256 := by
      cases h : l[j]? with
      | none => simp
      | some x => exact hl x (List.mem_of_getElem? h)
  apply Nat.eq_of_testBit_eq
  intro k
  rw [testBit_byte, kn_bit l hl]
  by_cases hk : k < 8
  · have h1 : (8 * j + k) / 8 = j := by omega
    have h2 : (8 * j + k) % 8 = k := by omega
    rw [h1, h2]
    simp [hk, h]
  · rw [byte_none hb (by omega)]
    simp [hk]
theorem kn_word (l : List Nat) (hl : ∀ b ∈ l, b < 256) (i j : Nat) : wordN (kn l (i + 1)) j = if j = i / 8 then wordN (kn l i) j ||| ((l[i]?).getD 0 * 2 ^ (8 * (i % 8))) else wordN (kn l i) j := by
  have hb : (l[i]?).getD 0 < 256 := by
      cases h : l[i]? with
      | none => simp
      | some x => exact hl x (List.mem_of_getElem? h)
  apply Nat.eq_of_testBit_eq
  intro k
  split
  · rename_i e
    subst e
    rw [Nat.testBit_or, testBit_word, testBit_word, Nat.testBit_mul_two_pow, kn, Nat.testBit_or, Nat.testBit_mul_two_pow]
    by_cases hk : k < 64
    · have h1 : (8 * i ≤ 64 * (i / 8) + k) ↔ (8 * (i % 8) ≤ k) := by omega
      by_cases h2 : 8 * (i % 8) ≤ k
      · have h3 := h1.2 h2
        have h4 : 64 * (i / 8) + k - 8 * i = k - 8 * (i % 8) := by omega
        simp [hk, h2, h3, h4]
      · have h3 : ¬ 8 * i ≤ 64 * (i / 8) + k := fun h => h2 (h1.1 h)
        simp [hk, h2, h3]
    · have h3 := byte_none hb (show 8 ≤ k - 8 * (i % 8) by omega)
      simp [hk, h3]
  · rename_i e
    rw [testBit_word, testBit_word, kn, Nat.testBit_or, Nat.testBit_mul_two_pow]
    by_cases hk : k < 64
    · by_cases h2 : 8 * i ≤ 64 * j + k
      · have h3 := byte_none hb (show 8 ≤ 64 * j + k - 8 * i by omega)
        simp [hk, h3]
      · simp [hk, h2]
    · simp [hk]
theorem kn_words (l : List Nat) (hl : ∀ b ∈ l, b < 256) (i M : Nat) (h : i / 8 < M) : words (kn l (i + 1)) M = (words (kn l i) M).set (i / 8) (wordN (kn l i) (i / 8) ||| ((l[i]?).getD 0 * 2 ^ (8 * (i % 8)))) := by
  apply List.ext_getElem?
  intro j
  rw [List.getElem?_set]
  by_cases hj : j < M
  · rw [words_at _ _ _ hj, words_at _ _ _ hj, kn_word l hl]
    by_cases e : i / 8 = j
    · subst e; simp [words_len, h]
    · have : ¬ j = i / 8 := fun x => e x.symm
      simp [e, this]
  · have e : ¬ i / 8 = j := by omega
    rw [List.getElem?_eq_none (by rw [words_len]; omega), if_neg e, List.getElem?_eq_none (by rw [words_len]; omega)]
theorem words_zero (M : Nat) : words 0 M = List.replicate M 0 := by
  apply List.ext_getElem?
  intro i
  by_cases h : i < M
  · rw [words_at _ _ _ h]; simp [wordN, h]
  · rw [List.getElem?_eq_none (by rw [words_len]; omega), List.getElem?_eq_none (by simp; omega)]
/-- the last byte is not 0, and so is what lies behind -/
theorem kn_ge (l : List Nat) (hl : ∀ b ∈ l, b < 256) {i : Nat} (hi : (l[i]?).getD 0 ≠ 0) : 2 ^ (8 * i) ≤ kn l (i + 1) := by
  rw [kn]
  refine Nat.le_trans ?_ Nat.right_le_or
  have : 0 < (l[i]?).getD 0 := Nat.pos_of_ne_zero hi
  exact Nat.le_mul_of_pos_left _ this
theorem kn_needs (l : List Nat) (hl : ∀ b ∈ l, b < 256) (hlast : l ≠ [] → (l[l.length - 1]?).getD 0 ≠ 0) : Needs 64 ((l.length + 7) / 8) (kn l l.length) ∧ Needs 8 l.length (kn l l.length) := by
  have h1 := kn_lt l hl l.length
  by_cases h0 : l = []
  · subst h0
    exact ⟨Needs.zero 64, Needs.zero 8⟩
  · have hp := List.length_pos_iff.2 h0
    have h2 := kn_ge l hl (hlast h0)
    rw [show l.length - 1 + 1 = l.length by omega] at h2
    refine ⟨⟨Nat.lt_of_lt_of_le h1 (Nat.pow_le_pow_right (by decide) (by omega)), .inr (Nat.le_trans (Nat.pow_le_pow_right (by decide) (by omega)) h2)⟩, ⟨h1, .inr h2⟩⟩
theorem kn_key (l : List Nat) (hl : ∀ b ∈ l, b < 256) (hlast : l ≠ [] → (l[l.length - 1]?).getD 0 ≠ 0) : IsKey (kn l l.length) l := by
  refine ⟨l.length, ?_, (kn_needs l hl hlast).2⟩
  apply List.ext_getElem?
  intro i
  by_cases h : i < l.length
  · rw [bytesN_at _ _ _ h, kn_byte l hl _ _ h, List.getElem?_eq_getElem h]; rfl
  · rw [List.getElem?_eq_none (by omega), List.getElem?_eq_none (by rw [bytesN_len]; omega)]
end Go.Um
