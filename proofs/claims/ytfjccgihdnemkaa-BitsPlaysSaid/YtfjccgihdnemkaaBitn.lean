/- Sets of numbers as a number's bits: words, bytes, keys; no program in sight. Printed from Bitn.tmpl. -/
import Derived.Test.YtfjccgihdnemkaaGen
import Derived.IntWalk
namespace Go.Um
open Go.RowKit
set_option linter.unusedSimpArgs false
set_option linter.unusedVariables false

theorem wrapu64_in {n : Int} (h : 0 ≤ n ∧ n < 18446744073709551616) : IntKind.u64.wrap n = n := by
  simp only [IntKind.wrap, IntKind.signed, IntKind.bits, Bool.false_and, Bool.false_eq_true, if_false]; omega
theorem pow64 : (2 : Nat) ^ 64 = 18446744073709551616 := by decide
theorem bits_nat (x : Nat) (hx : x < 2 ^ 64) : ((x : Int) % 2 ^ IntKind.u64.bits).toNat = x := by
  simp only [IntKind.bits]
  have := pow64
  omega
theorem bits_or64 (x y : Nat) (hx : x < 2 ^ 64) (hy : y < 2 ^ 64) : bits BinOp.or IntKind.u64 (x : Int) (y : Int) = ((x ||| y : Nat) : Int) := by
  have h : bits BinOp.or IntKind.u64 (x : Int) (y : Int) = IntKind.u64.wrap ↑(((x : Int) % 2 ^ IntKind.u64.bits).toNat ||| ((y : Int) % 2 ^ IntKind.u64.bits).toNat) := by
    show IntKind.u64.wrap ↑(BitVec.ofInt _ _ ||| BitVec.ofInt _ _).toNat = _
    rw [BitVec.toNat_or, BitVec.toNat_ofInt, BitVec.toNat_ofInt]
    rfl
  rw [h, bits_nat x hx, bits_nat y hy]
  have := Nat.or_lt_two_pow hx hy
  rw [pow64] at this
  exact wrapu64_in (by omega)
theorem bits_and64 (x y : Nat) (hx : x < 2 ^ 64) (hy : y < 2 ^ 64) : bits BinOp.and IntKind.u64 (x : Int) (y : Int) = ((x &&& y : Nat) : Int) := by
  have h : bits BinOp.and IntKind.u64 (x : Int) (y : Int) = IntKind.u64.wrap ↑(((x : Int) % 2 ^ IntKind.u64.bits).toNat &&& ((y : Int) % 2 ^ IntKind.u64.bits).toNat) := by
    show IntKind.u64.wrap ↑(BitVec.ofInt _ _ &&& BitVec.ofInt _ _).toNat = _
    rw [BitVec.toNat_and, BitVec.toNat_ofInt, BitVec.toNat_ofInt]
    rfl
  rw [h, bits_nat x hx, bits_nat y hy]
  have := Nat.and_lt_two_pow (n := 64) x hy
  rw [pow64] at this
  exact wrapu64_in (by omega)

def wordN (N i : Nat) : Nat := N / 2 ^ (64 * i) % 2 ^ 64
def byteN (N j : Nat) : Nat := N / 2 ^ (8 * j) % 256
theorem wordN_lt (N i : Nat) : wordN N i < 2 ^ 64 := Nat.mod_lt _ (by decide)
theorem byteN_lt (N i : Nat) : byteN N i < 256 := Nat.mod_lt _ (by decide)
theorem testBit_div (N a k : Nat) : (N / 2 ^ a).testBit k = N.testBit (a + k) := by
  rw [← Nat.shiftRight_eq_div_pow, Nat.testBit_shiftRight]
theorem testBit_word (N i k : Nat) : (wordN N i).testBit k = (decide (k < 64) && N.testBit (64 * i + k)) := by
  unfold wordN; rw [Nat.testBit_mod_two_pow, testBit_div]
theorem testBit_byte (N i k : Nat) : (byteN N i).testBit k = (decide (k < 8) && N.testBit (8 * i + k)) := by
  unfold byteN; rw [show (256 : Nat) = 2 ^ 8 by decide, Nat.testBit_mod_two_pow, testBit_div]
/-- a set that is empty from place m on -/
theorem testBit_ge {N m n : Nat} (h : N < 2 ^ m) (hn : m ≤ n) : N.testBit n = false :=
  Nat.testBit_lt_two_pow (Nat.lt_of_lt_of_le h (Nat.pow_le_pow_right (by decide) hn))
theorem lt_of_bits {N m : Nat} (h : ∀ n, m ≤ n → N.testBit n = false) : N < 2 ^ m := Nat.lt_pow_two_of_testBit N h
theorem pow_le_of_bit {N n : Nat} (h : N.testBit n = true) : 2 ^ n ≤ N := Nat.ge_two_pow_of_testBit h
theorem word_bit (N n : Nat) : wordN N (n / 64) / 2 ^ (n % 64) % 2 = if N.testBit n then 1 else 0 := by
  have h := testBit_word N (n / 64) (n % 64)
  rw [decide_eq_true (Nat.mod_lt n (by decide)), Bool.true_and, Nat.div_add_mod, Nat.testBit_eq_decide_div_mod_eq] at h
  have h2 : wordN N (n / 64) / 2 ^ (n % 64) % 2 = 0 ∨ wordN N (n / 64) / 2 ^ (n % 64) % 2 = 1 := by omega
  rcases h2 with h2 | h2
  · rw [h2] at h ⊢
    simp at h
    simp [← h]
  · rw [h2] at h ⊢
    simp at h
    simp [← h]
theorem and_one (x : Nat) : x &&& 1 = x % 2 := Nat.and_one_is_mod x
theorem word_or (N n i : Nat) : wordN (N ||| 2 ^ n) i = if i = n / 64 then wordN N i ||| 2 ^ (n % 64) else wordN N i := by
  apply Nat.eq_of_testBit_eq
  intro k
  split
  · rename_i h
    subst h
    rw [Nat.testBit_or, testBit_word, testBit_word, Nat.testBit_or, Nat.testBit_two_pow, Nat.testBit_two_pow]
    by_cases hk : k < 64
    · have e : (n = 64 * (n / 64) + k) ↔ (n % 64 = k) := by omega
      simp [hk, e]
    · have e : ¬ n % 64 = k := by omega
      simp [hk, e]
  · rename_i h
    rw [testBit_word, testBit_word, Nat.testBit_or, Nat.testBit_two_pow]
    by_cases hk : k < 64
    · have e : ¬ (n = 64 * i + k) := by omega
      simp [hk, e]
    · simp [hk]
theorem byte_or (N n i : Nat) : byteN (N ||| 2 ^ n) i = if i = n / 8 then byteN N i ||| 2 ^ (n % 8) else byteN N i := by
  apply Nat.eq_of_testBit_eq
  intro k
  split
  · rename_i h
    subst h
    rw [Nat.testBit_or, testBit_byte, testBit_byte, Nat.testBit_or, Nat.testBit_two_pow, Nat.testBit_two_pow]
    by_cases hk : k < 8
    · have e : (n = 8 * (n / 8) + k) ↔ (n % 8 = k) := by omega
      simp [hk, e]
    · have e : ¬ n % 8 = k := by omega
      simp [hk, e]
  · rename_i h
    rw [testBit_byte, testBit_byte, Nat.testBit_or, Nat.testBit_two_pow]
    by_cases hk : k < 8
    · have e : ¬ (n = 8 * i + k) := by omega
      simp [hk, e]
    · simp [hk]
/-- a bit that was not there is added -/
theorem or_add (x k : Nat) (h : x.testBit k = false) : x ||| 2 ^ k = x + 2 ^ k := by
  have h1 : x = 2 ^ (k + 1) * (x / 2 ^ (k + 1)) + x % 2 ^ (k + 1) := (Nat.div_add_mod x _).symm
  have h2 : x % 2 ^ (k + 1) < 2 ^ k := by
    apply lt_of_bits
    intro n hn
    rw [Nat.testBit_mod_two_pow]
    by_cases e : n = k
    · subst e; simp [h]
    · have : ¬ n < k + 1 := by omega
      simp [this]
  have h3 : 2 ^ (k + 1) = 2 ^ k + 2 ^ k := by rw [Nat.pow_succ]; omega
  have h4 : x % 2 ^ (k + 1) + 2 ^ k < 2 ^ (k + 1) := by omega
  have h5 : x % 2 ^ (k + 1) ||| 2 ^ k = x % 2 ^ (k + 1) + 2 ^ k := by
    have := Nat.two_pow_add_eq_or_of_lt h2 1
    rw [Nat.mul_one] at this
    rw [Nat.or_comm, ← this]; omega
  apply Nat.eq_of_testBit_eq
  intro n
  have e : x + 2 ^ k = 2 ^ (k + 1) * (x / 2 ^ (k + 1)) + (x % 2 ^ (k + 1) + 2 ^ k) := by
    conv => lhs; rw [h1]
    omega
  rw [e, Nat.testBit_two_pow_mul_add _ h4, ← h5]
  by_cases hn : n < k + 1
  · rw [if_pos hn, Nat.testBit_or, Nat.testBit_or, Nat.testBit_mod_two_pow]; simp [hn]
  · rw [if_neg hn, Nat.testBit_or, Nat.testBit_two_pow, testBit_div]
    have : ¬ k = n := by omega
    rw [show k + 1 + (n - (k + 1)) = n by omega]
    simp [this]

/-- the words of a set, so many -/
def words (N m : Nat) : List Nat := (List.range m).map (wordN N)
def bytesN (N k : Nat) : List Nat := (List.range k).map (byteN N)
theorem words_len (N m : Nat) : (words N m).length = m := by simp [words]
theorem bytesN_len (N m : Nat) : (bytesN N m).length = m := by simp [bytesN]
theorem words_at (N m i : Nat) (h : i < m) : (words N m)[i]? = some (wordN N i) := by simp [words, h]
theorem bytesN_at (N m i : Nat) (h : i < m) : (bytesN N m)[i]? = some (byteN N i) := by simp [bytesN, h]
theorem bytesN_succ (N k : Nat) : bytesN N (k + 1) = bytesN N k ++ [byteN N k] := by simp [bytesN, List.range_succ]
theorem words_succ (N k : Nat) : words N (k + 1) = words N k ++ [wordN N k] := by simp [words, List.range_succ]
/-- just so many places of `w` bits are needed -/
structure Needs (w m N : Nat) : Prop where
  lt : N < 2 ^ (w * m)
  top : m = 0 ∨ 2 ^ (w * (m - 1)) ≤ N
theorem Needs.unique {w m k N : Nat} (hw : 0 < w) (h : Needs w m N) (g : Needs w k N) : m = k := by
  have key : ∀ m k, Needs w m N → Needs w k N → ¬ m < k := by
    intro m k h g hlt
    rcases g.top with e | e
    · omega
    · have h1 : 2 ^ (w * m) ≤ 2 ^ (w * (k - 1)) := Nat.pow_le_pow_right (by decide) (Nat.mul_le_mul_left w (by omega))
      have := h.lt
      omega
  have := key m k h g
  have := key k m g h
  omega
theorem Needs.zero (w : Nat) : Needs w 0 0 := ⟨by simp, .inl rfl⟩
theorem needs_or {m N n : Nat} (h : Needs 64 m N) : Needs 64 (max m (n / 64 + 1)) (N ||| 2 ^ n) := by
  refine ⟨?_, ?_⟩
  · apply lt_of_bits
    intro k hk
    rw [Nat.testBit_or, testBit_ge h.lt (by omega), Nat.testBit_two_pow]
    have : ¬ n = k := by omega
    simp [this]
  · right
    have hbit : (N ||| 2 ^ n).testBit n = true := by rw [Nat.testBit_or, Nat.testBit_two_pow]; simp
    have h1 := pow_le_of_bit hbit
    have h2 : 2 ^ (64 * (n / 64)) ≤ 2 ^ n := Nat.pow_le_pow_right (by decide) (by omega)
    by_cases e : m ≤ n / 64 + 1
    · rw [Nat.max_eq_right e]
      exact Nat.le_trans h2 h1
    · rw [Nat.max_eq_left (by omega)]
      rcases h.top with h3 | h3
      · omega
      · exact Nat.le_trans h3 Nat.left_le_or
theorem words_or (N n m : Nat) : words (N ||| 2 ^ n) m = (words N m).modify (n / 64) (fun x => x ||| 2 ^ (n % 64)) := by
  apply List.ext_getElem?
  intro i
  rw [List.getElem?_modify]
  by_cases h : i < m
  · rw [words_at _ _ _ h, words_at _ _ _ h, word_or]
    by_cases e : n / 64 = i
    · simp [e]
    · have : ¬ i = n / 64 := fun x => e x.symm
      simp [e, this]
  · rw [List.getElem?_eq_none (by rw [words_len]; omega), List.getElem?_eq_none (by rw [words_len]; omega)]
    simp
/-- there is nothing behind the last word that is needed -/
theorem word_none {m N i : Nat} (h : N < 2 ^ (64 * m)) (hi : m ≤ i) : wordN N i = 0 := by
  apply Nat.eq_of_testBit_eq
  intro k
  rw [testBit_word, testBit_ge h (by omega)]
  simp
/-- a text is a set's key -/
def IsKey (N : Nat) (l : List Nat) : Prop := ∃ k, l = bytesN N k ∧ Needs 8 k N
theorem IsKey.unique {N : Nat} {l l' : List Nat} (h : IsKey N l) (g : IsKey N l') : l = l' := by
  obtain ⟨k, rfl, hk⟩ := h
  obtain ⟨k', rfl, hk'⟩ := g
  rw [hk.unique (by decide) hk']
theorem IsKey.inj {N N' : Nat} {l : List Nat} (h : IsKey N l) (g : IsKey N' l) : N = N' := by
  obtain ⟨k, rfl, hk⟩ := h
  obtain ⟨k', e, hk'⟩ := g
  have hl := congrArg List.length e
  rw [bytesN_len, bytesN_len] at hl
  subst hl
  apply Nat.eq_of_testBit_eq
  intro n
  by_cases h : n < 8 * k
  · have h1 := bytesN_at N k (n / 8) (by omega)
    have h2 := bytesN_at N' k (n / 8) (by omega)
    rw [e, h2] at h1
    have h3 := congrArg (fun x => x.testBit (n % 8)) (Option.some.inj h1)
    simp only [testBit_byte, Nat.div_add_mod, decide_eq_true (Nat.mod_lt n (by decide : 0 < 8)), Bool.true_and] at h3
    exact h3.symm
  · rw [testBit_ge hk.lt (by omega), testBit_ge hk'.lt (by omega)]
theorem needs_cut {k N : Nat} (h : N < 2 ^ (8 * (k + 1))) : (byteN N k = 0 → N < 2 ^ (8 * k)) ∧ (byteN N k ≠ 0 → 2 ^ (8 * k) ≤ N) := by
  constructor
  · intro h0
    apply lt_of_bits
    intro n hn
    by_cases e : n < 8 * (k + 1)
    · have := testBit_byte N k (n - 8 * k)
      rw [h0, Nat.zero_testBit, show 8 * k + (n - 8 * k) = n by omega, decide_eq_true (by omega)] at this
      simpa using this.symm
    · exact testBit_ge h (by omega)
  · intro h0
    refine Nat.le_of_not_lt (fun hlt => h0 ?_)
    unfold byteN
    rw [Nat.div_eq_of_lt hlt]
/-- the byte of a word -/
theorem byte_word (N i k : Nat) (hk : k < 8) : wordN N i / 2 ^ (8 * k) % 256 = byteN N (8 * i + k) := by
  apply Nat.eq_of_testBit_eq
  intro j
  rw [testBit_byte, show (256 : Nat) = 2 ^ 8 by decide, Nat.testBit_mod_two_pow, testBit_div, testBit_word, show 64 * i + (8 * k + j) = 8 * (8 * i + k) + j by omega]
  by_cases h : j < 8
  · simp [h]; intro; omega
  · simp [h]
end Go.Um
