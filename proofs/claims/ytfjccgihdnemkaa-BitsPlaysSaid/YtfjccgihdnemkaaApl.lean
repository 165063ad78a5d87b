/- BitsApart's plain law: sets as numbers, and their keys. Printed from Apl.tmpl. -/
import Derived.Test.YtfjccgihdnemkaaUn
import Derived.Test.YtfjccgihdnemkaaWo
import Derived.Test.YtfjccgihdnemkaaFk
import Derived.Test.YtfjccgihdnemkaaAw
namespace Go.Proofs.Ytfjccgihdnemkaa
open Go.RowKit Go.Um
set_option linter.unusedSimpArgs false
set_option linter.unusedVariables false
set_option maxRecDepth 100000
theorem withN_bit (N : Nat) (x : Int) (n : Nat) : (withN N x).testBit n = (N.testBit n || (mayB x && decide (x = (n : Int)))) := by
  unfold withN
  cases hm : mayB x
  · simp
  · have h := of_decide_eq_true hm
    rw [if_pos rfl, Nat.testBit_or, Nat.testBit_two_pow]
    have : (x.toNat = n) ↔ (x = (n : Int)) := by omega
    simp [this]
theorem foldl_bit (xs : List Int) (n : Nat) : ∀ A : Nat, (xs.foldl withN A).testBit n = (A.testBit n || (decide ((n : Int) ∈ xs) && decide (n ≤ 65535))) := by
  induction xs with
  | nil => intro A; simp
  | cons x xs ih =>
    intro A
    rw [List.foldl_cons, ih, withN_bit]
    by_cases e : x = (n : Int)
    · subst e
      have : mayB (n : Int) = decide (n ≤ 65535) := by unfold mayB; by_cases h : n ≤ 65535 <;> simp [h] <;> omega
      rw [this]
      cases A.testBit n <;> cases decide ((n : Int) ∈ xs) <;> cases decide (n ≤ 65535) <;> simp
    · have : ¬ (n : Int) = x := fun h => e h.symm
      simp [e, this]
theorem ofN_bit (xs : List Int) (n : Nat) : (ofN xs).testBit n = (decide ((n : Int) ∈ xs) && decide (n ≤ 65535)) := by
  unfold ofN
  rw [foldl_bit]; simp
theorem hasB_nat (N n : Nat) (h : n ≤ 65535) : hasB N (n : Int) = N.testBit n := by
  have : mayB (n : Int) = true := decide_eq_true (by omega)
  unfold hasB
  rw [this, Int.toNat_natCast]; rfl
theorem same_iff (a b : List Int) : ((a ++ b).all fun x => hasB (ofN a) x == hasB (ofN b) x) = true ↔ ofN a = ofN b := by
  constructor
  · intro h
    rw [List.all_eq_true] at h
    apply Nat.eq_of_testBit_eq
    intro n
    by_cases hn : n ≤ 65535
    · by_cases hm : (n : Int) ∈ a ++ b
      · have := h _ hm
        rw [beq_iff_eq, hasB_nat _ _ hn, hasB_nat _ _ hn] at this
        exact this
      · have h1 : ¬ (n : Int) ∈ a := fun e => hm (List.mem_append_left _ e)
        have h2 : ¬ (n : Int) ∈ b := fun e => hm (List.mem_append_right _ e)
        rw [ofN_bit, ofN_bit, decide_eq_false h1, decide_eq_false h2]
    · rw [ofN_bit, ofN_bit, decide_eq_false hn, Bool.and_false, Bool.and_false]
  · intro h
    rw [h, List.all_eq_true]
    intro x _
    simp
theorem keyN.eq_iff {N M : Nat} {s t : ByteArray} (h : keyN N s) (g : keyN M t) : s = t ↔ N = M := by
  constructor
  · rintro rfl
    obtain ⟨l, hl, e⟩ := h
    obtain ⟨l', hl', e'⟩ := g
    have hll : l = l' := by
      have h1 : ∀ (N : Nat) (l : List Nat), IsKey N l → (strOfNums (l.map fun (x : Nat) => (x : Int))).data.toList.map (·.toNat) = l := by
        rintro N l ⟨k, rfl, _⟩
        apply List.ext_getElem?
        intro i
        by_cases hi : i < k
        · simp [strOfNums, bytesN_at _ _ _ hi]
          have := byteN_lt N i
          omega
        · rw [List.getElem?_eq_none (by simp [strOfNums, bytesN_len]; omega), List.getElem?_eq_none (by rw [bytesN_len]; omega)]
      rw [← h1 N l hl, ← h1 M l' hl', ← e, ← e']
    subst hll
    exact IsKey.inj hl hl'
  · rintro rfl
    exact h.unique g
theorem keyL_str {N : Nat} {l : List Nat} (h : IsKey N l) : keyL (strOfNums (l.map fun (x : Nat) => (x : Int))) = l := by
  obtain ⟨k, rfl, _⟩ := h
  unfold keyL
  apply List.ext_getElem?
  intro i
  by_cases hi : i < k
  · simp [strOfNums, bytesN_at _ _ _ hi]
    have := byteN_lt N i
    omega
  · rw [List.getElem?_eq_none (by simp [strOfNums, bytesN_len]; omega), List.getElem?_eq_none (by rw [bytesN_len]; omega)]
theorem keyN.set {N : Nat} {s : ByteArray} (h : keyN N s) (hN : ∀ n, 65536 ≤ n → N.testBit n = false) : goodKey s ∧ setOf s = N := by
  obtain ⟨l, hl, rfl⟩ := h
  have hkl := keyL_str hl
  obtain ⟨k, hlk, hneed⟩ := id hl
  have hsz : (strOfNums (l.map fun (x : Nat) => (x : Int))).size = k := by rw [← keyL_len, hkl, hlk, bytesN_len]
  obtain ⟨T, hT⟩ : ∃ T, T = 8192 := ⟨_, rfl⟩
  have hN2 : N < 2 ^ (8 * T) := lt_of_bits (fun n hn => hN n (by omega))
  have hk : k ≤ 8192 := by
    rcases hneed.top with e | e
    · omega
    · refine Classical.byContradiction fun hlt => ?_
      have h1 : 2 ^ (8 * T) ≤ 2 ^ (8 * (k - 1)) := Nat.pow_le_pow_right (by decide) (by omega)
      omega
  have hlast : k ≠ 0 → ((keyL (strOfNums (l.map fun (x : Nat) => (x : Int))))[k - 1]?).getD 0 ≠ 0 := fun hk0 => by
    rw [hkl, hlk, bytesN_at _ _ _ (by omega)]
    show byteN N (k - 1) ≠ 0
    intro hz
    rcases hneed.top with e | e
    · exact hk0 e
    · have h1 := (needs_cut (k := k - 1) (N := N) (by rw [show k - 1 + 1 = k by omega]; exact hneed.lt)).1 hz
      omega
  have hgood : goodKey (strOfNums (l.map fun (x : Nat) => (x : Int))) := ⟨by rw [hsz]; exact hk, by rw [hsz]; exact hlast⟩
  refine ⟨hgood, ?_⟩
  have h2 := hgood.key.2
  rw [hkl] at h2
  exact IsKey.inj h2 hl
theorem hasB_with (N : Nat) (x y : Int) : hasB (withN N x) y = (hasB N y || (mayB x && decide (x = y))) := by
  unfold hasB
  cases hm : mayB y
  · have : (mayB x && decide (x = y)) = false := by
      by_cases e : x = y
      · subst e; simp [hm]
      · simp [e]
    rw [this]; rfl
  · have h := of_decide_eq_true hm
    rw [withN_bit]
    have : decide (x = (y.toNat : Int)) = decide (x = y) := by rw [show ((y.toNat : Nat) : Int) = y by omega]
    rw [this]; simp
theorem hasB_without (N : Nat) (x y : Int) : hasB (withoutN N x) y = (hasB N y && !decide (x = y)) := by
  unfold withoutN
  cases hx : hasB N x
  · rw [if_neg (by simp)]
    by_cases e : x = y
    · subst e; simp [hx]
    · simp [e]
  · rw [if_pos rfl]
    have hmx : 0 ≤ x ∧ x ≤ 65535 := by
      unfold hasB at hx
      simp only [Bool.and_eq_true] at hx
      exact of_decide_eq_true hx.1
    unfold hasB
    cases hm : mayB y
    · rfl
    · have h := of_decide_eq_true hm
      rw [Nat.testBit_xor, Nat.testBit_two_pow]
      by_cases e : x = y
      · subst e
        have hb : N.testBit x.toNat = true := by
          unfold hasB at hx
          simp only [Bool.and_eq_true] at hx
          exact hx.2
        simp [hb]
      · have : ¬ x.toNat = y.toNat := by omega
        simp [e, this]
theorem eq_of_has {N M : Nat} (hN : ∀ n, 65536 ≤ n → N.testBit n = false) (hM : ∀ n, 65536 ≤ n → M.testBit n = false) (h : ∀ y : Int, hasB N y = hasB M y) : N = M := by
  apply Nat.eq_of_testBit_eq
  intro n
  by_cases hn : n ≤ 65535
  · have := h (n : Int)
    rwa [hasB_nat _ _ hn, hasB_nat _ _ hn] at this
  · rw [hN n (by omega), hM n (by omega)]
theorem with_has {N : Nat} {x : Int} (h : hasB N x = true) : withN N x = N := by
  apply Nat.eq_of_testBit_eq
  intro n
  rw [withN_bit]
  unfold hasB at h
  simp only [Bool.and_eq_true] at h
  by_cases e : x = (n : Int)
  · subst e
    rw [Int.toNat_natCast] at h
    simp [h.2]
  · simp [e]
theorem without_with {N : Nat} {x : Int} (hN : ∀ n, 65536 ≤ n → N.testBit n = false) : withoutN (withN N x) x = withoutN N x := by
  have hw : ∀ n, 65536 ≤ n → (withN N x).testBit n = false := fun n hn => by
    rw [withN_bit, hN n hn]
    cases hm : mayB x
    · rfl
    · have := of_decide_eq_true hm
      have : ¬ x = (n : Int) := by omega
      simp [this]
  have ho : ∀ (K : Nat), (∀ n, 65536 ≤ n → K.testBit n = false) → ∀ n, 65536 ≤ n → (withoutN K x).testBit n = false := fun K hK n hn => by
    unfold withoutN
    split
    · rename_i hx
      unfold hasB at hx
      simp only [Bool.and_eq_true] at hx
      have := of_decide_eq_true hx.1
      rw [Nat.testBit_xor, Nat.testBit_two_pow, hK n hn]
      have : ¬ x.toNat = n := by omega
      simp [this]
    · exact hK n hn
  refine eq_of_has (ho _ hw) (ho _ hN) fun y => ?_
  rw [hasB_without, hasB_without, hasB_with]
  by_cases e : x = y
  · subst e; simp
  · simp [e]
theorem sub_or (N M : Nat) : (∀ n, N.testBit n = true → M.testBit n = true) ↔ N ||| M = M := by
  constructor
  · intro h
    apply Nat.eq_of_testBit_eq
    intro n
    rw [Nat.testBit_or]
    cases hb : N.testBit n
    · rfl
    · rw [h n hb]; rfl
  · intro h n hn
    rw [← h, Nat.testBit_or, hn]; rfl
theorem or_or (N M : Nat) : (N ||| M) ||| M = N ||| M := by rw [Nat.or_assoc, Nat.or_self]
theorem count_or (N M : Nat) : (allN (N ||| M)).length ≤ (allN N).length + (allN M).length := by
  unfold allN upto
  have key : ∀ l : List Nat, (l.filter fun n => (N ||| M).testBit n).length ≤ (l.filter fun n => N.testBit n).length + (l.filter fun n => M.testBit n).length := by
    intro l
    induction l with
    | nil => simp
    | cons x l ih =>
      simp only [List.filter_cons, Nat.testBit_or] at ih ⊢
      cases N.testBit x <;> cases M.testBit x <;> simp <;> omega
  exact key _
theorem SetAt.hi {w : World} {v : Value} {N : Nat} (h : SetAt w v N) : ∀ n, 65536 ≤ n → N.testBit n = false := by
  obtain ⟨m, ao, cap, b, o, hv, hs, hn, hm⟩ := h
  exact fun n hn2 => testBit_ge hn.lt (by omega)
theorem data_len (s : ByteArray) : s.data.toList.length = s.size := by simp; first | done | rfl
theorem loop_eq (s : ByteArray) : ∀ (k i : Nat) (r : List UInt8), s.size - i = k → ByteArray.toList.loop s i r = r.reverse ++ s.data.toList.drop i
  | 0, i, r, h => by
    rw [ByteArray.toList.loop]
    have h1 : ¬ i < s.size := by omega
    have h2 : s.data.toList.drop i = [] := List.drop_eq_nil_of_le (by have := data_len s; omega)
    simp [h1, h2]
  | k + 1, i, r, h => by
    rw [ByteArray.toList.loop]
    have h1 : i < s.size := by omega
    have hl : i < s.data.toList.length := by have := data_len s; omega
    rw [if_pos h1, loop_eq s k (i + 1) _ (by omega), List.drop_eq_getElem_cons hl]
    have h3 : s.get! i = s.data.toList[i] := by
      have : s.get! i = s.data[i]! := by cases s; rfl
      rw [this]
      have h4 : i < s.data.size := h1
      rw [getElem!_pos s.data i h4]; simp
    rw [h3]
    simp
theorem toList_eq (s : ByteArray) : s.toList = s.data.toList := by
  rw [ByteArray.toList, loop_eq s s.size 0 [] (by omega)]; simp
theorem bool_key {N M : Nat} {s t : ByteArray} {Q : Bool} (h : keyN N s) (g : keyN M t) (hQ : Q = true ↔ N = M) : (s.toList == t.toList) = Q := by
  have h1 := (h.eq_iff g).trans hQ.symm
  rw [Bool.eq_iff_iff, beq_iff_eq, ← h1, toList_eq, toList_eq]
  constructor
  · intro e
    obtain ⟨⟨a⟩⟩ := s
    obtain ⟨⟨b⟩⟩ := t
    simp at e
    rw [e]
  · rintro rfl
    rfl
end Go.Proofs.Ytfjccgihdnemkaa
