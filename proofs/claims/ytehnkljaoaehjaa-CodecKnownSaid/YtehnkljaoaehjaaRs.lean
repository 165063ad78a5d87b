/- Where a reader stands, and what it reads: plain; no program in sight. -/
import Derived.Test.YtehnkljaoaehjaaGen
namespace Go.Um
set_option linter.unusedSimpArgs false
set_option linter.unusedVariables false
/-- where a reader stands, and its first error -/
structure Rs where
  k : Nat
  e : Int
deriving DecidableEq
/-- behind n bytes that are asked -/
def Rs.next (s : ByteArray) (r : Rs) (n : Nat) : Rs := if r.e = 0 then (if s.size < r.k + n then ⟨r.k, 5⟩ else ⟨r.k + n, 0⟩) else r
/-- the bytes -/
def Rs.got (s : ByteArray) (r : Rs) (n : Nat) : ByteArray := if r.e = 0 then (if s.size < r.k + n then ⟨#[]⟩ else s.extract r.k (r.k + n)) else ⟨#[]⟩
def numL (l : List UInt8) : Nat := l.foldl (fun a b => a * 256 + b.toNat) 0
def numB (b : ByteArray) : Nat := numL b.data.toList
/-- what Close says -/
def Rs.close (s : ByteArray) (r : Rs) : Int := if r.e = 0 then (if s.size = r.k then 0 else 4) else r.e
theorem numL_snoc (l : List UInt8) (b : UInt8) : numL (l ++ [b]) = numL l * 256 + b.toNat := by simp [numL]
theorem Rs.bad (s : ByteArray) (r : Rs) (n : Nat) (h : r.e ≠ 0) : r.next s n = r ∧ r.got s n = ⟨#[]⟩ := by simp [Rs.next, Rs.got, h]
theorem Rs.torn (s : ByteArray) (r : Rs) (n : Nat) (h : r.e = 0) (hn : s.size < r.k + n) : r.next s n = ⟨r.k, 5⟩ ∧ r.got s n = ⟨#[]⟩ := by simp [Rs.next, Rs.got, h, hn]
theorem Rs.fine (s : ByteArray) (r : Rs) (n : Nat) (h : r.e = 0) (hn : r.k + n ≤ s.size) : r.next s n = ⟨r.k + n, 0⟩ ∧ r.got s n = s.extract r.k (r.k + n) := by
  have : ¬ s.size < r.k + n := by omega
  simp [Rs.next, Rs.got, h, this]
theorem Rs.next_le {s : ByteArray} {r : Rs} {n : Nat} (h : r.k ≤ s.size) : (r.next s n).k ≤ s.size := by
  unfold Rs.next
  split
  · split
    · exact h
    · show r.k + n ≤ s.size; omega
  · exact h
theorem Rs.got_size (s : ByteArray) (r : Rs) (n : Nat) : r.got s n = ⟨#[]⟩ ∨ ((r.got s n).size = n ∧ r.e = 0 ∧ r.k + n ≤ s.size) := by
  by_cases h : r.e = 0
  · by_cases hn : s.size < r.k + n
    · exact .inl (Rs.torn s r n h hn).2
    · right
      rw [(Rs.fine s r n h (by omega)).2]
      refine ⟨?_, h, by omega⟩
      simp; omega
  · exact .inl (Rs.bad s r n h).2
theorem numL_lt (l : List UInt8) : numL l < 256 ^ l.length := by
  have h : ∀ (l : List UInt8) (a n : Nat), a < 256 ^ n → l.foldl (fun a b => a * 256 + b.toNat) a < 256 ^ (n + l.length) := by
    intro l
    induction l with
    | nil => intro a n h; simpa using h
    | cons b l ih =>
      intro a n h
      have hb := b.toNat_lt
      have := ih (a * 256 + b.toNat) (n + 1) (by rw [Nat.pow_succ]; omega)
      simp only [List.foldl_cons, List.length_cons]
      rw [show n + (l.length + 1) = n + 1 + l.length from by omega]
      exact this
  have := h l 0 0 (by decide)
  simpa [numL] using this
theorem Rs.num_lt (s : ByteArray) (r : Rs) (n : Nat) : numB (r.got s n) < 256 ^ n := by
  unfold numB
  rcases Rs.got_size s r n with h | ⟨h, _, _⟩
  · rw [h]; exact Nat.pow_pos (by decide)
  · have := numL_lt (r.got s n).data.toList
    rwa [show (r.got s n).data.toList.length = n from by simpa using h] at this
theorem list1 {x : ByteArray} (h : x.size = 1) : ∃ a, x.data.toList = [a] := by
  have : x.data.toList.length = 1 := by simpa using h
  match hx : x.data.toList, this with
  | [a], _ => exact ⟨a, rfl⟩
theorem list2 {x : ByteArray} (h : x.size = 2) : ∃ a b, x.data.toList = [a, b] := by
  have : x.data.toList.length = 2 := by simpa using h
  match hx : x.data.toList, this with
  | [a, b], _ => exact ⟨a, b, rfl⟩
theorem list4 {x : ByteArray} (h : x.size = 4) : ∃ a b c d, x.data.toList = [a, b, c, d] := by
  have : x.data.toList.length = 4 := by simpa using h
  match hx : x.data.toList, this with
  | [a, b, c, d], _ => exact ⟨a, b, c, d, rfl⟩
theorem wrapu32_in {n : Int} (h : 0 ≤ n ∧ n ≤ 4294967295) : IntKind.u32.wrap n = n := by
  simp only [IntKind.wrap, IntKind.signed, IntKind.bits, Bool.false_and, Bool.false_eq_true, if_false]; omega
theorem wrapu16_in {n : Int} (h : 0 ≤ n ∧ n ≤ 65535) : IntKind.u16.wrap n = n := IntWalk.u16_in n h
theorem wrapu8_in {n : Int} (h : 0 ≤ n ∧ n ≤ 255) : IntKind.u8.wrap n = n := by
  simp only [IntKind.wrap, IntKind.signed, IntKind.bits, Bool.false_and, Bool.false_eq_true, if_false]; omega
theorem or_byte (a b : Nat) (ha : a < 16777216) (hb : b < 256) : bits BinOp.or IntKind.u32 ((a : Int) * 256) (b : Int) = ((a * 256 + b : Nat) : Int) := by
  have e1 : (((a : Int) * 256) % 2 ^ IntKind.u32.bits).toNat = 2 ^ 8 * a := by simp only [IntKind.bits]; omega
  have e2 : ((b : Int) % 2 ^ IntKind.u32.bits).toNat = b := by simp only [IntKind.bits]; omega
  have h : bits BinOp.or IntKind.u32 ((a : Int) * 256) (b : Int) = IntKind.u32.wrap ↑((((a : Int) * 256) % 2 ^ IntKind.u32.bits).toNat ||| ((b : Int) % 2 ^ IntKind.u32.bits).toNat) := by
    show IntKind.u32.wrap ↑(BitVec.ofInt _ _ ||| BitVec.ofInt _ _).toNat = _
    rw [BitVec.toNat_or, BitVec.toNat_ofInt, BitVec.toNat_ofInt]
    rfl
  rw [h, e1, e2, ← Nat.two_pow_add_eq_or_of_lt (i := 8) hb a]
  rw [wrapu32_in (by omega)]
  omega
end Go.Um
