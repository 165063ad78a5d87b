/- Bytes put together to numbers: plain laws of the machine's operations; no program in sight. -/
import Derived.Laws.BitsAllLaws
import Derived.IntWalk
namespace Go.Um
theorem nat_or (x y : Nat) (hy : y < 256) : x * 256 ||| y = x * 256 + y := by
  have h := Nat.two_pow_add_eq_or_of_lt (i := 8) (b := y) hy x
  rw [Nat.mul_comm x 256]
  exact h.symm
theorem u16_or8 (x y : Int) (h1 : 0 ≤ x) (h2 : x < 256) (h3 : 0 ≤ y) (h4 : y < 256) : bits .or .u16 (x * 256) y = 256 * x + y := by
  obtain ⟨A, rfl⟩ := Int.eq_ofNat_of_zero_le h1
  obtain ⟨B, rfl⟩ := Int.eq_ofNat_of_zero_le h3
  have h := u16_or_nat (A * 256) B (by omega) (by omega)
  have e : (A : Int) * 256 = ((A * 256 : Nat) : Int) := by simp
  rw [e, h, nat_or A B (by omega)]
  omega
theorem i64_or8 (x y : Int) (h1 : 0 ≤ x) (h2 : x < 65536) (h3 : 0 ≤ y) (h4 : y < 256) : bits .or .i64 (x * 256) y = 256 * x + y := by
  obtain ⟨A, rfl⟩ := Int.eq_ofNat_of_zero_le h1
  obtain ⟨B, rfl⟩ := Int.eq_ofNat_of_zero_le h3
  have e : (A : Int) * 256 = ((A * 256 : Nat) : Int) := by simp
  rw [e]
  show IntKind.i64.wrap ((BitVec.ofInt 64 ((A * 256 : Nat) : Int) ||| BitVec.ofInt 64 (B : Int)).toNat : Int) = _
  rw [BitVec.toNat_or, ofInt_u64 _ (by omega), ofInt_u64 B (by omega), nat_or A B (by omega), IntWalk.i64_in _ (by omega)]
  omega
theorem wrap16_in {n : Int} (h : 0 ≤ n ∧ n ≤ 65535) : IntKind.u16.wrap n = n := by rw [IntKind.wrap_u16]; omega
theorem wrap8_eq (n : Int) : IntKind.u8.wrap n = n % 256 := by simp only [IntKind.wrap, IntKind.signed, IntKind.bits, Bool.false_and, Bool.false_eq_true, if_false]; rfl
theorem nat_not16 (n : Nat) (h : n < 65536) : 65535 ^^^ n = 65535 - n := by
  have h1 := congrArg BitVec.toNat (BitVec.allOnes_xor (x := BitVec.ofNat 16 n))
  rw [BitVec.toNat_xor, BitVec.toNat_not, BitVec.toNat_allOnes, BitVec.toNat_ofNat, Nat.mod_eq_of_lt (by omega)] at h1
  exact h1
theorem u16_not (n : Int) (h0 : 0 ≤ n) (h1 : n ≤ 65535) : bits .xor .u16 (if IntKind.u16.signed = true then -1 else IntKind.u16.max) n = 65535 - n := by
  obtain ⟨N, rfl⟩ := Int.eq_ofNat_of_zero_le h0
  have h := u16_xor_nat 65535 N (by omega) (by omega)
  rw [nat_not16 N (by omega)] at h
  have e : (if IntKind.u16.signed = true then -1 else IntKind.u16.max) = ((65535 : Nat) : Int) := by decide
  rw [e, h]; omega
end Go.Um
