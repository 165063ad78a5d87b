/- The checksum of frames: the program's and the document's. -/
import Derived.Test.YtkjcpdogibbahaaProg
import Derived.Test.YtkjcpdogibbahaaGen
import Derived.Test.YtkjcpdogibbahaaBits
import Derived.BigQuiet
import Derived.KernelRfl
import Derived.IntWalk
namespace Go.Proofs.Ytkjcpdogibbahaa
open Go.RowKit Go.Um
set_option maxHeartbeats 1000000

/-- one byte more -/
def fsStep (p : Int × Int) (c : UInt8) : Int × Int := ((p.1 + c.toNat) % 255, (p.2 + (p.1 + c.toNat) % 255) % 255)
def fs (l : List UInt8) : Int × Int := l.foldl fsStep (0, 0)
/-- the sum of bytes -/
def sumN (l : List UInt8) : Int := 256 * (fs l).2 + (fs l).1
theorem fsStep_bd (p : Int × Int) (c : UInt8) : (0 ≤ (fsStep p c).1 ∧ (fsStep p c).1 < 255) ∧ 0 ≤ (fsStep p c).2 ∧ (fsStep p c).2 < 255 := by unfold fsStep; dsimp only; omega
theorem fs_snoc (l : List UInt8) (c : UInt8) : fs (l ++ [c]) = fsStep (fs l) c := by simp [fs]
theorem fs_bd (l : List UInt8) : (0 ≤ (fs l).1 ∧ (fs l).1 < 255) ∧ 0 ≤ (fs l).2 ∧ (fs l).2 < 255 := by
  rcases List.eq_nil_or_concat l with rfl | ⟨l', c, rfl⟩
  · decide
  · rw [List.concat_eq_append, fs_snoc]; exact fsStep_bd _ _
theorem len_data (s : ByteArray) : s.data.toList.length = s.size := Array.length_toList
theorem take_snoc (s : ByteArray) (k : Nat) (h : k < s.size) : s.data.toList.take (k + 1) = s.data.toList.take k ++ [s[k]] := by
  rw [List.take_succ_eq_append_getElem (by simpa using h)]; rfl

theorem step_a (a : Int) (c : UInt8) (h0 : 0 ≤ a) (h1 : a < 255) : (wrap64 (a + wrap64 (c.toNat : Int))).tmod 255 = (a + c.toNat) % 255 := by
  have hc := c.toNat_lt
  rw [IntWalk.wrap64_in (c.toNat : Int) (by omega), IntWalk.wrap64_in _ (by omega), Int.tmod_eq_emod_of_nonneg (by omega)]
theorem step_b (a b : Int) (h0 : 0 ≤ a) (h1 : a < 255) (h2 : 0 ≤ b) (h3 : b < 255) : (wrap64 (b + a)).tmod 255 = (b + a) % 255 := by
  rw [IntWalk.wrap64_in _ (by omega), Int.tmod_eq_emod_of_nonneg (by omega)]
theorem step_fst (p : Int × Int) (c : UInt8) (b1 : 0 ≤ p.1) (b2 : p.1 < 255) : (wrap64 (p.1 + wrap64 (c.toNat : Int))).tmod 255 = (fsStep p c).1 := step_a _ _ b1 b2
theorem step_snd (p : Int × Int) (c : UInt8) (b1 : 0 ≤ p.1) (b2 : p.1 < 255) (b3 : 0 ≤ p.2) (b4 : p.2 < 255) : (wrap64 (p.2 + (wrap64 (p.1 + wrap64 (c.toNat : Int))).tmod 255)).tmod 255 = (fsStep p c).2 := by
  rw [step_a _ _ b1 b2, step_b _ _ (by omega) (by omega) b3 b4]; rfl

theorem rsum_any (s : ByteArray) (w : World) (hs : s.size ≤ 1000000) :
    Calls Try.prog 20 #[.string s] w fun e w' => e = .returned (.int .i64 (sumN s.data.toList)) ∧ w = w' := by
  go_enter Try.func20, Try.ntmps20
  go_wp2
  go_loop [3, 4, 5] (fun a b i => ∃ k : Nat, k ≤ s.size ∧ i = .int .i64 k ∧ a = .int .i64 (fs (s.data.toList.take k)).1 ∧ b = .int .i64 (fs (s.data.toList.take k)).2) (fun _ _ i => s.size - (intOf i).toNat)
  case atStart => exact ⟨0, Nat.zero_le _, rfl, rfl, rfl⟩
  case round =>
    obtain ⟨k, hk, rfl, rfl, rfl⟩ := hrel
    have hb := fs_bd (s.data.toList.take k)
    obtain ⟨p, hp⟩ : ∃ p, p = fs (s.data.toList.take k) := ⟨_, rfl⟩
    rw [← hp] at hb ⊢
    have Hp := Lib.hid hp
    clear hp
    obtain ⟨⟨b1, b2⟩, b3, b4⟩ := hb
    by_cases hlt : k < s.size
    · have hsn := take_snoc s k hlt
      have HS : Hid (fs (s.data.toList.take (k + 1)) = fsStep p s[k]) := by rw [hsn, fs_snoc, ← Hp.out]; rfl
      clear hsn
      go_wp2
      go_round
      case rel => exact ⟨k + 1, by omega, by go_num, by rw [HS.out, step_fst _ _ b1 b2], by rw [HS.out, step_snd _ _ b1 b2 b3 b4]⟩
      case measure => simp [intOf]; omega
    · go_wp2
      go_ret
      have e : sumN s.data.toList = 256 * p.2 + p.1 := by
        have h1 : s.data.toList.take k = s.data.toList := List.take_of_length_le (by have := len_data s; omega)
        rw [Hp.out, h1]; rfl
      exact ⟨by simp [e], rfl⟩
theorem sum_any (s : ByteArray) (w : World) (hs : s.size ≤ 1000000) :
    Calls Try.prog 19 #[.string s] w fun e w' => e = .returned (.int .u16 (sumN s.data.toList)) ∧ w = w' := by
  go_enter Try.func19, Try.ntmps19
  go_wp2
  go_loop [3, 4, 8] (fun a b i => ∃ k : Nat, k ≤ s.size ∧ i = .int .i64 k ∧ a = .int .i64 (fs (s.data.toList.take k)).1 ∧ b = .int .i64 (fs (s.data.toList.take k)).2) (fun _ _ i => s.size - (intOf i).toNat)
  case atStart => exact ⟨0, Nat.zero_le _, rfl, rfl, rfl⟩
  case round =>
    obtain ⟨k, hk, rfl, rfl, rfl⟩ := hrel
    have hb := fs_bd (s.data.toList.take k)
    obtain ⟨p, hp⟩ : ∃ p, p = fs (s.data.toList.take k) := ⟨_, rfl⟩
    rw [← hp] at hb ⊢
    have Hp := Lib.hid hp
    clear hp
    obtain ⟨⟨b1, b2⟩, b3, b4⟩ := hb
    by_cases hlt : k < s.size
    · have hsn := take_snoc s k hlt
      have HS : Hid (fs (s.data.toList.take (k + 1)) = fsStep p s[k]) := by rw [hsn, fs_snoc, ← Hp.out]; rfl
      clear hsn
      go_wp2
      go_round
      case rel => exact ⟨k + 1, by omega, by go_num, by rw [HS.out, step_fst _ _ b1 b2], by rw [HS.out, step_snd _ _ b1 b2 b3 b4]⟩
      case measure => simp [intOf]; omega
    · go_wp2
      go_ret
      have e : sumN s.data.toList = 256 * p.2 + p.1 := by
        have h1 : s.data.toList.take k = s.data.toList := List.take_of_length_le (by have := len_data s; omega)
        rw [Hp.out, h1]; rfl
      have e2 : IntKind.u16.wrap (bits .or .i64 (p.2 * 256) p.1) = 256 * p.2 + p.1 := by rw [i64_or8 _ _ b3 (by omega) b1 (by omega), wrap16_in (by omega)]
      exact ⟨by simp [e, e2], rfl⟩
end Go.Proofs.Ytkjcpdogibbahaa
