/- bits' cut. Printed from Ct.tmpl. -/
import Derived.Test.YtfjccgihdnemkaaOf
namespace Go.Proofs.Ytfjccgihdnemkaa
open Go.RowKit Go.Um
set_option linter.unusedSimpArgs false
set_option linter.unusedVariables false
set_option maxHeartbeats 4000000
set_option maxRecDepth 100000
theorem slpre {w : World} {n k cap b o : Nat} {cs : List Value} {ao : Option Addr} (h : SlAt w 1 n cs ao cap b o) (hk : k ≤ n) : SlAt w 1 k (cs.take k) ao cap b o := by
  have hl := h.len
  have hlen : (cs.take k).length = k := by rw [List.length_take]; omega
  exact ⟨by omega, Nat.le_trans hk h.le, h.max, fun hp => h.addr (by omega), fun hp => h.lt (by omega), fun j u hu => by
    have hj := (List.getElem?_eq_some_iff.1 hu).1
    rw [List.getElem?_take_of_lt (by omega)] at hu
    exact h.cell j u hu⟩
theorem words_take (N M k : Nat) (hk : k ≤ M) : (u64s (words N M)).take k = u64s (words N k) := by
  apply List.ext_getElem?
  intro i
  by_cases h : i < k
  · rw [List.getElem?_take_of_lt h, u64s_at (words_at N M i (by omega)), u64s_at (words_at N k i h)]
  · rw [List.getElem?_eq_none (by rw [List.length_take]; omega), List.getElem?_eq_none (by rw [u64s_len, words_len]; omega)]
theorem word_zero {N j : Nat} (h : N < 2 ^ (64 * (j + 1))) (hz : wordN N j = 0) : N < 2 ^ (64 * j) := by
  unfold wordN at hz
  have h1 : N / 2 ^ (64 * j) < 2 ^ 64 := Nat.div_lt_of_lt_mul (by rw [← Nat.pow_add, show 64 * j + 64 = 64 * (j + 1) by omega]; exact h)
  rw [Nat.mod_eq_of_lt h1] at hz
  have h2 : 0 < 2 ^ (64 * j) := Nat.pos_of_ne_zero (by simp)
  exact Nat.lt_of_div_eq_zero h2 hz
theorem word_nz {N j : Nat} (hz : ¬ wordN N j = 0) : 2 ^ (64 * j) ≤ N := by
  refine Classical.byContradiction fun h => hz ?_
  unfold wordN
  rw [Nat.div_eq_of_lt (by omega)]
  first | done | rfl
theorem cut_any (N M : Nat) (ao : Option Addr) (cap b o : Nat) (w : World) (hs : SlAt w 1 M (u64s (words N M)) ao cap b o) (hN : N < 2 ^ (64 * M)) (hM : M ≤ 1024) : Calls Try.prog 30 #[.slice ao M cap] w (SetPost N w) := by
  have HS := Lib.hid hs
  have hcap := hs.le
  have hmax := hs.max
  have HNl := Lib.hid hN
  clear hs hN
  go_enter Try.func30, Try.ntmps30
  go_wp2_with fail
  have HB0 := Lib.hid (ba (bz w) (.cells #[.slice none 0 0] 27))
  go_loop [0] (fun t0 => ∃ k : Nat, k ≤ M ∧ t0 = .slice ao k cap ∧ Hid (N < 2 ^ (64 * k))) (fun t0 => match t0 with | .slice _ n _ => n | _ => 0)
  case atStart => exact ⟨M, Nat.le_refl _, rfl, HNl⟩
  case round =>
    obtain ⟨k, hk, rfl, hI⟩ := hrel
    by_cases hk0 : k = 0
    · subst hk0
      have z0 : ¬ (0 : Int) < 0 := by omega
      have HE : Hid (∀ w', Below w.heap.size w w' → SetAt w' (.agg #[.slice ao 0 cap]) N) := Lib.hid (fun w' hb => ⟨0, ao, cap, b, o, rfl, by rw [← words_take N M 0 hk]; exact (slpre HS.out hk).below hb, ⟨hI.out, .inl rfl⟩, by omega⟩)
      go_wp2_with fail
      exact bodyPost_ret (v := .agg #[.slice ao 0 cap]) (by simp [results, Try.results30, go_sem]) rfl ⟨_, rfl, HE.out _ (ba (bz w) _), ba (bz w) _⟩
    · have z0 : (0 : Int) < (k : Int) := by omega
      have hidx := ((slpre HS.out hk).idx (P := Try.prog) (t := 25) Try.underlying25 size61 (by decide))
      have i0 : (0 : Int) ≤ (k : Int) - 1 := by omega
      have i1 : (k : Int) - 1 < (k : Int) := by omega
      obtain ⟨j, hj⟩ : ∃ j, j = k - 1 := ⟨_, rfl⟩
      have hto : ((k : Int) - 1).toNat = j := by omega
      have hix := fun w => hidx ((k : Int) - 1) i0 i1 w
      rw [hto] at hix
      clear hidx
      have g0 := (HS.out.below HB0.out).cell j _ (u64s_at (words_at N M j (by omega)))
      obtain ⟨Y, hY⟩ : ∃ Y, Y = wordN N j := ⟨_, rfl⟩
      rw [← hY] at g0
      have HY := Lib.hid hY
      clear hY
      by_cases hY0 : Y = 0
      · have y0 : (Y : Int) = 0 := by omega
        have HW := Lib.hid (show wordN N j = 0 by rw [← HY.out]; exact hY0)
        have HJ := Lib.hid hj
        clear hY0 hj
        go_wp2_with fail
        refine ⟨⟨j, by omega, rfl, Lib.hid ?_⟩, by show j < k; omega⟩
        have h := hI.out
        rw [show k = j + 1 by have := HJ.out; omega] at h
        exact word_zero h HW.out
      · have y0 : ¬ (Y : Int) = 0 := by omega
        have HE : Hid (∀ w', Below w.heap.size w w' → SetAt w' (.agg #[.slice ao k cap]) N) := Lib.hid (fun w' hb => ⟨k, ao, cap, b, o, rfl, by rw [← words_take N M k hk]; exact (slpre HS.out hk).below hb, ⟨hI.out, .inr (by rw [← hj]; exact word_nz (by rw [← HY.out]; exact hY0))⟩, by omega⟩)
        have HJ := Lib.hid hj
        clear hj hY0
        go_wp2_with fail
        exact bodyPost_ret (v := .agg #[.slice ao k cap]) (by simp [results, Try.results30, go_sem]) rfl ⟨_, rfl, HE.out _ (ba (bz w) _), ba (bz w) _⟩
end Go.Proofs.Ytfjccgihdnemkaa
