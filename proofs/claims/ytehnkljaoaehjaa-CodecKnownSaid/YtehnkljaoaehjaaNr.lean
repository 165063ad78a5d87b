import Derived.Test.YtehnkljaoaehjaaWr
namespace Go.Proofs.Ytehnkljaoaehjaa
open Go.RowKit Go.Um
set_option linter.unusedSimpArgs false
set_option linter.unusedVariables false
set_option maxHeartbeats 2000000
set_option maxRecDepth 100000
theorem conv1 (w : World) (x : Int) (g : Nat) (hg : g = w.heap.size) : (convert 29 9 (.slice (some ⟨g, 0, none⟩) 1 1)).run Try.prog (w.alloc (.cells #[.int .u8 x] 5)) = .ok (.string (strOfNums [x])) (w.alloc (.cells #[.int .u8 x] 5)) := by
  subst hg
  exact run_convert_bytes_arg _ 29 5 Try.underlying29 Try.underlying5 w.heap.size 0 1 1 [x] rfl (fun i hi => by
    have : i = 0 := by omega
    subst this
    simp [go_sem]) 9 Try.underlying9
theorem strcat (a b : List Int) : strOfNums a ++ strOfNums b = strOfNums (a ++ b) := by
  have e : (strOfNums a ++ strOfNums b).data.toList = (strOfNums (a ++ b)).data.toList := by
    rw [ByteArray.data_append, Array.toList_append, strOfNums_data, strOfNums_data, strOfNums_data, List.map_append]
  generalize strOfNums a ++ strOfNums b = x at e ⊢
  generalize strOfNums (a ++ b) = y at e ⊢
  obtain ⟨⟨x⟩⟩ := x
  obtain ⟨⟨y⟩⟩ := y
  simp only at e
  rw [e]
theorem number_any (n : Int) (W : Nat) (w : World) (hn : 0 ≤ n ∧ n ≤ 4294967295) (hW : W ≤ 4) :
    Calls Try.prog 28 #[.int .u32 n, .int .i64 W] w fun e w' => e = .returned (.string (strOfNums (be n W))) ∧ Below w.heap.size w w' := by
  have hcv := conv1
  go_enter Try.func28, Try.ntmps28
  go_wp2_with fail
  go_loopw [0, 5, 6] (fun t0 t5 t6 wr => ∃ j : Nat, j ≤ W ∧ t6 = .int .i64 j ∧ t0 = .int .u32 (n / 2 ^ (8 * j)) ∧ t5 = .string (strOfNums (be n j)) ∧ Hid (Below w.heap.size w wr)) (fun _ _ t6 _ => W - (intOf t6).toNat)
  case atStart => exact ⟨0, Nat.zero_le _, rfl, by simp, rfl, bz w⟩
  case round =>
    obtain ⟨j, hj, rfl, rfl, rfl, hb⟩ := hrel
    by_cases hlt : j < W
    · have h4 : j = 0 ∨ j = 1 ∨ j = 2 ∨ j = 3 := by omega
      have hsz : ((strOfNums (be n j)).size : Int) ≤ 8388608 := by rw [strOfNums_size, be_len]; omega
      have i2 : (j : Int) < (W : Int) := by omega
      have hm0 : 0 ≤ n / 2 ^ (8 * j) ∧ n / 2 ^ (8 * j) ≤ 4294967295 := by rcases h4 with rfl | rfl | rfl | rfl <;> simp <;> omega
      have hbn : be n (j + 1) = [byteOf n j] ++ be n j := rfl
      have hby : byteOf n j = n / 2 ^ (8 * j) % 256 := rfl
      have hnx : n / 2 ^ (8 * (j + 1)) = n / 2 ^ (8 * j) / 256 := by
        rw [show (256 : Int) = 2 ^ 8 from rfl, Int.ediv_ediv_of_nonneg (by exact Int.pow_nonneg (by decide)), ← Int.pow_add, Nat.mul_add]
      obtain ⟨m, hm⟩ : ∃ m, m = n / 2 ^ (8 * j) := ⟨_, rfl⟩
      rw [← hm] at hm0 hby hnx ⊢
      have e1 : m.tmod 256 % 256 = m % 256 := by rw [Int.tmod_eq_emod_of_nonneg hm0.1]; omega
      have e2 : m.tdiv 256 % 4294967296 = m / 256 := by rw [Int.tdiv_eq_ediv_of_nonneg hm0.1]; omega
      have hs1 : ((strOfNums [m % 256]).size : Int) ≤ 8388608 := by rw [strOfNums_size]; simp
      have HBN := Lib.hid hbn
      have HBY := Lib.hid hby
      have HNX := Lib.hid hnx
      clear hbn hby hnx hm hm0 h4
      go_wp2_with fail
      go_roundw
      case rel =>
        refine ⟨j + 1, by omega, by go_num, ?_, ?_, ?_⟩
        · rw [HNX.out, e2]
        · rw [HBN.out, HBY.out, strcat]
        · exact ba hb.out _
      case measure => simp [intOf]; omega
    · have e : j = W := by omega
      subst e
      have kk1 : ¬ ((j : Int) < (j : Int)) := by omega
      go_wp2
      go_ret
      exact ⟨rfl, hb.out⟩
end Go.Proofs.Ytehnkljaoaehjaa
