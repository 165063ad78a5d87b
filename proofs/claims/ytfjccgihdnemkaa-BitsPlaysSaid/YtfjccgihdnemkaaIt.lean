/- bits.Set's All: the iterator's contract. Printed from It.tmpl. -/
import Derived.Test.YtfjccgihdnemkaaOf
import Derived.RangeFuncNested
import Derived.RangeFuncBound
import Derived.RangeFuncCalls
import Derived.RangeFuncLeaves
import Derived.Shelf.Abstract
import Derived.Shelf.RegionOpen
import Derived.OwnWalkIn
import Derived.TacticsInMore
import Derived.LoopNIn
import Derived.LoopIn
namespace Go.Um
/-- the numbers of a set below t, rising -/
def upto (N t : Nat) : List Nat := (List.range t).filter fun n => N.testBit n
theorem upto_succ (N t : Nat) : upto N (t + 1) = upto N t ++ (if N.testBit t then [t] else []) := by
  unfold upto
  rw [List.range_succ, List.filter_append]
  cases h : N.testBit t <;> simp [h]
theorem upto_more {N t : Nat} (h : ∀ n, t ≤ n → N.testBit n = false) : ∀ k, upto N (t + k) = upto N t
  | 0 => rfl
  | k + 1 => by
    rw [show t + (k + 1) = (t + k) + 1 by omega, upto_succ, h _ (by omega), upto_more h k]
    simp
theorem upto_len (N t : Nat) : (upto N t).length ≤ t := by
  unfold upto
  have := List.length_filter_le (fun n => N.testBit n) (List.range t)
  simpa using this
theorem upto_gap {N t : Nat} : ∀ k, (∀ j, j < k → N.testBit (t + j) = false) → upto N (t + k) = upto N t
  | 0, _ => rfl
  | k + 1, h => by
    rw [show t + (k + 1) = (t + k) + 1 by omega, upto_succ, h k (by omega), upto_gap k (fun j hj => h j (by omega))]
    simp
theorem word_bitk (N i k : Nat) (hk : k < 64) : wordN N i / 2 ^ k % 2 = if N.testBit (64 * i + k) then 1 else 0 := by
  have := word_bit N (64 * i + k)
  rwa [show (64 * i + k) / 64 = i by omega, show (64 * i + k) % 64 = k by omega] at this
theorem word_done (N i k : Nat) (h : wordN N i / 2 ^ k = 0) (hk : k ≤ 64) : ∀ j, j < 64 - k → N.testBit (64 * i + k + j) = false := by
  intro j hj
  have h1 := testBit_word N i (k + j)
  rw [decide_eq_true (by omega), Bool.true_and, ← Nat.add_assoc] at h1
  rw [← h1]
  have h2 := testBit_div (wordN N i) k j
  rw [h, Nat.zero_testBit] at h2
  exact h2.symm
end Go.Um
namespace Go.Proofs.Ytfjccgihdnemkaa
open Go.RowKit Go.Um Go.Shelf
attribute [local go_sem] Oper.semAt_some
set_option linter.unusedSimpArgs false
set_option linter.unusedVariables false
set_option maxHeartbeats 4000000
set_option maxRecDepth 100000
/-- a number of a set -/
abbrev Mem (N : Nat) := { x : Nat // N.testBit x = true }
def vals (N : Nat) (pre : List (Mem N)) : List Nat := pre.map Subtype.val
theorem vals_snoc (N : Nat) (pre : List (Mem N)) (x : Mem N) : vals N (pre ++ [x]) = vals N pre ++ [x.1] := by simp [vals]
theorem all1_in (F : Fence) (n : Nat) (hall1 : F.fn 31) (hro : F.round = none) (hn : 1 ≤ n) (l Bs n₀ : Nat) (N m : Nat) (ao : Option Addr) (cap b o : Nat) (hb : 0 < m → b < n₀) (hneed : Needs 64 m N) (hm : m ≤ 1024) (J Jx : List (Mem N) → World → Prop)
    (hY : ∀ pre (x : Mem N) W, J pre W → pre.length < 65536 → YieldAt F (n - 1) Try.prog l #[.int .i64 (x.1 : Int)] W fun e W' =>
      (e = .returned (.bool true) ∧ J (pre ++ [x]) W' ∧ Below n₀ W W') ∨ (e = .returned (.bool false) ∧ Jx (pre ++ [x]) W'))
    (W : World) (hBs : W.cell? ⟨Bs, 0, none⟩ = some (.slice ao m cap)) (hs : SlAt W 1 m (u64s (words N m)) ao cap b o) (h0 : J [] W) :
    CallsIn F n Try.prog 31 #[.func (.yield l) #[] #[], .pointer (some ⟨Bs, 0, none⟩)] W fun e W' => (∃ v, e = .returned v) ∧
      ((∃ ys, vals N ys = upto N (64 * m) ∧ J ys W') ∨ (∃ pre, (∃ t, vals N pre = upto N t) ∧ Jx pre W')) := by
  have hidx := hs.idx (P := Try.prog) (t := 25) Try.underlying25 size61 (by decide)
  have HS := Lib.hid hs
  have HN := Lib.hid hneed
  clear hs hneed
  refine callsIn_of_wp Try.func31 rfl hall1 ?_ hro
  simp only [Try.ntmps31, List.size_toArray, List.length_cons, List.length_nil, Nat.reduceAdd, Nat.reduceSub, Array.replicate_succ, Array.replicate_zero, List.push_toArray, List.append_toArray, List.nil_append, List.cons_append]
  gi_wp2
  gi_loopw [9] (fun t9 wr => ∃ (i : Nat) (pre : List (Mem N)), i ≤ m ∧ t9 = .int .i64 i ∧ Hid (vals N pre = upto N (64 * i)) ∧ J pre wr ∧ Below n₀ W wr)
    (fun t9 _ => m - (intOf t9).toNat)
  case atStart => exact ⟨0, [], Nat.zero_le _, rfl, rfl, h0, Below.refl _ _⟩
  case round =>
    obtain ⟨i, pre, hi, rfl, hpre, hJs, hnx⟩ := hrel
    by_cases hlt : i < m
    · have i1 : (0 : Int) ≤ (i : Int) := by omega
      have i2 : (i : Int) < (m : Int) := by omega
      have g0 := (hnx.cell (p := ⟨b, o + i, none⟩) (hb (by omega))).trans (HS.out.cell i _ (u64s_at (words_at N m i hlt)))
      obtain ⟨Y, hY0⟩ : ∃ Y, Y = wordN N i := ⟨_, rfl⟩
      rw [← hY0] at g0
      have HY0 := Lib.hid hY0
      clear hY0
      gi_wp2
      gi_loopw [4, 5] (fun t4 t5 wr => ∃ (X k : Nat) (pre : List (Mem N)), t4 = .int .u64 (X : Int) ∧ t5 = .int .i64 (k : Int) ∧ k ≤ 64 ∧ Hid (X = wordN N i / 2 ^ k ∧ vals N pre = upto N (64 * i + k)) ∧ J pre wr ∧ Below n₀ W wr)
        (fun _ t5 _ => 64 - (intOf t5).toNat)
      case atStart => exact ⟨Y, 0, pre, rfl, rfl, Nat.zero_le _, Lib.hid ⟨by rw [HY0.out]; simp, hpre.out⟩, hJs, hnx⟩
      case round =>
        obtain ⟨X, k, pre, rfl, rfl, hk, hX, hJs, hnx⟩ := hrel
        clear g0 hpre
        by_cases hX0 : X = 0
        · have z1 : (X : Int) = 0 := by omega
          have HZ := Lib.hid hX0
          clear hX0
          gi_wp2
          refine ⟨⟨i + 1, pre, by omega, by go_num, Lib.hid ?_, hJs, hnx⟩, by simp [intOf]; omega⟩
          have h1 := upto_gap (N := N) (t := 64 * i + k) (64 - k) (word_done N i k (by rw [← hX.out.1]; exact HZ.out) hk)
          rw [show 64 * i + k + (64 - k) = 64 * (i + 1) by omega] at h1
          rw [h1]
          exact hX.out.2
        · have z1 : ¬ (X : Int) = 0 := by omega
          have hXl : X < 2 ^ 64 := by rw [hX.out.1]; exact Nat.lt_of_le_of_lt (Nat.div_le_self _ _) (wordN_lt _ _)
          have hk64 : k < 64 := by
            refine Nat.lt_of_le_of_ne hk fun e => hX0 ?_
            rw [hX.out.1, e]
            exact Nat.div_eq_of_lt (wordN_lt _ _)
          have hb1 := word_bitk N i k hk64
          rw [← hX.out.1] at hb1
          have e2 := bits_and64 X 1 hXl (by decide)
          rw [and_one, hb1] at e2
          have e3 : ((1 : Nat) : Int) = 1 := rfl
          rw [e3] at e2
          have hlen : pre.length < 65536 := by
            have h1 : (vals N pre).length = pre.length := by simp [vals]
            have h2 := upto_len N (64 * i + k)
            rw [← hX.out.2, h1] at h2
            omega
          have hX2 : X / 2 = wordN N i / 2 ^ (k + 1) := by rw [hX.out.1, Nat.div_div_eq_div_mul, Nat.pow_succ]
          have HX2 := Lib.hid hX2
          clear hX2 hXl hX0 hb1 e3
          cases hb : N.testBit (64 * i + k)
          · rw [hb] at e2
            simp only [Bool.false_eq_true, if_false] at e2
            have HB := Lib.hid hb
            clear hb
            have e4 : ((0 : Nat) : Int) = 0 := rfl
            rw [e4] at e2
            clear e4
            gi_wp2
            refine ⟨fun _ h => (by cases h), ?_⟩
            gi_wp2
            go_roundw
            case rel => exact ⟨X / 2, k + 1, pre, by simp, by go_num, by omega, Lib.hid ⟨HX2.out, by rw [← Nat.add_assoc, upto_succ, HB.out]; simpa using hX.out.2⟩, hJs, hnx⟩
            case measure => simp [intOf]; omega
          · have hY1 := hY pre ⟨64 * i + k, hb⟩ wr hJs hlen
            have hxv : (((64 * i + k : Nat)) : Int) = (i : Int) * 64 + (k : Int) := by omega
            simp only [hxv] at hY1
            clear hxv
            rw [hb] at e2
            simp only [if_true] at e2
            have e4 : ((1 : Nat) : Int) = 1 := rfl
            rw [e4] at e2
            clear e4
            have HB := Lib.hid hb
            obtain ⟨fn, tmps, assign, body, hy, hR⟩ := hY1
            have HV : Hid (vals N (pre ++ [⟨64 * i + k, HB.out⟩]) = upto N (64 * i + (k + 1))) := Lib.hid (by
              have hs := upto_succ N (64 * i + k)
              rw [if_pos HB.out] at hs
              rw [← Nat.add_assoc, hs, vals_snoc, hX.out.2])
            gi_wp2
            refine hR.mono ?_
            rintro e W3 (⟨rfl, hJ3, hk3⟩ | ⟨rfl, hJx3⟩)
            · gi_wp2
              go_roundw
              case rel => exact ⟨X / 2, k + 1, _, by simp, by go_num, by omega, Lib.hid ⟨HX2.out, HV.out⟩, hJ3, hnx.trans hk3⟩
              case measure => simp [intOf]; omega
            · gi_wp2
              refine bodyPost_ret (results_none rfl _ _ _) rfl ?_
              exact ⟨⟨_, rfl⟩, .inr ⟨_, ⟨_, HV.out⟩, hJx3⟩⟩
    · have i2 : ¬ (i : Int) < (m : Int) := by omega
      have hmi : m = i := by omega
      have HM := Lib.hid hmi
      clear hmi
      gi_wp2
      go_end0
      exact ⟨⟨_, rfl⟩, .inl ⟨pre, by rw [HM.out]; exact hpre.out, hJs⟩⟩
/-- after -/
theorem all_in (F : Fence) (n : Nat) (hall : F.fn 12) (hro : F.round = none) (m : Nat) (ao : Option Addr) (cap : Nat) (w : World) :
    CallsIn F n Try.prog 12 #[.agg #[.slice ao m cap]] w fun e w' => e = .returned (.func (.func 31) #[] #[.pointer (some ⟨w.heap.size, 0, none⟩)]) ∧ w' = w.alloc (.cells #[.slice ao m cap] 27) := by
  refine callsIn_of_wp Try.func12 rfl hall ?_ hro
  simp only [Try.ntmps12, List.size_toArray, List.length_cons, List.length_nil, Nat.reduceAdd, Nat.reduceSub, Array.replicate_succ, Array.replicate_zero, List.push_toArray, List.append_toArray, List.nil_append, List.cons_append]
  gi_wp2
  go_ret
  exact ⟨rfl, rfl⟩
theorem all_stops (F : Fence) (n : Nat) (hall1 : F.fn 31) (hro : F.round = none) (hn : 1 ≤ n) (Bs n₀ : Nat) (N m : Nat) (ao : Option Addr) (cap b o : Nat) (w : World) (hBs : Bs < w.heap.size) (hn₀ : n₀ ≤ w.heap.size) (hb : 0 < m → b < n₀) (hneed : Needs 64 m N) (hm : m ≤ 1024)
    (hc : w.cell? ⟨Bs, 0, none⟩ = some (.slice ao m cap)) (hs : SlAt w 1 m (u64s (words N m)) ao cap b o) :
    SeqStopsK F n Try.prog 31 #[.pointer (some ⟨Bs, 0, none⟩)] (fun x : Mem N => #[Value.int .i64 (x.1 : Int)]) (Below n₀) (fun ys => vals N ys = upto N (64 * m)) (fun pre => ∃ t, vals N pre = upto N t) 65536 w := fun l J Jx W hW _ _ hY h0 =>
  all1_in F n hall1 hro hn l Bs n₀ N m ao cap b o hb hneed hm J Jx hY W ((hW.cell (p := ⟨Bs, 0, none⟩) hBs).trans hc) (hs.below hW) h0
end Go.Proofs.Ytfjccgihdnemkaa
