/- Are the acts few? (few, f19). -/
import Derived.Test.YtfjccgihdnemkaaRu
import Derived.Test.YtfjccgihdnemkaaOpact
namespace Go.Proofs.Ytfjccgihdnemkaa
open Go.RowKit Go.Um
set_option linter.unusedSimpArgs false
set_option linter.unusedVariables false
set_option maxHeartbeats 4000000
set_option maxRecDepth 100000
theorem size52 : (Try.prog.info? 52).map (·.size) = some 3 := by kernel_rfl
def FewPost (l : List Act3) (w : World) (e : Ending) (w' : World) : Prop :=
  ∃ B, e = .returned (.bool B) ∧ w = w' ∧ (B = true → l.length ≤ 40 ∧ ∀ (j : Nat) (x : Act3), l[j]? = some x → x.l.length ≤ 40)
theorem few_any (l : List Act3) (n : Nat) (hn : n = l.length) (ao : Option Addr) (cap b o : Nat) (w : World) (hsl : SlAt w 3 n (l.flatMap Act3.cells) ao cap b o) :
    Calls Try.prog 19 #[.slice ao n cap] w (FewPost l w) := by
  have hidx := hsl.idx (P := Try.prog) (t := 45) (e := 52) (by kernel_rfl) size52 (by decide)
  have HL := Lib.hid hn
  have HS := Lib.hid hsl
  clear hn hsl
  go_enter Try.func19, Try.ntmps19
  go_wp2_with fail
  go_loop [3] (fun t3 => ∃ k : Nat, k ≤ n ∧ k ≤ 50 ∧ t3 = .int .i64 k ∧ Hid (∀ (j : Nat) (x : Act3), j < k → l[j]? = some x → x.l.length ≤ 40)) (fun t3 => n - (intOf t3).toNat)
  case atStart => exact ⟨0, Nat.zero_le _, by decide, rfl, Lib.hid (fun j x h => absurd h (Nat.not_lt_zero _))⟩
  case round =>
    obtain ⟨k, hk, hk50, rfl, hall⟩ := hrel
    by_cases hlt : k < n
    · have i1 : (0 : Int) ≤ (k : Int) := by omega
      have i2 : (k : Int) < (n : Int) := by omega
      by_cases h50 : k < 50
      · have i3 : (k : Int) < 50 := by omega
        obtain ⟨x, hxk⟩ : ∃ x, l[k]? = some x := ⟨_, List.getElem?_eq_getElem (by rw [← HL.out]; exact hlt)⟩
        have g2 := HS.out.cell (k * 3 + 2) (.slice x.ao x.l.length x.cap) (by rw [cell_of Act3.three l k x hxk 2 (by decide)]; rfl)
        rw [← Nat.add_assoc] at g2
        have HX := Lib.hid hxk
        clear hxk
        by_cases a1 : 40 < x.l.length
        · have t1 : decide ((40 : Int) < (x.l.length : Int)) = true := by rw [decide_eq_true_iff]; omega
          have t2 : (40 : Int) < (x.l.length : Int) := by omega
          go_wp2
          go_ret
          exact ⟨false, rfl, rfl, fun h => by cases h⟩
        · have t1 : decide ((40 : Int) < (x.l.length : Int)) = false := by rw [decide_eq_false_iff_not]; omega
          have t2 : ¬ (40 : Int) < (x.l.length : Int) := by omega
          go_wp2_with fail
          go_round
          case rel => exact ⟨k + 1, by omega, by omega, by go_num, Lib.hid (fun j y hj hy => by
            by_cases e : j < k
            · exact hall.out j y e hy
            · have : j = k := by omega
              subst this
              rw [HX.out] at hy
              cases hy
              omega)⟩
          case measure => simp [intOf]; omega
      · have i3 : ¬ (k : Int) < 50 := by omega
        have i4 : ¬ (n : Int) ≤ 40 := by omega
        go_wp2
        go_ret
        exact ⟨_, rfl, rfl, fun h => by simp at h⟩
    · have i2 : ¬ (k : Int) < (n : Int) := by omega
      go_wp2
      go_ret
      exact ⟨_, rfl, rfl, fun h => ⟨by have := HL.out; simp at h; omega, fun j y hy => hall.out j y (by have := (List.getElem?_eq_some_iff.1 hy).1; have := HL.out; omega) hy⟩⟩
end Go.Proofs.Ytfjccgihdnemkaa
