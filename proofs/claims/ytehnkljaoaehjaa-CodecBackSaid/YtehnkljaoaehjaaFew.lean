/- Are the things few and small? (few, f7) -/
import Derived.Test.YtehnkljaoaehjaaPut
import Derived.Test.YtehnkljaoaehjaaOpenth
namespace Go.Proofs.Ytehnkljaoaehjaa
open Go.RowKit Go.Um
set_option linter.unusedSimpArgs false
set_option linter.unusedVariables false
set_option maxHeartbeats 2000000
set_option maxRecDepth 100000
theorem size37 : (Try.prog.info? 37).map (·.size) = some 4 := by kernel_rfl
def FewPost (l : List Thing2) (w : World) (e : Ending) (w' : World) : Prop :=
  ∃ B, e = .returned (.bool B) ∧ Below w.heap.size w w' ∧ (B = true → l.length ≤ 50 ∧ ∀ (j : Nat) (x : Thing2), l[j]? = some x → x.s.size ≤ 300 ∧ x.l.length ≤ 300)
theorem few_any (l : List Thing2) (n : Nat) (hn : n = l.length) (ao : Option Addr) (cap b o : Nat) (w : World) (hsl : SlAt w 4 n (l.flatMap Thing2.cells) ao cap b o) :
    Calls Try.prog 7 #[.slice ao n cap] w (FewPost l w) := by
  have hidx := hsl.idx (P := Try.prog) (t := 22) (e := 37) (by kernel_rfl) size37 (by decide)
  have HL := Lib.hid hn
  have HS := Lib.hid hsl
  clear hn hsl
  go_enter Try.func7, Try.ntmps7
  go_wp2_with fail
  go_loopw [3, 4] (fun t3 t4 wr => ∃ (k m : Nat), k ≤ n ∧ k ≤ 60 ∧ m ≤ 3000 ∧ t4 = .int .i64 k ∧ t3 = .int .i64 m ∧ Hid (Below w.heap.size w wr) ∧ Hid (∀ (j : Nat) (x : Thing2), j < k → l[j]? = some x → x.s.size ≤ 300 ∧ x.l.length ≤ 300)) (fun _ t4 _ => n - (intOf t4).toNat)
  case atStart => exact ⟨0, 3000, Nat.zero_le _, by decide, by decide, rfl, rfl, bz w, fun j x h => absurd h (Nat.not_lt_zero _)⟩
  case round =>
    obtain ⟨k, m, hk, hk60, hm, rfl, rfl, hb, hall⟩ := hrel
    by_cases hlt : k < n
    · have i1 : (0 : Int) ≤ (k : Int) := by omega
      have i2 : (k : Int) < (n : Int) := by omega
      by_cases h60 : k < 60
      · have i3 : (k : Int) < 60 := by omega
        have hkl : k < l.length := by rw [← HL.out]; exact hlt
        obtain ⟨x, hxk⟩ : ∃ x, l[k]? = some x := ⟨_, List.getElem?_eq_getElem hkl⟩
        have SB := HS.out.below hb.out
        have g2 := SB.cell (k * 4 + 2) (.string x.s) (by rw [cell_of Thing2.four l k x hxk 2 (by decide)]; rfl)
        have g3 := SB.cell (k * 4 + 3) (.slice x.ao x.l.length x.cap) (by rw [cell_of Thing2.four l k x hxk 3 (by decide)]; rfl)
        rw [← Nat.add_assoc] at g2 g3
        have HX := Lib.hid hxk
        clear SB hxk hkl
        by_cases a1 : 300 < x.s.size
        · have t1 : decide ((300 : Int) < (x.s.size : Int)) = true := by rw [decide_eq_true_iff]; omega
          have t2 : (300 : Int) < (x.s.size : Int) := by omega
          go_wp2
          go_ret
          exact ⟨false, rfl, hb.out, fun h => by cases h⟩
        · have t1 : decide ((300 : Int) < (x.s.size : Int)) = false := by rw [decide_eq_false_iff_not]; omega
          have t2 : ¬ (300 : Int) < (x.s.size : Int) := by omega
          by_cases a2 : 300 < x.l.length
          · have t3 : decide ((300 : Int) < (x.l.length : Int)) = true := by rw [decide_eq_true_iff]; omega
            have t4 : (300 : Int) < (x.l.length : Int) := by omega
            go_wp2
            go_ret
            exact ⟨false, rfl, hb.out, fun h => by cases h⟩
          · have t3 : decide ((300 : Int) < (x.l.length : Int)) = false := by rw [decide_eq_false_iff_not]; omega
            have t4 : ¬ (300 : Int) < (x.l.length : Int) := by omega
            by_cases a3 : m < x.l.length
            · have t5 : decide ((m : Int) < (x.l.length : Int)) = true := by rw [decide_eq_true_iff]; omega
              have t6 : (m : Int) < (x.l.length : Int) := by omega
              go_wp2
              go_ret
              exact ⟨false, rfl, hb.out, fun h => by cases h⟩
            · have t5 : decide ((m : Int) < (x.l.length : Int)) = false := by rw [decide_eq_false_iff_not]; omega
              have t6 : ¬ (m : Int) < (x.l.length : Int) := by omega
              go_wp2_with fail
              go_roundw
              case rel => exact ⟨k + 1, m - x.l.length, by omega, by omega, by omega, by go_num, by go_num, hb, Lib.hid (fun j y hj hy => by
                by_cases e : j < k
                · exact hall.out j y e hy
                · have : j = k := by omega
                  subst this
                  rw [HX.out] at hy
                  cases hy
                  exact ⟨by omega, by omega⟩)⟩
              case measure => simp [intOf]; omega
      · have i3 : ¬ (k : Int) < 60 := by omega
        have i4 : ¬ (n : Int) ≤ 50 := by omega
        go_wp2
        go_ret
        exact ⟨_, rfl, hb.out, fun h => by simp at h⟩
    · have i2 : ¬ (k : Int) < (n : Int) := by omega
      go_wp2
      go_ret
      exact ⟨_, rfl, hb.out, fun h => ⟨by have := HL.out; simp at h; omega, fun j y hy => hall.out j y (by have := (List.getElem?_eq_some_iff.1 hy).1; have := HL.out; omega) hy⟩⟩
end Go.Proofs.Ytehnkljaoaehjaa
