/- Two lists of answers, held against each other. -/
import Derived.Test.YtoidbmgoofbcfaaRun
import Derived.BigQuiet
namespace Go.Proofs.Ytoidbmgoofbcfaa
open Go.RowKit Go.Um
set_option linter.unusedSimpArgs false
set_option linter.unusedVariables false
set_option maxHeartbeats 1000000

theorem size39 : (Try.prog.info? 39).map (·.size) = some 2 := by kernel_rfl

theorem res_at {w : World} {l : List (Int × Int)} {ao : Option Addr} {n cap b o k : Nat} {x : Int × Int} (h : SlAt w 2 n (l.flatMap resC) ao cap b o) (hx : l[k]? = some x) :
    w.cell? ⟨b, o + k * 2, none⟩ = some (.int .u8 x.1) ∧ w.cell? ⟨b, o + k * 2 + 1, none⟩ = some (.int .u16 x.2) := by
  have g := fun j (hj : j < 2) u (hu : (resC x)[j]? = some u) => h.cell (k * 2 + j) u ((cell_of resC_two l k x hx j hj).trans hu)
  exact ⟨g 0 (by omega) _ rfl, g 1 (by omega) _ rfl⟩

theorem eql39 (a b c d : Int) (w : World) : (binOp .eql 39 (.agg #[.int .u8 a, .int .u16 b]) (.agg #[.int .u8 c, .int .u16 d])).run Try.prog w = .ok (.bool (a == c && b == d)) w := by
  by_cases h1 : a = c <;> by_cases h2 : b = d <;> simp [go_sem, h1, h2]
theorem neq39 (a b c d : Int) (w : World) : (binOp .neq 39 (.agg #[.int .u8 a, .int .u16 b]) (.agg #[.int .u8 c, .int .u16 d])).run Try.prog w = .ok (.bool (!(a == c && b == d))) w := by
  by_cases h1 : a = c <;> by_cases h2 : b = d <;> simp [go_sem, h1, h2]

def SamePost (xs ys : List (Int × Int)) (w : World) (e : Ending) (w' : World) : Prop := e = .returned (.bool (decide (xs = ys))) ∧ Below w.heap.size w w'

theorem same_any (xs ys : List (Int × Int)) (ao ao' : Option Addr) (cap b o cap' b' o' : Nat) (w : World) (h : SlAt w 2 xs.length (xs.flatMap resC) ao cap b o) (h' : SlAt w 2 ys.length (ys.flatMap resC) ao' cap' b' o') (hlen : xs.length ≤ 200) :
    Calls Try.prog 19 #[.slice ao xs.length cap, .slice ao' ys.length cap'] w (SamePost xs ys w) := by
  have hidx := h.idx (P := Try.prog) (t := 29) Try.underlying29 size39 (by decide)
  have hneq := neq39
  have hidx' := h'.idx (P := Try.prog) (t := 29) Try.underlying29 size39 (by decide)
  by_cases hl : xs.length = ys.length
  · have hl1 : ((xs.length : Int) != (ys.length : Int)) = false := by simp [hl]
    have Hl := Lib.hid hl
    clear hl
    go_enter Try.func19, Try.ntmps19
    go_wp2
    go_loopw [5] (fun t5 wr => ∃ k : Nat, k ≤ xs.length ∧ t5 = .int .i64 k ∧ Hid (xs.take k = ys.take k) ∧ Below w.heap.size w wr) (fun t5 _ => xs.length - (intOf t5).toNat)
    case atStart => exact ⟨0, Nat.zero_le _, rfl, by simp [Hid], Below.refl _ _⟩
    case round =>
      obtain ⟨k, hk, rfl, ht, hbel⟩ := hrel
      by_cases hlt : k < xs.length
      · have hlt' : k < ys.length := by have := Hl.out; omega
        have hwr := h.below' hbel h.lt
        have hwr' := h'.below' hbel h'.lt
        obtain ⟨x, hx⟩ : ∃ x, xs[k]? = some x := ⟨_, List.getElem?_eq_getElem hlt⟩
        obtain ⟨y, hy⟩ : ∃ y, ys[k]? = some y := ⟨_, List.getElem?_eq_getElem hlt'⟩
        obtain ⟨g0, g1⟩ := res_at hwr hx
        obtain ⟨g0', g1'⟩ := res_at hwr' hy
        have Hx := Lib.hid hx
        have Hy := Lib.hid hy
        clear hx hy
        have b1 : (0 : Int) ≤ (k : Int) := by omega
        have b2 : (k : Int) < (xs.length : Int) := by omega
        have b3 : (k : Int) < (ys.length : Int) := by omega
        by_cases hxy : x = y
        · have t1 : (!(x.1 == y.1 && x.2 == y.2)) = false := by subst hxy; simp
          have Hxy := Lib.hid hxy
          clear hxy
          go_wp2_with fail
          go_quiet (fail)
          go_wp2_with fail
          go_roundw
          case rel =>
            refine ⟨k + 1, by omega, by go_num, ?_, below_drewN hbel _⟩
            have h1 := ht.out
            have h2 := Hxy.out
            show xs.take (k + 1) = ys.take (k + 1)
            rw [List.take_add_one, List.take_add_one, h1, Hx.out, Hy.out, h2]
          case measure => simp [intOf]; omega
        · have t1 : (!(x.1 == y.1 && x.2 == y.2)) = true := by
            obtain ⟨x1, x2⟩ := x
            obtain ⟨y1, y2⟩ := y
            simp only [Prod.mk.injEq, not_and] at hxy
            by_cases e : x1 = y1
            · simp [e, hxy e]
            · simp [e]
          have Hxy := Lib.hid hxy
          clear hxy
          go_wp2_with fail
          go_quiet (fail)
          go_wp2_with fail
          go_ret
          refine ⟨?_, below_drewN hbel _⟩
          have : ¬ xs = ys := fun e => Hxy.out (by have h1 := Hx.out; have h2 := Hy.out; rw [e, h2] at h1; exact (Option.some.inj h1).symm)
          simp [this]
      · have hk' : xs.length = k := by omega
        have Hk := Lib.hid hk'
        clear hk'
        go_wp2
        go_ret
        refine ⟨?_, hbel⟩
        have h1 := ht.out
        have h2 := Hl.out
        have h3 := Hk.out
        rw [List.take_of_length_le (by omega), List.take_of_length_le (by omega)] at h1
        simp [h1]
  · have hl1 : ((xs.length : Int) != (ys.length : Int)) = true := by rw [bne_iff_ne]; omega
    have Hl := Lib.hid hl
    clear hl
    go_enter Try.func19, Try.ntmps19
    go_wp2
    go_ret
    refine ⟨?_, Below.refl _ _⟩
    have : ¬ xs = ys := fun e => Hl.out (by rw [e])
    simp [this]
end Go.Proofs.Ytoidbmgoofbcfaa
