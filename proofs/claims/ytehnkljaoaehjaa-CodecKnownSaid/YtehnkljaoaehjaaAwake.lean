/- Some of the chapter's answers: awake is true. -/
import Derived.Test.YtehnkljaoaehjaaWl
namespace Go.Proofs.Ytehnkljaoaehjaa
open Go.RowKit Go.Um
set_option linter.unusedSimpArgs false
set_option linter.unusedVariables false
set_option maxHeartbeats 4000000
set_option maxRecDepth 100000

theorem awake_any (w : World) : Calls Try.prog 8 #[] w fun e w' => e = .returned (.bool true) ∧ Below w.heap.size w w' := by
  have e1 : wput (wput [] 0 (be 258 2)) (lerr 0 [1, 256]) (lbytes [1, 256]) = [1, 2, 2, 0, 1, 1, 0] := by decide +kernel
  have e2 : lerr 0 [1, 256] = 0 := by decide
  have e3 : wbytes [1, 2, 2, 0, 1, 1, 0] 0 = ⟨#[1, 2, 2, 0, 1, 1, 0]⟩ := by decide +kernel
  have e4 : numB ((⟨0, 0⟩ : Rs).got ⟨#[1, 2, 7]⟩ 2) = 258 := by decide +kernel
  have e5 : (⟨0, 0⟩ : Rs).next ⟨#[1, 2, 7]⟩ 2 = ⟨2, 0⟩ := by decide +kernel
  have HE := Lib.hid (And.intro e1 (And.intro e2 (And.intro e3 (And.intro e4 e5))))
  clear e1 e2 e3 e4 e5
  go_enter Try.func8, Try.ntmps8
  go_wp2_with fail
  obtain ⟨Y, hY⟩ : ∃ Y, Y = w.alloc (.cells #[.int .i64 0, .slice none 0 0] 31) := ⟨_, rfl⟩
  have HA : Hid (WrAt Y w.heap.size (w.heap.size + 1) (.slice none 0 0) [] 0) := by rw [hY]; exact Lib.hid (WrAt.new w _)
  have HB : Hid (Below w.heap.size w Y) := by rw [hY]; exact Lib.hid (ba (bz w) _)
  have hYs : w.heap.size + 1 ≤ Y.heap.size := by rw [hY]; simp
  rw [← hY]
  clear hY
  refine (wu16_any w.heap.size (w.heap.size + 1) (.slice none 0 0) [] 0 258 Y HA.out (by omega) (by simp) hYs).mono ?_
  rintro e w1 ⟨v1, rfl, hw1, hk1, hn1⟩
  have hs1 := hk1.size
  have HB1 : Hid (Below w.heap.size w w1) := Lib.hid (HB.out.trans (hk1.below (fun i hi _ e => by rcases e with e | e; (· omega); (· simp [Value.ownBlock] at e)) HB.out.size))
  have hv1 : ∀ g, v1.ownBlock = some g → w.heap.size + 1 ≤ g := fun g hg => by rcases hn1 g hg with h | h; (· simp [Value.ownBlock] at h); (· omega)
  have HW1 := Lib.hid hw1
  have HV1 := Lib.hid hv1
  clear hw1 hk1 hn1 hv1 HA HB
  go_wp2_with fail
  have HSL := Lib.hid (SlAt.new w1 53 1 2 [.int .u16 1, .int .u16 256] w1.heap.size rfl rfl (by decide))
  refine (wlist_any w.heap.size (w.heap.size + 1) v1 _ 0 [1, 256] _ 2 w1.heap.size 0 _ (HW1.out.below (ba (bz w1) (.cells #[.int .u16 1, .int .u16 256] 53))) HSL.out (by intro x hx; simp at hx; omega) (fun _ => ⟨by omega, fun e => by have := (HW1.out.own.lt _ e).2; omega⟩) (by decide) (by simp; omega)).mono ?_
  rintro e w2 ⟨v2, rfl, hw2, hk2, hn2⟩
  have HB2 : Hid (Below w.heap.size w w2) := Lib.hid ((ba HB1.out (.cells #[.int .u16 1, .int .u16 256] 53)).trans (hk2.below (fun i hi _ e => by rcases e with e | e; (· omega); (· have := HV1.out _ e; omega)) (by have := HB1.out.size; simp; omega)))
  rw [HE.out.1, HE.out.2.1] at hw2
  have HW2 := Lib.hid hw2
  clear hw2 hk2 hn2 HW1 HV1 HSL HB1
  go_wp2_with fail
  have HBY := Lib.hid (bytes_any _ _ _ _ _ _ HW2.out)
  rw [HE.out.2.2.1] at HBY
  refine HBY.out.mono ?_
  rintro e w3 ⟨rfl, n3, rfl⟩
  go_wp2_with fail
  refine (over_any _ _).mono ?_
  rintro e w4 ⟨rfl, rfl⟩
  have HR := Lib.hid (RdAt.new (w2.drewN n3) ⟨#[1, 2, 7]⟩)
  have HB4 : Hid (Below w.heap.size w ((w2.drewN n3).alloc (.cells #[.int .i64 0, .string ⟨#[1, 2, 7]⟩, .int .i64 0] 68))) := Lib.hid (by have h1 : Below w.heap.size w (w2.drewN n3) := below_drewN HB2.out n3; exact h1.alloc h1.size _)
  go_wp2_with fail
  have HU := Lib.hid (ru16_any _ _ _ _ HR.out (by decide))
  unfold TakePost at HU
  rw [HE.out.2.2.2.1, HE.out.2.2.2.2] at HU
  refine HU.out.mono ?_
  rintro e w5 ⟨rfl, hr5, hk5⟩
  have HB5 : Hid (Below w.heap.size w w5) := Lib.hid (HB4.out.trans (hk5.below (fun i hi _ e => by have := HB2.out.size; simp at e; omega) HB4.out.size))
  have HR5 := Lib.hid hr5
  clear hr5 hk5
  go_wp2_with fail
  refine (at_any _ 2 _ HR5.out.at_).mono ?_
  rintro e w6 ⟨rfl, rfl⟩
  go_wp2_with fail
  refine (left_any _ _ 2 _ HR5.out.str HR5.out.at_ (by decide) (by decide)).mono ?_
  rintro e w6 ⟨rfl, n6, rfl⟩
  go_wp2
  go_ret
  exact ⟨by simp, below_drewN HB5.out _⟩
end Go.Proofs.Ytehnkljaoaehjaa
