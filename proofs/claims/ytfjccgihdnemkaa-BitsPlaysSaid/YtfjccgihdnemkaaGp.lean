/- bits.Set's Gap. Printed from Gp.tmpl. -/
import Derived.Test.YtfjccgihdnemkaaOf
namespace Go.Proofs.Ytfjccgihdnemkaa
open Go.RowKit Go.Um
set_option linter.unusedSimpArgs false
set_option linter.unusedVariables false
set_option maxHeartbeats 4000000
set_option maxRecDepth 100000
/-- the first place from n on that a set has not -/
def GapPost (N : Nat) (n : Int) (w : World) (e : Ending) (w' : World) : Prop :=
  ∃ g : Int, e = .returned (.int .i64 g) ∧ max 0 n ≤ g ∧ hasB N g = false ∧ (∀ j : Int, max 0 n ≤ j → j < g → hasB N j = true) ∧ Below w.heap.size w w'
theorem cell_past_g {a b : World} (h : Below a.heap.size a b) {p : Addr} {v : Value} (hc : a.cell? p = some v) : b.cell? p = some v := by
  rw [h.cell (World.block_lt_of_cell? a p hc)]; exact hc
theorem hasB_in {N : Nat} {n : Int} (h : hasB N n = true) : 0 ≤ n ∧ n ≤ 65535 := by
  unfold hasB at h
  cases hm : mayB n
  · rw [hm] at h; simp at h
  · unfold mayB at hm
    exact of_decide_eq_true hm
theorem gap_any (v : Value) (N : Nat) (n : Int) (w : World) (h : SetAt w v N) : Calls Try.prog 14 #[v, .int .i64 n] w (GapPost N n w) := by
  obtain ⟨m, ao, cap, b, o, rfl, hs, hneed, hm⟩ := id h
  have HV := Lib.hid h
  clear h hs hneed
  obtain ⟨M, hM⟩ : ∃ M, M = max 0 n := ⟨_, rfl⟩
  have HM := Lib.hid hM
  have hmx : ∀ w, (Builtin.max_ #[3, 3] 3 #[.int .i64 0, .int .i64 n]).run Try.prog w = .ok (.int .i64 M) w := fun w => by rw [HM.out]; simp [go_sem]; split <;> omega
  clear hM
  go_enter Try.func14, Try.ntmps14
  go_wp2_with fail
  have c0 : (w.alloc (.cells #[.slice ao m cap] 27)).cell? ⟨w.heap.size, 0, none⟩ = some (.slice ao m cap) := by simp [go_sem]
  have HB0 := Lib.hid (ba (bz w) (.cells #[.slice ao m cap] 27))
  have hM0 : 0 ≤ M := by have := HM.out; omega
  clear hmx
  go_loopw [5] (fun t5 wr => ∃ g : Int, t5 = .int .i64 g ∧ M ≤ g ∧ Hid ((∀ j, M ≤ j → j < g → hasB N j = true) ∧ Below w.heap.size w wr) ∧ wr.cell? ⟨w.heap.size, 0, none⟩ = some (.slice ao m cap)) (fun t5 _ => (65536 - intOf t5).toNat)
  case atStart => exact ⟨M, rfl, Int.le_refl _, Lib.hid ⟨fun j h1 h2 => absurd h2 (by omega), HB0.out⟩, c0⟩
  case round =>
    obtain ⟨g, rfl, hMg, hI, hc⟩ := hrel
    cases hb : hasB N g
    · have HH := Lib.hid (has_any _ N g wr (HV.out.below hI.out.2))
      rw [hb] at HH
      have HBb := Lib.hid hb
      clear hb
      go_wp2_with fail
      refine HH.out.mono ?_
      rintro e w1 ⟨rfl, hb1⟩
      go_wp2
      go_ret
      exact ⟨g, rfl, by rw [← HM.out]; exact hMg, HBb.out, by rw [← HM.out]; exact hI.out.1, bt hI.out.2 hb1⟩
    · have HH := Lib.hid (has_any _ N g wr (HV.out.below hI.out.2))
      rw [hb] at HH
      obtain ⟨hg0, hg1⟩ := hasB_in hb
      have HBb := Lib.hid hb
      clear hb
      go_wp2_with fail
      refine HH.out.mono ?_
      rintro e w1 ⟨rfl, hb1⟩
      have hc1 := cell_past_g hb1 hc
      go_wp2_with fail
      refine ⟨⟨g + 1, by go_num, by omega, Lib.hid ⟨fun j h1 h2 => ?_, bt hI.out.2 hb1⟩, hc1⟩, ?_⟩
      · by_cases e : j = g
        · rw [e]; exact HBb.out
        · exact hI.out.1 j h1 (by omega)
      · simp [intOf]; omega
end Go.Proofs.Ytfjccgihdnemkaa
