/- FramePuts: any text's sum and frame are as the document says. -/
import Derived.Test.YtkjcpdogibbahaaPut
namespace Go.Proofs.Ytkjcpdogibbahaa
open Go.RowKit Go.Um
set_option maxHeartbeats 1000000

theorem puts_any (s : ByteArray) (w : World) : Calls Try.prog 5 #[.string s] w fun e w' => e = .returned (.bool true) ∧ Below w.heap.size w w' := by
  by_cases hl : s.size ≤ 2000
  · have t1 : decide (2000 < (s.size : Int)) = false := by simp; omega
    have p1 := fun W => put_any s.data.toList W
    have p2 := fun W => rput_any s.data.toList W
    have p3 := fun W => sum_any s W (by omega)
    have p4 := fun W => rsum_any s W (by omega)
    have hsb := fs_bd s.data.toList
    obtain ⟨a, ha⟩ : ∃ a, a = (putR s.data.toList).1 := ⟨_, rfl⟩
    obtain ⟨b, hb⟩ : ∃ b, b = (putR s.data.toList).2 := ⟨_, rfl⟩
    obtain ⟨m, hm⟩ : ∃ m, m = sumN s.data.toList := ⟨_, rfl⟩
    have m0 : 0 ≤ m := by rw [hm]; unfold sumN; omega
    have m1 : m ≤ 65535 := by rw [hm]; unfold sumN; omega
    rw [← ha, ← hb, ← strV_eq] at p1 p2
    rw [← hm] at p3 p4
    have P1 := Lib.hid p1
    have P2 := Lib.hid p2
    have P3 := Lib.hid p3
    have P4 := Lib.hid p4
    clear p1 p2 p3 p4 ha hb hm hsb hl
    unfold strV at P1 P2
    go_enter Try.func5, Try.ntmps5
    go_wp2_with fail
    refine (P1.out _).mono ?_
    rintro e w1 ⟨rfl, hb1⟩
    go_wp2_with fail
    refine (P2.out _).mono ?_
    rintro e w2 ⟨rfl, hb2⟩
    go_wp2_with fail
    refine (P3.out _).mono ?_
    rintro e w3 ⟨rfl, rfl⟩
    go_wp2_with fail
    refine (P4.out _).mono ?_
    rintro e w3 ⟨rfl, rfl⟩
    go_wp2_with fail
    refine (works_any _).mono ?_
    rintro e w4 ⟨rfl, hb4⟩
    go_wp2
    go_ret
    exact ⟨rfl, bt (bt hb1 hb2) hb4⟩
  · have t1 : decide (2000 < (s.size : Int)) = true := by simp; omega
    clear hl
    go_enter Try.func5, Try.ntmps5
    go_wp2_with fail
    refine (works_any _).mono ?_
    rintro e w4 ⟨rfl, hb4⟩
    go_wp2
    go_ret
    exact ⟨rfl, hb4⟩
end Go.Proofs.Ytkjcpdogibbahaa
