/- works, of chapter 26; OrderBegins. -/
import Derived.Test.YtggbcailaeebfaaOrds
namespace Go.Proofs.Ytggbcailaeebfaa
open Go.RowKit Go.Um
set_option maxHeartbeats 1000000
theorem kept_new {a b c : World} {S : Nat → Prop} (h : Below a.heap.size a b) (k : Kept S b c) (hS : ∀ i, i < a.heap.size → ¬ S i) : Below a.heap.size a c :=
  h.trans (k.below (fun i hi _ => hS i hi) h.size)

theorem cell_past {w W : World} (hb : Below w.heap.size w W) {a : Addr} {u : Value} (h : w.cell? a = some u) : W.cell? a = some u := by
  rw [hb.cell (World.block_lt_of_cell? w _ h)]; exact h

theorem works_any (w : World) : Calls Try.prog 9 #[] w fun e w' => e = .returned (.bool true) ∧ Below w.heap.size w w' := by
  go_enter Try.func9, Try.ntmps9
  go_wp2_with fail
  refine (new_any _).mono ?_
  rintro e w1 ⟨rfl, h1, hb1, hz⟩
  have H1 := Lib.hid (h1.below (ba (bz w1) (.cells (us [1]).toArray 37)))
  have HB1 := Lib.hid (ba hb1 (.cells (us [1]).toArray 37))
  clear h1 hb1 hz
  go_wp2_with fail
  refine (takes_any _ w.heap.size (fun _ => []) [1] _ _ _ _ _ H1.out (SlAt.new w1 37 1 1 (us [1]) _ rfl rfl (by decide)) (by decide)).mono ?_
  rintro e w2 ⟨rfl, h2, k2⟩
  rw [show (takeB (fun _ => []) 2 [1] && takeE 2 [1] == 0) = true from by decide]
  have HB2 := Lib.hid (ba (kept_new HB1.out k2 (fun i hi e => by omega)) (.cells (us [1, 2, 3]).toArray 37))
  have H2 := Lib.hid (h2.below (ba (bz w2) (.cells (us [1, 2, 3]).toArray 37)))
  clear h2 k2 H1 HB1
  go_wp2_with fail
  refine (takes_any _ w.heap.size _ [1, 2, 3] _ _ _ _ _ H2.out (SlAt.new w2 37 1 3 (us [1, 2, 3]) _ rfl rfl (by decide)) (by decide)).mono ?_
  rintro e w3 ⟨rfl, h3, k3⟩
  rw [show (takeB (takeL (fun _ => []) 2 [1]) 2 [1, 2, 3] && takeE 2 [1, 2, 3] == 0) = true from by decide]
  have HB3 := Lib.hid (ba (kept_new HB2.out k3 (fun i hi e => by omega)) (.cells (us [1, 2]).toArray 37))
  have H3 := Lib.hid (h3.below (ba (bz w3) (.cells (us [1, 2]).toArray 37)))
  clear h3 k3 H2 HB2
  go_wp2_with fail
  refine (takes_any _ w.heap.size _ [1, 2] _ _ _ _ _ H3.out (SlAt.new w3 37 1 2 (us [1, 2]) _ rfl rfl (by decide)) (by decide)).mono ?_
  rintro e w4 ⟨rfl, h4, k4⟩
  rw [show (takeB (takeL (takeL (fun _ => []) 2 [1]) 2 [1, 2, 3]) 2 [1, 2] && takeE 2 [1, 2] == 0) = true from by decide]
  have HB4 := Lib.hid (ba (kept_new HB3.out k4 (fun i hi e => by omega)) (.cells (us [1, 3]).toArray 37))
  have H4 := Lib.hid (h4.below (ba (bz w4) (.cells (us [1, 3]).toArray 37)))
  clear h4 k4 H3 HB3
  go_wp2_with fail
  refine (leaves_any _ w.heap.size _ [1, 3] _ _ _ _ _ H4.out (SlAt.new w4 37 1 2 (us [1, 3]) _ rfl rfl (by decide)) (by decide)).mono ?_
  rintro e w5 ⟨rfl, h5, k5⟩
  rw [show (!takeB (takeL (takeL (takeL (fun _ => []) 2 [1]) 2 [1, 2, 3]) 2 [1, 2]) 2 [1, 3] && takeE 2 [1, 3] == 0) = true from by decide]
  have HB5 := Lib.hid (kept_new HB4.out k5 (fun i hi e => by omega))
  have hof := of_any _ w.heap.size 2 _ w5 h5 (by decide)
  rw [show keyL (takeL (takeL (takeL (takeL (fun _ => []) 2 [1]) 2 [1, 2, 3]) 2 [1, 2]) 2 [1, 3]) 2 = [1, 2, 3] from by decide] at hof
  have HOF := Lib.hid hof
  clear h5 k5 H4 HB4 hof
  go_wp2_with fail
  refine HOF.out.mono ?_
  rintro e w6 ⟨v, rfl, hown, hb6⟩
  obtain ⟨ao, cap, b, o, rfl, hs, _⟩ := SlAt.owned hown
  have HB6 := Lib.hid (bt HB5.out hb6)
  have HS := Lib.hid (hs.below (ba (bz w6) (.cells (us [1, 2, 3]).toArray 37)))
  clear hown hs hb6
  go_wp2_with fail
  refine (same_any [1, 2, 3] [1, 2, 3] _ _ _ _ _ _ _ _ _ HS.out (SlAt.new w6 37 1 3 (us [1, 2, 3]) _ rfl rfl (by decide)) (by decide)).mono ?_
  rintro e w7 ⟨rfl, hq⟩
  go_wp2
  go_ret
  exact ⟨by simp, bt (ba HB6.out _) hq.below⟩

theorem obegins_big (v0 v1 : Value) (n m : Nat) (ao ao' : Option Addr) (cap cap' : Nat) (w : World) (e0 : v0 = .slice ao n cap) (e1 : v1 = .slice ao' m cap') (hbig : 100 < n ∨ 100 < m) :
    Calls Try.prog 3 #[v0, v1] w fun e w' => e = .returned (.bool true) ∧ Below w.heap.size w w' := by
  subst e0 e1
  have hc : decide (100 < (n : Int)) = true ∨ (decide (100 < (n : Int)) = false ∧ decide (100 < (m : Int)) = true) := by simp; omega
  clear hbig
  rcases hc with t1 | ⟨t1, t2⟩
  all_goals
    go_enter Try.func3, Try.ntmps3
    go_wp2_with fail
    refine (works_any _).mono ?_
    rintro e w1 ⟨rfl, hb⟩
    go_wp2
    go_ret
    exact ⟨rfl, hb⟩
theorem obegins_any (a b : List Int) (ao ao' : Option Addr) (cap b0 o cap' b1 o' : Nat) (w : World) (h : SlAt w 1 a.length (us a) ao cap b0 o) (h' : SlAt w 1 b.length (us b) ao' cap' b1 o') :
    Calls Try.prog 3 #[.slice ao a.length cap, .slice ao' b.length cap'] w fun e w' => e = .returned (.bool true) ∧ Below w.heap.size w w' := by
  by_cases hbig : 100 < a.length ∨ 100 < b.length
  · exact obegins_big _ _ _ _ _ _ _ _ w rfl rfl hbig
  · have t1 : decide (100 < (a.length : Int)) = false := by simp; omega
    have t2 : decide (100 < (b.length : Int)) = false := by simp; omega
    have p1 := fun n => begins_any a b ao ao' cap b0 o cap' b1 o' (w.drewN n) (h.below (below_drewN (bz w) n)) (h'.below (below_drewN (bz w) n)) (by omega)
    have p2 := fun n => rbegins_any a b ao ao' cap b0 o cap' b1 o' (w.drewN n) (h.below (below_drewN (bz w) n)) (h'.below (below_drewN (bz w) n)) (by omega)
    have p3 := fun n => begins_any b a ao' ao cap' b1 o' cap b0 o (w.drewN n) (h'.below (below_drewN (bz w) n)) (h.below (below_drewN (bz w) n)) (by omega)
    have p4 := fun n => rbegins_any b a ao' ao cap' b1 o' cap b0 o (w.drewN n) (h'.below (below_drewN (bz w) n)) (h.below (below_drewN (bz w) n)) (by omega)
    have p5 := fun n => begins_any a a ao ao cap b0 o cap b0 o (w.drewN n) (h.below (below_drewN (bz w) n)) (h.below (below_drewN (bz w) n)) (by omega)
    have haa : bgn a a = true := by unfold bgn; exact decide_eq_true (List.prefix_refl a)
    rw [haa] at p5
    obtain ⟨x, hx⟩ : ∃ x, x = bgn a b := ⟨_, rfl⟩
    obtain ⟨y, hy⟩ : ∃ y, y = bgn b a := ⟨_, rfl⟩
    rw [← hx] at p1 p2
    rw [← hy] at p3 p4
    have P1 := Lib.hid p1
    have P2 := Lib.hid p2
    have P3 := Lib.hid p3
    have P4 := Lib.hid p4
    have P5 := Lib.hid p5
    clear p1 p2 p3 p4 p5 haa hx hy h h' hbig
    go_enter Try.func3, Try.ntmps3
    go_wp2_with fail
    refine (P1.out 0).mono ?_
    rintro e w1 ⟨rfl, n1, rfl⟩
    go_wp2_with fail
    refine (P2.out _).mono ?_
    rintro e w1 ⟨rfl, n2, rfl⟩
    go_wp2_with fail
    refine (P3.out _).mono ?_
    rintro e w1 ⟨rfl, n3, rfl⟩
    go_wp2_with fail
    refine (P4.out _).mono ?_
    rintro e w1 ⟨rfl, n4, rfl⟩
    go_wp2_with fail
    refine (P5.out _).mono ?_
    rintro e w1 ⟨rfl, n5, rfl⟩
    go_wp2_with fail
    refine (works_any _).mono ?_
    rintro e w1 ⟨rfl, hb⟩
    go_wp2
    go_ret
    exact ⟨rfl, bt (below_drewN (bz w) _) hb⟩
end Go.Proofs.Ytggbcailaeebfaa
