/- umpirelaw15's BitsApart: the walk. Printed from Ap15.tmpl. -/
import Derived.Test.YtfjccgihdnemkaaApl
import Derived.Test.YtfjccgihdnemkaaAph
import Derived.Test.YtfjccgihdnemkaaApe
import Derived.Test.YtfjccgihdnemkaaApf
import Derived.Test.YtfjccgihdnemkaaApg
import Derived.Test.YtfjccgihdnemkaaTake
import Derived.Test.YtfjccgihdnemkaaOpenar
import Derived.Deep.RegionHeld3
import Derived.Deep.DeepCutAuto
namespace Go.Proofs.Ytfjccgihdnemkaa
open Go.RowKit Go.Um
set_option linter.unusedSimpArgs false
set_option linter.unusedVariables false
set_option maxHeartbeats 4000000
set_option maxRecDepth 100000
theorem oapart_any (xa xb : List Int) (na nb : Nat) (hna : na = xa.length) (hnb : nb = xb.length) (ao ao' : Option Addr) (cap cap' b b' o o' : Nat) (x0 x1 : Int) (w : World) (hsa : SlAt w 1 na (xa.map (Value.int .i64)) ao cap b o) (hsb : SlAt w 1 nb (xb.map (Value.int .i64)) ao' cap' b' o') (hla : ¬ (200 : Int) < (na : Int)) (hlb : ¬ (200 : Int) < (nb : Int)) :
    Calls Try.prog 6 #[.slice ao na cap, .slice ao' nb cap', .agg #[.int .i64 x0, .int .i64 x1]] w fun e w' => e = .returned (.bool true) ∧ Below w.heap.size w w' := by
  have hidxa := hsa.idx (P := Try.prog) (t := 22) Try.underlying22 size3i (by decide)
  have hidxb := hsb.idx (P := Try.prog) (t := 22) Try.underlying22 size3i (by decide)
  have HOA := Lib.hid (fun W (hW : Below w.heap.size w W) => of_any xa na hna ao cap b o W (hsa.below hW) (by omega))
  have HOB := Lib.hid (fun W (hW : Below w.heap.size w W) => of_any xb nb hnb ao' cap' b' o' W (hsb.below hW) (by omega))
  have HSI := Lib.hid (same_iff xa xb)
  obtain ⟨N, hN⟩ : ∃ N, N = ofN xa := ⟨_, rfl⟩
  obtain ⟨M, hM⟩ : ∃ M, M = ofN xb := ⟨_, rfl⟩
  rw [← hN, ← hM] at HSI
  rw [← hN] at HOA
  rw [← hM] at HOB
  have HSA := Lib.hid hsa
  have HSB := Lib.hid hsb
  have HNA := Lib.hid hna
  have HNB := Lib.hid hnb
  clear hN hM hsa hsb hna hnb
  go_enter Try.func6, Try.ntmps6
  go_wp2_with fail
  refine (HOA.out _ (ba (bz w) _)).mono ?_
  rintro e w1 ⟨v1, rfl, hset1, hb1⟩
  have HT1 := Lib.hid hset1
  have c0 : w1.cell? ⟨w.heap.size, 0, none⟩ = some (.int .i64 x0) := kc hb1 _ _ _ (by simp [go_sem])
  have c1 : w1.cell? ⟨w.heap.size, 1, none⟩ = some (.int .i64 x1) := kc hb1 _ _ _ (by simp [go_sem])
  have HB1 := Lib.hid ((ba (bz w) (.cells #[.int .i64 x0, .int .i64 x1] 56)).trans (hb1.mono (by simp)))
  clear hset1 hb1
  go_wp2_with fail
  refine (HOB.out _ HB1.out).mono ?_
  rintro e w2 ⟨v2, rfl, hset2, hb2⟩
  have HT2 := Lib.hid hset2
  have HT1' := Lib.hid (HT1.out.below hb2)
  replace c0 := cell_past_ hb2 c0
  replace c1 := cell_past_ hb2 c1
  have HB2 := Lib.hid (bt HB1.out hb2)
  obtain ⟨m1, ao1, cap1, b1, o1, rfl, _⟩ := id HT1'.out
  obtain ⟨m2, ao2, cap2, b2, o2, rfl, _⟩ := id hset2
  clear hset2 hb2 HOA HOB HT1 HB1
  go_wp2_with fail
  obtain ⟨p7, hp7⟩ : ∃ p, p = w2.heap.size := ⟨_, rfl⟩
  obtain ⟨W0, hW0⟩ : ∃ W0, W0 = ((w2.alloc (.cells #[Value.slice ao1 m1 cap1] 27)).alloc (.cells #[Value.slice ao2 m2 cap2] 27)) := ⟨_, rfl⟩
  have d7 : W0.cell? ⟨p7, 0, none⟩ = some (.slice ao1 m1 cap1) := by rw [hW0, hp7]; exact cell_alloc_l _ (cell_new_l w2 (.slice ao1 m1 cap1) 27).1
  have d8 : W0.cell? ⟨p7 + 1, 0, none⟩ = some (.slice ao2 m2 cap2) := by
    have := (cell_new_l (w2.alloc (.cells #[Value.slice ao1 m1 cap1] 27)) (.slice ao2 m2 cap2) 27).1
    rw [World.size_alloc, ← hp7, ← hW0] at this
    exact this
  have hb20 : Below w2.heap.size w2 W0 := by rw [hW0]; exact ba (ba (bz w2) _) _
  have C5 := Lib.hid (fun W (h : Below W0.heap.size W0 W) => And.intro (cell_past_ h (cell_past_ hb20 c0)) (cell_past_ h (cell_past_ hb20 c1)))
  have C7 := Lib.hid (fun W (h : Below W0.heap.size W0 W) => cell_past_ h d7)
  have C8 := Lib.hid (fun W (h : Below W0.heap.size W0 W) => cell_past_ h d8)
  have HS7 := Lib.hid (fun W (h : Below W0.heap.size W0 W) => (HT1'.out.below hb20).below h)
  have HS8 := Lib.hid (fun W (h : Below W0.heap.size W0 W) => (HT2.out.below hb20).below h)
  have HW0 := Lib.hid (bt HB2.out hb20)
  rw [← hp7, ← hW0]
  clear hW0 hp7 d7 d8 hb20 c0 c1 HT1' HT2 HB2
  obtain ⟨nn, hnn⟩ : ∃ n, n = na + nb := ⟨_, rfl⟩
  have hsum : (na : Int) + (nb : Int) = (nn : Int) := by omega
  have hsumw : IntKind.i64.wrap (nn : Int) = (nn : Int) := IntWalk.i64_in _ (by omega)
  have HNN : Hid (nn = (xa ++ xb).length) := Lib.hid (by rw [hnn, List.length_append, HNA.out, HNB.out])
  obtain ⟨sm, hsm⟩ : ∃ sm : Nat → Bool, sm = fun k => ((xa ++ xb).take k).all fun x => hasB N x == hasB M x := ⟨_, rfl⟩
  have HSM := Lib.hid hsm
  have hsm0 : sm 0 = true := by rw [hsm]; rfl
  have HSI2 : Hid (sm nn = true ↔ N = M) := Lib.hid (by rw [hsm]; show ((xa ++ xb).take nn).all _ = true ↔ _; rw [HNN.out, List.take_length]; exact HSI.out)
  have hsumw2 : IntKind.i64.wrap ((na : Int) + (nb : Int)) = (nn : Int) := by rw [hsum]; exact hsumw
  have hnn2 : nn ≤ 400 ∧ na ≤ nn := by omega
  have HNN3 := Lib.hid hnn
  clear hsm hnn
  go_loopw [9, 10] (fun t9 t10 wr => ∃ i : Nat, i ≤ nn ∧ t10 = .int .i64 i ∧ t9 = .bool (sm i) ∧ Hid (Below W0.heap.size W0 wr)) (fun _ t10 _ => nn - (intOf t10).toNat)
  case atStart => exact ⟨0, Nat.zero_le _, rfl, by rw [hsm0], Lib.hid (bz _)⟩
  case round =>
    obtain ⟨i, hi, rfl, rfl, HI⟩ := hrel
    clear hsm0
    by_cases hlt : i < nn
    · have i1 : (0 : Int) ≤ (i : Int) := by omega
      have i2 : (i : Int) < (nn : Int) := by omega
      obtain ⟨y, hy⟩ : ∃ y, (xa ++ xb)[i]? = some y := ⟨_, List.getElem?_eq_getElem (by rw [← HNN.out]; exact hlt)⟩
      have hsucc : sm (i + 1) = (sm i && (hasB N y == hasB M y)) := by
        rw [HSM.out]
        show ((xa ++ xb).take (i + 1)).all _ = _
        rw [take_snoc _ i y hy, List.all_append]; simp
      have hnn := HNN3.out
      have HSU := Lib.hid hsucc
      have HHN := Lib.hid (fun W (h : Below W0.heap.size W0 W) => has_any _ N y W (HS7.out W h))
      have HHM := Lib.hid (fun W (h : Below W0.heap.size W0 W) => has_any _ M y W (HS8.out W h))
      obtain ⟨q1, hq1⟩ : ∃ q, q = hasB N y := ⟨_, rfl⟩
      obtain ⟨q2, hq2⟩ : ∃ q, q = hasB M y := ⟨_, rfl⟩
      rw [← hq1] at HHN HSU
      rw [← hq2] at HHM HSU
      obtain ⟨s, hs⟩ : ∃ s, s = sm i := ⟨_, rfl⟩
      rw [← hs] at HSU ⊢
      clear hsucc hq1 hq2 hs
      have hbc := HI.out
      by_cases hia : i < na
      · have i3 : (i : Int) < (na : Int) := by omega
        have g0 := (HSA.out.below (bt HW0.out HI.out)).cell i (.int .i64 y) (by
          rw [List.getElem?_append_left (by rw [← HNA.out]; exact hia)] at hy
          simp [hy])
        clear hy hnn
        cases s
        · go_wp2_with fail
          refine wp_region_held_drew (S := (fun W => Below W0.heap.size W0 W)) (by kernel_rfl) (by first | exact hbc | exact hbc.drew) (fun hHeld => ?_)
          replace hbc := hbc.drew
          refine takeD (i := 0) (v := ?zvra0) (some 55) rfl rfl (by kernel_rfl) (by kernel_rfl) (by kernel_rfl) (fun _ _ _ h => h) (Or.inl ⟨by rfl, ?zyra0⟩) (by assumption) ?zrra0
          case zyra0 => (intro w hSw; clear hSw; go_simp; try with_reducible rfl)
          try simp only [Act.put, List.setIfInBounds_toArray, List.set_cons_zero, List.set_cons_succ]
          refine takeD (i := 1) (v := ?zvra1) (some 56) rfl rfl (by kernel_rfl) (by kernel_rfl) (by kernel_rfl) (fun _ _ _ h => h) (Or.inl ⟨by rfl, ?zyra1⟩) (by assumption) ?zrra1
          case zyra1 => (intro w hSw; clear hSw; go_simp; try with_reducible rfl)
          try simp only [Act.put, List.setIfInBounds_toArray, List.set_cons_zero, List.set_cons_succ]
          refine takeD (i := 2) (v := undef) (some 57) rfl rfl (by kernel_rfl) (by kernel_rfl) (by kernel_rfl) (fun _ _ _ h => h) (Or.inr ⟨by first | kernel_rfl | rfl, rfl⟩) (by assumption) ?zrra2
          try simp only [Act.put, List.setIfInBounds_toArray, List.set_cons_zero, List.set_cons_succ]
          refine takeD (i := 3) (v := undef) (some 58) rfl rfl (by kernel_rfl) (by kernel_rfl) (by kernel_rfl) (fun _ _ _ h => h) (Or.inr ⟨by first | kernel_rfl | rfl, rfl⟩) (by assumption) ?zrra3
          try simp only [Act.put, List.setIfInBounds_toArray, List.set_cons_zero, List.set_cons_succ]
          refine takeD (i := 4) (v := undef) (some 59) rfl rfl (by kernel_rfl) (by kernel_rfl) (by kernel_rfl) (fun _ _ _ h => h) (Or.inr ⟨by first | kernel_rfl | rfl, rfl⟩) (by assumption) ?zrra4
          try simp only [Act.put, List.setIfInBounds_toArray, List.set_cons_zero, List.set_cons_succ]
          refine takeD (i := 5) (v := undef) (some 60) rfl rfl (by kernel_rfl) (by kernel_rfl) (by kernel_rfl) (fun _ _ _ h => h) (Or.inr ⟨by first | kernel_rfl | rfl, rfl⟩) (by assumption) ?zrra5
          try simp only [Act.put, List.setIfInBounds_toArray, List.set_cons_zero, List.set_cons_succ]
          refine takeD (i := 6) (v := undef) (some 61) rfl rfl (by kernel_rfl) (by kernel_rfl) (by kernel_rfl) (fun _ _ _ h => h) (Or.inr ⟨by first | kernel_rfl | rfl, rfl⟩) (by assumption) ?zrra6
          try simp only [Act.put, List.setIfInBounds_toArray, List.set_cons_zero, List.set_cons_succ]
          refine takeD (i := 7) (v := undef) (some 62) rfl rfl (by kernel_rfl) (by kernel_rfl) (by kernel_rfl) (fun _ _ _ h => h) (Or.inr ⟨by first | kernel_rfl | rfl, rfl⟩) (by assumption) ?zrra7
          try simp only [Act.put, List.setIfInBounds_toArray, List.set_cons_zero, List.set_cons_succ]
          refine takeD (i := 8) (v := undef) (some 63) rfl rfl (by kernel_rfl) (by kernel_rfl) (by kernel_rfl) (fun _ _ _ h => h) (Or.inr ⟨by first | kernel_rfl | rfl, rfl⟩) (by assumption) ?zrra8
          try simp only [Act.put, List.setIfInBounds_toArray, List.set_cons_zero, List.set_cons_succ]
          refine takeD (i := 9) (v := ?zvra9) (some 64) rfl rfl (by kernel_rfl) (by kernel_rfl) (by kernel_rfl) (fun _ _ _ h => h) (Or.inl ⟨by rfl, ?zyra9⟩) (by assumption) ?zrra9
          case zyra9 => (intro w hSw; clear hSw; go_simp; try with_reducible rfl)
          try simp only [Act.put, List.setIfInBounds_toArray, List.set_cons_zero, List.set_cons_succ]
          refine takeD (i := 10) (v := ?zvra10) (some 9) rfl rfl (by kernel_rfl) (by kernel_rfl) (by kernel_rfl) (fun _ _ _ h => h) (Or.inl ⟨by rfl, ?zyra10⟩) (by assumption) ?zrra10
          case zyra10 => (intro w hSw; clear hSw; go_simp; try with_reducible rfl)
          try simp only [Act.put, List.setIfInBounds_toArray, List.set_cons_zero, List.set_cons_succ]
          refine wpAnyH_done (by kernel_rfl) ?_ _
          go_wp2_with fail
          go_roundw
          case rel => exact ⟨i + 1, by omega, by go_num, by rw [HSU.out]; rfl, Lib.hid hbc⟩
          case measure => simp [intOf]; omega
        · go_wp2_with fail
          refine wp_region_held_drew (S := (fun W => Below W0.heap.size W0 W)) (by kernel_rfl) (by first | exact hbc | exact hbc.drew) (fun hHeld => ?_)
          replace hbc := hbc.drew
          refine takeD (i := 0) (v := ?zvrb0) (some 55) rfl rfl (by kernel_rfl) (by kernel_rfl) (by kernel_rfl) (fun _ _ _ h => h) (Or.inl ⟨by rfl, ?zyrb0⟩) (by assumption) ?zrrb0
          case zyrb0 => (intro w hSw; clear hSw; go_simp; try with_reducible rfl)
          try simp only [Act.put, List.setIfInBounds_toArray, List.set_cons_zero, List.set_cons_succ]
          refine takeD (i := 1) (v := ?zvrb1) (some 56) rfl rfl (by kernel_rfl) (by kernel_rfl) (by kernel_rfl) (fun _ _ _ h => h) (Or.inl ⟨by rfl, ?zyrb1⟩) (by assumption) ?zrrb1
          case zyrb1 => (intro w hSw; clear hSw; go_simp; try with_reducible rfl)
          try simp only [Act.put, List.setIfInBounds_toArray, List.set_cons_zero, List.set_cons_succ]
          refine takeD (i := 2) (v := ?zvrb2) (some 57) rfl rfl (by kernel_rfl) (by kernel_rfl) (by kernel_rfl) (fun _ _ _ h => h) (Or.inl ⟨by rfl, ?zyrb2⟩) (by assumption) ?zrrb2
          case zyrb2 => (intro w hSw; have cL := C7.out w hSw; go_simp; try with_reducible rfl)
          try simp only [Act.put, List.setIfInBounds_toArray, List.set_cons_zero, List.set_cons_succ]
          refine takeD (i := 3) (v := ?zvrb3) (some 58) rfl rfl (by kernel_rfl) (by kernel_rfl) (by kernel_rfl) (fun _ _ _ h => h) (Or.inl ⟨by rfl, ?zyrb3⟩) (by assumption) ?zrrb3
          case zyrb3 => (intro w hSw; clear hSw; go_simp; try with_reducible rfl)
          try simp only [Act.put, List.setIfInBounds_toArray, List.set_cons_zero, List.set_cons_succ]
          refine takeD (i := 5) (v := ?zvrb5) (some 60) rfl rfl (by kernel_rfl) (by kernel_rfl) (by kernel_rfl) (fun _ _ _ h => h) (Or.inl ⟨by rfl, ?zyrb5⟩) (by assumption) ?zrrb5
          case zyrb5 => (intro w hSw; have cL := C8.out w hSw; go_simp; try with_reducible rfl)
          try simp only [Act.put, List.setIfInBounds_toArray, List.set_cons_zero, List.set_cons_succ]
          refine takeD (i := 6) (v := ?zvrb6) (some 61) rfl rfl (by kernel_rfl) (by kernel_rfl) (by kernel_rfl) (fun _ _ _ h => h) (Or.inl ⟨by rfl, ?zyrb6⟩) (by assumption) ?zrrb6
          case zyrb6 => (intro w hSw; clear hSw; go_simp; try with_reducible rfl)
          try simp only [Act.put, List.setIfInBounds_toArray, List.set_cons_zero, List.set_cons_succ]
          refine wpAnyH_ready (rs := [4]) (by kernel_rfl) (by simp) ?_
          refine AllReadyH.cons rfl (fun K hK => ?_) AllReadyH.nil
          go_simp
          refine (HHN.out _ hbc).mono ?_
          rintro e wka ⟨rfl, hbk⟩
          replace hbc := bt hbc hbk
          clear hbk
          go_wp2_with fail
          refine hK.out _ _ (by first | exact hbc | exact hbc.drew) (fun hHeld2 => ?_)
          clear hK K
          clear hHeld
          have hHeld := hHeld2
          clear hHeld2
          try simp only [Act.put, List.setIfInBounds_toArray, List.set_cons_zero, List.set_cons_succ]
          refine wpAnyH_ready (rs := [7]) (by kernel_rfl) (by simp) ?_
          refine AllReadyH.cons rfl (fun K hK => ?_) AllReadyH.nil
          go_simp
          refine (HHM.out _ hbc).mono ?_
          rintro e wkb ⟨rfl, hbk⟩
          replace hbc := bt hbc hbk
          clear hbk
          go_wp2_with fail
          refine hK.out _ _ (by first | exact hbc | exact hbc.drew) (fun hHeld2 => ?_)
          clear hK K
          clear hHeld
          have hHeld := hHeld2
          clear hHeld2
          try simp only [Act.put, List.setIfInBounds_toArray, List.set_cons_zero, List.set_cons_succ]
          refine takeD (i := 8) (v := ?zvrb8) (some 63) rfl rfl (by kernel_rfl) (by kernel_rfl) (by kernel_rfl) (fun _ _ _ h => h) (Or.inl ⟨by rfl, ?zyrb8⟩) (by assumption) ?zrrb8
          case zyrb8 => (intro w hSw; clear hSw; go_simp; try with_reducible rfl)
          try simp only [Act.put, List.setIfInBounds_toArray, List.set_cons_zero, List.set_cons_succ]
          refine takeD (i := 9) (v := ?zvrb9) (some 64) rfl rfl (by kernel_rfl) (by kernel_rfl) (by kernel_rfl) (fun _ _ _ h => h) (Or.inl ⟨by rfl, ?zyrb9⟩) (by assumption) ?zrrb9
          case zyrb9 => (intro w hSw; clear hSw; go_simp; try with_reducible rfl)
          try simp only [Act.put, List.setIfInBounds_toArray, List.set_cons_zero, List.set_cons_succ]
          refine takeD (i := 10) (v := ?zvrb10) (some 9) rfl rfl (by kernel_rfl) (by kernel_rfl) (by kernel_rfl) (fun _ _ _ h => h) (Or.inl ⟨by rfl, ?zyrb10⟩) (by assumption) ?zrrb10
          case zyrb10 => (intro w hSw; clear hSw; go_simp; try with_reducible rfl)
          try simp only [Act.put, List.setIfInBounds_toArray, List.set_cons_zero, List.set_cons_succ]
          refine wpAnyH_done (by kernel_rfl) ?_ _
          go_wp2_with fail
          go_roundw
          case rel => exact ⟨i + 1, by omega, by go_num, by rw [HSU.out]; rfl, Lib.hid hbc⟩
          case measure => simp [intOf]; omega
      · have i3 : ¬ (i : Int) < (na : Int) := by omega
        obtain ⟨j, hj⟩ : ∃ j, j = i - na := ⟨_, rfl⟩
        have j1 : (i : Int) - (na : Int) = (j : Int) := by omega
        have j0 : (0 : Int) ≤ (j : Int) := by omega
        have j2 : (j : Int) < (nb : Int) := by omega
        have j3 : IntKind.i64.wrap (j : Int) = (j : Int) := IntWalk.i64_in _ (by omega)
        have g0 := (HSB.out.below (bt HW0.out HI.out)).cell j (.int .i64 y) (by
          rw [List.getElem?_append_right (by rw [← HNA.out]; omega), ← HNA.out, ← hj] at hy
          simp [hy])
        clear hy hj hnn
        cases s
        · go_wp2_with fail
          refine wp_region_held_drew (S := (fun W => Below W0.heap.size W0 W)) (by kernel_rfl) (by first | exact hbc | exact hbc.drew) (fun hHeld => ?_)
          replace hbc := hbc.drew
          refine takeD (i := 0) (v := ?zvrc0) (some 55) rfl rfl (by kernel_rfl) (by kernel_rfl) (by kernel_rfl) (fun _ _ _ h => h) (Or.inl ⟨by rfl, ?zyrc0⟩) (by assumption) ?zrrc0
          case zyrc0 => (intro w hSw; clear hSw; go_simp; try with_reducible rfl)
          try simp only [Act.put, List.setIfInBounds_toArray, List.set_cons_zero, List.set_cons_succ]
          refine takeD (i := 1) (v := ?zvrc1) (some 56) rfl rfl (by kernel_rfl) (by kernel_rfl) (by kernel_rfl) (fun _ _ _ h => h) (Or.inl ⟨by rfl, ?zyrc1⟩) (by assumption) ?zrrc1
          case zyrc1 => (intro w hSw; clear hSw; go_simp; try with_reducible rfl)
          try simp only [Act.put, List.setIfInBounds_toArray, List.set_cons_zero, List.set_cons_succ]
          refine takeD (i := 2) (v := undef) (some 57) rfl rfl (by kernel_rfl) (by kernel_rfl) (by kernel_rfl) (fun _ _ _ h => h) (Or.inr ⟨by first | kernel_rfl | rfl, rfl⟩) (by assumption) ?zrrc2
          try simp only [Act.put, List.setIfInBounds_toArray, List.set_cons_zero, List.set_cons_succ]
          refine takeD (i := 3) (v := undef) (some 58) rfl rfl (by kernel_rfl) (by kernel_rfl) (by kernel_rfl) (fun _ _ _ h => h) (Or.inr ⟨by first | kernel_rfl | rfl, rfl⟩) (by assumption) ?zrrc3
          try simp only [Act.put, List.setIfInBounds_toArray, List.set_cons_zero, List.set_cons_succ]
          refine takeD (i := 4) (v := undef) (some 59) rfl rfl (by kernel_rfl) (by kernel_rfl) (by kernel_rfl) (fun _ _ _ h => h) (Or.inr ⟨by first | kernel_rfl | rfl, rfl⟩) (by assumption) ?zrrc4
          try simp only [Act.put, List.setIfInBounds_toArray, List.set_cons_zero, List.set_cons_succ]
          refine takeD (i := 5) (v := undef) (some 60) rfl rfl (by kernel_rfl) (by kernel_rfl) (by kernel_rfl) (fun _ _ _ h => h) (Or.inr ⟨by first | kernel_rfl | rfl, rfl⟩) (by assumption) ?zrrc5
          try simp only [Act.put, List.setIfInBounds_toArray, List.set_cons_zero, List.set_cons_succ]
          refine takeD (i := 6) (v := undef) (some 61) rfl rfl (by kernel_rfl) (by kernel_rfl) (by kernel_rfl) (fun _ _ _ h => h) (Or.inr ⟨by first | kernel_rfl | rfl, rfl⟩) (by assumption) ?zrrc6
          try simp only [Act.put, List.setIfInBounds_toArray, List.set_cons_zero, List.set_cons_succ]
          refine takeD (i := 7) (v := undef) (some 62) rfl rfl (by kernel_rfl) (by kernel_rfl) (by kernel_rfl) (fun _ _ _ h => h) (Or.inr ⟨by first | kernel_rfl | rfl, rfl⟩) (by assumption) ?zrrc7
          try simp only [Act.put, List.setIfInBounds_toArray, List.set_cons_zero, List.set_cons_succ]
          refine takeD (i := 8) (v := undef) (some 63) rfl rfl (by kernel_rfl) (by kernel_rfl) (by kernel_rfl) (fun _ _ _ h => h) (Or.inr ⟨by first | kernel_rfl | rfl, rfl⟩) (by assumption) ?zrrc8
          try simp only [Act.put, List.setIfInBounds_toArray, List.set_cons_zero, List.set_cons_succ]
          refine takeD (i := 9) (v := ?zvrc9) (some 64) rfl rfl (by kernel_rfl) (by kernel_rfl) (by kernel_rfl) (fun _ _ _ h => h) (Or.inl ⟨by rfl, ?zyrc9⟩) (by assumption) ?zrrc9
          case zyrc9 => (intro w hSw; clear hSw; go_simp; try with_reducible rfl)
          try simp only [Act.put, List.setIfInBounds_toArray, List.set_cons_zero, List.set_cons_succ]
          refine takeD (i := 10) (v := ?zvrc10) (some 9) rfl rfl (by kernel_rfl) (by kernel_rfl) (by kernel_rfl) (fun _ _ _ h => h) (Or.inl ⟨by rfl, ?zyrc10⟩) (by assumption) ?zrrc10
          case zyrc10 => (intro w hSw; clear hSw; go_simp; try with_reducible rfl)
          try simp only [Act.put, List.setIfInBounds_toArray, List.set_cons_zero, List.set_cons_succ]
          refine wpAnyH_done (by kernel_rfl) ?_ _
          go_wp2_with fail
          go_roundw
          case rel => exact ⟨i + 1, by omega, by go_num, by rw [HSU.out]; rfl, Lib.hid hbc⟩
          case measure => simp [intOf]; omega
        · go_wp2_with fail
          refine wp_region_held_drew (S := (fun W => Below W0.heap.size W0 W)) (by kernel_rfl) (by first | exact hbc | exact hbc.drew) (fun hHeld => ?_)
          replace hbc := hbc.drew
          refine takeD (i := 0) (v := ?zvrd0) (some 55) rfl rfl (by kernel_rfl) (by kernel_rfl) (by kernel_rfl) (fun _ _ _ h => h) (Or.inl ⟨by rfl, ?zyrd0⟩) (by assumption) ?zrrd0
          case zyrd0 => (intro w hSw; clear hSw; go_simp; try with_reducible rfl)
          try simp only [Act.put, List.setIfInBounds_toArray, List.set_cons_zero, List.set_cons_succ]
          refine takeD (i := 1) (v := ?zvrd1) (some 56) rfl rfl (by kernel_rfl) (by kernel_rfl) (by kernel_rfl) (fun _ _ _ h => h) (Or.inl ⟨by rfl, ?zyrd1⟩) (by assumption) ?zrrd1
          case zyrd1 => (intro w hSw; clear hSw; go_simp; try with_reducible rfl)
          try simp only [Act.put, List.setIfInBounds_toArray, List.set_cons_zero, List.set_cons_succ]
          refine takeD (i := 2) (v := ?zvrd2) (some 57) rfl rfl (by kernel_rfl) (by kernel_rfl) (by kernel_rfl) (fun _ _ _ h => h) (Or.inl ⟨by rfl, ?zyrd2⟩) (by assumption) ?zrrd2
          case zyrd2 => (intro w hSw; have cL := C7.out w hSw; go_simp; try with_reducible rfl)
          try simp only [Act.put, List.setIfInBounds_toArray, List.set_cons_zero, List.set_cons_succ]
          refine takeD (i := 3) (v := ?zvrd3) (some 58) rfl rfl (by kernel_rfl) (by kernel_rfl) (by kernel_rfl) (fun _ _ _ h => h) (Or.inl ⟨by rfl, ?zyrd3⟩) (by assumption) ?zrrd3
          case zyrd3 => (intro w hSw; clear hSw; go_simp; try with_reducible rfl)
          try simp only [Act.put, List.setIfInBounds_toArray, List.set_cons_zero, List.set_cons_succ]
          refine takeD (i := 5) (v := ?zvrd5) (some 60) rfl rfl (by kernel_rfl) (by kernel_rfl) (by kernel_rfl) (fun _ _ _ h => h) (Or.inl ⟨by rfl, ?zyrd5⟩) (by assumption) ?zrrd5
          case zyrd5 => (intro w hSw; have cL := C8.out w hSw; go_simp; try with_reducible rfl)
          try simp only [Act.put, List.setIfInBounds_toArray, List.set_cons_zero, List.set_cons_succ]
          refine takeD (i := 6) (v := ?zvrd6) (some 61) rfl rfl (by kernel_rfl) (by kernel_rfl) (by kernel_rfl) (fun _ _ _ h => h) (Or.inl ⟨by rfl, ?zyrd6⟩) (by assumption) ?zrrd6
          case zyrd6 => (intro w hSw; clear hSw; go_simp; try with_reducible rfl)
          try simp only [Act.put, List.setIfInBounds_toArray, List.set_cons_zero, List.set_cons_succ]
          refine wpAnyH_ready (rs := [4]) (by kernel_rfl) (by simp) ?_
          refine AllReadyH.cons rfl (fun K hK => ?_) AllReadyH.nil
          go_simp
          refine (HHN.out _ hbc).mono ?_
          rintro e wka ⟨rfl, hbk⟩
          replace hbc := bt hbc hbk
          clear hbk
          go_wp2_with fail
          refine hK.out _ _ (by first | exact hbc | exact hbc.drew) (fun hHeld2 => ?_)
          clear hK K
          clear hHeld
          have hHeld := hHeld2
          clear hHeld2
          try simp only [Act.put, List.setIfInBounds_toArray, List.set_cons_zero, List.set_cons_succ]
          refine wpAnyH_ready (rs := [7]) (by kernel_rfl) (by simp) ?_
          refine AllReadyH.cons rfl (fun K hK => ?_) AllReadyH.nil
          go_simp
          refine (HHM.out _ hbc).mono ?_
          rintro e wkb ⟨rfl, hbk⟩
          replace hbc := bt hbc hbk
          clear hbk
          go_wp2_with fail
          refine hK.out _ _ (by first | exact hbc | exact hbc.drew) (fun hHeld2 => ?_)
          clear hK K
          clear hHeld
          have hHeld := hHeld2
          clear hHeld2
          try simp only [Act.put, List.setIfInBounds_toArray, List.set_cons_zero, List.set_cons_succ]
          refine takeD (i := 8) (v := ?zvrd8) (some 63) rfl rfl (by kernel_rfl) (by kernel_rfl) (by kernel_rfl) (fun _ _ _ h => h) (Or.inl ⟨by rfl, ?zyrd8⟩) (by assumption) ?zrrd8
          case zyrd8 => (intro w hSw; clear hSw; go_simp; try with_reducible rfl)
          try simp only [Act.put, List.setIfInBounds_toArray, List.set_cons_zero, List.set_cons_succ]
          refine takeD (i := 9) (v := ?zvrd9) (some 64) rfl rfl (by kernel_rfl) (by kernel_rfl) (by kernel_rfl) (fun _ _ _ h => h) (Or.inl ⟨by rfl, ?zyrd9⟩) (by assumption) ?zrrd9
          case zyrd9 => (intro w hSw; clear hSw; go_simp; try with_reducible rfl)
          try simp only [Act.put, List.setIfInBounds_toArray, List.set_cons_zero, List.set_cons_succ]
          refine takeD (i := 10) (v := ?zvrd10) (some 9) rfl rfl (by kernel_rfl) (by kernel_rfl) (by kernel_rfl) (fun _ _ _ h => h) (Or.inl ⟨by rfl, ?zyrd10⟩) (by assumption) ?zrrd10
          case zyrd10 => (intro w hSw; clear hSw; go_simp; try with_reducible rfl)
          try simp only [Act.put, List.setIfInBounds_toArray, List.set_cons_zero, List.set_cons_succ]
          refine wpAnyH_done (by kernel_rfl) ?_ _
          go_wp2_with fail
          go_roundw
          case rel => exact ⟨i + 1, by omega, by go_num, by rw [HSU.out]; rfl, Lib.hid hbc⟩
          case measure => simp [intOf]; omega
    · have i2 : ¬ (i : Int) < (nn : Int) := by omega
      obtain rfl : i = nn := by omega
      obtain ⟨Q, hQ⟩ : ∃ Q, Q = sm i := ⟨_, rfl⟩
      have HQ : Hid (Q = true ↔ N = M) := Lib.hid (by rw [hQ]; exact HSI2.out)
      rw [← hQ]
      have hbc := HI.out
      clear hQ HI HSI2
      have c7 := C7.out _ hbc
      go_wp2_with fail
      refine (key_any _ _ _ (HS7.out _ hbc)).mono ?_
      rintro e wa ⟨S1, rfl, hk1, hba⟩
      replace hbc := bt hbc hba
      have hfk := hk1.set (HS7.out _ (bz W0)).hi
      clear hk1 hba c7
      go_wp2_with fail
      refine (fromkey_any S1 _).mono ?_
      rintro e wb ⟨v12, E, rfl, hbb, hcase⟩
      obtain ⟨rfl, hset12⟩ : E = 0 ∧ SetAt wb v12 N := by
        rcases hcase with ⟨g, e, h⟩ | ⟨g, e, h⟩
        · exact ⟨e, by rw [hfk.2] at h; exact h⟩
        · exact absurd hfk.1 g
      obtain ⟨m12, ao12, cap12, b12, o12, rfl, _⟩ := id hset12
      replace hbc := bt hbc hbb
      clear hbb hcase hfk
      go_wp2_with fail
      obtain ⟨p12, hp12⟩ : ∃ p, p = wb.heap.size := ⟨_, rfl⟩
      obtain ⟨W1, hW1⟩ : ∃ W1, W1 = wb.alloc (.cells #[Value.slice ao12 m12 cap12] 27) := ⟨_, rfl⟩
      have hb01 : Below W0.heap.size W0 W1 := by rw [hW1]; exact hbc.alloc hbc.size _
      have d12 : W1.cell? ⟨p12, 0, none⟩ = some (.slice ao12 m12 cap12) := by rw [hW1, hp12]; exact (cell_new_l wb _ 27).1
      have s12 : SetAt W1 (.agg #[.slice ao12 m12 cap12]) N := by rw [hW1]; exact hset12.below (ba (bz wb) _)
      have C12 := Lib.hid (fun W (h : Below W1.heap.size W1 W) => cell_past_ h d12)
      have HS12 := Lib.hid (fun W (h : Below W1.heap.size W1 W) => s12.below h)
      replace C5 := Lib.hid (fun W (h : Below W1.heap.size W1 W) => C5.out W (bt hb01 h))
      replace C7 := Lib.hid (fun W (h : Below W1.heap.size W1 W) => C7.out W (bt hb01 h))
      replace C8 := Lib.hid (fun W (h : Below W1.heap.size W1 W) => C8.out W (bt hb01 h))
      replace HS7 := Lib.hid (fun W (h : Below W1.heap.size W1 W) => HS7.out W (bt hb01 h))
      replace HS8 := Lib.hid (fun W (h : Below W1.heap.size W1 W) => HS8.out W (bt hb01 h))
      have HW1 := Lib.hid (bt HW0.out hb01)
      rw [← hp12, ← hW1]
      clear hW1 hp12 hb01 d12 s12 hset12 hbc
      refine Code.wp_mono (fun e a W1b h => ?_) (r14 _ (by kernel_rfl) C7 C8 C12 HS7 HS8 HS12 HQ)
      cases e
      case' exit => exact (show False from h).elim
      case' goto => exact (show False from h).elim
      case' ret => exact (show False from h).elim
      case' panic => exact (show False from h).elim
      case' outgrown => exact (show False from h).elim
      obtain ⟨hbc, v71, v72, v73, v74, v75, v76, v77, v78, v79, v80, v81, v82, v83, v84, v85, v86, v87, v88, v89, v90, v91, v92, v93, v94, v95, v96, v97, v98, v99, rfl⟩ := h
      replace C5 := Lib.hid (fun W (h : Below W1b.heap.size W1b W) => C5.out W (bt hbc h))
      replace C7 := Lib.hid (fun W (h : Below W1b.heap.size W1b W) => C7.out W (bt hbc h))
      replace C8 := Lib.hid (fun W (h : Below W1b.heap.size W1b W) => C8.out W (bt hbc h))
      replace HS7 := Lib.hid (fun W (h : Below W1b.heap.size W1b W) => HS7.out W (bt hbc h))
      replace HS8 := Lib.hid (fun W (h : Below W1b.heap.size W1b W) => HS8.out W (bt hbc h))
      replace HW1 := Lib.hid (bt HW1.out hbc)
      clear C12 HS12 hbc
      go_upto_region 16 with fail
      go_cut [14, 15] (fun t14 t15 wx => ∃ c14 c15 : Nat, t14 = .pointer (some ⟨c14, 0, none⟩) ∧ t15 = .pointer (some ⟨c15, 0, none⟩) ∧ Hid (ApCut W1b N x0 c14 c15 wx))
      case first =>
        refine Code.wp_mono (fun e a W h => ?_) (r16 _ (by kernel_rfl) C5 C7 HS7)
        cases e
        case normal =>
          obtain ⟨c14, c15, hcut, v101, v102, v103, v104, v105, v106, v107, v108, rfl⟩ := h
          go_wp2_with fail
          go_meet
          exact ⟨c14, c15, rfl, rfl, Lib.hid hcut⟩
        all_goals exact (show False from h).elim
      case rest =>
        obtain ⟨c14, c15, rfl, rfl, HC⟩ := hcut
        rename World => W2
        have hb12 := HC.out.below
        obtain ⟨u14, x14, hs14⟩ := HC.out.s14
        obtain ⟨u15, x15, hs15⟩ := HC.out.s15
        obtain ⟨m14, ao14, cap14, b14, o14, hu14, _⟩ := id hs14
        obtain ⟨m15, ao15, cap15, b15, o15, hu15, _⟩ := id hs15
        simp only [Value.agg.injEq, Array.mk.injEq, List.cons.injEq, and_true] at hu14 hu15
        subst hu14 hu15
        have C14 := Lib.hid (fun W (h : Below W2.heap.size W2 W) => cell_past_ h x14)
        have C15 := Lib.hid (fun W (h : Below W2.heap.size W2 W) => cell_past_ h x15)
        have HS14 := Lib.hid (fun W (h : Below W2.heap.size W2 W) => hs14.below h)
        have HS15 := Lib.hid (fun W (h : Below W2.heap.size W2 W) => hs15.below h)
        replace C5 := Lib.hid (fun W (h : Below W2.heap.size W2 W) => C5.out W (bt hb12 h))
        replace C7 := Lib.hid (fun W (h : Below W2.heap.size W2 W) => C7.out W (bt hb12 h))
        replace C8 := Lib.hid (fun W (h : Below W2.heap.size W2 W) => C8.out W (bt hb12 h))
        replace HS7 := Lib.hid (fun W (h : Below W2.heap.size W2 W) => HS7.out W (bt hb12 h))
        replace HS8 := Lib.hid (fun W (h : Below W2.heap.size W2 W) => HS8.out W (bt hb12 h))
        have HW2 := Lib.hid (bt HW1.out hb12)
        clear hb12 HC x14 x15 hs14 hs15
        have hbc := bz W2
        have c5 := C5.out _ hbc
        obtain ⟨c50, c51⟩ := c5
        obtain ⟨mb, hmb⟩ : ∃ mb, mb = mayB x0 := ⟨_, rfl⟩
        have HMB := Lib.hid hmb
        clear hmb
        go_upto_region 17 with fail
        go_cut [16] (fun t16 wx => t16 = .bool mb ∧ wx = W2)
        case first =>
          have hm3 : (x0 < 0 ∧ mb = false) ∨ (0 ≤ x0 ∧ 65535 < x0 ∧ mb = false) ∨ (0 ≤ x0 ∧ x0 ≤ 65535 ∧ mb = true) := by
            rw [HMB.out]
            unfold mayB
            by_cases h0 : x0 < 0
            · exact .inl ⟨h0, decide_eq_false (by omega)⟩
            · by_cases h1 : x0 ≤ 65535
              · exact .inr (.inr ⟨by omega, h1, decide_eq_true (by omega)⟩)
              · exact .inr (.inl ⟨by omega, by omega, decide_eq_false (by omega)⟩)
          rcases hm3 with ⟨h0, rfl⟩ | ⟨h0, h1, rfl⟩ | ⟨h0, h1, rfl⟩
          · have h2 : ¬ (0 : Int) ≤ x0 := by omega
            go_wp2_with fail
            go_meet
            exact ⟨rfl, rfl⟩
          · have h2 : ¬ x0 ≤ 65535 := by omega
            go_wp2_with fail
            go_meet
            exact ⟨rfl, rfl⟩
          · go_wp2_with fail
            go_meet
            exact ⟨rfl, rfl⟩
        case rest =>
          obtain ⟨rfl, rfl⟩ := hcut
          clear c50 c51
          rename World => W2
          have hHN := (HS7.out _ hbc).hi
          obtain ⟨h0, hh0⟩ : ∃ q, q = hasB N x0 := ⟨_, rfl⟩
          obtain ⟨h1, hh1⟩ : ∃ q, q = hasB N x1 := ⟨_, rfl⟩
          have HA3 := Lib.hid (fun W (h : Below W2.heap.size W2 W) => has_any _ _ x0 W (HS14.out W h))
          rw [hasB_with, decide_eq_true (rfl : x0 = x0), Bool.and_true, ← HMB.out, ← hh0] at HA3
          have hmh : (h0 || mb) = mb := by
            rw [hh0, HMB.out]
            unfold hasB
            cases mayB x0 <;> simp
          rw [hmh] at HA3
          have HA10 := Lib.hid (fun W (h : Below W2.heap.size W2 W) => has_any _ _ x0 W (HS15.out W h))
          rw [hasB_without, decide_eq_true (rfl : x0 = x0), Bool.not_true, Bool.and_false] at HA10
          have HA55 := Lib.hid (fun W (h : Below W2.heap.size W2 W) => has_any _ _ x0 W (HS7.out W h))
          rw [← hh0] at HA55
          have HA26 := Lib.hid (fun W (h : Below W2.heap.size W2 W) => has_any _ _ x1 W (HS7.out W h))
          rw [← hh1] at HA26
          have HA45 : Hid (∀ W, Below W2.heap.size W2 W → Calls Try.prog 26 #[.agg #[.slice ao14 m14 cap14], .int .i64 x0] W (SetPost (withoutN N x0) W)) := Lib.hid (fun W h => by
            have h2 := without_any _ _ x0 W (HS14.out W h)
            rwa [without_with hHN] at h2)
          have HW14 : Hid (h0 = true → ∀ W, Below W2.heap.size W2 W → SetAt W (.agg #[.slice ao14 m14 cap14]) N) := Lib.hid (fun h W hW => by
            have h2 := HS14.out W hW
            rwa [with_has (by rw [← hh0]; exact h)] at h2)
          have HH1 := Lib.hid hh1
          clear hmh hh0 hh1 hHN
          have HX : ¬ x1 = x0 → Hid (∀ W, Below W2.heap.size W2 W → Calls Try.prog 13 #[.agg #[.slice ao14 m14 cap14], .int .i64 x1] W fun e w' => e = .returned (.bool h1) ∧ Below W.heap.size W w') ∧ Hid (∀ W, Below W2.heap.size W2 W → Calls Try.prog 13 #[.agg #[.slice ao15 m15 cap15], .int .i64 x1] W fun e w' => e = .returned (.bool h1) ∧ Below W.heap.size W w') := fun hx => by
            have HA22 := Lib.hid (fun W (h : Below W2.heap.size W2 W) => has_any _ _ x1 W (HS14.out W h))
            rw [hasB_with, decide_eq_false (fun e => hx e.symm : ¬ x0 = x1), Bool.and_false, Bool.or_false, ← HH1.out] at HA22
            have HA32 := Lib.hid (fun W (h : Below W2.heap.size W2 W) => has_any _ _ x1 W (HS15.out W h))
            rw [hasB_without, decide_eq_false (fun e => hx e.symm : ¬ x0 = x1), Bool.not_false, Bool.and_true, ← HH1.out] at HA32
            exact ⟨HA22, HA32⟩
          have HXX := Lib.hid HX
          clear HX
          go_upto_region 18 with fail
          refine Code.wp_mono (fun e a W h => ?_) (r18all _ (by kernel_rfl) C5 C7 C14 C15 HA3 HA10 HA55 HA26 HXX.out HA45 HS15 (fun h => HW14.out h) HS7)
          cases e
          case' exit => exact (show False from h).elim
          case' goto => exact (show False from h).elim
          case' ret => exact (show False from h).elim
          case' panic => exact (show False from h).elim
          case' outgrown => exact (show False from h).elim
          obtain ⟨hbn, v117, v118, v119, v120, v121, v122, v123, v124, v125, v126, v127, v128, v129, v130, v131, v132, v133, v134, v135, v136, v137, v138, v139, v140, v141, v142, v143, v144, v145, v146, v147, v148, v149, v150, v151, v152, v153, v154, v155, v156, v157, v158, v159, v160, v161, v162, v163, v164, v165, v166, v167, v168, v169, v170, v171, v172, v173, v174, v175, v176, v177, v178, v179, rfl⟩ := h
          replace hbc := hbn
          clear hbn
          have c7 := C7.out _ hbc
          have c8 := C8.out _ hbc
          clear HA3 HA10 HA55 HA26 HA45 HW14 HH1 HMB HXX
          go_wp2_with fail
          refine (union_any _ _ _ _ _ (HS7.out _ hbc) (HS8.out _ hbc)).mono ?_
          rintro e wd ⟨v17, rfl, hset17, hbd⟩
          replace hbc := bt hbc hbd
          obtain ⟨m17, ao17, cap17, b17, o17, rfl, _⟩ := id hset17
          clear hbd c7 c8
          go_wp2_with fail
          obtain ⟨p17, hp17⟩ : ∃ p, p = wd.heap.size := ⟨_, rfl⟩
          obtain ⟨W4, hW4⟩ : ∃ W4, W4 = wd.alloc (.cells #[Value.slice ao17 m17 cap17] 27) := ⟨_, rfl⟩
          have hb24 : Below W2.heap.size W2 W4 := by rw [hW4]; exact hbc.alloc hbc.size _
          have d17 : W4.cell? ⟨p17, 0, none⟩ = some (.slice ao17 m17 cap17) := by rw [hW4, hp17]; exact (cell_new_l wd _ 27).1
          have s17 : SetAt W4 (.agg #[.slice ao17 m17 cap17]) (N ||| M) := by rw [hW4]; exact hset17.below (ba (bz wd) _)
          have C17 := Lib.hid (fun W (h : Below W4.heap.size W4 W) => cell_past_ h d17)
          have HS17 := Lib.hid (fun W (h : Below W4.heap.size W4 W) => s17.below h)
          replace C7 := Lib.hid (fun W (h : Below W4.heap.size W4 W) => C7.out W (bt hb24 h))
          replace C8 := Lib.hid (fun W (h : Below W4.heap.size W4 W) => C8.out W (bt hb24 h))
          replace HS7 := Lib.hid (fun W (h : Below W4.heap.size W4 W) => HS7.out W (bt hb24 h))
          replace HS8 := Lib.hid (fun W (h : Below W4.heap.size W4 W) => HS8.out W (bt hb24 h))
          have HW4 := Lib.hid (bt HW2.out hb24)
          rw [← hp17, ← hW4]
          clear hW4 hp17 hb24 d17 s17 hset17 hbc C5 C14 C15 HS14 HS15
          have hbc := bz W4
          obtain ⟨B, hBt⟩ : ∃ B : Bool, B = true ↔ ∀ n, N.testBit n = true → M.testBit n = true := by
            by_cases h : ∀ n, N.testBit n = true → M.testBit n = true
            · exact ⟨true, fun _ => h, fun _ => rfl⟩
            · exact ⟨false, (fun e => by cases e), (fun e => absurd e h)⟩
          have HBT := Lib.hid hBt
          have HBU := Lib.hid (hBt.trans (sub_or N M))
          obtain ⟨CU, hCU⟩ : ∃ c, c = (allN (N ||| M)).length := ⟨_, rfl⟩
          obtain ⟨CS, hCS⟩ : ∃ c, c = (allN N).length := ⟨_, rfl⟩
          obtain ⟨CT, hCT⟩ : ∃ c, c = (allN M).length := ⟨_, rfl⟩
          have hcle : (CU : Int) ≤ (CS : Int) + (CT : Int) := by have := count_or N M; omega
          have hcw : IntKind.i64.wrap ((CS : Int) + (CT : Int)) = (CS : Int) + (CT : Int) := IntWalk.i64_in _ (by
            have h1 := upto_len N 65536
            have h2 := upto_len M 65536
            unfold allN at hCS hCT
            omega)
          have HK39 := Lib.hid (fun W (h : Below W4.heap.size W4 W) => count_any (HS17.out W h))
          rw [← hCU] at HK39
          have HK41 := Lib.hid (fun W (h : Below W4.heap.size W4 W) => count_any (HS7.out W h))
          rw [← hCS] at HK41
          have HK43 := Lib.hid (fun W (h : Below W4.heap.size W4 W) => count_any (HS8.out W h))
          rw [← hCT] at HK43
          clear hBt hCU hCS hCT
          refine Code.wp_mono (fun e a W h => ?_) (r21 _ (by kernel_rfl) C7 C8 C17 HS7 HS8 HS17 HK39 HK41 HK43 HBT HBU hcle hcw)
          cases e
          case normal =>
            obtain ⟨hbn, v184, v185, v186, v187, v188, v189, v190, v191, v192, v193, v194, v195, v196, v197, v198, v199, v200, v201, v202, v203, v204, v205, v206, v207, v208, v209, v210, v211, v212, v213, v214, v215, v216, v217, v218, v219, v220, v221, v222, v223, v224, v225, v226, v227, v228, v229, v230, v231, v232, v233, rfl⟩ := h
            go_wp2_with fail
            go_ret
            exact ⟨rfl, bt HW4.out hbn⟩
          all_goals exact (show False from h).elim
theorem oapart_big (na nb : Nat) (ao ao' : Option Addr) (cap cap' : Nat) (x0 x1 : Int) (w : World) (h : (200 : Int) < (na : Int) ∨ (200 : Int) < (nb : Int)) :
    Calls Try.prog 6 #[.slice ao na cap, .slice ao' nb cap', .agg #[.int .i64 x0, .int .i64 x1]] w fun e w' => e = .returned (.bool true) ∧ Below w.heap.size w w' := by
  have HA := Lib.hid (awake_any (w.alloc (.cells #[.int .i64 x0, .int .i64 x1] 56)))
  have hcase : (200 : Int) < (na : Int) ∨ (¬ (200 : Int) < (na : Int) ∧ (200 : Int) < (nb : Int)) := by omega
  clear h
  rcases hcase with h | ⟨h, h2⟩
  all_goals
    go_enter Try.func6, Try.ntmps6
    go_wp2_with fail
    refine HA.out.mono ?_
    rintro e w1 ⟨rfl, hb⟩
    have HB1 := Lib.hid ((ba (bz w) (.cells #[.int .i64 x0, .int .i64 x1] 56)).trans (hb.mono (by simp)))
    clear hb
    go_wp2
    go_ret
    exact ⟨rfl, HB1.out⟩
theorem oapart (xa xb : List Int) (ao ao' : Option Addr) (cap cap' b b' o o' : Nat) (x0 x1 : Int) (w : World) (hsa : SlAt w 1 xa.length (xa.map (Value.int .i64)) ao cap b o) (hsb : SlAt w 1 xb.length (xb.map (Value.int .i64)) ao' cap' b' o') :
    Calls Try.prog 6 #[.slice ao xa.length cap, .slice ao' xb.length cap', .agg #[.int .i64 x0, .int .i64 x1]] w fun e w' => e = .returned (.bool true) ∧ Below w.heap.size w w' := by
  by_cases h : (200 : Int) < (xa.length : Int) ∨ (200 : Int) < (xb.length : Int)
  · exact oapart_big _ _ ao ao' cap cap' x0 x1 w h
  · exact oapart_any xa xb _ _ rfl rfl ao ao' cap cap' b b' o o' x0 x1 w hsa hsb (fun e => h (.inl e)) (fun e => h (.inr e))
end Go.Proofs.Ytfjccgihdnemkaa
