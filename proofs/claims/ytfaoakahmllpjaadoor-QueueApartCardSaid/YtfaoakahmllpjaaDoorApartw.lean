/- QueueApart: states that go on from one state do not touch one another, nor that one. -/
import Derived.Test.YtfaoakahmllpjaaDoorOrder
import Derived.Test.YtfaoakahmllpjaaDoorGenb
namespace Go.Proofs.YtfaoakahmllpjaaDoor
open Go.RowKit Go.Um
set_option maxHeartbeats 2000000

theorem qapart_big (l : List Int) (v : Value) (n m : Nat) (ao ao' : Option Addr) (cap cap' : Nat) (w : World) (hv : Lies w l v) (hbig : 100 < l.length ∨ 100 < n ∨ 100 < m) (hk : Kinds w) :
    Calls Tryd.prog 6 #[v, .slice ao n cap, .slice ao' m cap'] w fun e w' => e = .returned (.bool true) ∧ Below w.heap.size w w' := by
  obtain ⟨ao1, cap1, b1, o1, rfl, hs⟩ := hv
  clear hs
  have hc : decide (100 < (l.length : Int)) = true ∨ (decide (100 < (l.length : Int)) = false ∧ decide (100 < (n : Int)) = true) ∨ (decide (100 < (l.length : Int)) = false ∧ decide (100 < (n : Int)) = false ∧ decide (100 < (m : Int)) = true) := by simp; omega
  clear hbig
  rcases hc with t1 | ⟨t1, t2⟩ | ⟨t1, t2, t3⟩
  all_goals
    go_enter Tryd.func6, Tryd.ntmps6
    go_wp2_with fail
    refine (works_any _ hk).mono ?_
    rintro e w1 ⟨rfl, hb1⟩
    go_wp2
    go_ret
    exact ⟨rfl, hb1⟩

set_option maxRecDepth 100000 in
theorem qapart_small (l : List Int) (v : Value) (A B : List Op5) (ao ao' : Option Addr) (cap b o cap' b' o' : Nat) (w : World) (hv : Lies w l v) (h : SlAt w 5 A.length (A.flatMap Op5.cells) ao cap b o) (h' : SlAt w 5 B.length (B.flatMap Op5.cells) ao' cap' b' o')
    (hok : ∀ x ∈ A, x.ok) (hok' : ∀ x ∈ B, x.ok) (hl : l.length ≤ 100) (ha : A.length ≤ 100) (hb : B.length ≤ 100) (hk : Kinds w) :
    Calls Tryd.prog 6 #[v, .slice ao A.length cap, .slice ao' B.length cap'] w fun e w' => e = .returned (.bool true) ∧ Below w.heap.size w w' := by
  obtain ⟨i0, hi, iz0, iz1, iz2⟩ := info_parts info23
  have HV := Lib.hid hv
  obtain ⟨ao1, cap1, b1, o1, rfl, hs⟩ := hv
  have t1 : decide (100 < (l.length : Int)) = false := by simp; omega
  have t2 : decide (100 < (A.length : Int)) = false := by simp; omega
  have t3 : decide (100 < (B.length : Int)) = false := by simp; omega
  have HS := Lib.hid hs
  have HK := Lib.hid hk
  obtain ⟨q1, hq1⟩ : ∃ q, q = stN l A (stopAt A) := ⟨_, rfl⟩
  obtain ⟨q2, hq2⟩ : ∃ q, q = stN l B (stopAt B) := ⟨_, rfl⟩
  have hl1 : q1.length ≤ 200 := by have := stN_len l A (stopAt A); have := stopAt_le A; rw [hq1]; omega
  have hl2 : q2.length ≤ 200 := by have := stN_len l B (stopAt B); have := stopAt_le B; rw [hq2]; omega
  have hpa := fun S v' W (h1 : Far S W l v') hb hk => prun_any S l v' A ao cap b o W h1 (h.below hb) hok (by omega) (by omega) hk
  have hpb := fun S v' W (h1 : Far S W l v') hb hk => prun_any S l v' B ao' cap' b' o' W h1 (h'.below hb) hok' (by omega) (by omega) hk
  unfold RunPost at hpa hpb
  rw [← hq1] at hpa
  rw [← hq2] at hpb
  have HPA := Lib.hid hpa
  have HPB := Lib.hid hpb
  clear hs hk hq1 hq2 hpa hpb h h' hok hok'
  have HW : Hid (Below w.heap.size w w) := Lib.hid (bz w)
  go_enter Tryd.func6, Tryd.ntmps6
  go_wp2_with fail
  refine (qof_any l _ _ HV.out (by omega)).mono ?_
  rintro e w1 ⟨v1, rfl, hown1, hb1⟩
  have L1 : Hid (Lies (w1.alloc (.cells #[v1] 28)) l v1) := Lib.hid ((Lies.own hown1).below (ba (bz w1) _))
  have HB1 := Lib.hid hb1
  obtain ⟨aoA, capA, bA, oA, rfl, _, _⟩ := SlAt.owned hown1
  clear hown1 hb1
  go_wp2_with fail
  refine (HPA.out _ _ _ (Far.of_lies L1.out) (ba HB1.out _) (HK.out.below (ba HB1.out _))).mono ?_
  rintro e w2 ⟨v2, r2, rfl, hf2, hown2, hb2⟩
  have c7 := kc hb2 w1.heap.size 0 (.slice aoA l.length capA) (by simp [go_sem])
  have hB2 : Below w1.heap.size w1 w2 := bt (ba (bz w1) _) hb2
  have LS := Lib.hid ((Lies.below L1.out hb2).below (ba (bz w2) (.cells #[v2] 28)))
  have L2 := Lib.hid (hf2.lies.below (ba (bz w2) (.cells #[v2] 28)))
  have HB2 := Lib.hid (bt HB1.out hB2)
  obtain ⟨aoB, capB, bB, oB, rfl, _, _⟩ := hf2
  obtain ⟨aoQ, capQ, bQ, oQ, rfl, _, _⟩ := SlAt.owned hown2
  have hz12 : w1.heap.size < w2.heap.size := by have := hb2.size; simp at this; omega
  clear hown2 hb2 hB2 L1
  go_wp2_with fail
  refine (values_any q1 _ _ L2.out (by omega)).mono ?_
  rintro e w3 ⟨v3, rfl, hown3, hb3⟩
  have hB3 : Below w2.heap.size w2 w3 := bt (ba (bz w2) _) hb3
  have c8 := kc hb3 w2.heap.size 0 (.slice aoB q1.length capB) (by simp [go_sem])
  replace c7 := cell_past hB3 c7
  replace LS := Lib.hid (LS.out.below hb3)
  replace L2 := Lib.hid (L2.out.below hb3)
  have HB3 := Lib.hid (bt HB2.out hB3)
  have HOWN := Lib.hid hown3
  obtain ⟨aoW, capW, bW, oW, rfl, hsw, _⟩ := SlAt.owned hown3
  have SW := Lib.hid hsw
  clear hown3 hb3 hB3 hsw
  go_wp2_with fail
  refine (HPB.out _ _ _ (Far.of_lies LS.out) HB3.out (HK.out.below HB3.out)).mono ?_
  rintro e w3b ⟨v4, r4, rfl, hf4, hown4, hb4⟩
  replace c7 := cell_past hb4 c7
  replace c8 := cell_past hb4 c8
  replace LS := Lib.hid (LS.out.below hb4)
  replace L2 := Lib.hid (L2.out.below hb4)
  replace SW := Lib.hid (SW.out.below hb4)
  have LT := Lib.hid hf4.lies
  have HB4 := Lib.hid (bt HB3.out hb4)
  obtain ⟨aoT, capT, bT, oT, rfl, _, _⟩ := hf4
  obtain ⟨aoR, capR, bR, oR, rfl, _, _⟩ := SlAt.owned hown4
  clear hown4 hb4 HB1 HB2 HB3
  go_wp2_with fail
  obtain ⟨W, hW⟩ : ∃ W, W = w3b.alloc (.cells #[.slice aoT q2.length capT] 28) := ⟨_, rfl⟩
  have hbW : Below w3b.heap.size w3b W := by rw [hW]; exact ba (bz _) _
  have c12 : W.cell? ⟨w3b.heap.size, 0, none⟩ = some (.slice aoT q2.length capT) := by rw [hW]; simp [go_sem]
  rw [← hW]
  replace c7 := cell_past hbW c7
  replace c8 := cell_past hbW c8
  replace LS := Lib.hid (LS.out.below hbW)
  replace L2 := Lib.hid (L2.out.below hbW)
  replace SW := Lib.hid (SW.out.below hbW)
  replace LT := Lib.hid (LT.out.below hbW)
  have HBW := Lib.hid (bt HB4.out hbW)
  have c8lt := World.block_lt_of_cell? W _ c8
  have hst : ∀ x : Int, in16 x → ∀ Z, Below W.heap.size W Z → Calls Tryd.prog 12 #[.agg #[.slice aoB q1.length capB], opV ⟨4, 0, 0, x, 0⟩] Z (Step3 (fun b => b < W.heap.size) (q1 ++ [x]) (0, 0) 0 Z) := fun x hx Z hZ => by
    have h5 := step_any (fun b => b < W.heap.size) q1 (.slice aoB q1.length capB) ⟨4, 0, 0, x, 0⟩ ⟨⟨by dsimp only; decide, by dsimp only; decide⟩, ⟨by dsimp only; decide, by dsimp only; decide⟩, ⟨by dsimp only; decide, by dsimp only; decide⟩, hx, ⟨by dsimp only; decide, by dsimp only; decide⟩⟩ Z ((Far.of_lies L2.out).below hZ) (by omega) (HK.out.below (bt HBW.out hZ))
    have hg : good ⟨4, 0, 0, x, 0⟩ = true := rfl
    rw [show nxt q1 ⟨4, 0, 0, x, 0⟩ = q1 ++ [x] from by simp [nxt, hg], show ans q1 ⟨4, 0, 0, x, 0⟩ = (0, 0) from by simp [ans, hg], show errOf ⟨4, 0, 0, x, 0⟩ = 0 from by simp [errOf, hg]] at h5
    exact h5
  have h7 := hst 7 ⟨by decide, by decide⟩
  have h9 := hst 9 ⟨by decide, by decide⟩
  unfold opV at h7 h9
  have H2 := Lib.hid h7
  have H9 := Lib.hid h9
  clear hW hbW HB4 hst h7 h9
  go_upto_region 7 with fail
  go_cut [15] (fun t15 wx => ∃ g sv, t15 = .pointer (some ⟨g, 0, none⟩) ∧ wx.cell? ⟨g, 0, none⟩ = some sv ∧ Lies wx (q1 ++ [7]) sv ∧ Below W.heap.size W wx)
  case first =>
    go_region_held3 (fun w' => w'.cell? ⟨w2.heap.size, 0, none⟩ = some (.slice aoB q1.length capB))
      ((repeat (first | (with_reducible assumption) | (with_reducible apply keep_alloc) | (with_reducible apply keep_drew) | (with_reducible refine keep_set ?_ ?_) | (intro e; dsimp only at e; omega))))
      (first
        | (go_at_call 21; refine (enq_any 7 _).mono ?_; rintro e w4 ⟨rfl, hb4⟩; unfold opV; have hB4 : Below W.heap.size W w4 := bt (by repeat (first | (with_reducible exact bz W) | (with_reducible apply ba) | (with_reducible apply Below.drew))) hb4; have HB4 := Lib.hid hB4; have hz4 : W.heap.size ≤ w4.heap.size := hB4.size; have c8' := cell_past hB4 c8; obtain ⟨c2, f2, z2, n2⟩ := past hb4; clear n2; have ap00 := c2 W.heap.size 0; have fp00 := f2 W.heap.size 0; have ap01 := c2 W.heap.size 1; have fp01 := f2 W.heap.size 1; have yp0 := z2 W.heap.size; have ap10 := c2 (W.heap.size + 1) 0; have fp10 := f2 (W.heap.size + 1) 0; have ap11 := c2 (W.heap.size + 1) 1; have fp11 := f2 (W.heap.size + 1) 1; have yp1 := z2 (W.heap.size + 1); clear c2 f2 z2; clear hb4 hB4; simp [go_sem] at ap00 fp00 ap01 fp01 yp0 ap10 fp10 ap11 fp11 yp1)
        | (go_at_call 12; refine (H2.out _ (bt HB4.out (by repeat (first | (with_reducible exact bz w4) | (with_reducible apply ba) | (with_reducible apply Below.drew))))).mono ?_; rintro e w5 ⟨v5, rfl, hf5, hb5⟩; have hB5 : Below w4.heap.size w4 w5 := bt (by repeat (first | (with_reducible exact bz w4) | (with_reducible apply ba) | (with_reducible apply Below.drew))) hb5; have HB5 := Lib.hid hB5; have HF5 := Lib.hid hf5; obtain ⟨ao5, cap5, b5', o5', rfl, hs5, hS5⟩ := hf5; have c8'' := cell_past hB5 c8'; have hz5 : w4.heap.size ≤ w5.heap.size := hB5.size; obtain ⟨c2, f2, z2, n2⟩ := past hb5; clear n2; have aq00 := c2 W.heap.size 0; have fq00 := f2 W.heap.size 0; have aq01 := c2 W.heap.size 1; have fq01 := f2 W.heap.size 1; have yq0 := z2 W.heap.size; have aq10 := c2 (W.heap.size + 1) 0; have fq10 := f2 (W.heap.size + 1) 0; have aq11 := c2 (W.heap.size + 1) 1; have fq11 := f2 (W.heap.size + 1) 1; have yq1 := z2 (W.heap.size + 1); have aq20 := c2 w4.heap.size 0; have fq20 := f2 w4.heap.size 0; have aq21 := c2 w4.heap.size 1; have fq21 := f2 w4.heap.size 1; have yq2 := z2 w4.heap.size; have aq30 := c2 (w4.heap.size + 1) 0; have fq30 := f2 (w4.heap.size + 1) 0; have aq31 := c2 (w4.heap.size + 1) 1; have fq31 := f2 (w4.heap.size + 1) 1; have yq3 := z2 (w4.heap.size + 1); clear c2 f2 z2; clear hs5 hS5 hb5 hB5; simp [go_sem, *] at aq00 fq00 aq01 fq01 yq0 aq10 fq10 aq11 fq11 yq1 aq20 fq20 aq21 fq21 yq2 aq30 fq30 aq31 fq31 yq3))
    all_goals (go_wp2_with fail; go_meet)
    all_goals (refine ⟨_, .slice ao5 (q1 ++ [7]).length cap5, rfl, ?_, ?_, ?_⟩)
    all_goals first
      | (repeat (first | (with_reducible exact bt HB4.out HB5.out) | (with_reducible apply ba) | (with_reducible apply Below.drew) | (with_reducible refine bs ?_ ?_ _) | (dsimp only; omega))
         done)
      | ((apply Far.lies); (focus (repeat (first | (with_reducible exact HF5.out) | (with_reducible apply Far.alloc) | (with_reducible apply Far.drew) | (with_reducible apply Far.setCell)))); (all_goals (intro hb; rcases hb with hb | hb <;> simp at hb <;> omega)); done)
      | ((repeat (first | (with_reducible assumption) | ((with_reducible refine new_at ?_ ?_); (focus (first | rfl | (simp; done))); (focus rfl)) | (with_reducible apply keep_alloc) | (with_reducible apply keep_drew) | (with_reducible refine keep_set ?_ ?_) | (intro e; dsimp only at e; omega))); done)
      | (simp [go_sem, *]; done)
      | skip
  case rest =>
    obtain ⟨g15, sv15, rfl, c15, l15, hbx⟩ := hcut
    replace c7 := cell_past hbx c7
    replace c8 := cell_past hbx c8
    replace c12 := cell_past hbx c12
    replace LS := Lib.hid (LS.out.below hbx)
    replace L2 := Lib.hid (L2.out.below hbx)
    replace SW := Lib.hid (SW.out.below hbx)
    replace LT := Lib.hid (LT.out.below hbx)
    have HBC := Lib.hid (bt HBW.out hbx)
    have HBX := Lib.hid hbx
    have L15 := Lib.hid l15
    obtain ⟨aoM, capM, bM, oM, hvM, _⟩ := l15
    subst hvM
    clear hbx
    go_wp2_with fail
    go_region_held3 (fun w' => w'.cell? ⟨w2.heap.size, 0, none⟩ = some (.slice aoB q1.length capB))
      ((repeat (first | (with_reducible assumption) | (with_reducible apply keep_alloc) | (with_reducible apply keep_drew) | (with_reducible refine keep_set ?_ ?_) | (intro e; dsimp only at e; omega))))
      (first
        | (go_at_call 21; refine (enq_any 9 _).mono ?_; rintro e w6 ⟨rfl, hb6⟩; unfold opV; have hB6 : Below wc.heap.size wc w6 := bt (by repeat (first | (with_reducible exact bz wc) | (with_reducible apply ba) | (with_reducible apply Below.drew))) hb6; have HB6 := Lib.hid hB6; have c8' := cell_past hB6 c8; clear hb6 hB6)
        | (go_at_call 12; refine (H9.out _ (bt HBX.out (bt HB6.out (by repeat (first | (with_reducible exact bz w6) | (with_reducible apply ba) | (with_reducible apply Below.drew)))))).mono ?_; rintro e w7 ⟨v7, rfl, hf7, hb7⟩; have hB7 : Below w6.heap.size w6 w7 := bt (by repeat (first | (with_reducible exact bz w6) | (with_reducible apply ba) | (with_reducible apply Below.drew))) hb7; have HB7 := Lib.hid hB7; have c8'' := cell_past hB7 c8'; clear hf7 hb7 hB7))
    have hb17 : Below wc.heap.size wc w7 := bt HB6.out HB7.out
    replace c7 := cell_past hb17 c7
    replace c8 := cell_past hb17 c8
    replace c12 := cell_past hb17 c12
    replace c15 := cell_past hb17 c15
    replace LS := Lib.hid (LS.out.below hb17)
    replace L2 := Lib.hid (L2.out.below hb17)
    replace SW := Lib.hid (SW.out.below hb17)
    replace LT := Lib.hid (LT.out.below hb17)
    replace L15 := Lib.hid (L15.out.below hb17)
    have HB7w := Lib.hid (bt HBC.out hb17)
    clear c8' c8'' hb17 HB6 HB7 HBX HBC HBW
    go_wp2_with fail
    refine (qof_any l _ _ (HV.out.below HB7w.out) (by omega)).mono ?_
    rintro e w8 ⟨v8, rfl, hown8, hb8⟩
    have L8 := Lib.hid (Lies.own hown8)
    obtain ⟨aoE, capE, bE, oE, rfl, _, _⟩ := SlAt.owned hown8
    have HB8 := Lib.hid hb8
    clear hown8 hb8
    go_wp2_with fail
    refine (HPB.out _ _ _ (Far.of_lies L8.out) (bt HB7w.out HB8.out) (HK.out.below (bt HB7w.out HB8.out))).mono ?_
    rintro e w9 ⟨v9, r9, rfl, hf9, hown9, hb9⟩
    have hb79 : Below w7.heap.size w7 (w9.alloc (.cells #[v9] 28)) := ba (bt HB8.out hb9) _
    have L18 : Hid (Lies (w9.alloc (.cells #[v9] 28)) q2 v9) := Lib.hid (hf9.lies.below (ba (bz w9) _))
    obtain ⟨aoF, capF, bF, oF, rfl, _, _⟩ := hf9
    obtain ⟨aoG, capG, bG, oG, rfl, _, _⟩ := SlAt.owned hown9
    clear hown9 hb9
    go_wp2_with fail
    obtain ⟨Y, hY⟩ : ∃ Y, Y = w9.alloc (.cells #[.slice aoF q2.length capF] 28) := ⟨_, rfl⟩
    have c18 : Y.cell? ⟨w9.heap.size, 0, none⟩ = some (.slice aoF q2.length capF) := by rw [hY]; simp [go_sem]
    rw [← hY] at hb79 L18 ⊢
    replace c7 := cell_past hb79 c7
    replace c8 := cell_past hb79 c8
    replace c12 := cell_past hb79 c12
    replace c15 := cell_past hb79 c15
    replace LS := Lib.hid (LS.out.below hb79)
    replace L2 := Lib.hid (L2.out.below hb79)
    replace SW := Lib.hid (SW.out.below hb79)
    replace LT := Lib.hid (LT.out.below hb79)
    replace L15 := Lib.hid (L15.out.below hb79)
    have HBY := Lib.hid (bt HB7w.out hb79)
    have HKY := Lib.hid (HK.out.below HBY.out)
    have hlen : (q1 ++ [7]).length = q1.length + 1 := by simp
    have hh1 : ∀ Z, Below Y.heap.size Y Z → Calls Tryd.prog 20 #[.agg #[.slice aoA l.length capA], .slice ao1 l.length cap1] Z (fun e w' => e = .returned (.bool true) ∧ Below Z.heap.size Z w') := fun Z hZ => by
      have h5 := has_any l l _ ao1 cap1 b1 o1 Z (LS.out.below hZ) ((HS.out.below HBY.out).below hZ) (by omega)
      unfold SamePost at h5
      rwa [decide_eq_true (rfl : l = l)] at h5
    have hh2 : ∀ Z, Below Y.heap.size Y Z → Calls Tryd.prog 20 #[.agg #[.slice aoB q1.length capB], .slice aoW q1.length capW] Z (fun e w' => e = .returned (.bool true) ∧ Below Z.heap.size Z w') := fun Z hZ => by
      have h5 := has_any q1 q1 _ aoW capW bW oW Z (L2.out.below hZ) (SW.out.below hZ) (by omega)
      unfold SamePost at h5
      rwa [decide_eq_true (rfl : q1 = q1)] at h5
    have hh3 : ∀ Z, Below Y.heap.size Y Z → Calls Tryd.prog 22 #[.agg #[.slice aoT q2.length capT], .agg #[.slice aoF q2.length capF]] Z (fun e w' => e = .returned (.bool true) ∧ Below Z.heap.size Z w') := fun Z hZ => by
      have h5 := same_any q2 q2 _ _ Z (LT.out.below hZ) (L18.out.below hZ) (by omega)
      unfold SamePost at h5
      rwa [decide_eq_true (rfl : q2 = q2)] at h5
    have hh4 : ∀ g cp base Z, Below Y.heap.size Y Z → Z.ownsRow base 23 1 (.slice (some ⟨g, 0, none⟩) (q1.length + 1) cp) (q1.length + 1) (us q1 ++ [.int .u16 7]) → Calls Tryd.prog 20 #[.agg #[.slice aoM (q1 ++ [7]).length capM], .slice (some ⟨g, 0, none⟩) (q1.length + 1) cp] Z (fun e w' => e = .returned (.bool true) ∧ Below Z.heap.size Z w') := fun g cp base Z hZ ho => by
      obtain ⟨ao', cap', b', o', he, hs', _⟩ := SlAt.owned (show Z.ownsRow base 23 1 (.slice (some ⟨g, 0, none⟩) (q1.length + 1) cp) (q1.length + 1) (us (q1 ++ [7])) from by simpa [us] using ho)
      obtain ⟨rfl, rfl⟩ : ao' = some ⟨g, 0, none⟩ ∧ cap' = cp := by simpa [eq_comm] using he
      have h5 := has_any (q1 ++ [7]) (q1 ++ [7]) (.slice aoM (q1 ++ [7]).length capM) (some ⟨g, 0, none⟩) cap' b' o' Z (L15.out.below hZ) (by rw [hlen]; exact hs') (by rw [hlen]; omega)
      unfold SamePost at h5
      rw [decide_eq_true (rfl : q1 ++ [7] = q1 ++ [7])] at h5
      simpa [hlen] using h5
    rw [hlen] at c15 hh4
    have hc : ∀ bq, aoW = some bq → ∀ j u, (us q1)[j]? = some u → Y.cell? (bq.add j) = some u := by
      intro bq hbq j u hu
      have hp : 0 < (us q1).length := by have := (List.getElem?_eq_some_iff.1 hu).1; omega
      have ha := SW.out.addr hp
      rw [hbq] at ha
      obtain rfl := Option.some.inj ha
      rw [Addr.add_lit]
      exact SW.out.cell j u hu
    have hn : aoW = none → q1.length = 0 ∧ q1.length = 0 := fun e => by
      have h5 := SW.out
      rw [e] at h5
      exact ⟨SlAt.no_addr h5, SlAt.no_addr h5⟩
    have hwle : (q1.length : Int) ≤ (capW : Int) := by have := SW.out.le; omega
    have hw0 : (0 : Int) ≤ (q1.length : Int) := by omega
    have HH1 := Lib.hid hh1
    have HH2 := Lib.hid hh2
    have HH3 := Lib.hid hh3
    have HH4 := Lib.hid hh4
    have HC := Lib.hid hc
    have HN := Lib.hid hn
    clear hY hb79 hh1 hh2 hh3 hh4 hc hn hlen
    go_region_held3 (fun w' => w'.cell? ⟨w1.heap.size, 0, none⟩ = some (.slice aoA l.length capA) ∧ w'.cell? ⟨w2.heap.size, 0, none⟩ = some (.slice aoB q1.length capB) ∧ w'.cell? ⟨w3b.heap.size, 0, none⟩ = some (.slice aoT q2.length capT) ∧ w'.cell? ⟨g15, 0, none⟩ = some (.slice aoM (q1.length + 1) capM) ∧ w'.cell? ⟨w9.heap.size, 0, none⟩ = some (.slice aoF q2.length capF))
      ((refine ⟨?_, ?_, ?_, ?_, ?_⟩ <;> (repeat (first | (with_reducible assumption) | (with_reducible apply keep_alloc) | (with_reducible apply keep_drew)))))
      (first
        | (go_at_call 20; (with_reducible refine (HH1.out _ (by repeat (first | (with_reducible exact bz Y) | (with_reducible apply ba) | (with_reducible apply Below.drew)))).mono ?_); rintro e w10 ⟨rfl, hb10⟩; have hB10 : Below Y.heap.size Y w10 := bt (by repeat (first | (with_reducible exact bz Y) | (with_reducible apply ba) | (with_reducible apply Below.drew))) hb10; have c7a := cell_past hB10 c7; have c8a := cell_past hB10 c8; have c12a := cell_past hB10 c12; have c15a := cell_past hB10 c15; have c18a := cell_past hB10 c18; have HB10 := Lib.hid hB10; clear hb10 hB10)
        | (go_at_call 20; (with_reducible refine (HH2.out _ (bt HB10.out (by repeat (first | (with_reducible exact bz w10) | (with_reducible apply ba) | (with_reducible apply Below.drew))))).mono ?_); rintro e w11 ⟨rfl, hb11⟩; have hB11 : Below w10.heap.size w10 w11 := bt (by repeat (first | (with_reducible exact bz w10) | (with_reducible apply ba) | (with_reducible apply Below.drew))) hb11; have c7b := cell_past hB11 c7a; have c8b := cell_past hB11 c8a; have c12b := cell_past hB11 c12a; have c15b := cell_past hB11 c15a; have c18b := cell_past hB11 c18a; have HB11 := Lib.hid hB11; clear hb11 hB11)
        | (go_at_call 22; (with_reducible refine (HH3.out _ (bt HB10.out (bt HB11.out (by repeat (first | (with_reducible exact bz w11) | (with_reducible apply ba) | (with_reducible apply Below.drew)))))).mono ?_); rintro e w12 ⟨rfl, hb12⟩; have hB12 : Below w11.heap.size w11 w12 := bt (by repeat (first | (with_reducible exact bz w11) | (with_reducible apply ba) | (with_reducible apply Below.drew))) hb12; have c7c := cell_past hB12 c7b; have c8c := cell_past hB12 c8b; have c12c := cell_past hB12 c12b; have c15c := cell_past hB12 c15b; have c18c := cell_past hB12 c18b; have HB12 := Lib.hid hB12; have HB012 := Lib.hid (bt HB10.out (bt HB11.out hB12)); clear hb12 hB12)
        | (refine step_append_guarded (by first | rfl | (simp [Region.wanted, yielded]; done)) (.tmp 91) (.tmp 92) 22 rfl 23 i0 (.int .u16 0) 1 2 Tryd.underlying22 hi iz0 iz1 iz2 rfl (by decide) aoW q1.length q1.length (us q1) (by simp [Act.eval, Act.put]) HN.out (us_len q1) (fun bq hbq j u hu => cell_past (w := Y) (bt HB012.out (by repeat (first | (with_reducible exact bz w12) | (with_reducible apply ba) | (with_reducible apply Below.drew)))) (HC.out bq hbq j u hu)) ⟨w12.heap.size, 0, none⟩ 1 1 [.int .u16 7] (by simp [Act.eval, Act.put]) rfl (new_cells _ _ _ _ (by simp)) (by simp [Value.oneCell']) (by omega) (by unfold maxLen; omega) (by omega) ?_; intro v' w13 hown13 hgrow13; have hfm := World.ownsRow.form hown13 (show 0 < q1.length + 1 from Nat.succ_pos _); obtain ⟨g13, cap13, hv', hg13, hg13'⟩ := hfm; subst hv'; have hB13 : Below w12.heap.size w12 w13 := Below.grown (w := _) (by repeat (first | (with_reducible exact bz w12) | (with_reducible apply ba) | (with_reducible apply Below.drew))) hgrow13 (by simp) (fun k hk => by cases hk); have c7d := cell_past hB13 c7c; have c8d := cell_past hB13 c8c; have c12d := cell_past hB13 c12c; have c15d := cell_past hB13 c15c; have c18d := cell_past hB13 c18c; have HB13 := Lib.hid hB13; have HOWN13 := Lib.hid hown13; clear hown13 hgrow13 hB13)
        | (go_at_call 20; (with_reducible refine (HH4.out _ _ _ _ (bt HB012.out (bt HB13.out (by repeat (first | (with_reducible exact bz w13) | (with_reducible apply ba) | (with_reducible apply Below.drew))))) (own_past HOWN13.out (by repeat (first | (with_reducible exact bz w13) | (with_reducible apply ba) | (with_reducible apply Below.drew))))).mono ?_); rintro e w14 ⟨rfl, hb14⟩; have HB14 : Hid (Below w13.heap.size w13 w14) := bt (by repeat (first | (with_reducible exact bz w13) | (with_reducible apply ba) | (with_reducible apply Below.drew))) hb14; have c7e := cell_past HB14.out c7d; have c8e := cell_past HB14.out c8d; have c12e := cell_past HB14.out c12d; have c15e := cell_past HB14.out c15d; have c18e := cell_past HB14.out c18d; clear hb14)
        | (go_at_call 10; refine (works_any _ (HKY.out.below (bt HB012.out (bt HB13.out (bt HB14.out (by repeat (first | (with_reducible exact bz w14) | (with_reducible apply ba) | (with_reducible apply Below.drew)))))))).mono ?_; rintro e w15 ⟨rfl, hb15⟩; have HB15 : Hid (Below w14.heap.size w14 w15) := bt (by repeat (first | (with_reducible exact bz w14) | (with_reducible apply ba) | (with_reducible apply Below.drew))) hb15; have c7f := cell_past HB15.out c7e; have c8f := cell_past HB15.out c8e; have c12f := cell_past HB15.out c12e; have c15f := cell_past HB15.out c15e; have c18f := cell_past HB15.out c18e; clear hb15))
    all_goals go_wp2
    all_goals go_ret
    all_goals exact ⟨by simp, by first | (with_reducible exact bt HBY.out (bt HB012.out (bt HB13.out (bt HB14.out HB15.out)))) | exact (bt HBY.out (bt HB012.out (bt HB13.out (bt HB14.out HB15.out)))).drew⟩

theorem qapart_any (l : List Int) (v : Value) (A B : List Op5) (ao ao' : Option Addr) (cap b o cap' b' o' : Nat) (w : World) (hv : Lies w l v) (h : SlAt w 5 A.length (A.flatMap Op5.cells) ao cap b o) (h' : SlAt w 5 B.length (B.flatMap Op5.cells) ao' cap' b' o')
    (hok : ∀ x ∈ A, x.ok) (hok' : ∀ x ∈ B, x.ok) (hk : Kinds w) :
    Calls Tryd.prog 6 #[v, .slice ao A.length cap, .slice ao' B.length cap'] w fun e w' => e = .returned (.bool true) ∧ Below w.heap.size w w' := by
  by_cases hbig : 100 < l.length ∨ 100 < A.length ∨ 100 < B.length
  · exact qapart_big l v _ _ _ _ _ _ w hv hbig hk
  · exact qapart_small l v A B ao ao' cap b o cap' b' o' w hv h h' hok hok' (by omega) (by omega) (by omega) hk
end Go.Proofs.YtfaoakahmllpjaaDoor
