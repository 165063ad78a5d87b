/- TableEnds: the walk. Printed by gen_ty.py. -/
import Derived.Test.YtjmanajbdkbkdaaTx
import Derived.Test.YtjmanajbdkbkdaaTz
namespace Go.Proofs.Ytjmanajbdkbkdaa
open Go.RowKit Go.Um
set_option linter.unusedSimpArgs false
set_option linter.unusedVariables false
set_option maxHeartbeats 40000000
set_option maxRecDepth 100000
theorem ends_any (l : List Ac) (ao : Option Addr) (cap b o : Nat) (w : World) (h : SlAt w 11 l.length (l.flatMap Ac.cells) ao cap b o) (hok : ∀ x ∈ l, x.ok) :
    Calls Try.prog 4 #[.slice ao l.length cap] w fun e w' => e = .returned (.bool true) ∧ Below w.heap.size w w' := by
  have hidx := h.idx (P := Try.prog) (t := 22) Try.underlying22 size33 (by decide)
  have HA := Lib.hid h
  have HOK := Lib.hid hok
  obtain ⟨n, hn⟩ : ∃ n, n = l.length := ⟨_, rfl⟩
  have HN := Lib.hid hn
  rw [← hn] at hidx ⊢
  have hmax : n ≤ maxLen := by rw [hn]; exact Nat.le_trans h.le h.max
  unfold maxLen at hmax
  clear h hok hn
  by_cases hbig : 60 < n
  · have d1 : decide ((60 : Int) < (n : Int)) = true := by simp; omega
    go_enter Try.func4, Try.ntmps4
    go_wp2_with fail
    refine (works_any _).mono ?_
    rintro e w4 ⟨rfl, hb4⟩
    go_wp2
    go_ret
    exact ⟨rfl, hb4⟩
  have d1 : decide ((60 : Int) < (n : Int)) = false := by simp; omega
  have hn60 : n ≤ 60 := by omega
  clear hbig
  go_enter Try.func4, Try.ntmps4
  go_wp2_with fail
  refine (new_any w.heap.size w (Nat.le_refl _)).mono ?_
  rintro e w1 ⟨rfl, hT, hb1, hz1⟩
  obtain ⟨p, hp⟩ : ∃ p, p = w.heap.size := ⟨_, rfl⟩
  have HI0 : Hid (EI w w1 p 0 [] 0) := by subst hp; exact Lib.hid ⟨⟨_, hT⟩, hb1, Nat.le_refl _, Nat.le_refl _, by omega, fun y hy _ => (List.not_mem_nil hy).elim⟩
  rw [← hp]
  clear hT hb1 hz1 hp
  go_wp2_with fail
  go_loopw [4] (fun t4 wr => ∃ (i : Nat) (L : List Rw) (nx : Int), i ≤ n ∧ t4 = .int .i64 i ∧ Hid (EI w wr p i L nx)) (fun t4 _ => n - (intOf t4).toNat)
  case atStart => exact ⟨0, [], 0, Nat.zero_le _, rfl, HI0⟩
  case round =>
    clear HI0
    obtain ⟨i, L, nx, hi, rfl, HI⟩ := hrel
    by_cases hlt : i < n
    · have i1 : (0 : Int) ≤ (i : Int) := by omega
      have i2 : (i : Int) < (n : Int) := by omega
      have i3 : decide ((i : Int) < (n : Int)) = true := decide_eq_true i2
      obtain ⟨x, hx⟩ : ∃ x, l[i]? = some x := ⟨_, List.getElem?_eq_getElem (by rw [← HN.out]; exact hlt)⟩
      have hxo := HOK.out x (List.mem_of_getElem? hx)
      obtain ⟨g0, g1, g2, g3, g4, g5, g6, g7, g8, g9, g10⟩ := act_at (HA.out.below HI.out.bel) hx
      have hw8 := hxo.wh
      unfold in8 at hw8
      obtain ⟨m9, hm9⟩ : ∃ m, m = x.wh.tmod 9 := ⟨_, rfl⟩
      have hm0 : 0 ≤ m9 ∧ m9 < 9 := by rw [hm9, Int.tmod_eq_emod_of_nonneg hw8.1]; omega
      have hm9' : x.wh.tmod 9 = m9 := hm9.symm
      have hwm : IntKind.u8.wrap m9 = m9 := by simp only [IntKind.wrap, IntKind.signed, IntKind.bits, Bool.false_and, Bool.false_eq_true, if_false]; omega
      clear hx hxo hm9 hlt hw8
      obtain ⟨wo, hwo⟩ : ∃ x, x = wr := ⟨_, rfl⟩
      subst hwo
      obtain ⟨pc, hpc⟩ : ∃ p, p = wo.heap.size := ⟨_, rfl⟩
      have HPC := Lib.hid hpc
      obtain ⟨wc, hwc⟩ : ∃ wc, wc = wo.alloc (.cells #[.int .u8 x.wh, .int .u8 x.cl, .int .u16 x.id, .int .u8 x.f, .int .u8 x.ob, .int .u8 x.ke, .int .u16 x.a, .int .u16 x.b, .int .u8 x.k, .int .u16 x.v, .int .i64 x.t] 33) := ⟨_, rfl⟩
      have HWC := Lib.hid hwc
      have hbc : Below wo.heap.size wo wc := by rw [hwc]; exact ba (bz wo) _
      have HIC := Lib.hid (HI.out.below hbc)
      have HAC := Lib.hid (show ActC wc pc 0 x by rw [hwc]; exact ActC.new wo pc x hpc)
      have HF := Lib.hid (HIC.out.find (by omega) x.id)
      have HBC := Lib.hid hbc
      obtain ⟨R0, hR0⟩ : ∃ R, R = findR L x.id := ⟨_, rfl⟩
      obtain ⟨th, hth⟩ : ∃ b, b = decide (0 ≤ ixF L x.id) := ⟨_, rfl⟩
      rw [← hR0, ← hth] at HF
      unfold Rw.val at HF
      have HR0 := Lib.hid hR0
      have HTH := Lib.hid hth
      clear hpc hwc hbc hR0 hth
      go_wp2_with fail
      rw [← HWC.out, ← HPC.out]
      refine HF.out.mono ?_
      rintro e w2 ⟨rfl, hb2⟩
      obtain ⟨pw, hpw⟩ : ∃ p, p = w2.heap.size := ⟨_, rfl⟩
      have HPW := Lib.hid hpw
      obtain ⟨w3, hw3⟩ : ∃ w3, w3 = w2.alloc (.cells #[.int .u8 R0.cl, .int .u16 R0.id, .int .u8 R0.f, .int .u8 R0.ob, .int .u8 R0.ke, .int .u16 R0.a, .int .u16 R0.b, .int .u8 R0.k, .int .u16 R0.v, .int .u8 R0.st, .int .i64 R0.fr, .int .i64 R0.to] 41) := ⟨_, rfl⟩
      have HW3 := Lib.hid hw3
      have hbc3 : Below wc.heap.size wc w3 := bt hb2 (by rw [hw3]; exact ba (bz w2) _)
      have HB3 := Lib.hid (bt HBC.out hbc3)
      have HA3 := Lib.hid (HAC.out.below hbc3)
      have HA2 := Lib.hid (HAC.out.below hb2)
      have HR3 := Lib.hid (show RowC w3 pw 0 R0 by rw [hw3, hpw]; exact rowc_new w2 R0)
      have hpcw : wo.heap.size ≤ pc ∧ wo.heap.size ≤ pw := by
        have h1 := HBC.out.size
        have h2 := hb2.size
        have := HPC.out
        omega
      have HPP := Lib.hid hpcw
      clear hpw hw3 hbc3 hb2 HF HIC HAC hpcw g0 g1 g2 g3 g4 g5 g6 g7 g8 g9 g10
      obtain ⟨g0, g1, g2, g3, g4, g5, g6, g7, g8, g9, g10⟩ := HA2.out
      have hpl2 : pc < w2.heap.size := World.block_lt_of_cell? _ _ g0
      have hpn2 : ¬ pc = w2.heap.size := by omega
      simp only [Nat.zero_add] at g0 g1 g2 g3 g4 g5 g6 g7 g8 g9 g10
      have hop : isOp L x.id = (th && (R0.st == 0)) := by unfold isOp; rw [← HTH.out, ← HR0.out]
      have HOP := Lib.hid hop
      clear hop
      rcases (by omega : m9 < 3 ∨ (¬ m9 < 3 ∧ m9 < 5) ∨ m9 = 5 ∨ (¬ m9 < 5 ∧ m9 ≠ 5)) with c1 | ⟨c1, c2⟩ | rfl | ⟨c1, c2⟩
      · have s1 : decide (m9 < 3) = true := decide_eq_true c1
        cases th with
        | true =>
          have HC := Lib.hid (HI.out.inv_there HB3.out (by omega) x.cl x.id x.f x.ob x.ke x.a x.b (of_decide_eq_true HTH.out.symm))
          go_wp2_with fail
          rw [← HW3.out, ← HPW.out]
          refine HC.out.mono ?_
          rintro e w4 ⟨rfl, ⟨nx', hE4⟩, hcell⟩
          have HE4 := Lib.hid hE4
          have HA4 := Lib.hid (actc_of HA3.out hcell HPP.out.1)
          have HR4 := Lib.hid (rowc_of HR3.out hcell HPP.out.2)
          clear hE4 hcell HC g0 g1 g2 g3 g4 g5 g6 g7 g8 g9 g10 hpl2 hpn2
          clear HA4 HR4
          go_wp2_with fail
          go_roundw
          case rel => exact ⟨i + 1, L, nx', by omega, by go_num, HE4⟩
          case measure => simp [intOf]; omega
        | false =>
          have hxx : ixF L x.id = -1 := by
            have h1 := of_decide_eq_false HTH.out.symm
            rcases ixF_cases L x.id with h | ⟨k, _, h, _⟩
            · exact h
            · rw [h] at h1; omega
          have HC := Lib.hid (HI.out.inv_new HB3.out (by omega) x.cl x.id x.f x.ob x.ke x.a x.b hxx)
          have HFN := Lib.hid (find_new (cl := x.cl) (f := x.f) (ob := x.ob) (ke := x.ke) (a := x.a) (b := x.b) (t := (i : Int)) hxx)
          obtain ⟨L2, hL2⟩ : ∃ L2, L2 = L ++ [newR x.cl x.id x.f x.ob x.ke x.a x.b i] := ⟨_, rfl⟩
          rw [← hL2] at HC HFN
          have hne := fun W => ne41 (newR x.cl x.id x.f x.ob x.ke x.a x.b i) W
          simp only [Rw.val, newR] at hne
          clear hxx hL2
          go_wp2_with fail
          rw [← HW3.out, ← HPW.out]
          refine HC.out.mono ?_
          rintro e w4 ⟨rfl, ⟨nx', hE4⟩, hcell⟩
          have HE4 := Lib.hid hE4
          have HA4 := Lib.hid (actc_of HA3.out hcell HPP.out.1)
          have HR4 := Lib.hid (rowc_of HR3.out hcell HPP.out.2)
          clear hE4 hcell HC g0 g1 g2 g3 g4 g5 g6 g7 g8 g9 g10 hpl2 hpn2
          have hff := HE4.out.find (by omega) x.id
          rw [HFN.out.1, HFN.out.2] at hff
          simp only [Rw.val, newR] at hff
          have HF := Lib.hid hff
          obtain ⟨g0, g1, g2, g3, g4, g5, g6, g7, g8, g9, g10⟩ := HA4.out
          simp only [Nat.zero_add] at g0 g1 g2 g3 g4 g5 g6 g7 g8 g9 g10
          clear hff
          go_wp2_with fail
          refine HF.out.mono ?_
          rintro e w5 ⟨rfl, hb5⟩
          have HB5 := Lib.hid hb5
          clear g0 g1 g2 g3 g4 g5 g6 g7 g8 g9 g10 HF
          obtain ⟨g0, g1, g2, g3, g4, g5, g6, g7, g8, g9, g10⟩ := HA4.out.below hb5
          obtain ⟨q0, q1, q2, q3, q4, q5, q6, q7, q8, q9, q10, q11⟩ := HR4.out.below hb5
          simp only [Nat.zero_add] at g0 g1 g2 g3 g4 g5 g6 g7 g8 g9 g10 q0 q1 q2 q3 q4 q5 q6 q7 q8 q9 q10 q11
          have hpl5 : pc < w5.heap.size := World.block_lt_of_cell? _ _ g0
          have hpn5 : ¬ pc = w5.heap.size := by omega
          have hql5 : pw < w5.heap.size := World.block_lt_of_cell? _ _ q0
          have hqn5 : ¬ pw = w5.heap.size := by omega
          clear hb5
          go_wp2_with fail
          go_roundw
          case rel => exact ⟨i + 1, _, nx', by omega, by go_num, Lib.hid (HE4.out.below (bt HB5.out (ba (bz w5) _)))⟩
          case measure => simp [intOf]; omega
      · as_aux_lemma =>
          have s1 : decide (m9 < 3) = false := decide_eq_false c1
          have s2 : decide (m9 < 5) = true := decide_eq_true c2
          have hret := HI.out.ret HB3.out (by omega) x.id x.k x.v
          obtain ⟨B, hB⟩ : ∃ B, B = isOp L x.id := ⟨_, rfl⟩
          cases B with
          | true =>
            have ho : isOp L x.id = true := hB.symm
            rw [if_pos ho] at hret
            have h1 := HOP.out
            rw [ho] at h1
            have hth1 : th = true := by cases th; cases h1; rfl
            subst hth1
            have s9 : (R0.st == 0) = true := by simpa using h1.symm
            have HFN := Lib.hid (find_end (how := fun y => retR y x.k x.v i) (fun _ => rfl) ho)
            rw [← HR0.out] at HFN
            skip
            obtain ⟨L2, hL2⟩ : ∃ L2, L2 = endS L x.id (fun y => retR y x.k x.v i) := ⟨_, rfl⟩
            rw [← hL2] at hret HFN
            have HC := Lib.hid hret
            have hne := fun W => ne31 x.k x.v W
            clear hret h1 ho hB hL2
            go_wp2_with fail
            rw [← HW3.out, ← HPW.out]
            refine HC.out.mono ?_
            rintro e w4 ⟨rfl, ⟨nx', hE4⟩, hcell⟩
            have HE4 := Lib.hid hE4
            have HA4 := Lib.hid (actc_of HA3.out hcell HPP.out.1)
            have HR4 := Lib.hid (rowc_of HR3.out hcell HPP.out.2)
            clear hE4 hcell HC g0 g1 g2 g3 g4 g5 g6 g7 g8 g9 g10 hpl2 hpn2
            have hff := HE4.out.find (by omega) x.id
            rw [HFN.out] at hff
            obtain ⟨b2, hb2⟩ : ∃ b, b = decide (0 ≤ ixF L2 x.id) := ⟨_, rfl⟩
            rw [← hb2] at hff
            simp only [Rw.val, retR] at hff
            clear hb2
            have HF := Lib.hid hff
            obtain ⟨g0, g1, g2, g3, g4, g5, g6, g7, g8, g9, g10⟩ := HA4.out
            simp only [Nat.zero_add] at g0 g1 g2 g3 g4 g5 g6 g7 g8 g9 g10
            clear hff
            go_wp2_with fail
            refine HF.out.mono ?_
            rintro e w5 ⟨rfl, hb5⟩
            have HB5 := Lib.hid hb5
            clear g0 g1 g2 g3 g4 g5 g6 g7 g8 g9 g10 HF
            obtain ⟨g0, g1, g2, g3, g4, g5, g6, g7, g8, g9, g10⟩ := HA4.out.below hb5
            obtain ⟨q0, q1, q2, q3, q4, q5, q6, q7, q8, q9, q10, q11⟩ := HR4.out.below hb5
            simp only [Nat.zero_add] at g0 g1 g2 g3 g4 g5 g6 g7 g8 g9 g10 q0 q1 q2 q3 q4 q5 q6 q7 q8 q9 q10 q11
            have hpl5 : pc < w5.heap.size := World.block_lt_of_cell? _ _ g0
            have hpn5 : ¬ pc = w5.heap.size := by omega
            have hql5 : pw < w5.heap.size := World.block_lt_of_cell? _ _ q0
            have hqn5 : ¬ pw = w5.heap.size := by omega
            clear hb5
            go_wp2_with fail
            go_roundw
            case rel => exact ⟨i + 1, _, nx', by omega, by go_num, Lib.hid (HE4.out.below (bt HB5.out (ba (bz w5) _)))⟩
            case measure => simp [intOf]; omega
          | false =>
            have ho : isOp L x.id = false := hB.symm
            rw [if_neg (by rw [ho]; simp), find_same ho] at hret
            have h1 := HOP.out
            rw [ho] at h1
            have HC := Lib.hid hret
            have hne := fun W => ne41 R0 W
            simp only [Rw.val] at hne
            have hcs : th = false ∨ (th = true ∧ (R0.st == 0) = false) := by
              cases th
              · exact .inl rfl
              · exact .inr ⟨rfl, by simpa using h1.symm⟩
            clear hret h1 ho hB
            rcases hcs with rfl | ⟨rfl, s9⟩
            all_goals
              go_wp2_with fail
              rw [← HW3.out, ← HPW.out]
              refine HC.out.mono ?_
              rintro e w4 ⟨rfl, ⟨nx', hE4⟩, hcell⟩
              have HE4 := Lib.hid hE4
              have HA4 := Lib.hid (actc_of HA3.out hcell HPP.out.1)
              have HR4 := Lib.hid (rowc_of HR3.out hcell HPP.out.2)
              clear hE4 hcell HC g0 g1 g2 g3 g4 g5 g6 g7 g8 g9 g10 hpl2 hpn2
              have hff := HE4.out.find (by omega) x.id
              rw [← HR0.out, ← HTH.out] at hff
              simp only [Rw.val] at hff
              have HF := Lib.hid hff
              obtain ⟨g0, g1, g2, g3, g4, g5, g6, g7, g8, g9, g10⟩ := HA4.out
              simp only [Nat.zero_add] at g0 g1 g2 g3 g4 g5 g6 g7 g8 g9 g10
              clear hff
              go_wp2_with fail
              refine HF.out.mono ?_
              rintro e w5 ⟨rfl, hb5⟩
              have HB5 := Lib.hid hb5
              clear g0 g1 g2 g3 g4 g5 g6 g7 g8 g9 g10 HF
              obtain ⟨g0, g1, g2, g3, g4, g5, g6, g7, g8, g9, g10⟩ := HA4.out.below hb5
              obtain ⟨q0, q1, q2, q3, q4, q5, q6, q7, q8, q9, q10, q11⟩ := HR4.out.below hb5
              simp only [Nat.zero_add] at g0 g1 g2 g3 g4 g5 g6 g7 g8 g9 g10 q0 q1 q2 q3 q4 q5 q6 q7 q8 q9 q10 q11
              have hpl5 : pc < w5.heap.size := World.block_lt_of_cell? _ _ g0
              have hpn5 : ¬ pc = w5.heap.size := by omega
              have hql5 : pw < w5.heap.size := World.block_lt_of_cell? _ _ q0
              have hqn5 : ¬ pw = w5.heap.size := by omega
              clear hb5
              go_wp2_with fail
              go_roundw
              case rel => exact ⟨i + 1, _, nx', by omega, by go_num, Lib.hid (HE4.out.below (bt HB5.out (ba (bz w5) _)))⟩
              case measure => simp [intOf]; omega
      · as_aux_lemma =>
          have hret := HI.out.info HB3.out (by omega) x.id
          obtain ⟨B, hB⟩ : ∃ B, B = isOp L x.id := ⟨_, rfl⟩
          cases B with
          | true =>
            have ho : isOp L x.id = true := hB.symm
            rw [if_pos ho] at hret
            have h1 := HOP.out
            rw [ho] at h1
            have hth1 : th = true := by cases th; cases h1; rfl
            subst hth1
            have s9 : (R0.st == 0) = true := by simpa using h1.symm
            have HFN := Lib.hid (find_end (how := lostR) (fun _ => rfl) ho)
            rw [← HR0.out] at HFN
            have HTO : Hid (R0.to = 4611686018427387904) := Lib.hid (by rw [HR0.out]; exact find_open HI.out.op ho)
            obtain ⟨L2, hL2⟩ : ∃ L2, L2 = endS L x.id (lostR) := ⟨_, rfl⟩
            rw [← hL2] at hret HFN
            have HC := Lib.hid hret
            have hne := fun W => ne31 x.k x.v W
            clear hret h1 ho hB hL2
            go_wp2_with fail
            rw [← HW3.out, ← HPW.out]
            refine HC.out.mono ?_
            rintro e w4 ⟨rfl, ⟨nx', hE4⟩, hcell⟩
            have HE4 := Lib.hid hE4
            have HA4 := Lib.hid (actc_of HA3.out hcell HPP.out.1)
            have HR4 := Lib.hid (rowc_of HR3.out hcell HPP.out.2)
            clear hE4 hcell HC g0 g1 g2 g3 g4 g5 g6 g7 g8 g9 g10 hpl2 hpn2
            have hff := HE4.out.find (by omega) x.id
            rw [HFN.out] at hff
            obtain ⟨b2, hb2⟩ : ∃ b, b = decide (0 ≤ ixF L2 x.id) := ⟨_, rfl⟩
            rw [← hb2] at hff
            simp only [Rw.val, lostR] at hff
            clear hb2
            have HF := Lib.hid hff
            obtain ⟨g0, g1, g2, g3, g4, g5, g6, g7, g8, g9, g10⟩ := HA4.out
            simp only [Nat.zero_add] at g0 g1 g2 g3 g4 g5 g6 g7 g8 g9 g10
            clear hff
            go_wp2_with fail
            refine HF.out.mono ?_
            rintro e w5 ⟨rfl, hb5⟩
            have HB5 := Lib.hid hb5
            clear g0 g1 g2 g3 g4 g5 g6 g7 g8 g9 g10 HF
            obtain ⟨g0, g1, g2, g3, g4, g5, g6, g7, g8, g9, g10⟩ := HA4.out.below hb5
            obtain ⟨q0, q1, q2, q3, q4, q5, q6, q7, q8, q9, q10, q11⟩ := HR4.out.below hb5
            simp only [Nat.zero_add] at g0 g1 g2 g3 g4 g5 g6 g7 g8 g9 g10 q0 q1 q2 q3 q4 q5 q6 q7 q8 q9 q10 q11
            have hpl5 : pc < w5.heap.size := World.block_lt_of_cell? _ _ g0
            have hpn5 : ¬ pc = w5.heap.size := by omega
            have hql5 : pw < w5.heap.size := World.block_lt_of_cell? _ _ q0
            have hqn5 : ¬ pw = w5.heap.size := by omega
            clear hb5
            have hto := HTO.out
            go_wp2_with fail
            go_roundw
            case rel => exact ⟨i + 1, _, nx', by omega, by go_num, Lib.hid (HE4.out.below (bt HB5.out (ba (bz w5) _)))⟩
            case measure => simp [intOf]; omega
          | false =>
            have ho : isOp L x.id = false := hB.symm
            rw [if_neg (by rw [ho]; simp), find_same ho] at hret
            have h1 := HOP.out
            rw [ho] at h1
            have HC := Lib.hid hret
            have hne := fun W => ne41 R0 W
            simp only [Rw.val] at hne
            have hcs : th = false ∨ (th = true ∧ (R0.st == 0) = false) := by
              cases th
              · exact .inl rfl
              · exact .inr ⟨rfl, by simpa using h1.symm⟩
            clear hret h1 ho hB
            rcases hcs with rfl | ⟨rfl, s9⟩
            all_goals
              go_wp2_with fail
              rw [← HW3.out, ← HPW.out]
              refine HC.out.mono ?_
              rintro e w4 ⟨rfl, ⟨nx', hE4⟩, hcell⟩
              have HE4 := Lib.hid hE4
              have HA4 := Lib.hid (actc_of HA3.out hcell HPP.out.1)
              have HR4 := Lib.hid (rowc_of HR3.out hcell HPP.out.2)
              clear hE4 hcell HC g0 g1 g2 g3 g4 g5 g6 g7 g8 g9 g10 hpl2 hpn2
              have hff := HE4.out.find (by omega) x.id
              rw [← HR0.out, ← HTH.out] at hff
              simp only [Rw.val] at hff
              have HF := Lib.hid hff
              obtain ⟨g0, g1, g2, g3, g4, g5, g6, g7, g8, g9, g10⟩ := HA4.out
              simp only [Nat.zero_add] at g0 g1 g2 g3 g4 g5 g6 g7 g8 g9 g10
              clear hff
              go_wp2_with fail
              refine HF.out.mono ?_
              rintro e w5 ⟨rfl, hb5⟩
              have HB5 := Lib.hid hb5
              clear g0 g1 g2 g3 g4 g5 g6 g7 g8 g9 g10 HF
              obtain ⟨g0, g1, g2, g3, g4, g5, g6, g7, g8, g9, g10⟩ := HA4.out.below hb5
              obtain ⟨q0, q1, q2, q3, q4, q5, q6, q7, q8, q9, q10, q11⟩ := HR4.out.below hb5
              simp only [Nat.zero_add] at g0 g1 g2 g3 g4 g5 g6 g7 g8 g9 g10 q0 q1 q2 q3 q4 q5 q6 q7 q8 q9 q10 q11
              have hpl5 : pc < w5.heap.size := World.block_lt_of_cell? _ _ g0
              have hpn5 : ¬ pc = w5.heap.size := by omega
              have hql5 : pw < w5.heap.size := World.block_lt_of_cell? _ _ q0
              have hqn5 : ¬ pw = w5.heap.size := by omega
              clear hb5
              go_wp2_with fail
              go_roundw
              case rel => exact ⟨i + 1, _, nx', by omega, by go_num, Lib.hid (HE4.out.below (bt HB5.out (ba (bz w5) _)))⟩
              case measure => simp [intOf]; omega
      · have s1 : decide (m9 < 3) = false := decide_eq_false (by omega)
        have s2 : decide (m9 < 5) = false := decide_eq_false c1
        have s3 : (m9 == 5) = false := by simpa using c2
        have HE3 := Lib.hid (show EI w w3 p (i + 1) L nx from (HI.out.below HB3.out).up)
        go_wp2_with fail
        rw [← HW3.out]
        go_roundw
        case rel => exact ⟨i + 1, L, nx, by omega, by go_num, HE3⟩
        case measure => simp [intOf]; omega
    · have i2 : ¬ (i : Int) < (n : Int) := by omega
      have i3 : decide ((i : Int) < (n : Int)) = false := decide_eq_false i2
      obtain ⟨v0, hT⟩ := HI.out.tab
      have hlen : L.length ≤ 60 := by have := HI.out.len; omega
      have HTT := Lib.hid hT
      have HBE := Lib.hid HI.out.bel
      have HCN := Lib.hid (count_any 1 hT (by omega))
      have hst := settled L
      have hst0 := settled0 L
      obtain ⟨F, hF⟩ : ∃ F, F = L.filter (fun x => !(x.st == 1)) := ⟨_, rfl⟩
      rw [← hF] at hst hst0
      obtain ⟨c, hc⟩ : ∃ c, c = cntR L 1 := ⟨_, rfl⟩
      rw [← hc] at hst HCN
      have HF := Lib.hid hF
      have HST0 := Lib.hid hst0
      obtain ⟨m, hm⟩ : ∃ m, m = L.length := ⟨_, rfl⟩
      obtain ⟨k, hk⟩ : ∃ k, k = F.length := ⟨_, rfl⟩
      have HM := Lib.hid hm
      have HK := Lib.hid hk
      rw [← hm, ← hk] at hst
      rw [← hm] at hlen
      have e1 : (m : Int) - (k : Int) = (c : Int) := by omega
      have e2 : IntKind.i64.wrap ((m : Int) - (c : Int)) = (k : Int) := by rw [show (m : Int) - (c : Int) = (k : Int) by omega]; exact IntWalk.i64_in _ (by omega)
      have hk60 : k ≤ 60 := by omega
      have E1 := Lib.hid e1
      obtain ⟨wo, hwo⟩ : ∃ x, x = wr := ⟨_, rfl⟩
      subst hwo
      have HPW0 := Lib.hid HI.out.pw
      clear hT hF hc hm hk hst hst0 HI hlt e1
      go_wp2_with fail
      refine HCN.out.mono ?_
      rintro e w2 ⟨rfl, hb2⟩
      have HB2 := Lib.hid hb2
      have HRO := Lib.hid (rows_any (HTT.out.below hb2) (by rw [← HM.out]; omega))
      clear hb2 HCN
      go_wp2_with fail
      refine HRO.out.mono ?_
      rintro e w3 ⟨v3, rfl, hown3, hb3⟩
      obtain ⟨ao3, cap3, b3, o3, rfl, _, _⟩ := SlAt.owned hown3
      have HB3 := Lib.hid (bt HB2.out hb3)
      have hse := settle_any (HTT.out.below HB3.out) (by rw [← HM.out]; omega)
      rw [← HF.out, ← HM.out, ← HK.out, E1.out] at hse
      have HSE := Lib.hid hse
      rw [← HM.out]
      clear hb3 hown3 hse HRO
      go_wp2_with fail
      refine HSE.out.mono ?_
      rintro e w4 ⟨rfl, v4, hT4, hK4, _⟩
      have HB4 := Lib.hid (kept_new (HBE.out.trans (HB3.out.mono HBE.out.size)) hK4 (fun b hb ho => by have := own_of (w' := w4) HTT.out (by have := HPW0.out; omega) ho; omega))
      have HT4 := Lib.hid hT4
      have HR4 := Lib.hid (rows_any hT4 (by rw [← HK.out]; omega))
      clear hT4 hK4 HSE
      go_wp2_with fail
      refine HR4.out.mono ?_
      rintro e w5 ⟨v5, rfl, hown5, hb5⟩
      obtain ⟨ao5, cap5, b5, o5, rfl, _, _⟩ := SlAt.owned hown5
      have HB5 := Lib.hid (HB4.out.trans (hb5.mono HB4.out.size))
      have hcn := count_any 1 (HT4.out.below hb5) (by rw [← HK.out]; omega)
      rw [HST0.out] at hcn
      have HCN := Lib.hid hcn
      rw [← HK.out]
      clear hb5 hown5 hcn HR4
      go_wp2_with fail
      refine HCN.out.mono ?_
      rintro e w6 ⟨rfl, hb6⟩
      have HB6 := Lib.hid (HB5.out.trans (hb6.mono HB5.out.size))
      clear hb6 HCN
      go_wp2_with fail
      refine (works_any _).mono ?_
      rintro e w7 ⟨rfl, hb7⟩
      have HB7 := Lib.hid (HB6.out.trans (hb7.mono HB6.out.size))
      clear hb7
      go_wp2
      go_ret
      exact ⟨rfl, HB7.out⟩
end Go.Proofs.Ytjmanajbdkbkdaa
