/- The document's table: End. Printed by gen_tre.py. -/
import Derived.Test.YtjmanajbdkbkdaaTri
import Derived.Test.YtjmanajbdkbkdaaTf
import Derived.Test.YtjmanajbdkbkdaaTu
namespace Go.Proofs.Ytjmanajbdkbkdaa
open Go.RowKit Go.Um
set_option linter.unusedSimpArgs false
set_option linter.unusedVariables false
set_option maxHeartbeats 4000000
set_option maxRecDepth 100000
theorem rown_put {w : World} {base n g cap i : Nat} {L : List Rw} {x : Rw} (h : w.ownsRow base 54 12 (.slice (some ⟨g, 0, none⟩) n cap) n (L.flatMap Rw.cells)) (hi : i < L.length) :
    (putR w g (i * 12) x).ownsRow base 54 12 (.slice (some ⟨g, 0, none⟩) n cap) n ((L.set i x).flatMap Rw.cells) ∧ w.grownBy (putR w g (i * 12) x) (some g) := by
  obtain ⟨y, hy⟩ : ∃ y, L[i]? = some y := ⟨_, List.getElem?_eq_getElem hi⟩
  obtain ⟨h0, g0⟩ := h.stored (i * 12) (.int .u8 x.cl)
  obtain ⟨h1, g1⟩ := h0.stored (i * 12 + 1) (.int .u16 x.id)
  obtain ⟨h2, g2⟩ := h1.stored (i * 12 + 2) (.int .u8 x.f)
  obtain ⟨h3, g3⟩ := h2.stored (i * 12 + 3) (.int .u8 x.ob)
  obtain ⟨h4, g4⟩ := h3.stored (i * 12 + 4) (.int .u8 x.ke)
  obtain ⟨h5, g5⟩ := h4.stored (i * 12 + 5) (.int .u16 x.a)
  obtain ⟨h6, g6⟩ := h5.stored (i * 12 + 6) (.int .u16 x.b)
  obtain ⟨h7, g7⟩ := h6.stored (i * 12 + 7) (.int .u8 x.k)
  obtain ⟨h8, g8⟩ := h7.stored (i * 12 + 8) (.int .u16 x.v)
  obtain ⟨h9, g9⟩ := h8.stored (i * 12 + 9) (.int .u8 x.st)
  obtain ⟨h10, g10⟩ := h9.stored (i * 12 + 10) (.int .i64 x.fr)
  obtain ⟨h11, g11⟩ := h10.stored (i * 12 + 11) (.int .i64 x.to)
  unfold putR
  refine ⟨?_, ((((((((((g0.trans g1).trans g2).trans g3).trans g4).trans g5).trans g6).trans g7).trans g8).trans g9).trans g10).trans g11⟩
  have e0 : i * 12 = i * 12 + 0 := rfl
  have key : (((((((((((((L.flatMap Rw.cells).set (i * 12) (.int .u8 x.cl)).set (i * 12 + 1) (.int .u16 x.id)).set (i * 12 + 2) (.int .u8 x.f)).set (i * 12 + 3) (.int .u8 x.ob)).set (i * 12 + 4) (.int .u8 x.ke)).set (i * 12 + 5) (.int .u16 x.a)).set (i * 12 + 6) (.int .u16 x.b)).set (i * 12 + 7) (.int .u8 x.k)).set (i * 12 + 8) (.int .u16 x.v)).set (i * 12 + 9) (.int .u8 x.st)).set (i * 12 + 10) (.int .i64 x.fr)).set (i * 12 + 11) (.int .i64 x.to)) = (L.set i x).flatMap Rw.cells := by
    rw [flat_map]
    rw [show ((L.map Rw.cells).flatten.set (i * 12) (.int .u8 x.cl)) = ((L.map Rw.cells).flatten.set (i * 12 + 0) (.int .u8 x.cl)) from rfl]
    rw [row_set (set_self hy) hi rfl (by decide), row_set rfl hi rfl (by decide), row_set rfl hi rfl (by decide), row_set rfl hi rfl (by decide), row_set rfl hi rfl (by decide), row_set rfl hi rfl (by decide), row_set rfl hi rfl (by decide), row_set rfl hi rfl (by decide), row_set rfl hi rfl (by decide), row_set rfl hi rfl (by decide), row_set rfl hi rfl (by decide), row_set rfl hi rfl (by decide)]
    rw [← set_row]
    rfl
  rw [← key]
  exact h11
theorem rset_end {base : Nat} {w W w3 : World} {p : Nat} {v : Value} {L L' : List Rw} {nx t : Int} (hT : RTab base w p v L nx) (hW : Below w.heap.size w W) (hg : W.grownBy w3 v.ownBlock)
    (hown : w3.ownsRow base 54 12 v L'.length (L'.flatMap Rw.cells)) :
    RPost base p v 0 L' (t + 1) w (.returned (.int .i64 0)) (w3.setCell ⟨p, 1, none⟩ (.int .i64 t)) := by
  have hp := hT.lt
  have hpW : p < W.heap.size := Nat.lt_of_lt_of_le hp hW.size
  have hTW := hT.below hW
  have hne : some p ≠ v.ownBlock := fun e => hT.ne e.symm
  have k0 : w3.cell? ⟨p, 0, none⟩ = some v := (hg.cell_far ⟨p, 0, none⟩ hpW hne).trans hTW.c0
  have k1 : w3.cell? ⟨p, 1, none⟩ = some (.int .i64 (nx - 1)) := (hg.cell_far ⟨p, 1, none⟩ hpW hne).trans hTW.c1
  have j0 : w3.frozen? ⟨p, 0, none⟩ = false := (hg.frozen_far ⟨p, 0, none⟩ hpW hne).trans hTW.f0
  have j1 : w3.frozen? ⟨p, 1, none⟩ = false := (hg.frozen_far ⟨p, 1, none⟩ hpW hne).trans hTW.f1
  refine ⟨rfl, v, ⟨?_, ?_, ?_, ?_, ?_, hT.ne⟩, ?_, fun _ h => .inl h⟩
  · rw [World.cell?_setCell_other _ _ _ _ (by simp)]; exact k0
  · rw [World.frozen?_setCell]; exact j0
  · rw [show t + 1 - 1 = t by omega]; exact World.cell?_setCell_same _ _ _ k1
  · rw [World.frozen?_setCell]; exact j1
  · exact own_setCell hown (fun e => hT.ne e) _
  · have h1 : Kept (Own p v) w W := (Kept.of_below hW).mono (fun i hi h => absurd h (by omega))
    exact (h1.grown hg (fun k e _ => .inr e)).setCell (p := ⟨p, 1, none⟩) (fun _ => .inl rfl) _
theorem RPost.more {base q : Nat} {v : Value} {E nx' : Int} {L' : List Rw} {w W W' : World} {e : Ending} (h : RPost base q v E L' nx' w e W) (hb : Below W.heap.size W W') : RPost base q v E L' nx' w e W' := by
  obtain ⟨h1, v', h2, h3, h4⟩ := h
  exact ⟨h1, v', h2.below hb, h3.trans (Kept.of_below hb) (fun i hi h => absurd h (by have := h3.size; omega)), h4⟩
theorem rend_ret {base : Nat} {w : World} {p : Nat} {v : Value} {L : List Rw} {nx : Int} (id k v0 a : Int) (h : RTab base w p v L nx) (hlen : L.length ≤ 1000) (hnx : 0 ≤ nx) :
    Calls Try.prog 39 #[.pointer (some ⟨p, 0, none⟩), .int .u16 id, .bool true, .agg #[.int .u8 k, .int .u16 v0], .int .i64 a] w (RPost base p v (endE nx L id a) (endL nx L id a (fun x => retR x k v0 a)) (endN nx L id a) w) := by
  have HM := Lib.hid (fun W (hb : Below w.heap.size w W) => rmay_any a (h.below hb) hnx)
  have HW := Lib.hid (fun W (hb : Below w.heap.size w W) => rat_b id (h.below hb) (by omega))
  have HH := Lib.hid h
  rcases end_cases nx L id a with ⟨hm, hE⟩ | ⟨hm, hi, hE⟩ | ⟨i, x, hm, hi, hx, hst, hE⟩ | ⟨i, x, hm, ha1, ha2, hi, hx, hst, hE⟩
  · have e2 : endL nx L id a (fun x => retR x k v0 a) = L := by unfold endL; rw [hE, if_neg (by decide)]
    have e3 : endN nx L id a = nx := by unfold endN; rw [hE, if_neg (by decide)]
    rw [hE, e2, e3]
    rw [hm] at HM
    clear h hm e2 e3 HW hE
    go_enter Try.func39, Try.ntmps39
    go_wp2_with fail
    refine (HM.out _ (ba (bz w) _)).mono ?_
    rintro e w1 ⟨rfl, rfl⟩
    go_wp2
    go_ret
    exact RPost.stay HH.out (ba (bz w) _)
  · have e2 : endL nx L id a (fun x => retR x k v0 a) = L := by unfold endL; rw [hE, if_neg (by decide)]
    have e3 : endN nx L id a = nx := by unfold endN; rw [hE, if_neg (by decide)]
    rw [hE, e2, e3]
    rw [hm] at HM
    rw [hi] at HW
    clear h hm e2 e3 hi hE
    go_enter Try.func39, Try.ntmps39
    go_wp2_with fail
    refine (HM.out _ (ba (bz w) _)).mono ?_
    rintro e w1 ⟨rfl, rfl⟩
    go_wp2_with fail
    refine (HW.out _ (ba (bz w) _)).mono ?_
    rintro e w2 ⟨rfl, hb2⟩
    have HB2 := Lib.hid (bt (ba (bz w) _) hb2)
    clear hb2
    go_wp2
    go_ret
    exact RPost.stay HH.out HB2.out
  · have e2 : endL nx L id a (fun x => retR x k v0 a) = L := by unfold endL; rw [hE, if_neg (by decide)]
    have e3 : endN nx L id a = nx := by unfold endN; rw [hE, if_neg (by decide)]
    rw [hE, e2, e3]
    rw [hm] at HM
    rw [hi] at HW
    obtain ⟨ao, cap, b, o, rfl, hs⟩ := h.slat
    have hidx := hs.idx (P := Try.prog) (t := 58) (e := 54) (by kernel_rfl) size54 (by decide)
    have hil := (List.getElem?_eq_some_iff.1 hx).1
    have HRW := Lib.hid (fun W (hb : Below w.heap.size w W) => And.intro (row_at (hs.below hb) hx).c9 (h.below hb).c0)
    obtain ⟨n, hn⟩ : ∃ n, n = L.length := ⟨_, rfl⟩
    rw [← hn] at hidx hil HRW ⊢
    have HN := Lib.hid hn
    have i1 : (0 : Int) ≤ (i : Int) := by omega
    have i2 : (i : Int) < (n : Int) := by omega
    have i3 : decide ((i : Int) < 0) = false := decide_eq_false (by omega)
    have t1 : (x.st != 0) = true := by simpa using hst
    have t2 : (x.st == 0) = false := by simpa using hst
    clear h hm e2 e3 hi hE hs hx hst hn
    go_enter Try.func39, Try.ntmps39
    go_wp2_with fail
    refine (HM.out _ (ba (bz w) _)).mono ?_
    rintro e w1 ⟨rfl, rfl⟩
    go_wp2_with fail
    refine (HW.out _ (ba (bz w) _)).mono ?_
    rintro e w2 ⟨rfl, hb2⟩
    have HB2 := Lib.hid (bt (ba (bz w) _) hb2)
    obtain ⟨g9, c0⟩ := HRW.out _ HB2.out
    clear hb2
    go_wp2
    go_ret
    rw [HN.out]
    exact RPost.stay HH.out HB2.out
  · have e2 : endL nx L id a (fun x => retR x k v0 a) = L.set i (retR x k v0 a) := by unfold endL; rw [hE, if_pos rfl, hi, Int.toNat_natCast, hx]
    have e3 : endN nx L id a = a + 1 := by unfold endN; rw [hE, if_pos rfl]
    rw [hE, e2, e3]
    rw [hm] at HM
    rw [hi] at HW
    have hil := (List.getElem?_eq_some_iff.1 hx).1
    rcases h.own.2 with ⟨_, h0⟩ | ⟨g, cap, cur, rfl, hbg, hg, _⟩
    · omega
    have hgp : g ≠ p := fun e => h.ne (by rw [← e]; rfl)
    have hgw := (Array.getElem?_eq_some_iff.1 hg).1
    obtain ⟨ao', cap', b, o, hv, hs⟩ := h.slat
    simp only [Value.slice.injEq, true_and] at hv
    obtain ⟨hv1, hv2⟩ := hv
    subst hv1 hv2
    have hlen12 : 0 < (L.flatMap Rw.cells).length := by rw [length_flat Rw.twelve]; omega
    have hao := hs.addr hlen12
    simp only [Option.some.injEq, Addr.mk.injEq, and_true] at hao
    obtain ⟨rfl, rfl⟩ := hao
    have hidx := hs.idx (P := Try.prog) (t := 58) (e := 54) (by kernel_rfl) size54 (by decide)
    have HT := Lib.hid (fun W (hb : Below w.heap.size w W) => h.below hb)
    have HRW := Lib.hid (fun W (hb : Below w.heap.size w W) => row_at (hs.below hb) hx)
    have HX := Lib.hid hx
    have HIL := Lib.hid hil
    obtain ⟨n, hn⟩ : ∃ n, n = L.length := ⟨_, rfl⟩
    rw [← hn] at hidx hil HT ⊢
    have HN := Lib.hid hn
    have i1 : (0 : Int) ≤ (i : Int) := by omega
    have i2 : (i : Int) < (n : Int) := by omega
    have i3 : decide ((i : Int) < 0) = false := decide_eq_false (by omega)
    have t1 : x.st = 0 := hst
    have hpl := HH.out.lt
    clear h hm e2 e3 hi hE hs hx hst hn hg hlen12
    go_enter Try.func39, Try.ntmps39
    go_wp2_with fail
    refine (HM.out _ (ba (bz w) _)).mono ?_
    rintro e w1 ⟨rfl, rfl⟩
    go_wp2_with fail
    refine (HW.out _ (ba (bz w) _)).mono ?_
    rintro e w2 ⟨rfl, hb2⟩
    have HB2 := Lib.hid (bt (ba (bz w) _) hb2)
    have q0 := cell_past hb2 (show (w.alloc (.cells #[.int .u8 k, .int .u16 v0] 31)).cell? ⟨w.heap.size, 0, none⟩ = some (.int .u8 k) by simp [go_sem])
    have q1 := cell_past hb2 (show (w.alloc (.cells #[.int .u8 k, .int .u16 v0] 31)).cell? ⟨w.heap.size, 1, none⟩ = some (.int .u16 v0) by simp [go_sem])
    have HT2 := Lib.hid (HT.out _ HB2.out)
    have c0 := HT2.out.c0
    have hp2 := HT2.out.lt
    have d0 := HT2.out.c1
    have d1 := HT2.out.f1
    have hown2 : w2.ownsRow base 54 12 (.slice (some ⟨g, 0, none⟩) n cap) n (L.flatMap Rw.cells) := by have := HT2.out.own; rwa [← HN.out] at this
    have hg2 : g < w2.heap.size := (own_lt hown2 rfl).2
    have hz2 : w.heap.size < w2.heap.size := World.block_lt_of_cell? _ _ q0
    obtain ⟨g0, g1, g2, g3, g4, g5, g6, g7, g8, g9, g10, g11⟩ := HRW.out _ HB2.out
    simp only [Nat.zero_add] at g0 g1 g2 g3 g4 g5 g6 g7 g8 g9 g10 g11
    rw [t1] at g9
    have fz := hown2.frozenAt
    have fz0 := fz (i * 12)
    have fz1 := fz (i * 12 + 1)
    have fz2 := fz (i * 12 + 2)
    have fz3 := fz (i * 12 + 3)
    have fz4 := fz (i * 12 + 4)
    have fz5 := fz (i * 12 + 5)
    have fz6 := fz (i * 12 + 6)
    have fz7 := fz (i * 12 + 7)
    have fz8 := fz (i * 12 + 8)
    have fz9 := fz (i * 12 + 9)
    have fz10 := fz (i * 12 + 10)
    have fz11 := fz (i * 12 + 11)
    have HO2 := Lib.hid hown2
    clear fz hown2 hb2
    obtain ⟨wA, hwA⟩ : ∃ wA, wA = w2 := ⟨_, rfl⟩
    subst hwA
    go_wp2_with fail
    go_region
    all_goals go_wp2
    all_goals go_ret
    all_goals (
      have h8 := rown_put (x := (retR x k v0 a)) HO2.out HIL.out
      have h9 := rset_end (L' := L.set i (retR x k v0 a)) (t := a) HH.out HB2.out h8.2 (by rw [List.length_set, ← HN.out]; exact h8.1)
      rw [← HN.out] at h9
      exact h9.more ((ba (bz _) _).drew))
theorem rend_info {base : Nat} {w : World} {p : Nat} {v : Value} {L : List Rw} {nx : Int} (id k v0 a : Int) (h : RTab base w p v L nx) (hlen : L.length ≤ 1000) (hnx : 0 ≤ nx) :
    Calls Try.prog 39 #[.pointer (some ⟨p, 0, none⟩), .int .u16 id, .bool false, .agg #[.int .u8 k, .int .u16 v0], .int .i64 a] w (RPost base p v (endE nx L id a) (endL nx L id a lostR) (endN nx L id a) w) := by
  have HM := Lib.hid (fun W (hb : Below w.heap.size w W) => rmay_any a (h.below hb) hnx)
  have HW := Lib.hid (fun W (hb : Below w.heap.size w W) => rat_b id (h.below hb) (by omega))
  have HH := Lib.hid h
  rcases end_cases nx L id a with ⟨hm, hE⟩ | ⟨hm, hi, hE⟩ | ⟨i, x, hm, hi, hx, hst, hE⟩ | ⟨i, x, hm, ha1, ha2, hi, hx, hst, hE⟩
  · have e2 : endL nx L id a lostR = L := by unfold endL; rw [hE, if_neg (by decide)]
    have e3 : endN nx L id a = nx := by unfold endN; rw [hE, if_neg (by decide)]
    rw [hE, e2, e3]
    rw [hm] at HM
    clear h hm e2 e3 HW hE
    go_enter Try.func39, Try.ntmps39
    go_wp2_with fail
    refine (HM.out _ (ba (bz w) _)).mono ?_
    rintro e w1 ⟨rfl, rfl⟩
    go_wp2
    go_ret
    exact RPost.stay HH.out (ba (bz w) _)
  · have e2 : endL nx L id a lostR = L := by unfold endL; rw [hE, if_neg (by decide)]
    have e3 : endN nx L id a = nx := by unfold endN; rw [hE, if_neg (by decide)]
    rw [hE, e2, e3]
    rw [hm] at HM
    rw [hi] at HW
    clear h hm e2 e3 hi hE
    go_enter Try.func39, Try.ntmps39
    go_wp2_with fail
    refine (HM.out _ (ba (bz w) _)).mono ?_
    rintro e w1 ⟨rfl, rfl⟩
    go_wp2_with fail
    refine (HW.out _ (ba (bz w) _)).mono ?_
    rintro e w2 ⟨rfl, hb2⟩
    have HB2 := Lib.hid (bt (ba (bz w) _) hb2)
    clear hb2
    go_wp2
    go_ret
    exact RPost.stay HH.out HB2.out
  · have e2 : endL nx L id a lostR = L := by unfold endL; rw [hE, if_neg (by decide)]
    have e3 : endN nx L id a = nx := by unfold endN; rw [hE, if_neg (by decide)]
    rw [hE, e2, e3]
    rw [hm] at HM
    rw [hi] at HW
    obtain ⟨ao, cap, b, o, rfl, hs⟩ := h.slat
    have hidx := hs.idx (P := Try.prog) (t := 58) (e := 54) (by kernel_rfl) size54 (by decide)
    have hil := (List.getElem?_eq_some_iff.1 hx).1
    have HRW := Lib.hid (fun W (hb : Below w.heap.size w W) => And.intro (row_at (hs.below hb) hx).c9 (h.below hb).c0)
    obtain ⟨n, hn⟩ : ∃ n, n = L.length := ⟨_, rfl⟩
    rw [← hn] at hidx hil HRW ⊢
    have HN := Lib.hid hn
    have i1 : (0 : Int) ≤ (i : Int) := by omega
    have i2 : (i : Int) < (n : Int) := by omega
    have i3 : decide ((i : Int) < 0) = false := decide_eq_false (by omega)
    have t1 : (x.st != 0) = true := by simpa using hst
    have t2 : (x.st == 0) = false := by simpa using hst
    clear h hm e2 e3 hi hE hs hx hst hn
    go_enter Try.func39, Try.ntmps39
    go_wp2_with fail
    refine (HM.out _ (ba (bz w) _)).mono ?_
    rintro e w1 ⟨rfl, rfl⟩
    go_wp2_with fail
    refine (HW.out _ (ba (bz w) _)).mono ?_
    rintro e w2 ⟨rfl, hb2⟩
    have HB2 := Lib.hid (bt (ba (bz w) _) hb2)
    obtain ⟨g9, c0⟩ := HRW.out _ HB2.out
    clear hb2
    go_wp2
    go_ret
    rw [HN.out]
    exact RPost.stay HH.out HB2.out
  · have e2 : endL nx L id a lostR = L.set i (lostR x) := by unfold endL; rw [hE, if_pos rfl, hi, Int.toNat_natCast, hx]
    have e3 : endN nx L id a = a + 1 := by unfold endN; rw [hE, if_pos rfl]
    rw [hE, e2, e3]
    rw [hm] at HM
    rw [hi] at HW
    have hil := (List.getElem?_eq_some_iff.1 hx).1
    rcases h.own.2 with ⟨_, h0⟩ | ⟨g, cap, cur, rfl, hbg, hg, _⟩
    · omega
    have hgp : g ≠ p := fun e => h.ne (by rw [← e]; rfl)
    have hgw := (Array.getElem?_eq_some_iff.1 hg).1
    obtain ⟨ao', cap', b, o, hv, hs⟩ := h.slat
    simp only [Value.slice.injEq, true_and] at hv
    obtain ⟨hv1, hv2⟩ := hv
    subst hv1 hv2
    have hlen12 : 0 < (L.flatMap Rw.cells).length := by rw [length_flat Rw.twelve]; omega
    have hao := hs.addr hlen12
    simp only [Option.some.injEq, Addr.mk.injEq, and_true] at hao
    obtain ⟨rfl, rfl⟩ := hao
    have hidx := hs.idx (P := Try.prog) (t := 58) (e := 54) (by kernel_rfl) size54 (by decide)
    have HT := Lib.hid (fun W (hb : Below w.heap.size w W) => h.below hb)
    have HRW := Lib.hid (fun W (hb : Below w.heap.size w W) => row_at (hs.below hb) hx)
    have HX := Lib.hid hx
    have HIL := Lib.hid hil
    obtain ⟨n, hn⟩ : ∃ n, n = L.length := ⟨_, rfl⟩
    rw [← hn] at hidx hil HT ⊢
    have HN := Lib.hid hn
    have i1 : (0 : Int) ≤ (i : Int) := by omega
    have i2 : (i : Int) < (n : Int) := by omega
    have i3 : decide ((i : Int) < 0) = false := decide_eq_false (by omega)
    have t1 : x.st = 0 := hst
    have hpl := HH.out.lt
    clear h hm e2 e3 hi hE hs hx hst hn hg hlen12
    go_enter Try.func39, Try.ntmps39
    go_wp2_with fail
    refine (HM.out _ (ba (bz w) _)).mono ?_
    rintro e w1 ⟨rfl, rfl⟩
    go_wp2_with fail
    refine (HW.out _ (ba (bz w) _)).mono ?_
    rintro e w2 ⟨rfl, hb2⟩
    have HB2 := Lib.hid (bt (ba (bz w) _) hb2)
    have q0 := cell_past hb2 (show (w.alloc (.cells #[.int .u8 k, .int .u16 v0] 31)).cell? ⟨w.heap.size, 0, none⟩ = some (.int .u8 k) by simp [go_sem])
    have q1 := cell_past hb2 (show (w.alloc (.cells #[.int .u8 k, .int .u16 v0] 31)).cell? ⟨w.heap.size, 1, none⟩ = some (.int .u16 v0) by simp [go_sem])
    have HT2 := Lib.hid (HT.out _ HB2.out)
    have c0 := HT2.out.c0
    have hp2 := HT2.out.lt
    have d0 := HT2.out.c1
    have d1 := HT2.out.f1
    have hown2 : w2.ownsRow base 54 12 (.slice (some ⟨g, 0, none⟩) n cap) n (L.flatMap Rw.cells) := by have := HT2.out.own; rwa [← HN.out] at this
    have hg2 : g < w2.heap.size := (own_lt hown2 rfl).2
    have hz2 : w.heap.size < w2.heap.size := World.block_lt_of_cell? _ _ q0
    obtain ⟨g0, g1, g2, g3, g4, g5, g6, g7, g8, g9, g10, g11⟩ := HRW.out _ HB2.out
    simp only [Nat.zero_add] at g0 g1 g2 g3 g4 g5 g6 g7 g8 g9 g10 g11
    rw [t1] at g9
    have fz := hown2.frozenAt
    have fz0 := fz (i * 12)
    have fz1 := fz (i * 12 + 1)
    have fz2 := fz (i * 12 + 2)
    have fz3 := fz (i * 12 + 3)
    have fz4 := fz (i * 12 + 4)
    have fz5 := fz (i * 12 + 5)
    have fz6 := fz (i * 12 + 6)
    have fz7 := fz (i * 12 + 7)
    have fz8 := fz (i * 12 + 8)
    have fz9 := fz (i * 12 + 9)
    have fz10 := fz (i * 12 + 10)
    have fz11 := fz (i * 12 + 11)
    have HO2 := Lib.hid hown2
    clear fz hown2 hb2
    obtain ⟨wA, hwA⟩ : ∃ wA, wA = w2 := ⟨_, rfl⟩
    subst hwA
    go_wp2_with fail
    go_region
    all_goals go_wp2
    all_goals go_ret
    all_goals (
      have h8 := rown_put (x := (lostR x)) HO2.out HIL.out
      have h9 := rset_end (L' := L.set i (lostR x)) (t := a) HH.out HB2.out h8.2 (by rw [List.length_set, ← HN.out]; exact h8.1)
      rw [← HN.out] at h9
      exact h9.more ((ba (bz _) _).drew))
end Go.Proofs.Ytjmanajbdkbkdaa
