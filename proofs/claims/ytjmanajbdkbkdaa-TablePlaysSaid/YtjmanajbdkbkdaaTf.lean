/- The table: Return, Info. -/
import Derived.Test.YtjmanajbdkbkdaaTe
namespace Go.Proofs.Ytjmanajbdkbkdaa
open Go.RowKit Go.Um
set_option linter.unusedSimpArgs false
set_option linter.unusedVariables false
set_option maxHeartbeats 4000000
set_option maxRecDepth 100000
theorem lose_any (g o : Nat) (u : Value) (w : World) (c9 : w.cell? ⟨g, o + 9, none⟩ = some u) (f9 : w.frozen? ⟨g, o + 9, none⟩ = false) :
    Calls Try.prog 30 #[.pointer (some ⟨g, o, none⟩)] w fun e w' => (∃ u, e = .returned u) ∧ w' = w.setCell ⟨g, o + 9, none⟩ (.int .u8 2) := by
  go_enter Try.func30, Try.ntmps30
  go_wp2
  go_end0
  exact ⟨⟨_, rfl⟩, rfl⟩
theorem ret1_any (g o B6 B7 : Nat) (k v t : Int) (u9 u7 u8 u11 : Value) (w : World) (c9 : w.cell? ⟨g, o + 9, none⟩ = some u9) (c7 : w.cell? ⟨g, o + 7, none⟩ = some u7) (c8 : w.cell? ⟨g, o + 8, none⟩ = some u8) (c11 : w.cell? ⟨g, o + 11, none⟩ = some u11)
    (f9 : w.frozen? ⟨g, o + 9, none⟩ = false) (f7 : w.frozen? ⟨g, o + 7, none⟩ = false) (f8 : w.frozen? ⟨g, o + 8, none⟩ = false) (f11 : w.frozen? ⟨g, o + 11, none⟩ = false)
    (k0 : w.cell? ⟨B6, 0, none⟩ = some (.int .u8 k)) (k1 : w.cell? ⟨B6, 1, none⟩ = some (.int .u16 v)) (t0 : w.cell? ⟨B7, 0, none⟩ = some (.int .i64 t)) (hg6 : g ≠ B6) (hg7 : g ≠ B7) :
    Calls Try.prog 29 #[.pointer (some ⟨g, o, none⟩), .pointer (some ⟨B6, 0, none⟩), .pointer (some ⟨B7, 0, none⟩)] w fun e w' => (∃ u, e = .returned u) ∧ w' = ((((w.setCell ⟨g, o + 9, none⟩ (.int .u8 1)).setCell ⟨g, o + 7, none⟩ (.int .u8 k)).setCell ⟨g, o + 8, none⟩ (.int .u16 v)).setCell ⟨g, o + 11, none⟩ (.int .i64 t)).drew := by
  go_enter Try.func29, Try.ntmps29
  go_wp2
  go_region
  all_goals go_end0
  all_goals exact ⟨⟨_, rfl⟩, rfl⟩
/-! ### a row ends -/
def endE (nx : Int) (L : List Rw) (id a : Int) : Int := if moE nx a ≠ 0 then moE nx a else if ((ixF L id < 0) || (L[(ixF L id).toNat]?.map (·.st)) != some 0) then 7 else 0
def endL (nx : Int) (L : List Rw) (id a : Int) (how : Rw → Rw) : List Rw := if endE nx L id a = 0 then (match L[(ixF L id).toNat]? with | some x => L.set (ixF L id).toNat (how x) | none => L) else L
def endN (nx : Int) (L : List Rw) (id a : Int) : Int := if endE nx L id a = 0 then a + 1 else nx
theorem ixF_cases (L : List Rw) (id : Int) : ixF L id = -1 ∨ ∃ (i : Nat) (x : Rw), ixF L id = (i : Int) ∧ L[i]? = some x ∧ x.id = id := by
  unfold ixF
  split
  · rename_i i h
    rw [List.findIdx?_eq_some_iff_getElem] at h
    obtain ⟨hi, h1, _⟩ := h
    exact .inr ⟨i, L[i], rfl, List.getElem?_eq_getElem hi, by simpa using h1⟩
  · exact .inl rfl
theorem end_cases (nx : Int) (L : List Rw) (id a : Int) : (moE nx a = 2 ∧ endE nx L id a = 2) ∨ (moE nx a = 0 ∧ ixF L id = -1 ∧ endE nx L id a = 7) ∨ (∃ (i : Nat) (x : Rw), moE nx a = 0 ∧ ixF L id = (i : Int) ∧ L[i]? = some x ∧ x.st ≠ 0 ∧ endE nx L id a = 7) ∨ (∃ (i : Nat) (x : Rw), moE nx a = 0 ∧ 0 ≤ a - nx ∧ a ≤ 2305843009213693952 ∧ ixF L id = (i : Int) ∧ L[i]? = some x ∧ x.st = 0 ∧ endE nx L id a = 0) := by
  rcases moE_cases nx a with h | ⟨h, h1, h2⟩
  · exact .inl ⟨h, by unfold endE; rw [h, if_pos (by decide)]⟩
  · rcases ixF_cases L id with hi | ⟨i, x, hi, hx, _⟩
    · exact .inr (.inl ⟨h, hi, by unfold endE; rw [h, hi, if_neg (by decide)]; rfl⟩)
    · by_cases hs : x.st = 0
      · exact .inr (.inr (.inr ⟨i, x, h, by omega, h2, hi, hx, hs, by unfold endE; rw [h, hi, if_neg (by decide), Int.toNat_natCast, hx]; simp [hs]⟩))
      · exact .inr (.inr (.inl ⟨i, x, h, hi, hx, hs, by unfold endE; rw [h, hi, if_neg (by decide), Int.toNat_natCast, hx]; simp [hs]⟩))
theorem end_info {base : Nat} {w : World} {p : Nat} {v : Value} {L : List Rw} {nx : Int} (id a : Int) (h : TabAt base w p v L nx) (hlen : L.length ≤ 1000) (hnx : 0 ≤ nx) :
    Calls Try.prog 28 #[.pointer (some ⟨p, 0, none⟩), .int .u16 id, .int .i64 a, .func (.func 30) #[] #[]] w (TPost base p v (endE nx L id a) (endL nx L id a lostR) (endN nx L id a) w) := by
  have HM := Lib.hid (fun W (hb : Below w.heap.size w W) => moment_any a (h.below hb))
  have HW := Lib.hid (fun W (hb : Below w.heap.size w W) => where_any id (h.below hb) (by omega))
  have HH := Lib.hid h
  rcases end_cases nx L id a with ⟨hm, hE⟩ | ⟨hm, hi, hE⟩ | ⟨i, x, hm, hi, hx, hst, hE⟩ | ⟨i, x, hm, ha1, ha2, hi, hx, hst, hE⟩
  · have e2 : endL nx L id a lostR = L := by unfold endL; rw [hE, if_neg (by decide)]
    have e3 : endN nx L id a = nx := by unfold endN; rw [hE, if_neg (by decide)]
    rw [hE, e2, e3]
    rw [hm] at HM
    clear h hm e2 e3 HW hE
    go_enter Try.func28, Try.ntmps28
    go_wp2_with fail
    refine (HM.out _ (bz w)).mono ?_
    rintro e w1 ⟨rfl, rfl⟩
    go_wp2
    go_ret
    exact TPost.stay HH.out (bz w)
  · have e2 : endL nx L id a lostR = L := by unfold endL; rw [hE, if_neg (by decide)]
    have e3 : endN nx L id a = nx := by unfold endN; rw [hE, if_neg (by decide)]
    rw [hE, e2, e3]
    rw [hm] at HM
    rw [hi] at HW
    clear h hm e2 e3 hi hE
    go_enter Try.func28, Try.ntmps28
    go_wp2_with fail
    refine (HM.out _ (bz w)).mono ?_
    rintro e w1 ⟨rfl, rfl⟩
    go_wp2_with fail
    refine (HW.out _ (bz w)).mono ?_
    rintro e w2 ⟨rfl, hb2⟩
    have HB2 := Lib.hid hb2
    clear hb2
    go_wp2
    go_ret
    exact TPost.stay HH.out HB2.out
  · have e2 : endL nx L id a lostR = L := by unfold endL; rw [hE, if_neg (by decide)]
    have e3 : endN nx L id a = nx := by unfold endN; rw [hE, if_neg (by decide)]
    rw [hE, e2, e3]
    rw [hm] at HM
    rw [hi] at HW
    obtain ⟨ao, cap, b, o, rfl, hs⟩ := h.slat
    have hidx := hs.idx (P := Try.prog) (t := 38) (e := 41) (by kernel_rfl) size41 (by decide)
    have hil := (List.getElem?_eq_some_iff.1 hx).1
    have HRW := Lib.hid (fun W (hb : Below w.heap.size w W) => And.intro (row_at (hs.below hb) hx).c9 (h.below hb).c0)
    obtain ⟨n, hn⟩ : ∃ n, n = L.length := ⟨_, rfl⟩
    rw [← hn] at hidx hil HRW ⊢
    have HN := Lib.hid hn
    have i1 : (0 : Int) ≤ (i : Int) := by omega
    have i2 : (i : Int) < (n : Int) := by omega
    have i3 : decide ((i : Int) < 0) = false := decide_eq_false (by omega)
    have t1 : (x.st == 0) = false := by simpa using hst
    clear h hm e2 e3 hi hE hs hx hst hn
    go_enter Try.func28, Try.ntmps28
    go_wp2_with fail
    refine (HM.out _ (bz w)).mono ?_
    rintro e w1 ⟨rfl, rfl⟩
    go_wp2_with fail
    refine (HW.out _ (bz w)).mono ?_
    rintro e w2 ⟨rfl, hb2⟩
    have HB2 := Lib.hid hb2
    obtain ⟨g9, c0⟩ := HRW.out _ hb2
    clear hb2
    go_wp2
    go_ret
    rw [HN.out]
    exact TPost.stay HH.out HB2.out
  · have e2 : endL nx L id a lostR = L.set i (lostR x) := by unfold endL; rw [hE, if_pos rfl, hi, Int.toNat_natCast, hx]
    have e3 : endN nx L id a = a + 1 := by unfold endN; rw [hE, if_pos rfl]
    rw [hE, e2, e3]
    rw [hm] at HM
    rw [hi] at HW
    have hil := (List.getElem?_eq_some_iff.1 hx).1
    rcases h.own.2 with ⟨_, h0⟩ | ⟨g, cap, cur, rfl, hbg, hg, _⟩
    · omega
    have hgp : g ≠ p := fun e => h.ne (by rw [← e]; rfl)
    have hgw := (Array.getElem?_eq_some_iff.1 hg).1
    obtain ⟨ao', cap', b, o, hv, hs⟩ := h.slat
    simp only [Value.slice.injEq, true_and] at hv
    obtain ⟨hv1, hv2⟩ := hv
    subst hv1 hv2
    have hlen12 : 0 < (L.flatMap Rw.cells).length := by rw [length_flat Rw.twelve]; omega
    have hao := hs.addr hlen12
    simp only [Option.some.injEq, Addr.mk.injEq, and_true] at hao
    obtain ⟨rfl, rfl⟩ := hao
    have hidx := hs.idx (P := Try.prog) (t := 38) (e := 41) (by kernel_rfl) size41 (by decide)
    have HT := Lib.hid (fun W (hb : Below w.heap.size w W) => h.below hb)
    have HRW := Lib.hid (fun W (hb : Below w.heap.size w W) => row_at (hs.below hb) hx)
    have HX := Lib.hid hx
    obtain ⟨n, hn⟩ : ∃ n, n = L.length := ⟨_, rfl⟩
    rw [← hn] at hidx hil HT ⊢
    have HN := Lib.hid hn
    have i1 : (0 : Int) ≤ (i : Int) := by omega
    have i2 : (i : Int) < (n : Int) := by omega
    have i3 : decide ((i : Int) < 0) = false := decide_eq_false (by omega)
    have hw1 : IntKind.i64.wrap (a + 1) = a + 1 := IntWalk.i64_in _ (by omega)
    have t1 : x.st = 0 := hst
    have hpl := HH.out.lt
    clear h hm e2 e3 hi hE hs hx hst hn hg hlen12
    go_enter Try.func28, Try.ntmps28
    go_wp2_with fail
    refine (HM.out _ (bz w)).mono ?_
    rintro e w1 ⟨rfl, rfl⟩
    go_wp2_with fail
    refine (HW.out _ (bz w)).mono ?_
    rintro e w2 ⟨rfl, hb2⟩
    have HB2 := Lib.hid hb2
    have HT2 := Lib.hid (HT.out _ hb2)
    have c0 := HT2.out.c0
    have g9 := (HRW.out _ hb2).c9
    rw [t1, Nat.zero_add] at g9
    have hown2 : w2.ownsRow base 41 12 (.slice (some ⟨g, 0, none⟩) n cap) n (L.flatMap Rw.cells) := by have := HT2.out.own; rwa [← HN.out] at this
    go_wp2_with fail
    refine (lose_any g (i * 12) _ w2 (by have := (HRW.out _ hb2).c9; rwa [Nat.zero_add] at this) (hown2.frozenAt _)).mono ?_
    rintro e w3 ⟨⟨u, rfl⟩, hw3⟩
    obtain ⟨hown3, hgr3⟩ := (by rw [hw3]; exact own_lost hown2 HX.out : w3.ownsRow base 41 12 (.slice (some ⟨g, 0, none⟩) n cap) n ((L.set i (lostR x)).flatMap Rw.cells) ∧ w2.grownBy w3 (some g))
    have hW2 : Below w.heap.size w w2 := HB2.out
    have d0 : w3.cell? ⟨p, 1, none⟩ = some (.int .i64 nx) := (hgr3.cell_far ⟨p, 1, none⟩ (by have := HB2.out.size; show p < w2.heap.size; omega) (by simp only; intro e; exact hgp (Option.some.inj e).symm)).trans HT2.out.c1
    have d1 : w3.frozen? ⟨p, 1, none⟩ = false := (hgr3.frozen_far ⟨p, 1, none⟩ (by have := HB2.out.size; show p < w2.heap.size; omega) (by simp only; intro e; exact hgp (Option.some.inj e).symm)).trans HT2.out.f1
    have HO3 := Lib.hid hown3
    have HG3 := Lib.hid hgr3
    clear hown3 hgr3 hw3 hb2 hW2
    go_wp2
    go_ret
    have h9 := set_end (L' := L.set i (lostR x)) (t := a + 1) HH.out HB2.out HG3.out (by rw [List.length_set, ← HN.out]; exact HO3.out)
    rw [← HN.out] at h9
    exact h9
theorem end_ret {base : Nat} {w : World} {p : Nat} {v : Value} {L : List Rw} {nx : Int} (id a : Int) (B6 B7 : Nat) (rk rv rt : Int) (h : TabAt base w p v L nx) (hlen : L.length ≤ 1000) (hnx : 0 ≤ nx) (k0 : w.cell? ⟨B6, 0, none⟩ = some (.int .u8 rk)) (k1 : w.cell? ⟨B6, 1, none⟩ = some (.int .u16 rv)) (t0 : w.cell? ⟨B7, 0, none⟩ = some (.int .i64 rt)) (hB6 : v.ownBlock ≠ some B6) (hB7 : v.ownBlock ≠ some B7) :
    Calls Try.prog 28 #[.pointer (some ⟨p, 0, none⟩), .int .u16 id, .int .i64 a, .func (.func 29) #[] #[.pointer (some ⟨B6, 0, none⟩), .pointer (some ⟨B7, 0, none⟩)]] w (TPost base p v (endE nx L id a) (endL nx L id a (fun x => retR x rk rv rt)) (endN nx L id a) w) := by
  have HM := Lib.hid (fun W (hb : Below w.heap.size w W) => moment_any a (h.below hb))
  have HW := Lib.hid (fun W (hb : Below w.heap.size w W) => where_any id (h.below hb) (by omega))
  have HH := Lib.hid h
  rcases end_cases nx L id a with ⟨hm, hE⟩ | ⟨hm, hi, hE⟩ | ⟨i, x, hm, hi, hx, hst, hE⟩ | ⟨i, x, hm, ha1, ha2, hi, hx, hst, hE⟩
  · have e2 : endL nx L id a (fun x => retR x rk rv rt) = L := by unfold endL; rw [hE, if_neg (by decide)]
    have e3 : endN nx L id a = nx := by unfold endN; rw [hE, if_neg (by decide)]
    rw [hE, e2, e3]
    rw [hm] at HM
    clear h hm e2 e3 HW hE k0 k1 t0 hB6 hB7
    go_enter Try.func28, Try.ntmps28
    go_wp2_with fail
    refine (HM.out _ (bz w)).mono ?_
    rintro e w1 ⟨rfl, rfl⟩
    go_wp2
    go_ret
    exact TPost.stay HH.out (bz w)
  · have e2 : endL nx L id a (fun x => retR x rk rv rt) = L := by unfold endL; rw [hE, if_neg (by decide)]
    have e3 : endN nx L id a = nx := by unfold endN; rw [hE, if_neg (by decide)]
    rw [hE, e2, e3]
    rw [hm] at HM
    rw [hi] at HW
    clear h hm e2 e3 hi hE k0 k1 t0 hB6 hB7
    go_enter Try.func28, Try.ntmps28
    go_wp2_with fail
    refine (HM.out _ (bz w)).mono ?_
    rintro e w1 ⟨rfl, rfl⟩
    go_wp2_with fail
    refine (HW.out _ (bz w)).mono ?_
    rintro e w2 ⟨rfl, hb2⟩
    have HB2 := Lib.hid hb2
    clear hb2
    go_wp2
    go_ret
    exact TPost.stay HH.out HB2.out
  · have e2 : endL nx L id a (fun x => retR x rk rv rt) = L := by unfold endL; rw [hE, if_neg (by decide)]
    have e3 : endN nx L id a = nx := by unfold endN; rw [hE, if_neg (by decide)]
    rw [hE, e2, e3]
    rw [hm] at HM
    rw [hi] at HW
    obtain ⟨ao, cap, b, o, rfl, hs⟩ := h.slat
    have hidx := hs.idx (P := Try.prog) (t := 38) (e := 41) (by kernel_rfl) size41 (by decide)
    have hil := (List.getElem?_eq_some_iff.1 hx).1
    have HRW := Lib.hid (fun W (hb : Below w.heap.size w W) => And.intro (row_at (hs.below hb) hx).c9 (h.below hb).c0)
    obtain ⟨n, hn⟩ : ∃ n, n = L.length := ⟨_, rfl⟩
    rw [← hn] at hidx hil HRW ⊢
    have HN := Lib.hid hn
    have i1 : (0 : Int) ≤ (i : Int) := by omega
    have i2 : (i : Int) < (n : Int) := by omega
    have i3 : decide ((i : Int) < 0) = false := decide_eq_false (by omega)
    have t1 : (x.st == 0) = false := by simpa using hst
    clear h hm e2 e3 hi hE hs hx hst hn k0 k1 t0 hB6 hB7
    go_enter Try.func28, Try.ntmps28
    go_wp2_with fail
    refine (HM.out _ (bz w)).mono ?_
    rintro e w1 ⟨rfl, rfl⟩
    go_wp2_with fail
    refine (HW.out _ (bz w)).mono ?_
    rintro e w2 ⟨rfl, hb2⟩
    have HB2 := Lib.hid hb2
    obtain ⟨g9, c0⟩ := HRW.out _ hb2
    clear hb2
    go_wp2
    go_ret
    rw [HN.out]
    exact TPost.stay HH.out HB2.out
  · have e2 : endL nx L id a (fun x => retR x rk rv rt) = L.set i ((retR x rk rv rt)) := by unfold endL; rw [hE, if_pos rfl, hi, Int.toNat_natCast, hx]
    have e3 : endN nx L id a = a + 1 := by unfold endN; rw [hE, if_pos rfl]
    rw [hE, e2, e3]
    rw [hm] at HM
    rw [hi] at HW
    have hil := (List.getElem?_eq_some_iff.1 hx).1
    rcases h.own.2 with ⟨_, h0⟩ | ⟨g, cap, cur, rfl, hbg, hg, _⟩
    · omega
    have hgp : g ≠ p := fun e => h.ne (by rw [← e]; rfl)
    have hgw := (Array.getElem?_eq_some_iff.1 hg).1
    obtain ⟨ao', cap', b, o, hv, hs⟩ := h.slat
    simp only [Value.slice.injEq, true_and] at hv
    obtain ⟨hv1, hv2⟩ := hv
    subst hv1 hv2
    have hlen12 : 0 < (L.flatMap Rw.cells).length := by rw [length_flat Rw.twelve]; omega
    have hao := hs.addr hlen12
    simp only [Option.some.injEq, Addr.mk.injEq, and_true] at hao
    obtain ⟨rfl, rfl⟩ := hao
    have hidx := hs.idx (P := Try.prog) (t := 38) (e := 41) (by kernel_rfl) size41 (by decide)
    have HT := Lib.hid (fun W (hb : Below w.heap.size w W) => h.below hb)
    have HRW := Lib.hid (fun W (hb : Below w.heap.size w W) => row_at (hs.below hb) hx)
    have HX := Lib.hid hx
    obtain ⟨n, hn⟩ : ∃ n, n = L.length := ⟨_, rfl⟩
    rw [← hn] at hidx hil HT ⊢
    have HN := Lib.hid hn
    have i1 : (0 : Int) ≤ (i : Int) := by omega
    have i2 : (i : Int) < (n : Int) := by omega
    have i3 : decide ((i : Int) < 0) = false := decide_eq_false (by omega)
    have hw1 : IntKind.i64.wrap (a + 1) = a + 1 := IntWalk.i64_in _ (by omega)
    have t1 : x.st = 0 := hst
    have hpl := HH.out.lt
    clear h hm e2 e3 hi hE hs hx hst hn hg hlen12
    go_enter Try.func28, Try.ntmps28
    go_wp2_with fail
    refine (HM.out _ (bz w)).mono ?_
    rintro e w1 ⟨rfl, rfl⟩
    go_wp2_with fail
    refine (HW.out _ (bz w)).mono ?_
    rintro e w2 ⟨rfl, hb2⟩
    have HB2 := Lib.hid hb2
    have HT2 := Lib.hid (HT.out _ hb2)
    have c0 := HT2.out.c0
    have g9 := (HRW.out _ hb2).c9
    rw [t1, Nat.zero_add] at g9
    have hown2 : w2.ownsRow base 41 12 (.slice (some ⟨g, 0, none⟩) n cap) n (L.flatMap Rw.cells) := by have := HT2.out.own; rwa [← HN.out] at this
    go_wp2_with fail
    refine (ret1_any g (i * 12) B6 B7 rk rv rt _ _ _ _ w2 (by have := (HRW.out _ hb2).c9; rwa [Nat.zero_add] at this) (by have := (HRW.out _ hb2).c7; rwa [Nat.zero_add] at this) (by have := (HRW.out _ hb2).c8; rwa [Nat.zero_add] at this) (by have := (HRW.out _ hb2).c11; rwa [Nat.zero_add] at this) (hown2.frozenAt _) (hown2.frozenAt _) (hown2.frozenAt _) (hown2.frozenAt _) (cell_past hb2 k0) (cell_past hb2 k1) (cell_past hb2 t0) (fun e => hB6 (by rw [← e]; rfl)) (fun e => hB7 (by rw [← e]; rfl))).mono ?_
    rintro e w3 ⟨⟨u, rfl⟩, hw3⟩
    obtain ⟨hown3, hgr3⟩ := (by rw [hw3]; exact ⟨(own_ret hown2 HX.out).1.drew, (own_ret hown2 HX.out).2.trans ⟨rfl, rfl, rfl, Nat.le_refl _, fun _ _ _ => rfl⟩⟩ : w3.ownsRow base 41 12 (.slice (some ⟨g, 0, none⟩) n cap) n ((L.set i (retR x rk rv rt)).flatMap Rw.cells) ∧ w2.grownBy w3 (some g))
    have hW2 : Below w.heap.size w w2 := HB2.out
    have d0 : w3.cell? ⟨p, 1, none⟩ = some (.int .i64 nx) := (hgr3.cell_far ⟨p, 1, none⟩ (by have := HB2.out.size; show p < w2.heap.size; omega) (by simp only; intro e; exact hgp (Option.some.inj e).symm)).trans HT2.out.c1
    have d1 : w3.frozen? ⟨p, 1, none⟩ = false := (hgr3.frozen_far ⟨p, 1, none⟩ (by have := HB2.out.size; show p < w2.heap.size; omega) (by simp only; intro e; exact hgp (Option.some.inj e).symm)).trans HT2.out.f1
    have HO3 := Lib.hid hown3
    have HG3 := Lib.hid hgr3
    clear hown3 hgr3 hw3 hb2 hW2
    go_wp2
    go_ret
    have h9 := set_end (L' := L.set i ((retR x rk rv rt))) (t := a + 1) HH.out HB2.out HG3.out (by rw [List.length_set, ← HN.out]; exact HO3.out)
    rw [← HN.out] at h9
    exact h9
theorem return_any {base : Nat} {w : World} {p : Nat} {v : Value} {L : List Rw} {nx : Int} (id rk rv a : Int) (h : TabAt base w p v L nx) (hlen : L.length ≤ 1000) (hnx : 0 ≤ nx) :
    Calls Try.prog 9 #[.pointer (some ⟨p, 0, none⟩), .int .u16 id, .agg #[.int .u8 rk, .int .u16 rv], .int .i64 a] w (TPost base p v (endE nx L id a) (endL nx L id a (fun x => retR x rk rv a)) (endN nx L id a) w) := by
  obtain ⟨wb, hwb⟩ : ∃ wb, wb = (w.alloc (.cells #[.int .u8 rk, .int .u16 rv] 31)).alloc (.cells #[.int .i64 a] 3) := ⟨_, rfl⟩
  have hb : Below w.heap.size w wb := by rw [hwb]; exact ba (ba (bz w) _) _
  have k0 : wb.cell? ⟨w.heap.size, 0, none⟩ = some (.int .u8 rk) := by rw [hwb]; simp [go_sem]
  have k1 : wb.cell? ⟨w.heap.size, 1, none⟩ = some (.int .u16 rv) := by rw [hwb]; simp [go_sem]
  have t0 : wb.cell? ⟨w.heap.size + 1, 0, none⟩ = some (.int .i64 a) := by rw [hwb]; simp [go_sem]
  have hB : ∀ b, w.heap.size ≤ b → v.ownBlock ≠ some b := fun b hb e => by have := (own_lt h.own e).2; omega
  have hend := end_ret id a w.heap.size (w.heap.size + 1) rk rv a (h.below hb) hlen hnx k0 k1 t0 (hB _ (Nat.le_refl _)) (hB _ (by omega))
  have HEND := Lib.hid hend
  have HB := Lib.hid hb
  have HWB := Lib.hid hwb
  clear h hend hb k0 k1 t0 hB hwb
  go_enter Try.func9, Try.ntmps9
  go_wp2_with fail
  rw [← HWB.out]
  refine HEND.out.mono ?_
  rintro e w3 ⟨rfl, v', hT, hK, hF⟩
  go_wp2
  go_ret
  refine ⟨rfl, v', hT, ?_, ?_⟩
  · exact ((Kept.of_below HB.out).mono (S' := Own p v) (fun i hi h => absurd h (by omega))).trans hK (fun _ _ h => h)
  · rcases hF with h | ⟨g, h, h2⟩
    · exact .inl h
    · exact .inr ⟨g, h, Nat.le_trans HB.out.size h2⟩
theorem info_any {base : Nat} {w : World} {p : Nat} {v : Value} {L : List Rw} {nx : Int} (id a : Int) (h : TabAt base w p v L nx) (hlen : L.length ≤ 1000) (hnx : 0 ≤ nx) :
    Calls Try.prog 10 #[.pointer (some ⟨p, 0, none⟩), .int .u16 id, .int .i64 a] w (TPost base p v (endE nx L id a) (endL nx L id a lostR) (endN nx L id a) w) := by
  have HEND := Lib.hid (end_info id a h hlen hnx)
  clear h
  go_enter Try.func10, Try.ntmps10
  go_wp2_with fail
  refine HEND.out.mono ?_
  rintro e w3 ⟨rfl, v', hT, hK, hF⟩
  go_wp2
  go_ret
  exact ⟨rfl, v', hT, hK, hF⟩
end Go.Proofs.Ytjmanajbdkbkdaa
