/- umpirelaw15's made: contract. Printed from Md.tmpl by gen_md.py. -/
import Derived.Test.YtfjccgihdnemkaaRp
import Derived.Test.YtfjccgihdnemkaaTake
namespace Go.Proofs.Ytfjccgihdnemkaa
open Go.RowKit Go.Um
set_option linter.unusedSimpArgs false
set_option linter.unusedVariables false
set_option maxHeartbeats 4000000
set_option maxRecDepth 100000
def MdPost (x : Act3) (N : Nat) (L : List Nat) (w : World) (e : Ending) (w' : World) : Prop := ∃ v u, e = .returned (.tuple #[v, u]) ∧ SetAt w' v (mkN x N) ∧ LisAt w' u (mkL x L) ∧ Below w.heap.size w w'
theorem LisAt.other {w : World} {v : Value} {L : List Nat} (h : LisAt w v L) {p : Addr} {u0 : Value} (hp : w.cell? p = some u0) (hne : ∀ x : Int, Value.int .i64 x ≠ u0) (u : Value) : LisAt (w.setCell p u) v L := by
  obtain ⟨ao, cap, b, o, hv, hs⟩ := h
  exact ⟨ao, cap, b, o, hv, slat_other hs hp (fun v hv => by obtain ⟨y, _, rfl⟩ := List.mem_map.1 hv; exact hne _) u⟩
theorem rdown_any (v : Value) (L : List Nat) (n : Int) (w : World) (h : LisAt w v L) (hmax : L.length ≤ 70000) (hb : ∀ x ∈ L, x ≤ 65535) : Calls Try.prog 36 #[v, .int .i64 n] w (LisPost (downL L n.toNat) w) := rdown_nat v L n _ rfl w h hmax hb
theorem made_any (s t : Value) (N : Nat) (L : List Nat) (x : Act3) (w : World) (hs : SetAt w s N) (hl : LisAt w t L) (hLN : LisN L N) (hlen : L.length ≤ 60000) (hx : x.ok w) (hxl : x.l.length ≤ 40) :
    Calls Try.prog 20 #[s, t, .agg x.cells.toArray] w (MdPost x N L w) := by
  have hw8 := hx.what
  obtain ⟨hw0, hw1⟩ := hw8
  obtain ⟨R, hR⟩ : ∃ R, R = x.what % 5 := ⟨_, rfl⟩
  have hR2 : x.what.tmod 5 = R := by rw [Int.tmod_eq_emod_of_nonneg hw0]; exact hR.symm
  have hR1 : x.what % 5 = R := hR.symm
  have hR3 : IntKind.u8.wrap R = R := by simp only [IntKind.wrap, IntKind.signed, IntKind.bits, Bool.false_and, Bool.false_eq_true, if_false]; omega
  have HMK : Hid (mkN x N = (if R = 2 then withoutN N x.n else if R = 3 then N ||| ofN x.l else if R = 4 then N / 2 ^ x.n.toNat else withN N x.n) ∧ mkL x L = (if R = 2 then dropN L x.n else if R = 3 then uniL L (lisOf x.l) else if R = 4 then downL L x.n.toNat else rins L x.n)) := Lib.hid (by
    unfold mkN mkL
    rw [hR1]
    exact ⟨rfl, rfl⟩)
  have HS := Lib.hid hs
  have HLI := Lib.hid hl
  have HX := Lib.hid hx.l
  have HBD := Lib.hid hLN.bd
  have HLL : Hid (L.length ≤ 60000 ∧ x.l.length ≤ 40 ∧ (lisOf x.l).length ≤ 40) := Lib.hid ⟨hlen, hxl, by have := lisOf_len x.l; omega⟩
  obtain ⟨m, ao, cap, b, o, rfl, _⟩ := id hs
  unfold Act3.cells
  obtain ⟨xn, hxn⟩ : ∃ n, n = x.l.length := ⟨_, rfl⟩
  obtain ⟨xw, hxw⟩ : ∃ n, n = x.what := ⟨_, rfl⟩
  rw [← hxn, ← hxw]
  rw [← hxn] at HX
  rw [← hxw] at hR1 hR2 hw0 hw1
  have HXN := Lib.hid hxn
  obtain ⟨W0, hW0⟩ : ∃ W0, W0 = (((w.alloc (.cells #[Value.slice ao m cap] 27)).alloc (.cells #[Value.int .u8 xw, Value.int .i64 x.n, Value.slice x.ao xn x.cap] 52)).alloc (.cells #[Value.slice none 0 0] 27)) := ⟨_, rfl⟩
  have hb0 : Below w.heap.size w W0 := by rw [hW0]; exact (((ba (bz w) _).alloc (by simp) _).alloc (by simp; omega) _)
  have d3 : W0.cell? ⟨w.heap.size, 0, none⟩ = some (.slice ao m cap) := by rw [hW0]; simp [go_sem]
  have d50 : W0.cell? ⟨w.heap.size + 1, 0, none⟩ = some (.int .u8 xw) := by rw [hW0]; simp [go_sem]
  have d51 : W0.cell? ⟨w.heap.size + 1, 1, none⟩ = some (.int .i64 x.n) := by rw [hW0]; simp [go_sem]
  have d52 : W0.cell? ⟨w.heap.size + 1, 2, none⟩ = some (.slice x.ao xn x.cap) := by rw [hW0]; simp [go_sem]
  have d6 : W0.cell? ⟨w.heap.size + 2, 0, none⟩ = some (.slice none 0 0) := by rw [hW0]; simp [go_sem]
  have e6 : W0.frozen? ⟨w.heap.size + 2, 0, none⟩ = false := by rw [hW0]; simp [go_sem]
  have C3 := Lib.hid (fun W (h : Below (w.heap.size + 2) W0 W) => (h.cell (p := ⟨w.heap.size, 0, none⟩) (by simp)).trans d3)
  have C51 := Lib.hid (fun W (h : Below (w.heap.size + 2) W0 W) => (h.cell (p := ⟨w.heap.size + 1, 1, none⟩) (by simp)).trans d51)
  have C52 := Lib.hid (fun W (h : Below (w.heap.size + 2) W0 W) => (h.cell (p := ⟨w.heap.size + 1, 2, none⟩) (by simp)).trans d52)
  have C6 := Lib.hid (fun W (h : Below W0.heap.size W0 W) => And.intro (kc h _ _ _ d6) (kf h _ _ (World.block_lt_of_cell? _ _ d6) e6))
  have HS0 := Lib.hid (fun W (h : Below W0.heap.size W0 W) => (HS.out.below hb0).below h)
  have HL0 := Lib.hid (fun W (h : Below W0.heap.size W0 W) => (HLI.out.below hb0).below h)
  have HX0 := Lib.hid (fun W (h : Below W0.heap.size W0 W) => (HX.out.below hb0).below h)
  have HB0 := Lib.hid hb0
  have hle : w.heap.size + 2 ≤ W0.heap.size := by rw [hW0]; simp
  have HW0 := Lib.hid hW0
  have HNN : Hid (xn = x.l.length) := HXN
  clear hR hxn hxw hs hl hx hLN hW0 hb0 d3 d50 d51 d52 d6 e6
  have hcases : R = 2 ∨ R = 3 ∨ R = 4 ∨ (¬ R = 2 ∧ ¬ R = 3 ∧ ¬ R = 4) := by omega
  rcases hcases with h2 | h3 | h4 | ⟨h2, h3, h4⟩
  · subst h2
    go_enter Try.func20, Try.ntmps20
    go_wp2_with fail
    rw [← HW0.out]
    have hbc := bz W0
    refine wp_region_held_drew (S := (fun W => Below (w.heap.size + 2) W0 W)) (by kernel_rfl) (by first | exact hbc.mono hle | exact hbc.drew.mono hle) (fun hHeld => ?_)
    replace hbc := hbc.drew
    refine takeD (i := 0) (v := ?zvma0) (some 13) rfl rfl (by kernel_rfl) (by kernel_rfl) (by kernel_rfl) (fun _ _ _ h => h) (Or.inl ⟨by rfl, ?zyma0⟩) (by assumption) ?zrma0
    case zyma0 => (intro w hSw; have cL := C3.out w hSw; go_simp; try with_reducible rfl)
    try simp only [Act.put, List.setIfInBounds_toArray, List.set_cons_zero, List.set_cons_succ]
    refine takeD (i := 1) (v := ?zvma1) (some 14) rfl rfl (by kernel_rfl) (by kernel_rfl) (by kernel_rfl) (fun _ _ _ h => h) (Or.inl ⟨by rfl, ?zyma1⟩) (by assumption) ?zrma1
    case zyma1 => (intro w hSw; clear hSw; go_simp; try with_reducible rfl)
    try simp only [Act.put, List.setIfInBounds_toArray, List.set_cons_zero, List.set_cons_succ]
    refine takeD (i := 2) (v := ?zvma2) (some 15) rfl rfl (by kernel_rfl) (by kernel_rfl) (by kernel_rfl) (fun _ _ _ h => h) (Or.inl ⟨by rfl, ?zyma2⟩) (by assumption) ?zrma2
    case zyma2 => (intro w hSw; have cL := C51.out w hSw; go_simp; try with_reducible rfl)
    try simp only [Act.put, List.setIfInBounds_toArray, List.set_cons_zero, List.set_cons_succ]
    refine takeD (i := 4) (v := ?zvma4) (some 17) rfl rfl (by kernel_rfl) (by kernel_rfl) (by kernel_rfl) (fun _ _ _ h => h) (Or.inl ⟨by rfl, ?zyma4⟩) (by assumption) ?zrma4
    case zyma4 => (intro w hSw; clear hSw; go_simp; try with_reducible rfl)
    try simp only [Act.put, List.setIfInBounds_toArray, List.set_cons_zero, List.set_cons_succ]
    refine takeD (i := 5) (v := ?zvma5) (some 18) rfl rfl (by kernel_rfl) (by kernel_rfl) (by kernel_rfl) (fun _ _ _ h => h) (Or.inl ⟨by rfl, ?zyma5⟩) (by assumption) ?zrma5
    case zyma5 => (intro w hSw; clear hSw; go_simp; try with_reducible rfl)
    try simp only [Act.put, List.setIfInBounds_toArray, List.set_cons_zero, List.set_cons_succ]
    refine takeD (i := 6) (v := ?zvma6) (some 19) rfl rfl (by kernel_rfl) (by kernel_rfl) (by kernel_rfl) (fun _ _ _ h => h) (Or.inl ⟨by rfl, ?zyma6⟩) (by assumption) ?zrma6
    case zyma6 => (intro w hSw; have cL := C51.out w hSw; go_simp; try with_reducible rfl)
    try simp only [Act.put, List.setIfInBounds_toArray, List.set_cons_zero, List.set_cons_succ]
    refine wpAnyH_ready (rs := [3]) (by kernel_rfl) (by simp) ?_
    refine AllReadyH.cons rfl (fun K hK => ?_) AllReadyH.nil
    go_simp
    refine (without_any _ _ x.n _ (HS0.out _ hbc)).mono ?_
    rintro e wka ⟨v1, rfl, hset, hbk⟩
    obtain ⟨m1, ao1, cap1, b1, o1, rfl, _⟩ := id hset
    replace hbc := bt hbc hbk
    clear hbk
    go_wp2_with fail
    refine hK.out _ _ (by first | exact hbc.mono hle | exact hbc.drew.mono hle) (fun hHeld2 => ?_)
    clear hK K
    clear hHeld
    have hHeld := hHeld2
    clear hHeld2
    try simp only [Act.put, List.setIfInBounds_toArray, List.set_cons_zero, List.set_cons_succ]
    refine wpAnyH_ready (rs := [7]) (by kernel_rfl) (by simp) ?_
    refine AllReadyH.cons rfl (fun K hK => ?_) AllReadyH.nil
    go_simp
    refine (rwithout_any _ _ x.n _ (HL0.out _ hbc) (by have := HLL.out; omega)).mono ?_
    rintro e wkb ⟨u1, rfl, hlis, hbk⟩
    replace hset := hset.below hbk
    replace hbc := bt hbc hbk
    clear hbk
    go_wp2_with fail
    refine hK.out _ _ (by first | exact hbc.mono hle | exact hbc.drew.mono hle) (fun hHeld2 => ?_)
    clear hK K
    clear hHeld
    have hHeld := hHeld2
    clear hHeld2
    try simp only [Act.put, List.setIfInBounds_toArray, List.set_cons_zero, List.set_cons_succ]
    refine wpAnyH_ready (rs := [8]) (by kernel_rfl) (by simp) ?_
    refine AllReadyH.cons rfl (fun K hK => ?_) AllReadyH.nil
    obtain ⟨c6, f6⟩ := C6.out _ hbc
    go_simp
    refine hK.out _ _ ((hbc.mono hle).setCell (p := ⟨w.heap.size + 2, 0, none⟩) (Nat.le_refl _) _) (fun hHeld2 => ?_)
    clear hK K
    clear hHeld
    have hHeld := hHeld2
    clear hHeld2
    try simp only [Act.put, List.setIfInBounds_toArray, List.set_cons_zero, List.set_cons_succ]
    refine takeD (i := 9) (v := ?zvma9) (some 7) rfl rfl (by kernel_rfl) (by kernel_rfl) (by kernel_rfl) (fun _ _ _ h => h) (Or.inl ⟨by rfl, ?zyma9⟩) (by assumption) ?zrma9
    case zyma9 => (intro w hSw; clear hSw; go_simp; try with_reducible rfl)
    try simp only [Act.put, List.setIfInBounds_toArray, List.set_cons_zero, List.set_cons_succ]
    refine wpAnyH_done (by kernel_rfl) ?_ _
    go_wp2_with fail
    have hbw : Below w.heap.size w _ := (HB0.out.trans (hbc.mono (by omega))).setCell (p := ⟨w.heap.size + 2, 0, none⟩) (by simp) (.slice ao1 m1 cap1)
    have hmk := HMK.out
    simp only [if_true, if_false, reduceIte, show ¬ (3 : Int) = 2 by decide, show ¬ (4 : Int) = 2 by decide, show ¬ (4 : Int) = 3 by decide] at hmk
    exact bodyPost_ret (v := .tuple #[.agg #[.slice ao1 m1 cap1], u1]) (by simp [results, Try.results20, go_sem, c6]) rfl ⟨_, _, rfl, by rw [hmk.1]; exact set_other hset c6 (fun _ => by simp) _, by rw [hmk.2]; exact hlis.other c6 (fun _ => by simp) _, hbw⟩
    skip
  · subst h3
    go_enter Try.func20, Try.ntmps20
    go_wp2_with fail
    rw [← HW0.out]
    have hbc := bz W0
    refine wp_region_held_drew (S := (fun W => Below (w.heap.size + 2) W0 W)) (by kernel_rfl) (by first | exact hbc.mono hle | exact hbc.drew.mono hle) (fun hHeld => ?_)
    replace hbc := hbc.drew
    refine takeD (i := 0) (v := ?zvmb0) (some 23) rfl rfl (by kernel_rfl) (by kernel_rfl) (by kernel_rfl) (fun _ _ _ h => h) (Or.inl ⟨by rfl, ?zymb0⟩) (by assumption) ?zrmb0
    case zymb0 => (intro w hSw; have cL := C3.out w hSw; go_simp; try with_reducible rfl)
    try simp only [Act.put, List.setIfInBounds_toArray, List.set_cons_zero, List.set_cons_succ]
    refine takeD (i := 1) (v := ?zvmb1) (some 24) rfl rfl (by kernel_rfl) (by kernel_rfl) (by kernel_rfl) (fun _ _ _ h => h) (Or.inl ⟨by rfl, ?zymb1⟩) (by assumption) ?zrmb1
    case zymb1 => (intro w hSw; clear hSw; go_simp; try with_reducible rfl)
    try simp only [Act.put, List.setIfInBounds_toArray, List.set_cons_zero, List.set_cons_succ]
    refine takeD (i := 2) (v := ?zvmb2) (some 25) rfl rfl (by kernel_rfl) (by kernel_rfl) (by kernel_rfl) (fun _ _ _ h => h) (Or.inl ⟨by rfl, ?zymb2⟩) (by assumption) ?zrmb2
    case zymb2 => (intro w hSw; have cL := C52.out w hSw; go_simp; try with_reducible rfl)
    try simp only [Act.put, List.setIfInBounds_toArray, List.set_cons_zero, List.set_cons_succ]
    refine takeD (i := 5) (v := ?zvmb5) (some 28) rfl rfl (by kernel_rfl) (by kernel_rfl) (by kernel_rfl) (fun _ _ _ h => h) (Or.inl ⟨by rfl, ?zymb5⟩) (by assumption) ?zrmb5
    case zymb5 => (intro w hSw; clear hSw; go_simp; try with_reducible rfl)
    try simp only [Act.put, List.setIfInBounds_toArray, List.set_cons_zero, List.set_cons_succ]
    refine takeD (i := 6) (v := ?zvmb6) (some 29) rfl rfl (by kernel_rfl) (by kernel_rfl) (by kernel_rfl) (fun _ _ _ h => h) (Or.inl ⟨by rfl, ?zymb6⟩) (by assumption) ?zrmb6
    case zymb6 => (intro w hSw; clear hSw; go_simp; try with_reducible rfl)
    try simp only [Act.put, List.setIfInBounds_toArray, List.set_cons_zero, List.set_cons_succ]
    refine takeD (i := 7) (v := ?zvmb7) (some 30) rfl rfl (by kernel_rfl) (by kernel_rfl) (by kernel_rfl) (fun _ _ _ h => h) (Or.inl ⟨by rfl, ?zymb7⟩) (by assumption) ?zrmb7
    case zymb7 => (intro w hSw; have cL := C52.out w hSw; go_simp; try with_reducible rfl)
    try simp only [Act.put, List.setIfInBounds_toArray, List.set_cons_zero, List.set_cons_succ]
    refine wpAnyH_ready (rs := [3]) (by kernel_rfl) (by simp) ?_
    refine AllReadyH.cons rfl (fun K hK => ?_) AllReadyH.nil
    go_simp
    refine (of_any x.l xn HNN.out x.ao x.cap x.b x.o _ (HX0.out _ hbc) (by have := HLL.out; have := HNN.out; omega)).mono ?_
    rintro e wka ⟨v0, rfl, hset0, hbk⟩
    replace hbc := bt hbc hbk
    clear hbk
    go_wp2_with fail
    refine hK.out _ _ (by first | exact hbc.mono hle | exact hbc.drew.mono hle) (fun hHeld2 => ?_)
    clear hK K
    clear hHeld
    have hHeld := hHeld2
    clear hHeld2
    try simp only [Act.put, List.setIfInBounds_toArray, List.set_cons_zero, List.set_cons_succ]
    refine wpAnyH_ready (rs := [4]) (by kernel_rfl) (by simp) ?_
    refine AllReadyH.cons rfl (fun K hK => ?_) AllReadyH.nil
    go_simp
    refine (union_any _ _ _ _ _ (HS0.out _ hbc) hset0).mono ?_
    rintro e wkb ⟨v1, rfl, hset, hbk⟩
    obtain ⟨m1, ao1, cap1, b1, o1, rfl, _⟩ := id hset
    replace hbc := bt hbc hbk
    clear hbk hset0
    go_wp2_with fail
    refine hK.out _ _ (by first | exact hbc.mono hle | exact hbc.drew.mono hle) (fun hHeld2 => ?_)
    clear hK K
    clear hHeld
    have hHeld := hHeld2
    clear hHeld2
    try simp only [Act.put, List.setIfInBounds_toArray, List.set_cons_zero, List.set_cons_succ]
    refine wpAnyH_ready (rs := [8]) (by kernel_rfl) (by simp) ?_
    refine AllReadyH.cons rfl (fun K hK => ?_) AllReadyH.nil
    go_simp
    refine (listed_any x.l xn HNN.out x.ao x.cap x.b x.o _ (HX0.out _ hbc) (by have := HLL.out; have := HNN.out; omega)).mono ?_
    rintro e wkc ⟨u0, rfl, hlis0, hbk⟩
    replace hset := hset.below hbk
    replace hbc := bt hbc hbk
    clear hbk
    go_wp2_with fail
    refine hK.out _ _ (by first | exact hbc.mono hle | exact hbc.drew.mono hle) (fun hHeld2 => ?_)
    clear hK K
    clear hHeld
    have hHeld := hHeld2
    clear hHeld2
    try simp only [Act.put, List.setIfInBounds_toArray, List.set_cons_zero, List.set_cons_succ]
    refine wpAnyH_ready (rs := [9]) (by kernel_rfl) (by simp) ?_
    refine AllReadyH.cons rfl (fun K hK => ?_) AllReadyH.nil
    go_simp
    refine (runion_any _ _ _ _ _ (HL0.out _ hbc) hlis0 (by have := HLL.out; omega)).mono ?_
    rintro e wkd ⟨u1, rfl, hlis, hbk⟩
    replace hset := hset.below hbk
    replace hbc := bt hbc hbk
    clear hbk
    go_wp2_with fail
    refine hK.out _ _ (by first | exact hbc.mono hle | exact hbc.drew.mono hle) (fun hHeld2 => ?_)
    clear hK K
    clear hHeld
    have hHeld := hHeld2
    clear hHeld2
    try simp only [Act.put, List.setIfInBounds_toArray, List.set_cons_zero, List.set_cons_succ]
    refine wpAnyH_ready (rs := [10]) (by kernel_rfl) (by simp) ?_
    refine AllReadyH.cons rfl (fun K hK => ?_) AllReadyH.nil
    obtain ⟨c6, f6⟩ := C6.out _ hbc
    go_simp
    refine hK.out _ _ ((hbc.mono hle).setCell (p := ⟨w.heap.size + 2, 0, none⟩) (Nat.le_refl _) _) (fun hHeld2 => ?_)
    clear hK K
    clear hHeld
    have hHeld := hHeld2
    clear hHeld2
    try simp only [Act.put, List.setIfInBounds_toArray, List.set_cons_zero, List.set_cons_succ]
    refine takeD (i := 11) (v := ?zvmb11) (some 7) rfl rfl (by kernel_rfl) (by kernel_rfl) (by kernel_rfl) (fun _ _ _ h => h) (Or.inl ⟨by rfl, ?zymb11⟩) (by assumption) ?zrmb11
    case zymb11 => (intro w hSw; clear hSw; go_simp; try with_reducible rfl)
    try simp only [Act.put, List.setIfInBounds_toArray, List.set_cons_zero, List.set_cons_succ]
    refine wpAnyH_done (by kernel_rfl) ?_ _
    go_wp2_with fail
    have hbw : Below w.heap.size w _ := (HB0.out.trans (hbc.mono (by omega))).setCell (p := ⟨w.heap.size + 2, 0, none⟩) (by simp) (.slice ao1 m1 cap1)
    have hmk := HMK.out
    simp only [if_true, if_false, reduceIte, show ¬ (3 : Int) = 2 by decide, show ¬ (4 : Int) = 2 by decide, show ¬ (4 : Int) = 3 by decide] at hmk
    exact bodyPost_ret (v := .tuple #[.agg #[.slice ao1 m1 cap1], u1]) (by simp [results, Try.results20, go_sem, c6]) rfl ⟨_, _, rfl, by rw [hmk.1]; exact set_other hset c6 (fun _ => by simp) _, by rw [hmk.2]; exact hlis.other c6 (fun _ => by simp) _, hbw⟩
    skip
  · subst h4
    go_enter Try.func20, Try.ntmps20
    go_wp2_with fail
    rw [← HW0.out]
    have hbc := bz W0
    refine wp_region_held_drew (S := (fun W => Below (w.heap.size + 2) W0 W)) (by kernel_rfl) (by first | exact hbc.mono hle | exact hbc.drew.mono hle) (fun hHeld => ?_)
    replace hbc := hbc.drew
    refine takeD (i := 0) (v := ?zvmc0) (some 35) rfl rfl (by kernel_rfl) (by kernel_rfl) (by kernel_rfl) (fun _ _ _ h => h) (Or.inl ⟨by rfl, ?zymc0⟩) (by assumption) ?zrmc0
    case zymc0 => (intro w hSw; have cL := C3.out w hSw; go_simp; try with_reducible rfl)
    try simp only [Act.put, List.setIfInBounds_toArray, List.set_cons_zero, List.set_cons_succ]
    refine takeD (i := 1) (v := ?zvmc1) (some 36) rfl rfl (by kernel_rfl) (by kernel_rfl) (by kernel_rfl) (fun _ _ _ h => h) (Or.inl ⟨by rfl, ?zymc1⟩) (by assumption) ?zrmc1
    case zymc1 => (intro w hSw; clear hSw; go_simp; try with_reducible rfl)
    try simp only [Act.put, List.setIfInBounds_toArray, List.set_cons_zero, List.set_cons_succ]
    refine takeD (i := 2) (v := ?zvmc2) (some 37) rfl rfl (by kernel_rfl) (by kernel_rfl) (by kernel_rfl) (fun _ _ _ h => h) (Or.inl ⟨by rfl, ?zymc2⟩) (by assumption) ?zrmc2
    case zymc2 => (intro w hSw; have cL := C51.out w hSw; go_simp; try with_reducible rfl)
    try simp only [Act.put, List.setIfInBounds_toArray, List.set_cons_zero, List.set_cons_succ]
    refine takeD (i := 4) (v := ?zvmc4) (some 39) rfl rfl (by kernel_rfl) (by kernel_rfl) (by kernel_rfl) (fun _ _ _ h => h) (Or.inl ⟨by rfl, ?zymc4⟩) (by assumption) ?zrmc4
    case zymc4 => (intro w hSw; clear hSw; go_simp; try with_reducible rfl)
    try simp only [Act.put, List.setIfInBounds_toArray, List.set_cons_zero, List.set_cons_succ]
    refine takeD (i := 5) (v := ?zvmc5) (some 40) rfl rfl (by kernel_rfl) (by kernel_rfl) (by kernel_rfl) (fun _ _ _ h => h) (Or.inl ⟨by rfl, ?zymc5⟩) (by assumption) ?zrmc5
    case zymc5 => (intro w hSw; clear hSw; go_simp; try with_reducible rfl)
    try simp only [Act.put, List.setIfInBounds_toArray, List.set_cons_zero, List.set_cons_succ]
    refine takeD (i := 6) (v := ?zvmc6) (some 41) rfl rfl (by kernel_rfl) (by kernel_rfl) (by kernel_rfl) (fun _ _ _ h => h) (Or.inl ⟨by rfl, ?zymc6⟩) (by assumption) ?zrmc6
    case zymc6 => (intro w hSw; have cL := C51.out w hSw; go_simp; try with_reducible rfl)
    try simp only [Act.put, List.setIfInBounds_toArray, List.set_cons_zero, List.set_cons_succ]
    refine wpAnyH_ready (rs := [3]) (by kernel_rfl) (by simp) ?_
    refine AllReadyH.cons rfl (fun K hK => ?_) AllReadyH.nil
    go_simp
    refine (down_any (by0 := x.n) (HS0.out _ hbc)).mono ?_
    rintro e wka ⟨v1, rfl, hset, hbk⟩
    obtain ⟨m1, ao1, cap1, b1, o1, rfl, _⟩ := id hset
    replace hbc := bt hbc hbk
    clear hbk
    go_wp2_with fail
    refine hK.out _ _ (by first | exact hbc.mono hle | exact hbc.drew.mono hle) (fun hHeld2 => ?_)
    clear hK K
    clear hHeld
    have hHeld := hHeld2
    clear hHeld2
    try simp only [Act.put, List.setIfInBounds_toArray, List.set_cons_zero, List.set_cons_succ]
    refine wpAnyH_ready (rs := [7]) (by kernel_rfl) (by simp) ?_
    refine AllReadyH.cons rfl (fun K hK => ?_) AllReadyH.nil
    go_simp
    refine (rdown_any _ _ x.n _ (HL0.out _ hbc) (by have := HLL.out; omega) HBD.out).mono ?_
    rintro e wkb ⟨u1, rfl, hlis, hbk⟩
    replace hset := hset.below hbk
    replace hbc := bt hbc hbk
    clear hbk
    go_wp2_with fail
    refine hK.out _ _ (by first | exact hbc.mono hle | exact hbc.drew.mono hle) (fun hHeld2 => ?_)
    clear hK K
    clear hHeld
    have hHeld := hHeld2
    clear hHeld2
    try simp only [Act.put, List.setIfInBounds_toArray, List.set_cons_zero, List.set_cons_succ]
    refine wpAnyH_ready (rs := [8]) (by kernel_rfl) (by simp) ?_
    refine AllReadyH.cons rfl (fun K hK => ?_) AllReadyH.nil
    obtain ⟨c6, f6⟩ := C6.out _ hbc
    go_simp
    refine hK.out _ _ ((hbc.mono hle).setCell (p := ⟨w.heap.size + 2, 0, none⟩) (Nat.le_refl _) _) (fun hHeld2 => ?_)
    clear hK K
    clear hHeld
    have hHeld := hHeld2
    clear hHeld2
    try simp only [Act.put, List.setIfInBounds_toArray, List.set_cons_zero, List.set_cons_succ]
    refine takeD (i := 9) (v := ?zvmc9) (some 7) rfl rfl (by kernel_rfl) (by kernel_rfl) (by kernel_rfl) (fun _ _ _ h => h) (Or.inl ⟨by rfl, ?zymc9⟩) (by assumption) ?zrmc9
    case zymc9 => (intro w hSw; clear hSw; go_simp; try with_reducible rfl)
    try simp only [Act.put, List.setIfInBounds_toArray, List.set_cons_zero, List.set_cons_succ]
    refine wpAnyH_done (by kernel_rfl) ?_ _
    go_wp2_with fail
    have hbw : Below w.heap.size w _ := (HB0.out.trans (hbc.mono (by omega))).setCell (p := ⟨w.heap.size + 2, 0, none⟩) (by simp) (.slice ao1 m1 cap1)
    have hmk := HMK.out
    simp only [if_true, if_false, reduceIte, show ¬ (3 : Int) = 2 by decide, show ¬ (4 : Int) = 2 by decide, show ¬ (4 : Int) = 3 by decide] at hmk
    exact bodyPost_ret (v := .tuple #[.agg #[.slice ao1 m1 cap1], u1]) (by simp [results, Try.results20, go_sem, c6]) rfl ⟨_, _, rfl, by rw [hmk.1]; exact set_other hset c6 (fun _ => by simp) _, by rw [hmk.2]; exact hlis.other c6 (fun _ => by simp) _, hbw⟩
    skip
  · have r2 : (R == 2) = false := by simpa using h2
    have r3 : (R == 3) = false := by simpa using h3
    have r4 : (R == 4) = false := by simpa using h4
    go_enter Try.func20, Try.ntmps20
    go_wp2_with fail
    rw [← HW0.out]
    have hbc := bz W0
    refine wp_region_held_drew (S := (fun W => Below (w.heap.size + 2) W0 W)) (by kernel_rfl) (by first | exact hbc.mono hle | exact hbc.drew.mono hle) (fun hHeld => ?_)
    replace hbc := hbc.drew
    refine takeD (i := 0) (v := ?zvmd0) (some 43) rfl rfl (by kernel_rfl) (by kernel_rfl) (by kernel_rfl) (fun _ _ _ h => h) (Or.inl ⟨by rfl, ?zymd0⟩) (by assumption) ?zrmd0
    case zymd0 => (intro w hSw; have cL := C3.out w hSw; go_simp; try with_reducible rfl)
    try simp only [Act.put, List.setIfInBounds_toArray, List.set_cons_zero, List.set_cons_succ]
    refine takeD (i := 1) (v := ?zvmd1) (some 44) rfl rfl (by kernel_rfl) (by kernel_rfl) (by kernel_rfl) (fun _ _ _ h => h) (Or.inl ⟨by rfl, ?zymd1⟩) (by assumption) ?zrmd1
    case zymd1 => (intro w hSw; clear hSw; go_simp; try with_reducible rfl)
    try simp only [Act.put, List.setIfInBounds_toArray, List.set_cons_zero, List.set_cons_succ]
    refine takeD (i := 2) (v := ?zvmd2) (some 45) rfl rfl (by kernel_rfl) (by kernel_rfl) (by kernel_rfl) (fun _ _ _ h => h) (Or.inl ⟨by rfl, ?zymd2⟩) (by assumption) ?zrmd2
    case zymd2 => (intro w hSw; have cL := C51.out w hSw; go_simp; try with_reducible rfl)
    try simp only [Act.put, List.setIfInBounds_toArray, List.set_cons_zero, List.set_cons_succ]
    refine takeD (i := 4) (v := ?zvmd4) (some 47) rfl rfl (by kernel_rfl) (by kernel_rfl) (by kernel_rfl) (fun _ _ _ h => h) (Or.inl ⟨by rfl, ?zymd4⟩) (by assumption) ?zrmd4
    case zymd4 => (intro w hSw; clear hSw; go_simp; try with_reducible rfl)
    try simp only [Act.put, List.setIfInBounds_toArray, List.set_cons_zero, List.set_cons_succ]
    refine takeD (i := 5) (v := ?zvmd5) (some 48) rfl rfl (by kernel_rfl) (by kernel_rfl) (by kernel_rfl) (fun _ _ _ h => h) (Or.inl ⟨by rfl, ?zymd5⟩) (by assumption) ?zrmd5
    case zymd5 => (intro w hSw; clear hSw; go_simp; try with_reducible rfl)
    try simp only [Act.put, List.setIfInBounds_toArray, List.set_cons_zero, List.set_cons_succ]
    refine takeD (i := 6) (v := ?zvmd6) (some 49) rfl rfl (by kernel_rfl) (by kernel_rfl) (by kernel_rfl) (fun _ _ _ h => h) (Or.inl ⟨by rfl, ?zymd6⟩) (by assumption) ?zrmd6
    case zymd6 => (intro w hSw; have cL := C51.out w hSw; go_simp; try with_reducible rfl)
    try simp only [Act.put, List.setIfInBounds_toArray, List.set_cons_zero, List.set_cons_succ]
    refine wpAnyH_ready (rs := [3]) (by kernel_rfl) (by simp) ?_
    refine AllReadyH.cons rfl (fun K hK => ?_) AllReadyH.nil
    go_simp
    refine (with_any _ _ x.n _ (HS0.out _ hbc)).mono ?_
    rintro e wka ⟨v1, rfl, hset, hbk⟩
    obtain ⟨m1, ao1, cap1, b1, o1, rfl, _⟩ := id hset
    replace hbc := bt hbc hbk
    clear hbk
    go_wp2_with fail
    refine hK.out _ _ (by first | exact hbc.mono hle | exact hbc.drew.mono hle) (fun hHeld2 => ?_)
    clear hK K
    clear hHeld
    have hHeld := hHeld2
    clear hHeld2
    try simp only [Act.put, List.setIfInBounds_toArray, List.set_cons_zero, List.set_cons_succ]
    refine wpAnyH_ready (rs := [7]) (by kernel_rfl) (by simp) ?_
    refine AllReadyH.cons rfl (fun K hK => ?_) AllReadyH.nil
    go_simp
    refine (rwith_any _ _ x.n _ (HL0.out _ hbc) (by have := HLL.out; omega)).mono ?_
    rintro e wkb ⟨u1, rfl, hlis, hbk⟩
    replace hset := hset.below hbk
    replace hbc := bt hbc hbk
    clear hbk
    go_wp2_with fail
    refine hK.out _ _ (by first | exact hbc.mono hle | exact hbc.drew.mono hle) (fun hHeld2 => ?_)
    clear hK K
    clear hHeld
    have hHeld := hHeld2
    clear hHeld2
    try simp only [Act.put, List.setIfInBounds_toArray, List.set_cons_zero, List.set_cons_succ]
    refine wpAnyH_ready (rs := [8]) (by kernel_rfl) (by simp) ?_
    refine AllReadyH.cons rfl (fun K hK => ?_) AllReadyH.nil
    obtain ⟨c6, f6⟩ := C6.out _ hbc
    go_simp
    refine hK.out _ _ ((hbc.mono hle).setCell (p := ⟨w.heap.size + 2, 0, none⟩) (Nat.le_refl _) _) (fun hHeld2 => ?_)
    clear hK K
    clear hHeld
    have hHeld := hHeld2
    clear hHeld2
    try simp only [Act.put, List.setIfInBounds_toArray, List.set_cons_zero, List.set_cons_succ]
    refine takeD (i := 9) (v := ?zvmd9) (some 7) rfl rfl (by kernel_rfl) (by kernel_rfl) (by kernel_rfl) (fun _ _ _ h => h) (Or.inl ⟨by rfl, ?zymd9⟩) (by assumption) ?zrmd9
    case zymd9 => (intro w hSw; clear hSw; go_simp; try with_reducible rfl)
    try simp only [Act.put, List.setIfInBounds_toArray, List.set_cons_zero, List.set_cons_succ]
    refine wpAnyH_done (by kernel_rfl) ?_ _
    go_wp2_with fail
    have hbw : Below w.heap.size w _ := (HB0.out.trans (hbc.mono (by omega))).setCell (p := ⟨w.heap.size + 2, 0, none⟩) (by simp) (.slice ao1 m1 cap1)
    have hmk := HMK.out
    simp only [h2, h3, h4, if_true, if_false, reduceIte, show ¬ (3 : Int) = 2 by decide, show ¬ (4 : Int) = 2 by decide, show ¬ (4 : Int) = 3 by decide] at hmk
    exact bodyPost_ret (v := .tuple #[.agg #[.slice ao1 m1 cap1], u1]) (by simp [results, Try.results20, go_sem, c6]) rfl ⟨_, _, rfl, by rw [hmk.1]; exact set_other hset c6 (fun _ => by simp) _, by rw [hmk.2]; exact hlis.other c6 (fun _ => by simp) _, hbw⟩
    skip
end Go.Proofs.Ytfjccgihdnemkaa
