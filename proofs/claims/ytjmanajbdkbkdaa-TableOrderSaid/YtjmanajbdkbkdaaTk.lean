/- TableOrder: the walk. -/
import Derived.Test.YtjmanajbdkbkdaaTr
import Derived.Deep.DeepCutAuto
import Derived.BigQuiet
namespace Go.Proofs.Ytjmanajbdkbkdaa
open Go.RowKit Go.Um
set_option linter.unusedSimpArgs false
set_option linter.unusedVariables false
set_option maxHeartbeats 4000000
set_option maxRecDepth 100000
structure ActC (w : World) (b o : Nat) (x : Ac) : Prop where
  c0 : w.cell? ⟨b, o, none⟩ = some (.int .u8 x.wh)
  c1 : w.cell? ⟨b, o + 1, none⟩ = some (.int .u8 x.cl)
  c2 : w.cell? ⟨b, o + 2, none⟩ = some (.int .u16 x.id)
  c3 : w.cell? ⟨b, o + 3, none⟩ = some (.int .u8 x.f)
  c4 : w.cell? ⟨b, o + 4, none⟩ = some (.int .u8 x.ob)
  c5 : w.cell? ⟨b, o + 5, none⟩ = some (.int .u8 x.ke)
  c6 : w.cell? ⟨b, o + 6, none⟩ = some (.int .u16 x.a)
  c7 : w.cell? ⟨b, o + 7, none⟩ = some (.int .u16 x.b)
  c8 : w.cell? ⟨b, o + 8, none⟩ = some (.int .u8 x.k)
  c9 : w.cell? ⟨b, o + 9, none⟩ = some (.int .u16 x.v)
  c10 : w.cell? ⟨b, o + 10, none⟩ = some (.int .i64 x.t)
theorem act_at {w : World} {l : List Ac} {ao : Option Addr} {n cap b o k : Nat} {x : Ac} (h : SlAt w 11 n (l.flatMap Ac.cells) ao cap b o) (hx : l[k]? = some x) : ActC w b (o + k * 11) x := by
  have g := fun j (hj : j < 11) u (hu : x.cells[j]? = some u) => h.cell (k * 11 + j) u ((cell_of Ac.eleven l k x hx j hj).trans hu)
  exact ⟨g 0 (by omega) _ rfl, g 1 (by omega) _ rfl, g 2 (by omega) _ rfl, g 3 (by omega) _ rfl, g 4 (by omega) _ rfl, g 5 (by omega) _ rfl, g 6 (by omega) _ rfl, g 7 (by omega) _ rfl, g 8 (by omega) _ rfl, g 9 (by omega) _ rfl, g 10 (by omega) _ rfl⟩
theorem ActC.below {w W : World} {b o : Nat} {x : Ac} (h : ActC w b o x) (hb : Below w.heap.size w W) : ActC W b o x :=
  ⟨cell_past hb h.c0, cell_past hb h.c1, cell_past hb h.c2, cell_past hb h.c3, cell_past hb h.c4, cell_past hb h.c5, cell_past hb h.c6, cell_past hb h.c7, cell_past hb h.c8, cell_past hb h.c9, cell_past hb h.c10⟩
theorem ActC.new (w : World) (n : Nat) (x : Ac) (hn : n = w.heap.size) : ActC (w.alloc (.cells #[.int .u8 x.wh, .int .u8 x.cl, .int .u16 x.id, .int .u8 x.f, .int .u8 x.ob, .int .u8 x.ke, .int .u16 x.a, .int .u16 x.b, .int .u8 x.k, .int .u16 x.v, .int .i64 x.t] 33)) n 0 x := by
  subst hn
  exact ⟨by simp [go_sem], by simp [go_sem], by simp [go_sem], by simp [go_sem], by simp [go_sem], by simp [go_sem], by simp [go_sem], by simp [go_sem], by simp [go_sem], by simp [go_sem], by simp [go_sem]⟩
theorem size33 : (Try.prog.info? 33).map (·.size) = some 11 := by kernel_rfl
theorem order_any (l : List Ac) (ao : Option Addr) (cap b o : Nat) (y0 y1 y2 y3 : Int) (w : World) (h : SlAt w 11 l.length (l.flatMap Ac.cells) ao cap b o) (hok : ∀ x ∈ l, x.ok) (z0 : in8 y0) (z1 : in8 y1) (z2 : in8 y2) (z3 : in8 y3) :
    Calls Try.prog 3 #[.slice ao l.length cap, .agg #[.int .u8 y0, .int .u8 y1, .int .u8 y2, .int .u8 y3]] w fun e w' => e = .returned (.bool true) ∧ Below w.heap.size w w' := by
  have hidx := h.idx (P := Try.prog) (t := 22) Try.underlying22 size33 (by decide)
  have HA := Lib.hid h
  have HOK := Lib.hid hok
  obtain ⟨n, hn⟩ : ∃ n, n = l.length := ⟨_, rfl⟩
  have HN := Lib.hid hn
  rw [← hn] at hidx ⊢
  obtain ⟨wb, hwb⟩ : ∃ wb, wb = w.alloc (.cells #[.int .u8 y0, .int .u8 y1, .int .u8 y2, .int .u8 y3] 23) := ⟨_, rfl⟩
  have HWB := Lib.hid hwb
  have HB0 := Lib.hid (show Below w.heap.size w wb by rw [hwb]; exact ba (bz w) _)
  have hmax : n ≤ maxLen := by rw [hn]; exact Nat.le_trans h.le h.max
  unfold maxLen at hmax
  clear h hok hn hwb
  by_cases hbig : 60 < n
  · have d1 : decide ((60 : Int) < (n : Int)) = true := by simp; omega
    go_enter Try.func3, Try.ntmps3
    go_wp2_with fail
    rw [← HWB.out]
    refine (works_any _).mono ?_
    rintro e w4 ⟨rfl, hb4⟩
    go_wp2
    go_ret
    exact ⟨rfl, HB0.out.trans (hb4.mono HB0.out.size)⟩
  have d1 : decide ((60 : Int) < (n : Int)) = false := by simp; omega
  have hn60 : n ≤ 60 := by omega
  clear hbig
  go_enter Try.func3, Try.ntmps3
  go_wp2_with fail
  rw [← HWB.out]
  refine (new_any wb.heap.size wb (Nat.le_refl _)).mono ?_
  rintro e w1 ⟨rfl, hT, hb1, hz1⟩
  obtain ⟨p, hp⟩ : ∃ p, p = wb.heap.size := ⟨_, rfl⟩
  have HI0 : Hid (OI wb w1 p 0 [] 0 0) := by subst hp; exact Lib.hid ⟨⟨_, hT⟩, hb1, Nat.le_refl _, RL.nil, Nat.le_refl _, by omega⟩
  rw [← hp]
  clear hT hb1 hz1 hp
  go_wp2_with fail
  go_loopw [6, 7] (fun t6 t7 wr => ∃ (i : Nat) (L : List Rw) (nx now : Int), i ≤ n ∧ t7 = .int .i64 i ∧ t6 = .int .i64 now ∧ Hid (OI wb wr p i L nx now)) (fun _ t7 _ => n - (intOf t7).toNat)
  case atStart => exact ⟨0, [], 0, 0, Nat.zero_le _, rfl, rfl, HI0⟩
  case round =>
    clear HI0
    obtain ⟨i, L, nx, now, hi, rfl, rfl, HI⟩ := hrel
    by_cases hlt : i < n
    · have i1 : (0 : Int) ≤ (i : Int) := by omega
      have i2 : (i : Int) < (n : Int) := by omega
      have i3 : decide ((i : Int) < (n : Int)) = true := decide_eq_true i2
      obtain ⟨x, hx⟩ : ∃ x, l[i]? = some x := ⟨_, List.getElem?_eq_getElem (by rw [← HN.out]; exact hlt)⟩
      have hxo := HOK.out x (List.mem_of_getElem? hx)
      obtain ⟨g0, g1, g2, g3, g4, g5, g6, g7, g8, g9, g10⟩ := act_at (HA.out.below (HB0.out.trans (HI.out.bel.mono HB0.out.size))) hx
      have hw8 := hxo.wh
      unfold in8 at hw8
      have hnow := HI.out.now
      have hnx0 := HI.out.rl.nx0
      obtain ⟨m9, hm9⟩ : ∃ m, m = x.wh.tmod 9 := ⟨_, rfl⟩
      have hm0 : 0 ≤ m9 ∧ m9 < 9 := by rw [hm9, Int.tmod_eq_emod_of_nonneg hw8.1]; omega
      have hm9' : x.wh.tmod 9 = m9 := hm9.symm
      have hwm : IntKind.u8.wrap m9 = m9 := by simp only [IntKind.wrap, IntKind.signed, IntKind.bits, Bool.false_and, Bool.false_eq_true, if_false]; omega
      obtain ⟨r, hr⟩ : ∃ r, r = bits .and .i64 x.t 3 := ⟨_, rfl⟩
      have hr0 : 0 ≤ r ∧ r ≤ 3 := by rw [hr]; exact and3 x.t
      have hr' : bits .and .i64 x.t 3 = r := hr.symm
      have HR0 := Lib.hid hr0
      have hw1 : IntKind.i64.wrap (now + 1) = now + 1 := IntWalk.i64_in _ (by omega)
      have hw2 : IntKind.i64.wrap (now + 1 + r) = now + 1 + r := IntWalk.i64_in _ (by omega)
      have HX := Lib.hid hx
      clear hx hxo hm9 hr hlt
      obtain ⟨wo, hwo⟩ : ∃ x, x = wr := ⟨_, rfl⟩
      subst hwo
      obtain ⟨pc, hpc⟩ : ∃ p, p = wo.heap.size := ⟨_, rfl⟩
      have HPC := Lib.hid hpc
      obtain ⟨wc, hwc⟩ : ∃ wc, wc = wo.alloc (.cells #[.int .u8 x.wh, .int .u8 x.cl, .int .u16 x.id, .int .u8 x.f, .int .u8 x.ob, .int .u8 x.ke, .int .u16 x.a, .int .u16 x.b, .int .u8 x.k, .int .u16 x.v, .int .i64 x.t] 33) := ⟨_, rfl⟩
      have HWC := Lib.hid hwc
      have hbc : Below wo.heap.size wo wc := by rw [hwc]; exact ba (bz wo) _
      have HIC := HI
      have HBC0 := Lib.hid hbc
      have HAC := Lib.hid (show ActC wc pc 0 x by rw [hwc]; exact ActC.new wo pc x hpc)
      clear hpc hwc hbc HI
      rcases (by omega : m9 = 3 ∨ m9 = 4 ∨ m9 = 5 ∨ (m9 ≠ 3 ∧ m9 ≠ 4 ∧ m9 ≠ 5)) with rfl | rfl | rfl | ⟨m3, m4, m5⟩
      · go_wp2_with fail
        rw [← HWC.out, ← HPC.out]
        refine (HIC.out.ret HBC0.out (by omega) x.id x.k x.v).mono ?_
        rintro e w3 ⟨E, rfl, ⟨L', nx', hO⟩, hcell⟩
        have q10 := hcell pc 10 _ (by rw [HPC.out]; exact Nat.le_refl _) HAC.out.c10
        have HO := Lib.hid (hO r HR0.out.1 HR0.out.2)
        clear hO hcell
        go_wp2_with fail
        go_roundw
        case rel => exact ⟨i + 1, L', nx', now + 1 + r, by omega, by go_num, rfl, HO⟩
        case measure => simp [intOf]; omega
      · go_wp2_with fail
        rw [← HWC.out, ← HPC.out]
        refine (HIC.out.ret HBC0.out (by omega) x.id x.k x.v).mono ?_
        rintro e w3 ⟨E, rfl, ⟨L', nx', hO⟩, hcell⟩
        have q10 := hcell pc 10 _ (by rw [HPC.out]; exact Nat.le_refl _) HAC.out.c10
        have HO := Lib.hid (hO r HR0.out.1 HR0.out.2)
        clear hO hcell
        go_wp2_with fail
        go_roundw
        case rel => exact ⟨i + 1, L', nx', now + 1 + r, by omega, by go_num, rfl, HO⟩
        case measure => simp [intOf]; omega
      · go_wp2_with fail
        rw [← HWC.out, ← HPC.out]
        refine (HIC.out.info HBC0.out (by omega) x.id).mono ?_
        rintro e w3 ⟨E, rfl, ⟨L', nx', hO⟩, hcell⟩
        have q10 := hcell pc 10 _ (by rw [HPC.out]; exact Nat.le_refl _) HAC.out.c10
        have HO := Lib.hid (hO r HR0.out.1 HR0.out.2)
        clear hO hcell
        go_wp2_with fail
        go_roundw
        case rel => exact ⟨i + 1, L', nx', now + 1 + r, by omega, by go_num, rfl, HO⟩
        case measure => simp [intOf]; omega
      · have e3 : (m9 == 3) = false := by simpa using m3
        have e4 : (m9 == 4) = false := by simpa using m4
        have e5 : (m9 == 5) = false := by simpa using m5
        go_wp2_with fail
        rw [← HWC.out, ← HPC.out]
        refine (HIC.out.invoke HBC0.out (by omega) x.cl x.id x.f x.ob x.ke x.a x.b).mono ?_
        rintro e w3 ⟨E, rfl, ⟨L', nx', hO⟩, hcell⟩
        have q10 := hcell pc 10 _ (by rw [HPC.out]; exact Nat.le_refl _) HAC.out.c10
        have HO := Lib.hid (hO r HR0.out.1 HR0.out.2)
        clear hO hcell
        go_wp2_with fail
        go_roundw
        case rel => exact ⟨i + 1, L', nx', now + 1 + r, by omega, by go_num, rfl, HO⟩
        case measure => simp [intOf]; omega
    · have i2 : ¬ (i : Int) < (n : Int) := by omega
      have i3 : decide ((i : Int) < (n : Int)) = false := decide_eq_false i2
      have hlen : L.length ≤ 60 := by have := HI.out.len; omega
      obtain ⟨vv, hT⟩ := HI.out.tab
      have HR := Lib.hid (rows_any hT (by omega))
      have HRL := Lib.hid HI.out.rl
      have HBR := Lib.hid HI.out.bel
      clear hT HI hlt
      obtain ⟨wo, hwo⟩ : ∃ x, x = wr := ⟨_, rfl⟩
      subst hwo
      go_wp2_with fail
      refine HR.out.mono ?_
      rintro e w2 ⟨v2, rfl, hown, hb2⟩
      have HB2 := Lib.hid (HB0.out.trans ((HBR.out.trans (hb2.mono HBR.out.size)).mono HB0.out.size))
      have HBB := Lib.hid (HBR.out.trans (hb2.mono HBR.out.size))
      clear hb2 HR HBR
      by_cases h0 : L.length = 0
      · obtain rfl : L = [] := List.eq_nil_of_length_eq_zero h0
        obtain ⟨ao2, cap2, b2, o2, rfl, hs2, _⟩ := SlAt.owned hown
        clear hown hs2
        go_wp2_with fail
        refine (works_any _).mono ?_
        rintro e w4 ⟨rfl, hb4⟩
        go_wp2
        go_ret
        exact ⟨rfl, HB2.out.trans (hb4.mono HB2.out.size)⟩
      obtain ⟨g, cap2, rfl, hs2, hg2⟩ := own_rows hown (by omega)
      have hidx2 := hs2.idx (P := Try.prog) (t := 38) (e := 41) (by kernel_rfl) size41 (by decide)
      simp only [Nat.zero_add] at hidx2
      have HS2 := Lib.hid hs2
      obtain ⟨m, hm⟩ : ∃ m, m = L.length := ⟨_, rfl⟩
      rw [← hm] at hidx2 h0 hlen ⊢
      have hm0 : 0 < m := by omega
      have HS2m : Hid (SlAt w2 12 m (L.flatMap Rw.cells) (some ⟨g, 0, none⟩) cap2 g 0) := Lib.hid (by rw [hm]; exact HS2.out)
      have HM := Lib.hid hm
      have k0 := cell_past HBB.out (show wb.cell? ⟨w.heap.size, 0, none⟩ = some (.int .u8 y0) by rw [HWB.out]; simp [go_sem])
      have k1 := cell_past HBB.out (show wb.cell? ⟨w.heap.size, 1, none⟩ = some (.int .u8 y1) by rw [HWB.out]; simp [go_sem])
      have k2 := cell_past HBB.out (show wb.cell? ⟨w.heap.size, 2, none⟩ = some (.int .u8 y2) by rw [HWB.out]; simp [go_sem])
      have k3 := cell_past HBB.out (show wb.cell? ⟨w.heap.size, 3, none⟩ = some (.int .u8 y3) by rw [HWB.out]; simp [go_sem])
      have hmz : ((m : Int) == 0) = false := by simp; omega
      have hpick : ∀ y : Int, in8 y → ∃ (X : Nat) (x : Rw), IntKind.i64.wrap y = y ∧ y.tmod (m : Int) = (X : Int) ∧ X < m ∧ L[X]? = some x ∧ x ∈ L := fun y hy => by
        unfold in8 at hy
        have h1 : y.tmod (m : Int) = ((y.toNat % m : Nat) : Int) := by
          rw [Int.tmod_eq_emod_of_nonneg hy.1, Int.natCast_emod, Int.toNat_of_nonneg hy.1]
        have h2 := Nat.mod_lt y.toNat hm0
        exact ⟨y.toNat % m, L[y.toNat % m]'(by rw [← hm]; exact h2), IntWalk.i64_in _ (by omega), h1, h2, List.getElem?_eq_getElem _, List.getElem_mem _⟩
      obtain ⟨X0, xa, e0, f0, l0, ha, ham⟩ := hpick y0 z0
      obtain ⟨X1, xb, e1, f1, l1, hb, hbm⟩ := hpick y1 z1
      obtain ⟨X2, xc, e2, f2, l2, hc, hcm⟩ := hpick y2 z2
      obtain ⟨X3, xd, e3, f3, l3, hd, hdm⟩ := hpick y3 z3
      have R0 := Lib.hid (show RowC w2 g (X0 * 12) xa by have := row_at hs2 ha; rwa [Nat.zero_add] at this)
      have R1 := Lib.hid (show RowC w2 g (X1 * 12) xb by have := row_at hs2 hb; rwa [Nat.zero_add] at this)
      have R2 := Lib.hid (show RowC w2 g (X2 * 12) xc by have := row_at hs2 hc; rwa [Nat.zero_add] at this)
      have R3 := Lib.hid (show RowC w2 g (X3 * 12) xd by have := row_at hs2 hd; rwa [Nat.zero_add] at this)
      have HMA := Lib.hid ham
      have HMB := Lib.hid hbm
      have HMC := Lib.hid hcm
      have HMD := Lib.hid hdm
      have u0 : (0 : Int) ≤ (X0 : Int) ∧ (X0 : Int) < (m : Int) := by omega
      have u1 : (0 : Int) ≤ (X1 : Int) ∧ (X1 : Int) < (m : Int) := by omega
      have u2 : (0 : Int) ≤ (X2 : Int) ∧ (X2 : Int) < (m : Int) := by omega
      have u3 : (0 : Int) ≤ (X3 : Int) ∧ (X3 : Int) < (m : Int) := by omega
      have hw1 : IntKind.i64.wrap (X0 : Int) = (X0 : Int) := IntWalk.i64_in _ (by omega)
      have hmm : ¬ (m : Int) = 0 := by omega
      clear hown hs2 hm ha hb hc hd ham hbm hcm hdm hpick hg2 l0 l1 l2 l3 z0 z1 z2 z3
      obtain ⟨u0a, u0b⟩ := u0
      obtain ⟨u1a, u1b⟩ := u1
      obtain ⟨u2a, u2b⟩ := u2
      obtain ⟨u3a, u3b⟩ := u3
      go_upto_region 21 with fail
      go_cut [11, 12, 13, 14] (fun t11 t12 t13 t14 wx => ∃ c11 c12 c13 c14 : Nat, t11 = .pointer (some ⟨c11, 0, none⟩) ∧ t12 = .pointer (some ⟨c12, 0, none⟩) ∧ t13 = .pointer (some ⟨c13, 0, none⟩) ∧ t14 = .pointer (some ⟨c14, 0, none⟩) ∧ Hid (Cut4 w2 xa xb xc xd c11 c12 c13 c14 wx))
      case first =>
        refine wp_region_held_drew (S := (fun W => Below w2.heap.size w2 W)) (by kernel_rfl) (by exact (bz w2).drew) (fun hHeld => ?_)
        refine takeD (i := 0) (v := ?zvpl0) (some 74) rfl rfl (by kernel_rfl) (by kernel_rfl) (by kernel_rfl) (fun _ _ _ h => h) (Or.inl ⟨by rfl, ?zypl0⟩) (by assumption) ?zrpl0
        case zypl0 => (intro w hSw; clear hSw; go_simp; try with_reducible rfl)
        try simp only [Act.put, List.setIfInBounds_toArray, List.set_cons_zero, List.set_cons_succ]
        refine takeD (i := 1) (v := ?zvpl1) (some 75) rfl rfl (by kernel_rfl) (by kernel_rfl) (by kernel_rfl) (fun _ _ _ h => h) (Or.inl ⟨by rfl, ?zypl1⟩) (by assumption) ?zrpl1
        case zypl1 => (intro w hSw; clear hSw; go_simp; try with_reducible rfl)
        try simp only [Act.put, List.setIfInBounds_toArray, List.set_cons_zero, List.set_cons_succ]
        refine takeD (i := 2) (v := ?zvpl2) (some 76) rfl rfl (by kernel_rfl) (by kernel_rfl) (by kernel_rfl) (fun _ _ _ h => h) (Or.inl ⟨by rfl, ?zypl2⟩) (by assumption) ?zrpl2
        case zypl2 => (intro w hSw; refine load_u8 (cell_past hSw k0) ?_; rfl)
        try simp only [Act.put, List.setIfInBounds_toArray, List.set_cons_zero, List.set_cons_succ]
        refine takeD (i := 3) (v := ?zvpl3) (some 77) rfl rfl (by kernel_rfl) (by kernel_rfl) (by kernel_rfl) (fun _ _ _ h => h) (Or.inl ⟨by rfl, ?zypl3⟩) (by assumption) ?zrpl3
        case zypl3 => (intro w hSw; clear hSw; go_simp; try with_reducible rfl)
        try simp only [Act.put, List.setIfInBounds_toArray, List.set_cons_zero, List.set_cons_succ]
        refine takeD (i := 4) (v := ?zvpl4) (some 78) rfl rfl (by kernel_rfl) (by kernel_rfl) (by kernel_rfl) (fun _ _ _ h => h) (Or.inl ⟨by rfl, ?zypl4⟩) (by assumption) ?zrpl4
        case zypl4 => (intro w hSw; clear hSw; go_simp; try with_reducible rfl)
        try simp only [Act.put, List.setIfInBounds_toArray, List.set_cons_zero, List.set_cons_succ]
        refine takeD (i := 5) (v := ?zvpl5) (some 79) rfl rfl (by kernel_rfl) (by kernel_rfl) (by kernel_rfl) (fun _ _ _ h => h) (Or.inl ⟨by rfl, ?zypl5⟩) (by assumption) ?zrpl5
        case zypl5 => (intro w hSw; clear hSw; go_simp; try with_reducible rfl)
        try simp only [Act.put, List.setIfInBounds_toArray, List.set_cons_zero, List.set_cons_succ]
        refine takeD (i := 6) (v := ?zvpl6) (some 80) rfl rfl (by kernel_rfl) (by kernel_rfl) (by kernel_rfl) (fun _ _ _ h => h) (Or.inl ⟨by rfl, ?zypl6⟩) (by assumption) ?zrpl6
        case zypl6 => (intro w hSw; refine idx_row (g := g) (n := m) (cap := cap2) hidx2 (k := X0) (by omega) ?_ ?_ <;> rfl)
        try simp only [Act.put, List.setIfInBounds_toArray, List.set_cons_zero, List.set_cons_succ]
        refine takeD (i := 7) (v := ?zvpl7) (some 81) rfl rfl (by kernel_rfl) (by kernel_rfl) (by kernel_rfl) (fun _ _ _ h => h) (Or.inl ⟨by rfl, ?zypl7⟩) (by assumption) ?zrpl7
        case zypl7 => (intro w hSw; refine load_row (R0.out.below hSw) ?_; rfl)
        try simp only [Act.put, List.setIfInBounds_toArray, List.set_cons_zero, List.set_cons_succ]
        refine takeD (i := 8) (v := ?zvpl8) (some 82) rfl rfl (by kernel_rfl) (by kernel_rfl) (by kernel_rfl) (fun _ _ _ h => h) (Or.inl ⟨by rfl, ?zypl8⟩) (by assumption) ?zrpl8
        case zypl8 => (intro w hSw; clear hSw; go_simp; try with_reducible rfl)
        try simp only [Act.put, List.setIfInBounds_toArray, List.set_cons_zero, List.set_cons_succ]
        refine takeD (i := 9) (v := ?zvpl9) (some 83) rfl rfl (by kernel_rfl) (by kernel_rfl) (by kernel_rfl) (fun _ _ _ h => h) (Or.inl ⟨by rfl, ?zypl9⟩) (by assumption) ?zrpl9
        case zypl9 => (intro w hSw; clear hSw; go_simp; try with_reducible rfl)
        try simp only [Act.put, List.setIfInBounds_toArray, List.set_cons_zero, List.set_cons_succ]
        refine takeD (i := 10) (v := ?zvpl10) (some 84) rfl rfl (by kernel_rfl) (by kernel_rfl) (by kernel_rfl) (fun _ _ _ h => h) (Or.inl ⟨by rfl, ?zypl10⟩) (by assumption) ?zrpl10
        case zypl10 => (intro w hSw; refine load_u8 (cell_past hSw k1) ?_; rfl)
        try simp only [Act.put, List.setIfInBounds_toArray, List.set_cons_zero, List.set_cons_succ]
        refine takeD (i := 11) (v := ?zvpl11) (some 85) rfl rfl (by kernel_rfl) (by kernel_rfl) (by kernel_rfl) (fun _ _ _ h => h) (Or.inl ⟨by rfl, ?zypl11⟩) (by assumption) ?zrpl11
        case zypl11 => (intro w hSw; clear hSw; go_simp; try with_reducible rfl)
        try simp only [Act.put, List.setIfInBounds_toArray, List.set_cons_zero, List.set_cons_succ]
        refine takeD (i := 12) (v := ?zvpl12) (some 86) rfl rfl (by kernel_rfl) (by kernel_rfl) (by kernel_rfl) (fun _ _ _ h => h) (Or.inl ⟨by rfl, ?zypl12⟩) (by assumption) ?zrpl12
        case zypl12 => (intro w hSw; clear hSw; go_simp; try with_reducible rfl)
        try simp only [Act.put, List.setIfInBounds_toArray, List.set_cons_zero, List.set_cons_succ]
        refine takeD (i := 13) (v := ?zvpl13) (some 87) rfl rfl (by kernel_rfl) (by kernel_rfl) (by kernel_rfl) (fun _ _ _ h => h) (Or.inl ⟨by rfl, ?zypl13⟩) (by assumption) ?zrpl13
        case zypl13 => (intro w hSw; clear hSw; go_simp; try with_reducible rfl)
        try simp only [Act.put, List.setIfInBounds_toArray, List.set_cons_zero, List.set_cons_succ]
        refine takeD (i := 14) (v := ?zvpl14) (some 88) rfl rfl (by kernel_rfl) (by kernel_rfl) (by kernel_rfl) (fun _ _ _ h => h) (Or.inl ⟨by rfl, ?zypl14⟩) (by assumption) ?zrpl14
        case zypl14 => (intro w hSw; refine idx_row (g := g) (n := m) (cap := cap2) hidx2 (k := X1) (by omega) ?_ ?_ <;> rfl)
        try simp only [Act.put, List.setIfInBounds_toArray, List.set_cons_zero, List.set_cons_succ]
        refine takeD (i := 15) (v := ?zvpl15) (some 89) rfl rfl (by kernel_rfl) (by kernel_rfl) (by kernel_rfl) (fun _ _ _ h => h) (Or.inl ⟨by rfl, ?zypl15⟩) (by assumption) ?zrpl15
        case zypl15 => (intro w hSw; refine load_row (R1.out.below hSw) ?_; rfl)
        try simp only [Act.put, List.setIfInBounds_toArray, List.set_cons_zero, List.set_cons_succ]
        refine takeD (i := 16) (v := ?zvpl16) (some 90) rfl rfl (by kernel_rfl) (by kernel_rfl) (by kernel_rfl) (fun _ _ _ h => h) (Or.inl ⟨by rfl, ?zypl16⟩) (by assumption) ?zrpl16
        case zypl16 => (intro w hSw; clear hSw; go_simp; try with_reducible rfl)
        try simp only [Act.put, List.setIfInBounds_toArray, List.set_cons_zero, List.set_cons_succ]
        refine takeD (i := 17) (v := ?zvpl17) (some 91) rfl rfl (by kernel_rfl) (by kernel_rfl) (by kernel_rfl) (fun _ _ _ h => h) (Or.inl ⟨by rfl, ?zypl17⟩) (by assumption) ?zrpl17
        case zypl17 => (intro w hSw; clear hSw; go_simp; try with_reducible rfl)
        try simp only [Act.put, List.setIfInBounds_toArray, List.set_cons_zero, List.set_cons_succ]
        refine takeD (i := 18) (v := ?zvpl18) (some 92) rfl rfl (by kernel_rfl) (by kernel_rfl) (by kernel_rfl) (fun _ _ _ h => h) (Or.inl ⟨by rfl, ?zypl18⟩) (by assumption) ?zrpl18
        case zypl18 => (intro w hSw; refine load_u8 (cell_past hSw k2) ?_; rfl)
        try simp only [Act.put, List.setIfInBounds_toArray, List.set_cons_zero, List.set_cons_succ]
        refine takeD (i := 19) (v := ?zvpl19) (some 93) rfl rfl (by kernel_rfl) (by kernel_rfl) (by kernel_rfl) (fun _ _ _ h => h) (Or.inl ⟨by rfl, ?zypl19⟩) (by assumption) ?zrpl19
        case zypl19 => (intro w hSw; clear hSw; go_simp; try with_reducible rfl)
        try simp only [Act.put, List.setIfInBounds_toArray, List.set_cons_zero, List.set_cons_succ]
        refine takeD (i := 20) (v := ?zvpl20) (some 94) rfl rfl (by kernel_rfl) (by kernel_rfl) (by kernel_rfl) (fun _ _ _ h => h) (Or.inl ⟨by rfl, ?zypl20⟩) (by assumption) ?zrpl20
        case zypl20 => (intro w hSw; clear hSw; go_simp; try with_reducible rfl)
        try simp only [Act.put, List.setIfInBounds_toArray, List.set_cons_zero, List.set_cons_succ]
        refine takeD (i := 21) (v := ?zvpl21) (some 95) rfl rfl (by kernel_rfl) (by kernel_rfl) (by kernel_rfl) (fun _ _ _ h => h) (Or.inl ⟨by rfl, ?zypl21⟩) (by assumption) ?zrpl21
        case zypl21 => (intro w hSw; clear hSw; go_simp; try with_reducible rfl)
        try simp only [Act.put, List.setIfInBounds_toArray, List.set_cons_zero, List.set_cons_succ]
        refine takeD (i := 22) (v := ?zvpl22) (some 96) rfl rfl (by kernel_rfl) (by kernel_rfl) (by kernel_rfl) (fun _ _ _ h => h) (Or.inl ⟨by rfl, ?zypl22⟩) (by assumption) ?zrpl22
        case zypl22 => (intro w hSw; refine idx_row (g := g) (n := m) (cap := cap2) hidx2 (k := X2) (by omega) ?_ ?_ <;> rfl)
        try simp only [Act.put, List.setIfInBounds_toArray, List.set_cons_zero, List.set_cons_succ]
        refine takeD (i := 23) (v := ?zvpl23) (some 97) rfl rfl (by kernel_rfl) (by kernel_rfl) (by kernel_rfl) (fun _ _ _ h => h) (Or.inl ⟨by rfl, ?zypl23⟩) (by assumption) ?zrpl23
        case zypl23 => (intro w hSw; refine load_row (R2.out.below hSw) ?_; rfl)
        try simp only [Act.put, List.setIfInBounds_toArray, List.set_cons_zero, List.set_cons_succ]
        refine takeD (i := 24) (v := ?zvpl24) (some 98) rfl rfl (by kernel_rfl) (by kernel_rfl) (by kernel_rfl) (fun _ _ _ h => h) (Or.inl ⟨by rfl, ?zypl24⟩) (by assumption) ?zrpl24
        case zypl24 => (intro w hSw; clear hSw; go_simp; try with_reducible rfl)
        try simp only [Act.put, List.setIfInBounds_toArray, List.set_cons_zero, List.set_cons_succ]
        refine takeD (i := 25) (v := ?zvpl25) (some 99) rfl rfl (by kernel_rfl) (by kernel_rfl) (by kernel_rfl) (fun _ _ _ h => h) (Or.inl ⟨by rfl, ?zypl25⟩) (by assumption) ?zrpl25
        case zypl25 => (intro w hSw; clear hSw; go_simp; try with_reducible rfl)
        try simp only [Act.put, List.setIfInBounds_toArray, List.set_cons_zero, List.set_cons_succ]
        refine takeD (i := 26) (v := ?zvpl26) (some 100) rfl rfl (by kernel_rfl) (by kernel_rfl) (by kernel_rfl) (fun _ _ _ h => h) (Or.inl ⟨by rfl, ?zypl26⟩) (by assumption) ?zrpl26
        case zypl26 => (intro w hSw; refine load_u8 (cell_past hSw k3) ?_; rfl)
        try simp only [Act.put, List.setIfInBounds_toArray, List.set_cons_zero, List.set_cons_succ]
        refine takeD (i := 27) (v := ?zvpl27) (some 101) rfl rfl (by kernel_rfl) (by kernel_rfl) (by kernel_rfl) (fun _ _ _ h => h) (Or.inl ⟨by rfl, ?zypl27⟩) (by assumption) ?zrpl27
        case zypl27 => (intro w hSw; clear hSw; go_simp; try with_reducible rfl)
        try simp only [Act.put, List.setIfInBounds_toArray, List.set_cons_zero, List.set_cons_succ]
        refine takeD (i := 28) (v := ?zvpl28) (some 102) rfl rfl (by kernel_rfl) (by kernel_rfl) (by kernel_rfl) (fun _ _ _ h => h) (Or.inl ⟨by rfl, ?zypl28⟩) (by assumption) ?zrpl28
        case zypl28 => (intro w hSw; clear hSw; go_simp; try with_reducible rfl)
        try simp only [Act.put, List.setIfInBounds_toArray, List.set_cons_zero, List.set_cons_succ]
        refine takeD (i := 29) (v := ?zvpl29) (some 103) rfl rfl (by kernel_rfl) (by kernel_rfl) (by kernel_rfl) (fun _ _ _ h => h) (Or.inl ⟨by rfl, ?zypl29⟩) (by assumption) ?zrpl29
        case zypl29 => (intro w hSw; clear hSw; go_simp; try with_reducible rfl)
        try simp only [Act.put, List.setIfInBounds_toArray, List.set_cons_zero, List.set_cons_succ]
        refine takeD (i := 30) (v := ?zvpl30) (some 104) rfl rfl (by kernel_rfl) (by kernel_rfl) (by kernel_rfl) (fun _ _ _ h => h) (Or.inl ⟨by rfl, ?zypl30⟩) (by assumption) ?zrpl30
        case zypl30 => (intro w hSw; refine idx_row (g := g) (n := m) (cap := cap2) hidx2 (k := X3) (by omega) ?_ ?_ <;> rfl)
        try simp only [Act.put, List.setIfInBounds_toArray, List.set_cons_zero, List.set_cons_succ]
        refine takeD (i := 31) (v := ?zvpl31) (some 105) rfl rfl (by kernel_rfl) (by kernel_rfl) (by kernel_rfl) (fun _ _ _ h => h) (Or.inl ⟨by rfl, ?zypl31⟩) (by assumption) ?zrpl31
        case zypl31 => (intro w hSw; refine load_row (R3.out.below hSw) ?_; rfl)
        try simp only [Act.put, List.setIfInBounds_toArray, List.set_cons_zero, List.set_cons_succ]
        generalize w2.drew = W0 at *
        refine' cutL (p := _) (fun LEAF => ?tree) ?leaf
        case tree =>
          refine wpAnyH_ready (rs := [32, 33, 34, 35]) (by kernel_rfl) (by simp) ?_
          refine AllReadyH.cons rfl (fun K hK => ?t1n32) (AllReadyH.cons rfl (fun K hK => ?t1n33) (AllReadyH.cons rfl (fun K hK => ?t1n34) (AllReadyH.cons rfl (fun K hK => ?t1n35) AllReadyH.nil)))
          case t1n32 =>
            go_simp
            obtain ⟨c11, hc11⟩ : ∃ c, c = W0.heap.size := ⟨_, rfl⟩
            have hge11 : w2.heap.size ≤ c11 := by rw [hc11]; exact hHeld.size
            refine hK.out _ _ (by exact ba hHeld _) (fun hHeld2 => ?_)
            clear hK K
            have hHeld := hHeld2
            clear hHeld2
            try simp only [Act.put, List.setIfInBounds_toArray, List.set_cons_zero, List.set_cons_succ]
            have z11 : RowF (W0.alloc (.cells #[.int .u8 0, .int .u16 0, .int .u8 0, .int .u8 0, .int .u8 0, .int .u16 0, .int .u16 0, .int .u8 0, .int .u16 0, .int .u8 0, .int .i64 0, .int .i64 0] 41)) c11 Rw.zero := by rw [hc11]; exact RowF.new W0
            rw [← hc11]
            generalize (W0.alloc (.cells #[.int .u8 0, .int .u16 0, .int .u8 0, .int .u8 0, .int .u8 0, .int .u16 0, .int .u16 0, .int .u8 0, .int .u16 0, .int .u8 0, .int .i64 0, .int .i64 0] 41)) = W1 at *
            clear hc11
            refine wpAnyH_ready (rs := [33, 34, 35]) (by kernel_rfl) (by simp) ?_
            refine AllReadyH.cons rfl (fun K hK => ?t2n33) (AllReadyH.cons rfl (fun K hK => ?t2n34) (AllReadyH.cons rfl (fun K hK => ?t2n35) AllReadyH.nil))
            case t2n33 =>
              go_simp
              obtain ⟨c12, hc12⟩ : ∃ c, c = W1.heap.size := ⟨_, rfl⟩
              have hge12 : w2.heap.size ≤ c12 := by rw [hc12]; exact hHeld.size
              refine hK.out _ _ (by exact ba hHeld _) (fun hHeld2 => ?_)
              clear hK K
              have hHeld := hHeld2
              clear hHeld2
              try simp only [Act.put, List.setIfInBounds_toArray, List.set_cons_zero, List.set_cons_succ]
              have z12 : RowF (W1.alloc (.cells #[.int .u8 0, .int .u16 0, .int .u8 0, .int .u8 0, .int .u8 0, .int .u16 0, .int .u16 0, .int .u8 0, .int .u16 0, .int .u8 0, .int .i64 0, .int .i64 0] 41)) c12 Rw.zero := by rw [hc12]; exact RowF.new W1
              have hne11_12 : c11 ≠ c12 := by have := World.block_lt_of_cell? _ _ z11.row.c0; simp only at this; omega
              have hne12_11 : c12 ≠ c11 := fun e => hne11_12 e.symm
              replace z11 := z11.below (ba (bz W1) (.cells #[.int .u8 0, .int .u16 0, .int .u8 0, .int .u8 0, .int .u8 0, .int .u16 0, .int .u16 0, .int .u8 0, .int .u16 0, .int .u8 0, .int .i64 0, .int .i64 0] 41))
              rw [← hc12]
              generalize (W1.alloc (.cells #[.int .u8 0, .int .u16 0, .int .u8 0, .int .u8 0, .int .u8 0, .int .u16 0, .int .u16 0, .int .u8 0, .int .u16 0, .int .u8 0, .int .i64 0, .int .i64 0] 41)) = W2 at *
              clear hc12
              refine wpAnyH_ready (rs := [34, 35]) (by kernel_rfl) (by simp) ?_
              refine AllReadyH.cons rfl (fun K hK => ?t3n34) (AllReadyH.cons rfl (fun K hK => ?t3n35) AllReadyH.nil)
              case t3n34 =>
                go_simp
                obtain ⟨c13, hc13⟩ : ∃ c, c = W2.heap.size := ⟨_, rfl⟩
                have hge13 : w2.heap.size ≤ c13 := by rw [hc13]; exact hHeld.size
                refine hK.out _ _ (by exact ba hHeld _) (fun hHeld2 => ?_)
                clear hK K
                have hHeld := hHeld2
                clear hHeld2
                try simp only [Act.put, List.setIfInBounds_toArray, List.set_cons_zero, List.set_cons_succ]
                have z13 : RowF (W2.alloc (.cells #[.int .u8 0, .int .u16 0, .int .u8 0, .int .u8 0, .int .u8 0, .int .u16 0, .int .u16 0, .int .u8 0, .int .u16 0, .int .u8 0, .int .i64 0, .int .i64 0] 41)) c13 Rw.zero := by rw [hc13]; exact RowF.new W2
                have hne11_13 : c11 ≠ c13 := by have := World.block_lt_of_cell? _ _ z11.row.c0; simp only at this; omega
                have hne13_11 : c13 ≠ c11 := fun e => hne11_13 e.symm
                replace z11 := z11.below (ba (bz W2) (.cells #[.int .u8 0, .int .u16 0, .int .u8 0, .int .u8 0, .int .u8 0, .int .u16 0, .int .u16 0, .int .u8 0, .int .u16 0, .int .u8 0, .int .i64 0, .int .i64 0] 41))
                have hne12_13 : c12 ≠ c13 := by have := World.block_lt_of_cell? _ _ z12.row.c0; simp only at this; omega
                have hne13_12 : c13 ≠ c12 := fun e => hne12_13 e.symm
                replace z12 := z12.below (ba (bz W2) (.cells #[.int .u8 0, .int .u16 0, .int .u8 0, .int .u8 0, .int .u8 0, .int .u16 0, .int .u16 0, .int .u8 0, .int .u16 0, .int .u8 0, .int .i64 0, .int .i64 0] 41))
                rw [← hc13]
                generalize (W2.alloc (.cells #[.int .u8 0, .int .u16 0, .int .u8 0, .int .u8 0, .int .u8 0, .int .u16 0, .int .u16 0, .int .u8 0, .int .u16 0, .int .u8 0, .int .i64 0, .int .i64 0] 41)) = W3 at *
                clear hc13
                refine wpAnyH_ready (rs := [35]) (by kernel_rfl) (by simp) ?_
                refine AllReadyH.cons rfl (fun K hK => ?_) AllReadyH.nil
                go_simp
                obtain ⟨c14, hc14⟩ : ∃ c, c = W3.heap.size := ⟨_, rfl⟩
                have hge14 : w2.heap.size ≤ c14 := by rw [hc14]; exact hHeld.size
                refine hK.out _ _ (by exact ba hHeld _) (fun hHeld2 => ?_)
                clear hK K
                have hHeld := hHeld2
                clear hHeld2
                try simp only [Act.put, List.setIfInBounds_toArray, List.set_cons_zero, List.set_cons_succ]
                have z14 : RowF (W3.alloc (.cells #[.int .u8 0, .int .u16 0, .int .u8 0, .int .u8 0, .int .u8 0, .int .u16 0, .int .u16 0, .int .u8 0, .int .u16 0, .int .u8 0, .int .i64 0, .int .i64 0] 41)) c14 Rw.zero := by rw [hc14]; exact RowF.new W3
                have hne11_14 : c11 ≠ c14 := by have := World.block_lt_of_cell? _ _ z11.row.c0; simp only at this; omega
                have hne14_11 : c14 ≠ c11 := fun e => hne11_14 e.symm
                replace z11 := z11.below (ba (bz W3) (.cells #[.int .u8 0, .int .u16 0, .int .u8 0, .int .u8 0, .int .u8 0, .int .u16 0, .int .u16 0, .int .u8 0, .int .u16 0, .int .u8 0, .int .i64 0, .int .i64 0] 41))
                have hne12_14 : c12 ≠ c14 := by have := World.block_lt_of_cell? _ _ z12.row.c0; simp only at this; omega
                have hne14_12 : c14 ≠ c12 := fun e => hne12_14 e.symm
                replace z12 := z12.below (ba (bz W3) (.cells #[.int .u8 0, .int .u16 0, .int .u8 0, .int .u8 0, .int .u8 0, .int .u16 0, .int .u16 0, .int .u8 0, .int .u16 0, .int .u8 0, .int .i64 0, .int .i64 0] 41))
                have hne13_14 : c13 ≠ c14 := by have := World.block_lt_of_cell? _ _ z13.row.c0; simp only at this; omega
                have hne14_13 : c14 ≠ c13 := fun e => hne13_14 e.symm
                replace z13 := z13.below (ba (bz W3) (.cells #[.int .u8 0, .int .u16 0, .int .u8 0, .int .u8 0, .int .u8 0, .int .u16 0, .int .u16 0, .int .u8 0, .int .u16 0, .int .u8 0, .int .i64 0, .int .i64 0] 41))
                rw [← hc14]
                generalize (W3.alloc (.cells #[.int .u8 0, .int .u16 0, .int .u8 0, .int .u8 0, .int .u8 0, .int .u16 0, .int .u16 0, .int .u8 0, .int .u16 0, .int .u8 0, .int .i64 0, .int .i64 0] 41)) = W4 at *
                clear hc14
                have hL : Leaf4 w2 W4 c11 c12 c13 c14 := ⟨hHeld, z11, z12, z13, z14, hge11, hge12, hge13, hge14, hne11_12, hne11_13, hne11_14, hne12_13, hne12_14, hne13_14⟩
                clear hHeld z11 z12 z13 z14 hge11 hge12 hge13 hge14 hne11_12 hne11_13 hne11_14 hne12_11 hne12_13 hne12_14 hne13_11 hne13_12 hne13_14 hne14_11 hne14_12 hne14_13
                revert hL
                revert c14
                revert c13
                revert c12
                revert c11
                revert W4
                exact LEAF
              case t3n35 =>
                go_simp
                obtain ⟨c14, hc14⟩ : ∃ c, c = W2.heap.size := ⟨_, rfl⟩
                have hge14 : w2.heap.size ≤ c14 := by rw [hc14]; exact hHeld.size
                refine hK.out _ _ (by exact ba hHeld _) (fun hHeld2 => ?_)
                clear hK K
                have hHeld := hHeld2
                clear hHeld2
                try simp only [Act.put, List.setIfInBounds_toArray, List.set_cons_zero, List.set_cons_succ]
                have z14 : RowF (W2.alloc (.cells #[.int .u8 0, .int .u16 0, .int .u8 0, .int .u8 0, .int .u8 0, .int .u16 0, .int .u16 0, .int .u8 0, .int .u16 0, .int .u8 0, .int .i64 0, .int .i64 0] 41)) c14 Rw.zero := by rw [hc14]; exact RowF.new W2
                have hne11_14 : c11 ≠ c14 := by have := World.block_lt_of_cell? _ _ z11.row.c0; simp only at this; omega
                have hne14_11 : c14 ≠ c11 := fun e => hne11_14 e.symm
                replace z11 := z11.below (ba (bz W2) (.cells #[.int .u8 0, .int .u16 0, .int .u8 0, .int .u8 0, .int .u8 0, .int .u16 0, .int .u16 0, .int .u8 0, .int .u16 0, .int .u8 0, .int .i64 0, .int .i64 0] 41))
                have hne12_14 : c12 ≠ c14 := by have := World.block_lt_of_cell? _ _ z12.row.c0; simp only at this; omega
                have hne14_12 : c14 ≠ c12 := fun e => hne12_14 e.symm
                replace z12 := z12.below (ba (bz W2) (.cells #[.int .u8 0, .int .u16 0, .int .u8 0, .int .u8 0, .int .u8 0, .int .u16 0, .int .u16 0, .int .u8 0, .int .u16 0, .int .u8 0, .int .i64 0, .int .i64 0] 41))
                rw [← hc14]
                generalize (W2.alloc (.cells #[.int .u8 0, .int .u16 0, .int .u8 0, .int .u8 0, .int .u8 0, .int .u16 0, .int .u16 0, .int .u8 0, .int .u16 0, .int .u8 0, .int .i64 0, .int .i64 0] 41)) = W3 at *
                clear hc14
                refine wpAnyH_ready (rs := [34]) (by kernel_rfl) (by simp) ?_
                refine AllReadyH.cons rfl (fun K hK => ?_) AllReadyH.nil
                go_simp
                obtain ⟨c13, hc13⟩ : ∃ c, c = W3.heap.size := ⟨_, rfl⟩
                have hge13 : w2.heap.size ≤ c13 := by rw [hc13]; exact hHeld.size
                refine hK.out _ _ (by exact ba hHeld _) (fun hHeld2 => ?_)
                clear hK K
                have hHeld := hHeld2
                clear hHeld2
                try simp only [Act.put, List.setIfInBounds_toArray, List.set_cons_zero, List.set_cons_succ]
                have z13 : RowF (W3.alloc (.cells #[.int .u8 0, .int .u16 0, .int .u8 0, .int .u8 0, .int .u8 0, .int .u16 0, .int .u16 0, .int .u8 0, .int .u16 0, .int .u8 0, .int .i64 0, .int .i64 0] 41)) c13 Rw.zero := by rw [hc13]; exact RowF.new W3
                have hne11_13 : c11 ≠ c13 := by have := World.block_lt_of_cell? _ _ z11.row.c0; simp only at this; omega
                have hne13_11 : c13 ≠ c11 := fun e => hne11_13 e.symm
                replace z11 := z11.below (ba (bz W3) (.cells #[.int .u8 0, .int .u16 0, .int .u8 0, .int .u8 0, .int .u8 0, .int .u16 0, .int .u16 0, .int .u8 0, .int .u16 0, .int .u8 0, .int .i64 0, .int .i64 0] 41))
                have hne12_13 : c12 ≠ c13 := by have := World.block_lt_of_cell? _ _ z12.row.c0; simp only at this; omega
                have hne13_12 : c13 ≠ c12 := fun e => hne12_13 e.symm
                replace z12 := z12.below (ba (bz W3) (.cells #[.int .u8 0, .int .u16 0, .int .u8 0, .int .u8 0, .int .u8 0, .int .u16 0, .int .u16 0, .int .u8 0, .int .u16 0, .int .u8 0, .int .i64 0, .int .i64 0] 41))
                have hne14_13 : c14 ≠ c13 := by have := World.block_lt_of_cell? _ _ z14.row.c0; simp only at this; omega
                have hne13_14 : c13 ≠ c14 := fun e => hne14_13 e.symm
                replace z14 := z14.below (ba (bz W3) (.cells #[.int .u8 0, .int .u16 0, .int .u8 0, .int .u8 0, .int .u8 0, .int .u16 0, .int .u16 0, .int .u8 0, .int .u16 0, .int .u8 0, .int .i64 0, .int .i64 0] 41))
                rw [← hc13]
                generalize (W3.alloc (.cells #[.int .u8 0, .int .u16 0, .int .u8 0, .int .u8 0, .int .u8 0, .int .u16 0, .int .u16 0, .int .u8 0, .int .u16 0, .int .u8 0, .int .i64 0, .int .i64 0] 41)) = W4 at *
                clear hc13
                have hL : Leaf4 w2 W4 c11 c12 c13 c14 := ⟨hHeld, z11, z12, z13, z14, hge11, hge12, hge13, hge14, hne11_12, hne11_13, hne11_14, hne12_13, hne12_14, hne13_14⟩
                clear hHeld z11 z12 z13 z14 hge11 hge12 hge13 hge14 hne11_12 hne11_13 hne11_14 hne12_11 hne12_13 hne12_14 hne13_11 hne13_12 hne13_14 hne14_11 hne14_12 hne14_13
                revert hL
                revert c14
                revert c13
                revert c12
                revert c11
                revert W4
                exact LEAF
            case t2n34 =>
              go_simp
              obtain ⟨c13, hc13⟩ : ∃ c, c = W1.heap.size := ⟨_, rfl⟩
              have hge13 : w2.heap.size ≤ c13 := by rw [hc13]; exact hHeld.size
              refine hK.out _ _ (by exact ba hHeld _) (fun hHeld2 => ?_)
              clear hK K
              have hHeld := hHeld2
              clear hHeld2
              try simp only [Act.put, List.setIfInBounds_toArray, List.set_cons_zero, List.set_cons_succ]
              have z13 : RowF (W1.alloc (.cells #[.int .u8 0, .int .u16 0, .int .u8 0, .int .u8 0, .int .u8 0, .int .u16 0, .int .u16 0, .int .u8 0, .int .u16 0, .int .u8 0, .int .i64 0, .int .i64 0] 41)) c13 Rw.zero := by rw [hc13]; exact RowF.new W1
              have hne11_13 : c11 ≠ c13 := by have := World.block_lt_of_cell? _ _ z11.row.c0; simp only at this; omega
              have hne13_11 : c13 ≠ c11 := fun e => hne11_13 e.symm
              replace z11 := z11.below (ba (bz W1) (.cells #[.int .u8 0, .int .u16 0, .int .u8 0, .int .u8 0, .int .u8 0, .int .u16 0, .int .u16 0, .int .u8 0, .int .u16 0, .int .u8 0, .int .i64 0, .int .i64 0] 41))
              rw [← hc13]
              generalize (W1.alloc (.cells #[.int .u8 0, .int .u16 0, .int .u8 0, .int .u8 0, .int .u8 0, .int .u16 0, .int .u16 0, .int .u8 0, .int .u16 0, .int .u8 0, .int .i64 0, .int .i64 0] 41)) = W2 at *
              clear hc13
              refine wpAnyH_ready (rs := [33, 35]) (by kernel_rfl) (by simp) ?_
              refine AllReadyH.cons rfl (fun K hK => ?t4n33) (AllReadyH.cons rfl (fun K hK => ?t4n35) AllReadyH.nil)
              case t4n33 =>
                go_simp
                obtain ⟨c12, hc12⟩ : ∃ c, c = W2.heap.size := ⟨_, rfl⟩
                have hge12 : w2.heap.size ≤ c12 := by rw [hc12]; exact hHeld.size
                refine hK.out _ _ (by exact ba hHeld _) (fun hHeld2 => ?_)
                clear hK K
                have hHeld := hHeld2
                clear hHeld2
                try simp only [Act.put, List.setIfInBounds_toArray, List.set_cons_zero, List.set_cons_succ]
                have z12 : RowF (W2.alloc (.cells #[.int .u8 0, .int .u16 0, .int .u8 0, .int .u8 0, .int .u8 0, .int .u16 0, .int .u16 0, .int .u8 0, .int .u16 0, .int .u8 0, .int .i64 0, .int .i64 0] 41)) c12 Rw.zero := by rw [hc12]; exact RowF.new W2
                have hne11_12 : c11 ≠ c12 := by have := World.block_lt_of_cell? _ _ z11.row.c0; simp only at this; omega
                have hne12_11 : c12 ≠ c11 := fun e => hne11_12 e.symm
                replace z11 := z11.below (ba (bz W2) (.cells #[.int .u8 0, .int .u16 0, .int .u8 0, .int .u8 0, .int .u8 0, .int .u16 0, .int .u16 0, .int .u8 0, .int .u16 0, .int .u8 0, .int .i64 0, .int .i64 0] 41))
                have hne13_12 : c13 ≠ c12 := by have := World.block_lt_of_cell? _ _ z13.row.c0; simp only at this; omega
                have hne12_13 : c12 ≠ c13 := fun e => hne13_12 e.symm
                replace z13 := z13.below (ba (bz W2) (.cells #[.int .u8 0, .int .u16 0, .int .u8 0, .int .u8 0, .int .u8 0, .int .u16 0, .int .u16 0, .int .u8 0, .int .u16 0, .int .u8 0, .int .i64 0, .int .i64 0] 41))
                rw [← hc12]
                generalize (W2.alloc (.cells #[.int .u8 0, .int .u16 0, .int .u8 0, .int .u8 0, .int .u8 0, .int .u16 0, .int .u16 0, .int .u8 0, .int .u16 0, .int .u8 0, .int .i64 0, .int .i64 0] 41)) = W3 at *
                clear hc12
                refine wpAnyH_ready (rs := [35]) (by kernel_rfl) (by simp) ?_
                refine AllReadyH.cons rfl (fun K hK => ?_) AllReadyH.nil
                go_simp
                obtain ⟨c14, hc14⟩ : ∃ c, c = W3.heap.size := ⟨_, rfl⟩
                have hge14 : w2.heap.size ≤ c14 := by rw [hc14]; exact hHeld.size
                refine hK.out _ _ (by exact ba hHeld _) (fun hHeld2 => ?_)
                clear hK K
                have hHeld := hHeld2
                clear hHeld2
                try simp only [Act.put, List.setIfInBounds_toArray, List.set_cons_zero, List.set_cons_succ]
                have z14 : RowF (W3.alloc (.cells #[.int .u8 0, .int .u16 0, .int .u8 0, .int .u8 0, .int .u8 0, .int .u16 0, .int .u16 0, .int .u8 0, .int .u16 0, .int .u8 0, .int .i64 0, .int .i64 0] 41)) c14 Rw.zero := by rw [hc14]; exact RowF.new W3
                have hne11_14 : c11 ≠ c14 := by have := World.block_lt_of_cell? _ _ z11.row.c0; simp only at this; omega
                have hne14_11 : c14 ≠ c11 := fun e => hne11_14 e.symm
                replace z11 := z11.below (ba (bz W3) (.cells #[.int .u8 0, .int .u16 0, .int .u8 0, .int .u8 0, .int .u8 0, .int .u16 0, .int .u16 0, .int .u8 0, .int .u16 0, .int .u8 0, .int .i64 0, .int .i64 0] 41))
                have hne13_14 : c13 ≠ c14 := by have := World.block_lt_of_cell? _ _ z13.row.c0; simp only at this; omega
                have hne14_13 : c14 ≠ c13 := fun e => hne13_14 e.symm
                replace z13 := z13.below (ba (bz W3) (.cells #[.int .u8 0, .int .u16 0, .int .u8 0, .int .u8 0, .int .u8 0, .int .u16 0, .int .u16 0, .int .u8 0, .int .u16 0, .int .u8 0, .int .i64 0, .int .i64 0] 41))
                have hne12_14 : c12 ≠ c14 := by have := World.block_lt_of_cell? _ _ z12.row.c0; simp only at this; omega
                have hne14_12 : c14 ≠ c12 := fun e => hne12_14 e.symm
                replace z12 := z12.below (ba (bz W3) (.cells #[.int .u8 0, .int .u16 0, .int .u8 0, .int .u8 0, .int .u8 0, .int .u16 0, .int .u16 0, .int .u8 0, .int .u16 0, .int .u8 0, .int .i64 0, .int .i64 0] 41))
                rw [← hc14]
                generalize (W3.alloc (.cells #[.int .u8 0, .int .u16 0, .int .u8 0, .int .u8 0, .int .u8 0, .int .u16 0, .int .u16 0, .int .u8 0, .int .u16 0, .int .u8 0, .int .i64 0, .int .i64 0] 41)) = W4 at *
                clear hc14
                have hL : Leaf4 w2 W4 c11 c12 c13 c14 := ⟨hHeld, z11, z12, z13, z14, hge11, hge12, hge13, hge14, hne11_12, hne11_13, hne11_14, hne12_13, hne12_14, hne13_14⟩
                clear hHeld z11 z12 z13 z14 hge11 hge12 hge13 hge14 hne11_12 hne11_13 hne11_14 hne12_11 hne12_13 hne12_14 hne13_11 hne13_12 hne13_14 hne14_11 hne14_12 hne14_13
                revert hL
                revert c14
                revert c13
                revert c12
                revert c11
                revert W4
                exact LEAF
              case t4n35 =>
                go_simp
                obtain ⟨c14, hc14⟩ : ∃ c, c = W2.heap.size := ⟨_, rfl⟩
                have hge14 : w2.heap.size ≤ c14 := by rw [hc14]; exact hHeld.size
                refine hK.out _ _ (by exact ba hHeld _) (fun hHeld2 => ?_)
                clear hK K
                have hHeld := hHeld2
                clear hHeld2
                try simp only [Act.put, List.setIfInBounds_toArray, List.set_cons_zero, List.set_cons_succ]
                have z14 : RowF (W2.alloc (.cells #[.int .u8 0, .int .u16 0, .int .u8 0, .int .u8 0, .int .u8 0, .int .u16 0, .int .u16 0, .int .u8 0, .int .u16 0, .int .u8 0, .int .i64 0, .int .i64 0] 41)) c14 Rw.zero := by rw [hc14]; exact RowF.new W2
                have hne11_14 : c11 ≠ c14 := by have := World.block_lt_of_cell? _ _ z11.row.c0; simp only at this; omega
                have hne14_11 : c14 ≠ c11 := fun e => hne11_14 e.symm
                replace z11 := z11.below (ba (bz W2) (.cells #[.int .u8 0, .int .u16 0, .int .u8 0, .int .u8 0, .int .u8 0, .int .u16 0, .int .u16 0, .int .u8 0, .int .u16 0, .int .u8 0, .int .i64 0, .int .i64 0] 41))
                have hne13_14 : c13 ≠ c14 := by have := World.block_lt_of_cell? _ _ z13.row.c0; simp only at this; omega
                have hne14_13 : c14 ≠ c13 := fun e => hne13_14 e.symm
                replace z13 := z13.below (ba (bz W2) (.cells #[.int .u8 0, .int .u16 0, .int .u8 0, .int .u8 0, .int .u8 0, .int .u16 0, .int .u16 0, .int .u8 0, .int .u16 0, .int .u8 0, .int .i64 0, .int .i64 0] 41))
                rw [← hc14]
                generalize (W2.alloc (.cells #[.int .u8 0, .int .u16 0, .int .u8 0, .int .u8 0, .int .u8 0, .int .u16 0, .int .u16 0, .int .u8 0, .int .u16 0, .int .u8 0, .int .i64 0, .int .i64 0] 41)) = W3 at *
                clear hc14
                refine wpAnyH_ready (rs := [33]) (by kernel_rfl) (by simp) ?_
                refine AllReadyH.cons rfl (fun K hK => ?_) AllReadyH.nil
                go_simp
                obtain ⟨c12, hc12⟩ : ∃ c, c = W3.heap.size := ⟨_, rfl⟩
                have hge12 : w2.heap.size ≤ c12 := by rw [hc12]; exact hHeld.size
                refine hK.out _ _ (by exact ba hHeld _) (fun hHeld2 => ?_)
                clear hK K
                have hHeld := hHeld2
                clear hHeld2
                try simp only [Act.put, List.setIfInBounds_toArray, List.set_cons_zero, List.set_cons_succ]
                have z12 : RowF (W3.alloc (.cells #[.int .u8 0, .int .u16 0, .int .u8 0, .int .u8 0, .int .u8 0, .int .u16 0, .int .u16 0, .int .u8 0, .int .u16 0, .int .u8 0, .int .i64 0, .int .i64 0] 41)) c12 Rw.zero := by rw [hc12]; exact RowF.new W3
                have hne11_12 : c11 ≠ c12 := by have := World.block_lt_of_cell? _ _ z11.row.c0; simp only at this; omega
                have hne12_11 : c12 ≠ c11 := fun e => hne11_12 e.symm
                replace z11 := z11.below (ba (bz W3) (.cells #[.int .u8 0, .int .u16 0, .int .u8 0, .int .u8 0, .int .u8 0, .int .u16 0, .int .u16 0, .int .u8 0, .int .u16 0, .int .u8 0, .int .i64 0, .int .i64 0] 41))
                have hne13_12 : c13 ≠ c12 := by have := World.block_lt_of_cell? _ _ z13.row.c0; simp only at this; omega
                have hne12_13 : c12 ≠ c13 := fun e => hne13_12 e.symm
                replace z13 := z13.below (ba (bz W3) (.cells #[.int .u8 0, .int .u16 0, .int .u8 0, .int .u8 0, .int .u8 0, .int .u16 0, .int .u16 0, .int .u8 0, .int .u16 0, .int .u8 0, .int .i64 0, .int .i64 0] 41))
                have hne14_12 : c14 ≠ c12 := by have := World.block_lt_of_cell? _ _ z14.row.c0; simp only at this; omega
                have hne12_14 : c12 ≠ c14 := fun e => hne14_12 e.symm
                replace z14 := z14.below (ba (bz W3) (.cells #[.int .u8 0, .int .u16 0, .int .u8 0, .int .u8 0, .int .u8 0, .int .u16 0, .int .u16 0, .int .u8 0, .int .u16 0, .int .u8 0, .int .i64 0, .int .i64 0] 41))
                rw [← hc12]
                generalize (W3.alloc (.cells #[.int .u8 0, .int .u16 0, .int .u8 0, .int .u8 0, .int .u8 0, .int .u16 0, .int .u16 0, .int .u8 0, .int .u16 0, .int .u8 0, .int .i64 0, .int .i64 0] 41)) = W4 at *
                clear hc12
                have hL : Leaf4 w2 W4 c11 c12 c13 c14 := ⟨hHeld, z11, z12, z13, z14, hge11, hge12, hge13, hge14, hne11_12, hne11_13, hne11_14, hne12_13, hne12_14, hne13_14⟩
                clear hHeld z11 z12 z13 z14 hge11 hge12 hge13 hge14 hne11_12 hne11_13 hne11_14 hne12_11 hne12_13 hne12_14 hne13_11 hne13_12 hne13_14 hne14_11 hne14_12 hne14_13
                revert hL
                revert c14
                revert c13
                revert c12
                revert c11
                revert W4
                exact LEAF
            case t2n35 =>
              go_simp
              obtain ⟨c14, hc14⟩ : ∃ c, c = W1.heap.size := ⟨_, rfl⟩
              have hge14 : w2.heap.size ≤ c14 := by rw [hc14]; exact hHeld.size
              refine hK.out _ _ (by exact ba hHeld _) (fun hHeld2 => ?_)
              clear hK K
              have hHeld := hHeld2
              clear hHeld2
              try simp only [Act.put, List.setIfInBounds_toArray, List.set_cons_zero, List.set_cons_succ]
              have z14 : RowF (W1.alloc (.cells #[.int .u8 0, .int .u16 0, .int .u8 0, .int .u8 0, .int .u8 0, .int .u16 0, .int .u16 0, .int .u8 0, .int .u16 0, .int .u8 0, .int .i64 0, .int .i64 0] 41)) c14 Rw.zero := by rw [hc14]; exact RowF.new W1
              have hne11_14 : c11 ≠ c14 := by have := World.block_lt_of_cell? _ _ z11.row.c0; simp only at this; omega
              have hne14_11 : c14 ≠ c11 := fun e => hne11_14 e.symm
              replace z11 := z11.below (ba (bz W1) (.cells #[.int .u8 0, .int .u16 0, .int .u8 0, .int .u8 0, .int .u8 0, .int .u16 0, .int .u16 0, .int .u8 0, .int .u16 0, .int .u8 0, .int .i64 0, .int .i64 0] 41))
              rw [← hc14]
              generalize (W1.alloc (.cells #[.int .u8 0, .int .u16 0, .int .u8 0, .int .u8 0, .int .u8 0, .int .u16 0, .int .u16 0, .int .u8 0, .int .u16 0, .int .u8 0, .int .i64 0, .int .i64 0] 41)) = W2 at *
              clear hc14
              refine wpAnyH_ready (rs := [33, 34]) (by kernel_rfl) (by simp) ?_
              refine AllReadyH.cons rfl (fun K hK => ?t5n33) (AllReadyH.cons rfl (fun K hK => ?t5n34) AllReadyH.nil)
              case t5n33 =>
                go_simp
                obtain ⟨c12, hc12⟩ : ∃ c, c = W2.heap.size := ⟨_, rfl⟩
                have hge12 : w2.heap.size ≤ c12 := by rw [hc12]; exact hHeld.size
                refine hK.out _ _ (by exact ba hHeld _) (fun hHeld2 => ?_)
                clear hK K
                have hHeld := hHeld2
                clear hHeld2
                try simp only [Act.put, List.setIfInBounds_toArray, List.set_cons_zero, List.set_cons_succ]
                have z12 : RowF (W2.alloc (.cells #[.int .u8 0, .int .u16 0, .int .u8 0, .int .u8 0, .int .u8 0, .int .u16 0, .int .u16 0, .int .u8 0, .int .u16 0, .int .u8 0, .int .i64 0, .int .i64 0] 41)) c12 Rw.zero := by rw [hc12]; exact RowF.new W2
                have hne11_12 : c11 ≠ c12 := by have := World.block_lt_of_cell? _ _ z11.row.c0; simp only at this; omega
                have hne12_11 : c12 ≠ c11 := fun e => hne11_12 e.symm
                replace z11 := z11.below (ba (bz W2) (.cells #[.int .u8 0, .int .u16 0, .int .u8 0, .int .u8 0, .int .u8 0, .int .u16 0, .int .u16 0, .int .u8 0, .int .u16 0, .int .u8 0, .int .i64 0, .int .i64 0] 41))
                have hne14_12 : c14 ≠ c12 := by have := World.block_lt_of_cell? _ _ z14.row.c0; simp only at this; omega
                have hne12_14 : c12 ≠ c14 := fun e => hne14_12 e.symm
                replace z14 := z14.below (ba (bz W2) (.cells #[.int .u8 0, .int .u16 0, .int .u8 0, .int .u8 0, .int .u8 0, .int .u16 0, .int .u16 0, .int .u8 0, .int .u16 0, .int .u8 0, .int .i64 0, .int .i64 0] 41))
                rw [← hc12]
                generalize (W2.alloc (.cells #[.int .u8 0, .int .u16 0, .int .u8 0, .int .u8 0, .int .u8 0, .int .u16 0, .int .u16 0, .int .u8 0, .int .u16 0, .int .u8 0, .int .i64 0, .int .i64 0] 41)) = W3 at *
                clear hc12
                refine wpAnyH_ready (rs := [34]) (by kernel_rfl) (by simp) ?_
                refine AllReadyH.cons rfl (fun K hK => ?_) AllReadyH.nil
                go_simp
                obtain ⟨c13, hc13⟩ : ∃ c, c = W3.heap.size := ⟨_, rfl⟩
                have hge13 : w2.heap.size ≤ c13 := by rw [hc13]; exact hHeld.size
                refine hK.out _ _ (by exact ba hHeld _) (fun hHeld2 => ?_)
                clear hK K
                have hHeld := hHeld2
                clear hHeld2
                try simp only [Act.put, List.setIfInBounds_toArray, List.set_cons_zero, List.set_cons_succ]
                have z13 : RowF (W3.alloc (.cells #[.int .u8 0, .int .u16 0, .int .u8 0, .int .u8 0, .int .u8 0, .int .u16 0, .int .u16 0, .int .u8 0, .int .u16 0, .int .u8 0, .int .i64 0, .int .i64 0] 41)) c13 Rw.zero := by rw [hc13]; exact RowF.new W3
                have hne11_13 : c11 ≠ c13 := by have := World.block_lt_of_cell? _ _ z11.row.c0; simp only at this; omega
                have hne13_11 : c13 ≠ c11 := fun e => hne11_13 e.symm
                replace z11 := z11.below (ba (bz W3) (.cells #[.int .u8 0, .int .u16 0, .int .u8 0, .int .u8 0, .int .u8 0, .int .u16 0, .int .u16 0, .int .u8 0, .int .u16 0, .int .u8 0, .int .i64 0, .int .i64 0] 41))
                have hne14_13 : c14 ≠ c13 := by have := World.block_lt_of_cell? _ _ z14.row.c0; simp only at this; omega
                have hne13_14 : c13 ≠ c14 := fun e => hne14_13 e.symm
                replace z14 := z14.below (ba (bz W3) (.cells #[.int .u8 0, .int .u16 0, .int .u8 0, .int .u8 0, .int .u8 0, .int .u16 0, .int .u16 0, .int .u8 0, .int .u16 0, .int .u8 0, .int .i64 0, .int .i64 0] 41))
                have hne12_13 : c12 ≠ c13 := by have := World.block_lt_of_cell? _ _ z12.row.c0; simp only at this; omega
                have hne13_12 : c13 ≠ c12 := fun e => hne12_13 e.symm
                replace z12 := z12.below (ba (bz W3) (.cells #[.int .u8 0, .int .u16 0, .int .u8 0, .int .u8 0, .int .u8 0, .int .u16 0, .int .u16 0, .int .u8 0, .int .u16 0, .int .u8 0, .int .i64 0, .int .i64 0] 41))
                rw [← hc13]
                generalize (W3.alloc (.cells #[.int .u8 0, .int .u16 0, .int .u8 0, .int .u8 0, .int .u8 0, .int .u16 0, .int .u16 0, .int .u8 0, .int .u16 0, .int .u8 0, .int .i64 0, .int .i64 0] 41)) = W4 at *
                clear hc13
                have hL : Leaf4 w2 W4 c11 c12 c13 c14 := ⟨hHeld, z11, z12, z13, z14, hge11, hge12, hge13, hge14, hne11_12, hne11_13, hne11_14, hne12_13, hne12_14, hne13_14⟩
                clear hHeld z11 z12 z13 z14 hge11 hge12 hge13 hge14 hne11_12 hne11_13 hne11_14 hne12_11 hne12_13 hne12_14 hne13_11 hne13_12 hne13_14 hne14_11 hne14_12 hne14_13
                revert hL
                revert c14
                revert c13
                revert c12
                revert c11
                revert W4
                exact LEAF
              case t5n34 =>
                go_simp
                obtain ⟨c13, hc13⟩ : ∃ c, c = W2.heap.size := ⟨_, rfl⟩
                have hge13 : w2.heap.size ≤ c13 := by rw [hc13]; exact hHeld.size
                refine hK.out _ _ (by exact ba hHeld _) (fun hHeld2 => ?_)
                clear hK K
                have hHeld := hHeld2
                clear hHeld2
                try simp only [Act.put, List.setIfInBounds_toArray, List.set_cons_zero, List.set_cons_succ]
                have z13 : RowF (W2.alloc (.cells #[.int .u8 0, .int .u16 0, .int .u8 0, .int .u8 0, .int .u8 0, .int .u16 0, .int .u16 0, .int .u8 0, .int .u16 0, .int .u8 0, .int .i64 0, .int .i64 0] 41)) c13 Rw.zero := by rw [hc13]; exact RowF.new W2
                have hne11_13 : c11 ≠ c13 := by have := World.block_lt_of_cell? _ _ z11.row.c0; simp only at this; omega
                have hne13_11 : c13 ≠ c11 := fun e => hne11_13 e.symm
                replace z11 := z11.below (ba (bz W2) (.cells #[.int .u8 0, .int .u16 0, .int .u8 0, .int .u8 0, .int .u8 0, .int .u16 0, .int .u16 0, .int .u8 0, .int .u16 0, .int .u8 0, .int .i64 0, .int .i64 0] 41))
                have hne14_13 : c14 ≠ c13 := by have := World.block_lt_of_cell? _ _ z14.row.c0; simp only at this; omega
                have hne13_14 : c13 ≠ c14 := fun e => hne14_13 e.symm
                replace z14 := z14.below (ba (bz W2) (.cells #[.int .u8 0, .int .u16 0, .int .u8 0, .int .u8 0, .int .u8 0, .int .u16 0, .int .u16 0, .int .u8 0, .int .u16 0, .int .u8 0, .int .i64 0, .int .i64 0] 41))
                rw [← hc13]
                generalize (W2.alloc (.cells #[.int .u8 0, .int .u16 0, .int .u8 0, .int .u8 0, .int .u8 0, .int .u16 0, .int .u16 0, .int .u8 0, .int .u16 0, .int .u8 0, .int .i64 0, .int .i64 0] 41)) = W3 at *
                clear hc13
                refine wpAnyH_ready (rs := [33]) (by kernel_rfl) (by simp) ?_
                refine AllReadyH.cons rfl (fun K hK => ?_) AllReadyH.nil
                go_simp
                obtain ⟨c12, hc12⟩ : ∃ c, c = W3.heap.size := ⟨_, rfl⟩
                have hge12 : w2.heap.size ≤ c12 := by rw [hc12]; exact hHeld.size
                refine hK.out _ _ (by exact ba hHeld _) (fun hHeld2 => ?_)
                clear hK K
                have hHeld := hHeld2
                clear hHeld2
                try simp only [Act.put, List.setIfInBounds_toArray, List.set_cons_zero, List.set_cons_succ]
                have z12 : RowF (W3.alloc (.cells #[.int .u8 0, .int .u16 0, .int .u8 0, .int .u8 0, .int .u8 0, .int .u16 0, .int .u16 0, .int .u8 0, .int .u16 0, .int .u8 0, .int .i64 0, .int .i64 0] 41)) c12 Rw.zero := by rw [hc12]; exact RowF.new W3
                have hne11_12 : c11 ≠ c12 := by have := World.block_lt_of_cell? _ _ z11.row.c0; simp only at this; omega
                have hne12_11 : c12 ≠ c11 := fun e => hne11_12 e.symm
                replace z11 := z11.below (ba (bz W3) (.cells #[.int .u8 0, .int .u16 0, .int .u8 0, .int .u8 0, .int .u8 0, .int .u16 0, .int .u16 0, .int .u8 0, .int .u16 0, .int .u8 0, .int .i64 0, .int .i64 0] 41))
                have hne14_12 : c14 ≠ c12 := by have := World.block_lt_of_cell? _ _ z14.row.c0; simp only at this; omega
                have hne12_14 : c12 ≠ c14 := fun e => hne14_12 e.symm
                replace z14 := z14.below (ba (bz W3) (.cells #[.int .u8 0, .int .u16 0, .int .u8 0, .int .u8 0, .int .u8 0, .int .u16 0, .int .u16 0, .int .u8 0, .int .u16 0, .int .u8 0, .int .i64 0, .int .i64 0] 41))
                have hne13_12 : c13 ≠ c12 := by have := World.block_lt_of_cell? _ _ z13.row.c0; simp only at this; omega
                have hne12_13 : c12 ≠ c13 := fun e => hne13_12 e.symm
                replace z13 := z13.below (ba (bz W3) (.cells #[.int .u8 0, .int .u16 0, .int .u8 0, .int .u8 0, .int .u8 0, .int .u16 0, .int .u16 0, .int .u8 0, .int .u16 0, .int .u8 0, .int .i64 0, .int .i64 0] 41))
                rw [← hc12]
                generalize (W3.alloc (.cells #[.int .u8 0, .int .u16 0, .int .u8 0, .int .u8 0, .int .u8 0, .int .u16 0, .int .u16 0, .int .u8 0, .int .u16 0, .int .u8 0, .int .i64 0, .int .i64 0] 41)) = W4 at *
                clear hc12
                have hL : Leaf4 w2 W4 c11 c12 c13 c14 := ⟨hHeld, z11, z12, z13, z14, hge11, hge12, hge13, hge14, hne11_12, hne11_13, hne11_14, hne12_13, hne12_14, hne13_14⟩
                clear hHeld z11 z12 z13 z14 hge11 hge12 hge13 hge14 hne11_12 hne11_13 hne11_14 hne12_11 hne12_13 hne12_14 hne13_11 hne13_12 hne13_14 hne14_11 hne14_12 hne14_13
                revert hL
                revert c14
                revert c13
                revert c12
                revert c11
                revert W4
                exact LEAF
          case t1n33 =>
            go_simp
            obtain ⟨c12, hc12⟩ : ∃ c, c = W0.heap.size := ⟨_, rfl⟩
            have hge12 : w2.heap.size ≤ c12 := by rw [hc12]; exact hHeld.size
            refine hK.out _ _ (by exact ba hHeld _) (fun hHeld2 => ?_)
            clear hK K
            have hHeld := hHeld2
            clear hHeld2
            try simp only [Act.put, List.setIfInBounds_toArray, List.set_cons_zero, List.set_cons_succ]
            have z12 : RowF (W0.alloc (.cells #[.int .u8 0, .int .u16 0, .int .u8 0, .int .u8 0, .int .u8 0, .int .u16 0, .int .u16 0, .int .u8 0, .int .u16 0, .int .u8 0, .int .i64 0, .int .i64 0] 41)) c12 Rw.zero := by rw [hc12]; exact RowF.new W0
            rw [← hc12]
            generalize (W0.alloc (.cells #[.int .u8 0, .int .u16 0, .int .u8 0, .int .u8 0, .int .u8 0, .int .u16 0, .int .u16 0, .int .u8 0, .int .u16 0, .int .u8 0, .int .i64 0, .int .i64 0] 41)) = W1 at *
            clear hc12
            refine wpAnyH_ready (rs := [32, 34, 35]) (by kernel_rfl) (by simp) ?_
            refine AllReadyH.cons rfl (fun K hK => ?t6n32) (AllReadyH.cons rfl (fun K hK => ?t6n34) (AllReadyH.cons rfl (fun K hK => ?t6n35) AllReadyH.nil))
            case t6n32 =>
              go_simp
              obtain ⟨c11, hc11⟩ : ∃ c, c = W1.heap.size := ⟨_, rfl⟩
              have hge11 : w2.heap.size ≤ c11 := by rw [hc11]; exact hHeld.size
              refine hK.out _ _ (by exact ba hHeld _) (fun hHeld2 => ?_)
              clear hK K
              have hHeld := hHeld2
              clear hHeld2
              try simp only [Act.put, List.setIfInBounds_toArray, List.set_cons_zero, List.set_cons_succ]
              have z11 : RowF (W1.alloc (.cells #[.int .u8 0, .int .u16 0, .int .u8 0, .int .u8 0, .int .u8 0, .int .u16 0, .int .u16 0, .int .u8 0, .int .u16 0, .int .u8 0, .int .i64 0, .int .i64 0] 41)) c11 Rw.zero := by rw [hc11]; exact RowF.new W1
              have hne12_11 : c12 ≠ c11 := by have := World.block_lt_of_cell? _ _ z12.row.c0; simp only at this; omega
              have hne11_12 : c11 ≠ c12 := fun e => hne12_11 e.symm
              replace z12 := z12.below (ba (bz W1) (.cells #[.int .u8 0, .int .u16 0, .int .u8 0, .int .u8 0, .int .u8 0, .int .u16 0, .int .u16 0, .int .u8 0, .int .u16 0, .int .u8 0, .int .i64 0, .int .i64 0] 41))
              rw [← hc11]
              generalize (W1.alloc (.cells #[.int .u8 0, .int .u16 0, .int .u8 0, .int .u8 0, .int .u8 0, .int .u16 0, .int .u16 0, .int .u8 0, .int .u16 0, .int .u8 0, .int .i64 0, .int .i64 0] 41)) = W2 at *
              clear hc11
              refine wpAnyH_ready (rs := [34, 35]) (by kernel_rfl) (by simp) ?_
              refine AllReadyH.cons rfl (fun K hK => ?t7n34) (AllReadyH.cons rfl (fun K hK => ?t7n35) AllReadyH.nil)
              case t7n34 =>
                go_simp
                obtain ⟨c13, hc13⟩ : ∃ c, c = W2.heap.size := ⟨_, rfl⟩
                have hge13 : w2.heap.size ≤ c13 := by rw [hc13]; exact hHeld.size
                refine hK.out _ _ (by exact ba hHeld _) (fun hHeld2 => ?_)
                clear hK K
                have hHeld := hHeld2
                clear hHeld2
                try simp only [Act.put, List.setIfInBounds_toArray, List.set_cons_zero, List.set_cons_succ]
                have z13 : RowF (W2.alloc (.cells #[.int .u8 0, .int .u16 0, .int .u8 0, .int .u8 0, .int .u8 0, .int .u16 0, .int .u16 0, .int .u8 0, .int .u16 0, .int .u8 0, .int .i64 0, .int .i64 0] 41)) c13 Rw.zero := by rw [hc13]; exact RowF.new W2
                have hne12_13 : c12 ≠ c13 := by have := World.block_lt_of_cell? _ _ z12.row.c0; simp only at this; omega
                have hne13_12 : c13 ≠ c12 := fun e => hne12_13 e.symm
                replace z12 := z12.below (ba (bz W2) (.cells #[.int .u8 0, .int .u16 0, .int .u8 0, .int .u8 0, .int .u8 0, .int .u16 0, .int .u16 0, .int .u8 0, .int .u16 0, .int .u8 0, .int .i64 0, .int .i64 0] 41))
                have hne11_13 : c11 ≠ c13 := by have := World.block_lt_of_cell? _ _ z11.row.c0; simp only at this; omega
                have hne13_11 : c13 ≠ c11 := fun e => hne11_13 e.symm
                replace z11 := z11.below (ba (bz W2) (.cells #[.int .u8 0, .int .u16 0, .int .u8 0, .int .u8 0, .int .u8 0, .int .u16 0, .int .u16 0, .int .u8 0, .int .u16 0, .int .u8 0, .int .i64 0, .int .i64 0] 41))
                rw [← hc13]
                generalize (W2.alloc (.cells #[.int .u8 0, .int .u16 0, .int .u8 0, .int .u8 0, .int .u8 0, .int .u16 0, .int .u16 0, .int .u8 0, .int .u16 0, .int .u8 0, .int .i64 0, .int .i64 0] 41)) = W3 at *
                clear hc13
                refine wpAnyH_ready (rs := [35]) (by kernel_rfl) (by simp) ?_
                refine AllReadyH.cons rfl (fun K hK => ?_) AllReadyH.nil
                go_simp
                obtain ⟨c14, hc14⟩ : ∃ c, c = W3.heap.size := ⟨_, rfl⟩
                have hge14 : w2.heap.size ≤ c14 := by rw [hc14]; exact hHeld.size
                refine hK.out _ _ (by exact ba hHeld _) (fun hHeld2 => ?_)
                clear hK K
                have hHeld := hHeld2
                clear hHeld2
                try simp only [Act.put, List.setIfInBounds_toArray, List.set_cons_zero, List.set_cons_succ]
                have z14 : RowF (W3.alloc (.cells #[.int .u8 0, .int .u16 0, .int .u8 0, .int .u8 0, .int .u8 0, .int .u16 0, .int .u16 0, .int .u8 0, .int .u16 0, .int .u8 0, .int .i64 0, .int .i64 0] 41)) c14 Rw.zero := by rw [hc14]; exact RowF.new W3
                have hne12_14 : c12 ≠ c14 := by have := World.block_lt_of_cell? _ _ z12.row.c0; simp only at this; omega
                have hne14_12 : c14 ≠ c12 := fun e => hne12_14 e.symm
                replace z12 := z12.below (ba (bz W3) (.cells #[.int .u8 0, .int .u16 0, .int .u8 0, .int .u8 0, .int .u8 0, .int .u16 0, .int .u16 0, .int .u8 0, .int .u16 0, .int .u8 0, .int .i64 0, .int .i64 0] 41))
                have hne11_14 : c11 ≠ c14 := by have := World.block_lt_of_cell? _ _ z11.row.c0; simp only at this; omega
                have hne14_11 : c14 ≠ c11 := fun e => hne11_14 e.symm
                replace z11 := z11.below (ba (bz W3) (.cells #[.int .u8 0, .int .u16 0, .int .u8 0, .int .u8 0, .int .u8 0, .int .u16 0, .int .u16 0, .int .u8 0, .int .u16 0, .int .u8 0, .int .i64 0, .int .i64 0] 41))
                have hne13_14 : c13 ≠ c14 := by have := World.block_lt_of_cell? _ _ z13.row.c0; simp only at this; omega
                have hne14_13 : c14 ≠ c13 := fun e => hne13_14 e.symm
                replace z13 := z13.below (ba (bz W3) (.cells #[.int .u8 0, .int .u16 0, .int .u8 0, .int .u8 0, .int .u8 0, .int .u16 0, .int .u16 0, .int .u8 0, .int .u16 0, .int .u8 0, .int .i64 0, .int .i64 0] 41))
                rw [← hc14]
                generalize (W3.alloc (.cells #[.int .u8 0, .int .u16 0, .int .u8 0, .int .u8 0, .int .u8 0, .int .u16 0, .int .u16 0, .int .u8 0, .int .u16 0, .int .u8 0, .int .i64 0, .int .i64 0] 41)) = W4 at *
                clear hc14
                have hL : Leaf4 w2 W4 c11 c12 c13 c14 := ⟨hHeld, z11, z12, z13, z14, hge11, hge12, hge13, hge14, hne11_12, hne11_13, hne11_14, hne12_13, hne12_14, hne13_14⟩
                clear hHeld z11 z12 z13 z14 hge11 hge12 hge13 hge14 hne11_12 hne11_13 hne11_14 hne12_11 hne12_13 hne12_14 hne13_11 hne13_12 hne13_14 hne14_11 hne14_12 hne14_13
                revert hL
                revert c14
                revert c13
                revert c12
                revert c11
                revert W4
                exact LEAF
              case t7n35 =>
                go_simp
                obtain ⟨c14, hc14⟩ : ∃ c, c = W2.heap.size := ⟨_, rfl⟩
                have hge14 : w2.heap.size ≤ c14 := by rw [hc14]; exact hHeld.size
                refine hK.out _ _ (by exact ba hHeld _) (fun hHeld2 => ?_)
                clear hK K
                have hHeld := hHeld2
                clear hHeld2
                try simp only [Act.put, List.setIfInBounds_toArray, List.set_cons_zero, List.set_cons_succ]
                have z14 : RowF (W2.alloc (.cells #[.int .u8 0, .int .u16 0, .int .u8 0, .int .u8 0, .int .u8 0, .int .u16 0, .int .u16 0, .int .u8 0, .int .u16 0, .int .u8 0, .int .i64 0, .int .i64 0] 41)) c14 Rw.zero := by rw [hc14]; exact RowF.new W2
                have hne12_14 : c12 ≠ c14 := by have := World.block_lt_of_cell? _ _ z12.row.c0; simp only at this; omega
                have hne14_12 : c14 ≠ c12 := fun e => hne12_14 e.symm
                replace z12 := z12.below (ba (bz W2) (.cells #[.int .u8 0, .int .u16 0, .int .u8 0, .int .u8 0, .int .u8 0, .int .u16 0, .int .u16 0, .int .u8 0, .int .u16 0, .int .u8 0, .int .i64 0, .int .i64 0] 41))
                have hne11_14 : c11 ≠ c14 := by have := World.block_lt_of_cell? _ _ z11.row.c0; simp only at this; omega
                have hne14_11 : c14 ≠ c11 := fun e => hne11_14 e.symm
                replace z11 := z11.below (ba (bz W2) (.cells #[.int .u8 0, .int .u16 0, .int .u8 0, .int .u8 0, .int .u8 0, .int .u16 0, .int .u16 0, .int .u8 0, .int .u16 0, .int .u8 0, .int .i64 0, .int .i64 0] 41))
                rw [← hc14]
                generalize (W2.alloc (.cells #[.int .u8 0, .int .u16 0, .int .u8 0, .int .u8 0, .int .u8 0, .int .u16 0, .int .u16 0, .int .u8 0, .int .u16 0, .int .u8 0, .int .i64 0, .int .i64 0] 41)) = W3 at *
                clear hc14
                refine wpAnyH_ready (rs := [34]) (by kernel_rfl) (by simp) ?_
                refine AllReadyH.cons rfl (fun K hK => ?_) AllReadyH.nil
                go_simp
                obtain ⟨c13, hc13⟩ : ∃ c, c = W3.heap.size := ⟨_, rfl⟩
                have hge13 : w2.heap.size ≤ c13 := by rw [hc13]; exact hHeld.size
                refine hK.out _ _ (by exact ba hHeld _) (fun hHeld2 => ?_)
                clear hK K
                have hHeld := hHeld2
                clear hHeld2
                try simp only [Act.put, List.setIfInBounds_toArray, List.set_cons_zero, List.set_cons_succ]
                have z13 : RowF (W3.alloc (.cells #[.int .u8 0, .int .u16 0, .int .u8 0, .int .u8 0, .int .u8 0, .int .u16 0, .int .u16 0, .int .u8 0, .int .u16 0, .int .u8 0, .int .i64 0, .int .i64 0] 41)) c13 Rw.zero := by rw [hc13]; exact RowF.new W3
                have hne12_13 : c12 ≠ c13 := by have := World.block_lt_of_cell? _ _ z12.row.c0; simp only at this; omega
                have hne13_12 : c13 ≠ c12 := fun e => hne12_13 e.symm
                replace z12 := z12.below (ba (bz W3) (.cells #[.int .u8 0, .int .u16 0, .int .u8 0, .int .u8 0, .int .u8 0, .int .u16 0, .int .u16 0, .int .u8 0, .int .u16 0, .int .u8 0, .int .i64 0, .int .i64 0] 41))
                have hne11_13 : c11 ≠ c13 := by have := World.block_lt_of_cell? _ _ z11.row.c0; simp only at this; omega
                have hne13_11 : c13 ≠ c11 := fun e => hne11_13 e.symm
                replace z11 := z11.below (ba (bz W3) (.cells #[.int .u8 0, .int .u16 0, .int .u8 0, .int .u8 0, .int .u8 0, .int .u16 0, .int .u16 0, .int .u8 0, .int .u16 0, .int .u8 0, .int .i64 0, .int .i64 0] 41))
                have hne14_13 : c14 ≠ c13 := by have := World.block_lt_of_cell? _ _ z14.row.c0; simp only at this; omega
                have hne13_14 : c13 ≠ c14 := fun e => hne14_13 e.symm
                replace z14 := z14.below (ba (bz W3) (.cells #[.int .u8 0, .int .u16 0, .int .u8 0, .int .u8 0, .int .u8 0, .int .u16 0, .int .u16 0, .int .u8 0, .int .u16 0, .int .u8 0, .int .i64 0, .int .i64 0] 41))
                rw [← hc13]
                generalize (W3.alloc (.cells #[.int .u8 0, .int .u16 0, .int .u8 0, .int .u8 0, .int .u8 0, .int .u16 0, .int .u16 0, .int .u8 0, .int .u16 0, .int .u8 0, .int .i64 0, .int .i64 0] 41)) = W4 at *
                clear hc13
                have hL : Leaf4 w2 W4 c11 c12 c13 c14 := ⟨hHeld, z11, z12, z13, z14, hge11, hge12, hge13, hge14, hne11_12, hne11_13, hne11_14, hne12_13, hne12_14, hne13_14⟩
                clear hHeld z11 z12 z13 z14 hge11 hge12 hge13 hge14 hne11_12 hne11_13 hne11_14 hne12_11 hne12_13 hne12_14 hne13_11 hne13_12 hne13_14 hne14_11 hne14_12 hne14_13
                revert hL
                revert c14
                revert c13
                revert c12
                revert c11
                revert W4
                exact LEAF
            case t6n34 =>
              go_simp
              obtain ⟨c13, hc13⟩ : ∃ c, c = W1.heap.size := ⟨_, rfl⟩
              have hge13 : w2.heap.size ≤ c13 := by rw [hc13]; exact hHeld.size
              refine hK.out _ _ (by exact ba hHeld _) (fun hHeld2 => ?_)
              clear hK K
              have hHeld := hHeld2
              clear hHeld2
              try simp only [Act.put, List.setIfInBounds_toArray, List.set_cons_zero, List.set_cons_succ]
              have z13 : RowF (W1.alloc (.cells #[.int .u8 0, .int .u16 0, .int .u8 0, .int .u8 0, .int .u8 0, .int .u16 0, .int .u16 0, .int .u8 0, .int .u16 0, .int .u8 0, .int .i64 0, .int .i64 0] 41)) c13 Rw.zero := by rw [hc13]; exact RowF.new W1
              have hne12_13 : c12 ≠ c13 := by have := World.block_lt_of_cell? _ _ z12.row.c0; simp only at this; omega
              have hne13_12 : c13 ≠ c12 := fun e => hne12_13 e.symm
              replace z12 := z12.below (ba (bz W1) (.cells #[.int .u8 0, .int .u16 0, .int .u8 0, .int .u8 0, .int .u8 0, .int .u16 0, .int .u16 0, .int .u8 0, .int .u16 0, .int .u8 0, .int .i64 0, .int .i64 0] 41))
              rw [← hc13]
              generalize (W1.alloc (.cells #[.int .u8 0, .int .u16 0, .int .u8 0, .int .u8 0, .int .u8 0, .int .u16 0, .int .u16 0, .int .u8 0, .int .u16 0, .int .u8 0, .int .i64 0, .int .i64 0] 41)) = W2 at *
              clear hc13
              refine wpAnyH_ready (rs := [32, 35]) (by kernel_rfl) (by simp) ?_
              refine AllReadyH.cons rfl (fun K hK => ?t8n32) (AllReadyH.cons rfl (fun K hK => ?t8n35) AllReadyH.nil)
              case t8n32 =>
                go_simp
                obtain ⟨c11, hc11⟩ : ∃ c, c = W2.heap.size := ⟨_, rfl⟩
                have hge11 : w2.heap.size ≤ c11 := by rw [hc11]; exact hHeld.size
                refine hK.out _ _ (by exact ba hHeld _) (fun hHeld2 => ?_)
                clear hK K
                have hHeld := hHeld2
                clear hHeld2
                try simp only [Act.put, List.setIfInBounds_toArray, List.set_cons_zero, List.set_cons_succ]
                have z11 : RowF (W2.alloc (.cells #[.int .u8 0, .int .u16 0, .int .u8 0, .int .u8 0, .int .u8 0, .int .u16 0, .int .u16 0, .int .u8 0, .int .u16 0, .int .u8 0, .int .i64 0, .int .i64 0] 41)) c11 Rw.zero := by rw [hc11]; exact RowF.new W2
                have hne12_11 : c12 ≠ c11 := by have := World.block_lt_of_cell? _ _ z12.row.c0; simp only at this; omega
                have hne11_12 : c11 ≠ c12 := fun e => hne12_11 e.symm
                replace z12 := z12.below (ba (bz W2) (.cells #[.int .u8 0, .int .u16 0, .int .u8 0, .int .u8 0, .int .u8 0, .int .u16 0, .int .u16 0, .int .u8 0, .int .u16 0, .int .u8 0, .int .i64 0, .int .i64 0] 41))
                have hne13_11 : c13 ≠ c11 := by have := World.block_lt_of_cell? _ _ z13.row.c0; simp only at this; omega
                have hne11_13 : c11 ≠ c13 := fun e => hne13_11 e.symm
                replace z13 := z13.below (ba (bz W2) (.cells #[.int .u8 0, .int .u16 0, .int .u8 0, .int .u8 0, .int .u8 0, .int .u16 0, .int .u16 0, .int .u8 0, .int .u16 0, .int .u8 0, .int .i64 0, .int .i64 0] 41))
                rw [← hc11]
                generalize (W2.alloc (.cells #[.int .u8 0, .int .u16 0, .int .u8 0, .int .u8 0, .int .u8 0, .int .u16 0, .int .u16 0, .int .u8 0, .int .u16 0, .int .u8 0, .int .i64 0, .int .i64 0] 41)) = W3 at *
                clear hc11
                refine wpAnyH_ready (rs := [35]) (by kernel_rfl) (by simp) ?_
                refine AllReadyH.cons rfl (fun K hK => ?_) AllReadyH.nil
                go_simp
                obtain ⟨c14, hc14⟩ : ∃ c, c = W3.heap.size := ⟨_, rfl⟩
                have hge14 : w2.heap.size ≤ c14 := by rw [hc14]; exact hHeld.size
                refine hK.out _ _ (by exact ba hHeld _) (fun hHeld2 => ?_)
                clear hK K
                have hHeld := hHeld2
                clear hHeld2
                try simp only [Act.put, List.setIfInBounds_toArray, List.set_cons_zero, List.set_cons_succ]
                have z14 : RowF (W3.alloc (.cells #[.int .u8 0, .int .u16 0, .int .u8 0, .int .u8 0, .int .u8 0, .int .u16 0, .int .u16 0, .int .u8 0, .int .u16 0, .int .u8 0, .int .i64 0, .int .i64 0] 41)) c14 Rw.zero := by rw [hc14]; exact RowF.new W3
                have hne12_14 : c12 ≠ c14 := by have := World.block_lt_of_cell? _ _ z12.row.c0; simp only at this; omega
                have hne14_12 : c14 ≠ c12 := fun e => hne12_14 e.symm
                replace z12 := z12.below (ba (bz W3) (.cells #[.int .u8 0, .int .u16 0, .int .u8 0, .int .u8 0, .int .u8 0, .int .u16 0, .int .u16 0, .int .u8 0, .int .u16 0, .int .u8 0, .int .i64 0, .int .i64 0] 41))
                have hne13_14 : c13 ≠ c14 := by have := World.block_lt_of_cell? _ _ z13.row.c0; simp only at this; omega
                have hne14_13 : c14 ≠ c13 := fun e => hne13_14 e.symm
                replace z13 := z13.below (ba (bz W3) (.cells #[.int .u8 0, .int .u16 0, .int .u8 0, .int .u8 0, .int .u8 0, .int .u16 0, .int .u16 0, .int .u8 0, .int .u16 0, .int .u8 0, .int .i64 0, .int .i64 0] 41))
                have hne11_14 : c11 ≠ c14 := by have := World.block_lt_of_cell? _ _ z11.row.c0; simp only at this; omega
                have hne14_11 : c14 ≠ c11 := fun e => hne11_14 e.symm
                replace z11 := z11.below (ba (bz W3) (.cells #[.int .u8 0, .int .u16 0, .int .u8 0, .int .u8 0, .int .u8 0, .int .u16 0, .int .u16 0, .int .u8 0, .int .u16 0, .int .u8 0, .int .i64 0, .int .i64 0] 41))
                rw [← hc14]
                generalize (W3.alloc (.cells #[.int .u8 0, .int .u16 0, .int .u8 0, .int .u8 0, .int .u8 0, .int .u16 0, .int .u16 0, .int .u8 0, .int .u16 0, .int .u8 0, .int .i64 0, .int .i64 0] 41)) = W4 at *
                clear hc14
                have hL : Leaf4 w2 W4 c11 c12 c13 c14 := ⟨hHeld, z11, z12, z13, z14, hge11, hge12, hge13, hge14, hne11_12, hne11_13, hne11_14, hne12_13, hne12_14, hne13_14⟩
                clear hHeld z11 z12 z13 z14 hge11 hge12 hge13 hge14 hne11_12 hne11_13 hne11_14 hne12_11 hne12_13 hne12_14 hne13_11 hne13_12 hne13_14 hne14_11 hne14_12 hne14_13
                revert hL
                revert c14
                revert c13
                revert c12
                revert c11
                revert W4
                exact LEAF
              case t8n35 =>
                go_simp
                obtain ⟨c14, hc14⟩ : ∃ c, c = W2.heap.size := ⟨_, rfl⟩
                have hge14 : w2.heap.size ≤ c14 := by rw [hc14]; exact hHeld.size
                refine hK.out _ _ (by exact ba hHeld _) (fun hHeld2 => ?_)
                clear hK K
                have hHeld := hHeld2
                clear hHeld2
                try simp only [Act.put, List.setIfInBounds_toArray, List.set_cons_zero, List.set_cons_succ]
                have z14 : RowF (W2.alloc (.cells #[.int .u8 0, .int .u16 0, .int .u8 0, .int .u8 0, .int .u8 0, .int .u16 0, .int .u16 0, .int .u8 0, .int .u16 0, .int .u8 0, .int .i64 0, .int .i64 0] 41)) c14 Rw.zero := by rw [hc14]; exact RowF.new W2
                have hne12_14 : c12 ≠ c14 := by have := World.block_lt_of_cell? _ _ z12.row.c0; simp only at this; omega
                have hne14_12 : c14 ≠ c12 := fun e => hne12_14 e.symm
                replace z12 := z12.below (ba (bz W2) (.cells #[.int .u8 0, .int .u16 0, .int .u8 0, .int .u8 0, .int .u8 0, .int .u16 0, .int .u16 0, .int .u8 0, .int .u16 0, .int .u8 0, .int .i64 0, .int .i64 0] 41))
                have hne13_14 : c13 ≠ c14 := by have := World.block_lt_of_cell? _ _ z13.row.c0; simp only at this; omega
                have hne14_13 : c14 ≠ c13 := fun e => hne13_14 e.symm
                replace z13 := z13.below (ba (bz W2) (.cells #[.int .u8 0, .int .u16 0, .int .u8 0, .int .u8 0, .int .u8 0, .int .u16 0, .int .u16 0, .int .u8 0, .int .u16 0, .int .u8 0, .int .i64 0, .int .i64 0] 41))
                rw [← hc14]
                generalize (W2.alloc (.cells #[.int .u8 0, .int .u16 0, .int .u8 0, .int .u8 0, .int .u8 0, .int .u16 0, .int .u16 0, .int .u8 0, .int .u16 0, .int .u8 0, .int .i64 0, .int .i64 0] 41)) = W3 at *
                clear hc14
                refine wpAnyH_ready (rs := [32]) (by kernel_rfl) (by simp) ?_
                refine AllReadyH.cons rfl (fun K hK => ?_) AllReadyH.nil
                go_simp
                obtain ⟨c11, hc11⟩ : ∃ c, c = W3.heap.size := ⟨_, rfl⟩
                have hge11 : w2.heap.size ≤ c11 := by rw [hc11]; exact hHeld.size
                refine hK.out _ _ (by exact ba hHeld _) (fun hHeld2 => ?_)
                clear hK K
                have hHeld := hHeld2
                clear hHeld2
                try simp only [Act.put, List.setIfInBounds_toArray, List.set_cons_zero, List.set_cons_succ]
                have z11 : RowF (W3.alloc (.cells #[.int .u8 0, .int .u16 0, .int .u8 0, .int .u8 0, .int .u8 0, .int .u16 0, .int .u16 0, .int .u8 0, .int .u16 0, .int .u8 0, .int .i64 0, .int .i64 0] 41)) c11 Rw.zero := by rw [hc11]; exact RowF.new W3
                have hne12_11 : c12 ≠ c11 := by have := World.block_lt_of_cell? _ _ z12.row.c0; simp only at this; omega
                have hne11_12 : c11 ≠ c12 := fun e => hne12_11 e.symm
                replace z12 := z12.below (ba (bz W3) (.cells #[.int .u8 0, .int .u16 0, .int .u8 0, .int .u8 0, .int .u8 0, .int .u16 0, .int .u16 0, .int .u8 0, .int .u16 0, .int .u8 0, .int .i64 0, .int .i64 0] 41))
                have hne13_11 : c13 ≠ c11 := by have := World.block_lt_of_cell? _ _ z13.row.c0; simp only at this; omega
                have hne11_13 : c11 ≠ c13 := fun e => hne13_11 e.symm
                replace z13 := z13.below (ba (bz W3) (.cells #[.int .u8 0, .int .u16 0, .int .u8 0, .int .u8 0, .int .u8 0, .int .u16 0, .int .u16 0, .int .u8 0, .int .u16 0, .int .u8 0, .int .i64 0, .int .i64 0] 41))
                have hne14_11 : c14 ≠ c11 := by have := World.block_lt_of_cell? _ _ z14.row.c0; simp only at this; omega
                have hne11_14 : c11 ≠ c14 := fun e => hne14_11 e.symm
                replace z14 := z14.below (ba (bz W3) (.cells #[.int .u8 0, .int .u16 0, .int .u8 0, .int .u8 0, .int .u8 0, .int .u16 0, .int .u16 0, .int .u8 0, .int .u16 0, .int .u8 0, .int .i64 0, .int .i64 0] 41))
                rw [← hc11]
                generalize (W3.alloc (.cells #[.int .u8 0, .int .u16 0, .int .u8 0, .int .u8 0, .int .u8 0, .int .u16 0, .int .u16 0, .int .u8 0, .int .u16 0, .int .u8 0, .int .i64 0, .int .i64 0] 41)) = W4 at *
                clear hc11
                have hL : Leaf4 w2 W4 c11 c12 c13 c14 := ⟨hHeld, z11, z12, z13, z14, hge11, hge12, hge13, hge14, hne11_12, hne11_13, hne11_14, hne12_13, hne12_14, hne13_14⟩
                clear hHeld z11 z12 z13 z14 hge11 hge12 hge13 hge14 hne11_12 hne11_13 hne11_14 hne12_11 hne12_13 hne12_14 hne13_11 hne13_12 hne13_14 hne14_11 hne14_12 hne14_13
                revert hL
                revert c14
                revert c13
                revert c12
                revert c11
                revert W4
                exact LEAF
            case t6n35 =>
              go_simp
              obtain ⟨c14, hc14⟩ : ∃ c, c = W1.heap.size := ⟨_, rfl⟩
              have hge14 : w2.heap.size ≤ c14 := by rw [hc14]; exact hHeld.size
              refine hK.out _ _ (by exact ba hHeld _) (fun hHeld2 => ?_)
              clear hK K
              have hHeld := hHeld2
              clear hHeld2
              try simp only [Act.put, List.setIfInBounds_toArray, List.set_cons_zero, List.set_cons_succ]
              have z14 : RowF (W1.alloc (.cells #[.int .u8 0, .int .u16 0, .int .u8 0, .int .u8 0, .int .u8 0, .int .u16 0, .int .u16 0, .int .u8 0, .int .u16 0, .int .u8 0, .int .i64 0, .int .i64 0] 41)) c14 Rw.zero := by rw [hc14]; exact RowF.new W1
              have hne12_14 : c12 ≠ c14 := by have := World.block_lt_of_cell? _ _ z12.row.c0; simp only at this; omega
              have hne14_12 : c14 ≠ c12 := fun e => hne12_14 e.symm
              replace z12 := z12.below (ba (bz W1) (.cells #[.int .u8 0, .int .u16 0, .int .u8 0, .int .u8 0, .int .u8 0, .int .u16 0, .int .u16 0, .int .u8 0, .int .u16 0, .int .u8 0, .int .i64 0, .int .i64 0] 41))
              rw [← hc14]
              generalize (W1.alloc (.cells #[.int .u8 0, .int .u16 0, .int .u8 0, .int .u8 0, .int .u8 0, .int .u16 0, .int .u16 0, .int .u8 0, .int .u16 0, .int .u8 0, .int .i64 0, .int .i64 0] 41)) = W2 at *
              clear hc14
              refine wpAnyH_ready (rs := [32, 34]) (by kernel_rfl) (by simp) ?_
              refine AllReadyH.cons rfl (fun K hK => ?t9n32) (AllReadyH.cons rfl (fun K hK => ?t9n34) AllReadyH.nil)
              case t9n32 =>
                go_simp
                obtain ⟨c11, hc11⟩ : ∃ c, c = W2.heap.size := ⟨_, rfl⟩
                have hge11 : w2.heap.size ≤ c11 := by rw [hc11]; exact hHeld.size
                refine hK.out _ _ (by exact ba hHeld _) (fun hHeld2 => ?_)
                clear hK K
                have hHeld := hHeld2
                clear hHeld2
                try simp only [Act.put, List.setIfInBounds_toArray, List.set_cons_zero, List.set_cons_succ]
                have z11 : RowF (W2.alloc (.cells #[.int .u8 0, .int .u16 0, .int .u8 0, .int .u8 0, .int .u8 0, .int .u16 0, .int .u16 0, .int .u8 0, .int .u16 0, .int .u8 0, .int .i64 0, .int .i64 0] 41)) c11 Rw.zero := by rw [hc11]; exact RowF.new W2
                have hne12_11 : c12 ≠ c11 := by have := World.block_lt_of_cell? _ _ z12.row.c0; simp only at this; omega
                have hne11_12 : c11 ≠ c12 := fun e => hne12_11 e.symm
                replace z12 := z12.below (ba (bz W2) (.cells #[.int .u8 0, .int .u16 0, .int .u8 0, .int .u8 0, .int .u8 0, .int .u16 0, .int .u16 0, .int .u8 0, .int .u16 0, .int .u8 0, .int .i64 0, .int .i64 0] 41))
                have hne14_11 : c14 ≠ c11 := by have := World.block_lt_of_cell? _ _ z14.row.c0; simp only at this; omega
                have hne11_14 : c11 ≠ c14 := fun e => hne14_11 e.symm
                replace z14 := z14.below (ba (bz W2) (.cells #[.int .u8 0, .int .u16 0, .int .u8 0, .int .u8 0, .int .u8 0, .int .u16 0, .int .u16 0, .int .u8 0, .int .u16 0, .int .u8 0, .int .i64 0, .int .i64 0] 41))
                rw [← hc11]
                generalize (W2.alloc (.cells #[.int .u8 0, .int .u16 0, .int .u8 0, .int .u8 0, .int .u8 0, .int .u16 0, .int .u16 0, .int .u8 0, .int .u16 0, .int .u8 0, .int .i64 0, .int .i64 0] 41)) = W3 at *
                clear hc11
                refine wpAnyH_ready (rs := [34]) (by kernel_rfl) (by simp) ?_
                refine AllReadyH.cons rfl (fun K hK => ?_) AllReadyH.nil
                go_simp
                obtain ⟨c13, hc13⟩ : ∃ c, c = W3.heap.size := ⟨_, rfl⟩
                have hge13 : w2.heap.size ≤ c13 := by rw [hc13]; exact hHeld.size
                refine hK.out _ _ (by exact ba hHeld _) (fun hHeld2 => ?_)
                clear hK K
                have hHeld := hHeld2
                clear hHeld2
                try simp only [Act.put, List.setIfInBounds_toArray, List.set_cons_zero, List.set_cons_succ]
                have z13 : RowF (W3.alloc (.cells #[.int .u8 0, .int .u16 0, .int .u8 0, .int .u8 0, .int .u8 0, .int .u16 0, .int .u16 0, .int .u8 0, .int .u16 0, .int .u8 0, .int .i64 0, .int .i64 0] 41)) c13 Rw.zero := by rw [hc13]; exact RowF.new W3
                have hne12_13 : c12 ≠ c13 := by have := World.block_lt_of_cell? _ _ z12.row.c0; simp only at this; omega
                have hne13_12 : c13 ≠ c12 := fun e => hne12_13 e.symm
                replace z12 := z12.below (ba (bz W3) (.cells #[.int .u8 0, .int .u16 0, .int .u8 0, .int .u8 0, .int .u8 0, .int .u16 0, .int .u16 0, .int .u8 0, .int .u16 0, .int .u8 0, .int .i64 0, .int .i64 0] 41))
                have hne14_13 : c14 ≠ c13 := by have := World.block_lt_of_cell? _ _ z14.row.c0; simp only at this; omega
                have hne13_14 : c13 ≠ c14 := fun e => hne14_13 e.symm
                replace z14 := z14.below (ba (bz W3) (.cells #[.int .u8 0, .int .u16 0, .int .u8 0, .int .u8 0, .int .u8 0, .int .u16 0, .int .u16 0, .int .u8 0, .int .u16 0, .int .u8 0, .int .i64 0, .int .i64 0] 41))
                have hne11_13 : c11 ≠ c13 := by have := World.block_lt_of_cell? _ _ z11.row.c0; simp only at this; omega
                have hne13_11 : c13 ≠ c11 := fun e => hne11_13 e.symm
                replace z11 := z11.below (ba (bz W3) (.cells #[.int .u8 0, .int .u16 0, .int .u8 0, .int .u8 0, .int .u8 0, .int .u16 0, .int .u16 0, .int .u8 0, .int .u16 0, .int .u8 0, .int .i64 0, .int .i64 0] 41))
                rw [← hc13]
                generalize (W3.alloc (.cells #[.int .u8 0, .int .u16 0, .int .u8 0, .int .u8 0, .int .u8 0, .int .u16 0, .int .u16 0, .int .u8 0, .int .u16 0, .int .u8 0, .int .i64 0, .int .i64 0] 41)) = W4 at *
                clear hc13
                have hL : Leaf4 w2 W4 c11 c12 c13 c14 := ⟨hHeld, z11, z12, z13, z14, hge11, hge12, hge13, hge14, hne11_12, hne11_13, hne11_14, hne12_13, hne12_14, hne13_14⟩
                clear hHeld z11 z12 z13 z14 hge11 hge12 hge13 hge14 hne11_12 hne11_13 hne11_14 hne12_11 hne12_13 hne12_14 hne13_11 hne13_12 hne13_14 hne14_11 hne14_12 hne14_13
                revert hL
                revert c14
                revert c13
                revert c12
                revert c11
                revert W4
                exact LEAF
              case t9n34 =>
                go_simp
                obtain ⟨c13, hc13⟩ : ∃ c, c = W2.heap.size := ⟨_, rfl⟩
                have hge13 : w2.heap.size ≤ c13 := by rw [hc13]; exact hHeld.size
                refine hK.out _ _ (by exact ba hHeld _) (fun hHeld2 => ?_)
                clear hK K
                have hHeld := hHeld2
                clear hHeld2
                try simp only [Act.put, List.setIfInBounds_toArray, List.set_cons_zero, List.set_cons_succ]
                have z13 : RowF (W2.alloc (.cells #[.int .u8 0, .int .u16 0, .int .u8 0, .int .u8 0, .int .u8 0, .int .u16 0, .int .u16 0, .int .u8 0, .int .u16 0, .int .u8 0, .int .i64 0, .int .i64 0] 41)) c13 Rw.zero := by rw [hc13]; exact RowF.new W2
                have hne12_13 : c12 ≠ c13 := by have := World.block_lt_of_cell? _ _ z12.row.c0; simp only at this; omega
                have hne13_12 : c13 ≠ c12 := fun e => hne12_13 e.symm
                replace z12 := z12.below (ba (bz W2) (.cells #[.int .u8 0, .int .u16 0, .int .u8 0, .int .u8 0, .int .u8 0, .int .u16 0, .int .u16 0, .int .u8 0, .int .u16 0, .int .u8 0, .int .i64 0, .int .i64 0] 41))
                have hne14_13 : c14 ≠ c13 := by have := World.block_lt_of_cell? _ _ z14.row.c0; simp only at this; omega
                have hne13_14 : c13 ≠ c14 := fun e => hne14_13 e.symm
                replace z14 := z14.below (ba (bz W2) (.cells #[.int .u8 0, .int .u16 0, .int .u8 0, .int .u8 0, .int .u8 0, .int .u16 0, .int .u16 0, .int .u8 0, .int .u16 0, .int .u8 0, .int .i64 0, .int .i64 0] 41))
                rw [← hc13]
                generalize (W2.alloc (.cells #[.int .u8 0, .int .u16 0, .int .u8 0, .int .u8 0, .int .u8 0, .int .u16 0, .int .u16 0, .int .u8 0, .int .u16 0, .int .u8 0, .int .i64 0, .int .i64 0] 41)) = W3 at *
                clear hc13
                refine wpAnyH_ready (rs := [32]) (by kernel_rfl) (by simp) ?_
                refine AllReadyH.cons rfl (fun K hK => ?_) AllReadyH.nil
                go_simp
                obtain ⟨c11, hc11⟩ : ∃ c, c = W3.heap.size := ⟨_, rfl⟩
                have hge11 : w2.heap.size ≤ c11 := by rw [hc11]; exact hHeld.size
                refine hK.out _ _ (by exact ba hHeld _) (fun hHeld2 => ?_)
                clear hK K
                have hHeld := hHeld2
                clear hHeld2
                try simp only [Act.put, List.setIfInBounds_toArray, List.set_cons_zero, List.set_cons_succ]
                have z11 : RowF (W3.alloc (.cells #[.int .u8 0, .int .u16 0, .int .u8 0, .int .u8 0, .int .u8 0, .int .u16 0, .int .u16 0, .int .u8 0, .int .u16 0, .int .u8 0, .int .i64 0, .int .i64 0] 41)) c11 Rw.zero := by rw [hc11]; exact RowF.new W3
                have hne12_11 : c12 ≠ c11 := by have := World.block_lt_of_cell? _ _ z12.row.c0; simp only at this; omega
                have hne11_12 : c11 ≠ c12 := fun e => hne12_11 e.symm
                replace z12 := z12.below (ba (bz W3) (.cells #[.int .u8 0, .int .u16 0, .int .u8 0, .int .u8 0, .int .u8 0, .int .u16 0, .int .u16 0, .int .u8 0, .int .u16 0, .int .u8 0, .int .i64 0, .int .i64 0] 41))
                have hne14_11 : c14 ≠ c11 := by have := World.block_lt_of_cell? _ _ z14.row.c0; simp only at this; omega
                have hne11_14 : c11 ≠ c14 := fun e => hne14_11 e.symm
                replace z14 := z14.below (ba (bz W3) (.cells #[.int .u8 0, .int .u16 0, .int .u8 0, .int .u8 0, .int .u8 0, .int .u16 0, .int .u16 0, .int .u8 0, .int .u16 0, .int .u8 0, .int .i64 0, .int .i64 0] 41))
                have hne13_11 : c13 ≠ c11 := by have := World.block_lt_of_cell? _ _ z13.row.c0; simp only at this; omega
                have hne11_13 : c11 ≠ c13 := fun e => hne13_11 e.symm
                replace z13 := z13.below (ba (bz W3) (.cells #[.int .u8 0, .int .u16 0, .int .u8 0, .int .u8 0, .int .u8 0, .int .u16 0, .int .u16 0, .int .u8 0, .int .u16 0, .int .u8 0, .int .i64 0, .int .i64 0] 41))
                rw [← hc11]
                generalize (W3.alloc (.cells #[.int .u8 0, .int .u16 0, .int .u8 0, .int .u8 0, .int .u8 0, .int .u16 0, .int .u16 0, .int .u8 0, .int .u16 0, .int .u8 0, .int .i64 0, .int .i64 0] 41)) = W4 at *
                clear hc11
                have hL : Leaf4 w2 W4 c11 c12 c13 c14 := ⟨hHeld, z11, z12, z13, z14, hge11, hge12, hge13, hge14, hne11_12, hne11_13, hne11_14, hne12_13, hne12_14, hne13_14⟩
                clear hHeld z11 z12 z13 z14 hge11 hge12 hge13 hge14 hne11_12 hne11_13 hne11_14 hne12_11 hne12_13 hne12_14 hne13_11 hne13_12 hne13_14 hne14_11 hne14_12 hne14_13
                revert hL
                revert c14
                revert c13
                revert c12
                revert c11
                revert W4
                exact LEAF
          case t1n34 =>
            go_simp
            obtain ⟨c13, hc13⟩ : ∃ c, c = W0.heap.size := ⟨_, rfl⟩
            have hge13 : w2.heap.size ≤ c13 := by rw [hc13]; exact hHeld.size
            refine hK.out _ _ (by exact ba hHeld _) (fun hHeld2 => ?_)
            clear hK K
            have hHeld := hHeld2
            clear hHeld2
            try simp only [Act.put, List.setIfInBounds_toArray, List.set_cons_zero, List.set_cons_succ]
            have z13 : RowF (W0.alloc (.cells #[.int .u8 0, .int .u16 0, .int .u8 0, .int .u8 0, .int .u8 0, .int .u16 0, .int .u16 0, .int .u8 0, .int .u16 0, .int .u8 0, .int .i64 0, .int .i64 0] 41)) c13 Rw.zero := by rw [hc13]; exact RowF.new W0
            rw [← hc13]
            generalize (W0.alloc (.cells #[.int .u8 0, .int .u16 0, .int .u8 0, .int .u8 0, .int .u8 0, .int .u16 0, .int .u16 0, .int .u8 0, .int .u16 0, .int .u8 0, .int .i64 0, .int .i64 0] 41)) = W1 at *
            clear hc13
            refine wpAnyH_ready (rs := [32, 33, 35]) (by kernel_rfl) (by simp) ?_
            refine AllReadyH.cons rfl (fun K hK => ?t10n32) (AllReadyH.cons rfl (fun K hK => ?t10n33) (AllReadyH.cons rfl (fun K hK => ?t10n35) AllReadyH.nil))
            case t10n32 =>
              go_simp
              obtain ⟨c11, hc11⟩ : ∃ c, c = W1.heap.size := ⟨_, rfl⟩
              have hge11 : w2.heap.size ≤ c11 := by rw [hc11]; exact hHeld.size
              refine hK.out _ _ (by exact ba hHeld _) (fun hHeld2 => ?_)
              clear hK K
              have hHeld := hHeld2
              clear hHeld2
              try simp only [Act.put, List.setIfInBounds_toArray, List.set_cons_zero, List.set_cons_succ]
              have z11 : RowF (W1.alloc (.cells #[.int .u8 0, .int .u16 0, .int .u8 0, .int .u8 0, .int .u8 0, .int .u16 0, .int .u16 0, .int .u8 0, .int .u16 0, .int .u8 0, .int .i64 0, .int .i64 0] 41)) c11 Rw.zero := by rw [hc11]; exact RowF.new W1
              have hne13_11 : c13 ≠ c11 := by have := World.block_lt_of_cell? _ _ z13.row.c0; simp only at this; omega
              have hne11_13 : c11 ≠ c13 := fun e => hne13_11 e.symm
              replace z13 := z13.below (ba (bz W1) (.cells #[.int .u8 0, .int .u16 0, .int .u8 0, .int .u8 0, .int .u8 0, .int .u16 0, .int .u16 0, .int .u8 0, .int .u16 0, .int .u8 0, .int .i64 0, .int .i64 0] 41))
              rw [← hc11]
              generalize (W1.alloc (.cells #[.int .u8 0, .int .u16 0, .int .u8 0, .int .u8 0, .int .u8 0, .int .u16 0, .int .u16 0, .int .u8 0, .int .u16 0, .int .u8 0, .int .i64 0, .int .i64 0] 41)) = W2 at *
              clear hc11
              refine wpAnyH_ready (rs := [33, 35]) (by kernel_rfl) (by simp) ?_
              refine AllReadyH.cons rfl (fun K hK => ?t11n33) (AllReadyH.cons rfl (fun K hK => ?t11n35) AllReadyH.nil)
              case t11n33 =>
                go_simp
                obtain ⟨c12, hc12⟩ : ∃ c, c = W2.heap.size := ⟨_, rfl⟩
                have hge12 : w2.heap.size ≤ c12 := by rw [hc12]; exact hHeld.size
                refine hK.out _ _ (by exact ba hHeld _) (fun hHeld2 => ?_)
                clear hK K
                have hHeld := hHeld2
                clear hHeld2
                try simp only [Act.put, List.setIfInBounds_toArray, List.set_cons_zero, List.set_cons_succ]
                have z12 : RowF (W2.alloc (.cells #[.int .u8 0, .int .u16 0, .int .u8 0, .int .u8 0, .int .u8 0, .int .u16 0, .int .u16 0, .int .u8 0, .int .u16 0, .int .u8 0, .int .i64 0, .int .i64 0] 41)) c12 Rw.zero := by rw [hc12]; exact RowF.new W2
                have hne13_12 : c13 ≠ c12 := by have := World.block_lt_of_cell? _ _ z13.row.c0; simp only at this; omega
                have hne12_13 : c12 ≠ c13 := fun e => hne13_12 e.symm
                replace z13 := z13.below (ba (bz W2) (.cells #[.int .u8 0, .int .u16 0, .int .u8 0, .int .u8 0, .int .u8 0, .int .u16 0, .int .u16 0, .int .u8 0, .int .u16 0, .int .u8 0, .int .i64 0, .int .i64 0] 41))
                have hne11_12 : c11 ≠ c12 := by have := World.block_lt_of_cell? _ _ z11.row.c0; simp only at this; omega
                have hne12_11 : c12 ≠ c11 := fun e => hne11_12 e.symm
                replace z11 := z11.below (ba (bz W2) (.cells #[.int .u8 0, .int .u16 0, .int .u8 0, .int .u8 0, .int .u8 0, .int .u16 0, .int .u16 0, .int .u8 0, .int .u16 0, .int .u8 0, .int .i64 0, .int .i64 0] 41))
                rw [← hc12]
                generalize (W2.alloc (.cells #[.int .u8 0, .int .u16 0, .int .u8 0, .int .u8 0, .int .u8 0, .int .u16 0, .int .u16 0, .int .u8 0, .int .u16 0, .int .u8 0, .int .i64 0, .int .i64 0] 41)) = W3 at *
                clear hc12
                refine wpAnyH_ready (rs := [35]) (by kernel_rfl) (by simp) ?_
                refine AllReadyH.cons rfl (fun K hK => ?_) AllReadyH.nil
                go_simp
                obtain ⟨c14, hc14⟩ : ∃ c, c = W3.heap.size := ⟨_, rfl⟩
                have hge14 : w2.heap.size ≤ c14 := by rw [hc14]; exact hHeld.size
                refine hK.out _ _ (by exact ba hHeld _) (fun hHeld2 => ?_)
                clear hK K
                have hHeld := hHeld2
                clear hHeld2
                try simp only [Act.put, List.setIfInBounds_toArray, List.set_cons_zero, List.set_cons_succ]
                have z14 : RowF (W3.alloc (.cells #[.int .u8 0, .int .u16 0, .int .u8 0, .int .u8 0, .int .u8 0, .int .u16 0, .int .u16 0, .int .u8 0, .int .u16 0, .int .u8 0, .int .i64 0, .int .i64 0] 41)) c14 Rw.zero := by rw [hc14]; exact RowF.new W3
                have hne13_14 : c13 ≠ c14 := by have := World.block_lt_of_cell? _ _ z13.row.c0; simp only at this; omega
                have hne14_13 : c14 ≠ c13 := fun e => hne13_14 e.symm
                replace z13 := z13.below (ba (bz W3) (.cells #[.int .u8 0, .int .u16 0, .int .u8 0, .int .u8 0, .int .u8 0, .int .u16 0, .int .u16 0, .int .u8 0, .int .u16 0, .int .u8 0, .int .i64 0, .int .i64 0] 41))
                have hne11_14 : c11 ≠ c14 := by have := World.block_lt_of_cell? _ _ z11.row.c0; simp only at this; omega
                have hne14_11 : c14 ≠ c11 := fun e => hne11_14 e.symm
                replace z11 := z11.below (ba (bz W3) (.cells #[.int .u8 0, .int .u16 0, .int .u8 0, .int .u8 0, .int .u8 0, .int .u16 0, .int .u16 0, .int .u8 0, .int .u16 0, .int .u8 0, .int .i64 0, .int .i64 0] 41))
                have hne12_14 : c12 ≠ c14 := by have := World.block_lt_of_cell? _ _ z12.row.c0; simp only at this; omega
                have hne14_12 : c14 ≠ c12 := fun e => hne12_14 e.symm
                replace z12 := z12.below (ba (bz W3) (.cells #[.int .u8 0, .int .u16 0, .int .u8 0, .int .u8 0, .int .u8 0, .int .u16 0, .int .u16 0, .int .u8 0, .int .u16 0, .int .u8 0, .int .i64 0, .int .i64 0] 41))
                rw [← hc14]
                generalize (W3.alloc (.cells #[.int .u8 0, .int .u16 0, .int .u8 0, .int .u8 0, .int .u8 0, .int .u16 0, .int .u16 0, .int .u8 0, .int .u16 0, .int .u8 0, .int .i64 0, .int .i64 0] 41)) = W4 at *
                clear hc14
                have hL : Leaf4 w2 W4 c11 c12 c13 c14 := ⟨hHeld, z11, z12, z13, z14, hge11, hge12, hge13, hge14, hne11_12, hne11_13, hne11_14, hne12_13, hne12_14, hne13_14⟩
                clear hHeld z11 z12 z13 z14 hge11 hge12 hge13 hge14 hne11_12 hne11_13 hne11_14 hne12_11 hne12_13 hne12_14 hne13_11 hne13_12 hne13_14 hne14_11 hne14_12 hne14_13
                revert hL
                revert c14
                revert c13
                revert c12
                revert c11
                revert W4
                exact LEAF
              case t11n35 =>
                go_simp
                obtain ⟨c14, hc14⟩ : ∃ c, c = W2.heap.size := ⟨_, rfl⟩
                have hge14 : w2.heap.size ≤ c14 := by rw [hc14]; exact hHeld.size
                refine hK.out _ _ (by exact ba hHeld _) (fun hHeld2 => ?_)
                clear hK K
                have hHeld := hHeld2
                clear hHeld2
                try simp only [Act.put, List.setIfInBounds_toArray, List.set_cons_zero, List.set_cons_succ]
                have z14 : RowF (W2.alloc (.cells #[.int .u8 0, .int .u16 0, .int .u8 0, .int .u8 0, .int .u8 0, .int .u16 0, .int .u16 0, .int .u8 0, .int .u16 0, .int .u8 0, .int .i64 0, .int .i64 0] 41)) c14 Rw.zero := by rw [hc14]; exact RowF.new W2
                have hne13_14 : c13 ≠ c14 := by have := World.block_lt_of_cell? _ _ z13.row.c0; simp only at this; omega
                have hne14_13 : c14 ≠ c13 := fun e => hne13_14 e.symm
                replace z13 := z13.below (ba (bz W2) (.cells #[.int .u8 0, .int .u16 0, .int .u8 0, .int .u8 0, .int .u8 0, .int .u16 0, .int .u16 0, .int .u8 0, .int .u16 0, .int .u8 0, .int .i64 0, .int .i64 0] 41))
                have hne11_14 : c11 ≠ c14 := by have := World.block_lt_of_cell? _ _ z11.row.c0; simp only at this; omega
                have hne14_11 : c14 ≠ c11 := fun e => hne11_14 e.symm
                replace z11 := z11.below (ba (bz W2) (.cells #[.int .u8 0, .int .u16 0, .int .u8 0, .int .u8 0, .int .u8 0, .int .u16 0, .int .u16 0, .int .u8 0, .int .u16 0, .int .u8 0, .int .i64 0, .int .i64 0] 41))
                rw [← hc14]
                generalize (W2.alloc (.cells #[.int .u8 0, .int .u16 0, .int .u8 0, .int .u8 0, .int .u8 0, .int .u16 0, .int .u16 0, .int .u8 0, .int .u16 0, .int .u8 0, .int .i64 0, .int .i64 0] 41)) = W3 at *
                clear hc14
                refine wpAnyH_ready (rs := [33]) (by kernel_rfl) (by simp) ?_
                refine AllReadyH.cons rfl (fun K hK => ?_) AllReadyH.nil
                go_simp
                obtain ⟨c12, hc12⟩ : ∃ c, c = W3.heap.size := ⟨_, rfl⟩
                have hge12 : w2.heap.size ≤ c12 := by rw [hc12]; exact hHeld.size
                refine hK.out _ _ (by exact ba hHeld _) (fun hHeld2 => ?_)
                clear hK K
                have hHeld := hHeld2
                clear hHeld2
                try simp only [Act.put, List.setIfInBounds_toArray, List.set_cons_zero, List.set_cons_succ]
                have z12 : RowF (W3.alloc (.cells #[.int .u8 0, .int .u16 0, .int .u8 0, .int .u8 0, .int .u8 0, .int .u16 0, .int .u16 0, .int .u8 0, .int .u16 0, .int .u8 0, .int .i64 0, .int .i64 0] 41)) c12 Rw.zero := by rw [hc12]; exact RowF.new W3
                have hne13_12 : c13 ≠ c12 := by have := World.block_lt_of_cell? _ _ z13.row.c0; simp only at this; omega
                have hne12_13 : c12 ≠ c13 := fun e => hne13_12 e.symm
                replace z13 := z13.below (ba (bz W3) (.cells #[.int .u8 0, .int .u16 0, .int .u8 0, .int .u8 0, .int .u8 0, .int .u16 0, .int .u16 0, .int .u8 0, .int .u16 0, .int .u8 0, .int .i64 0, .int .i64 0] 41))
                have hne11_12 : c11 ≠ c12 := by have := World.block_lt_of_cell? _ _ z11.row.c0; simp only at this; omega
                have hne12_11 : c12 ≠ c11 := fun e => hne11_12 e.symm
                replace z11 := z11.below (ba (bz W3) (.cells #[.int .u8 0, .int .u16 0, .int .u8 0, .int .u8 0, .int .u8 0, .int .u16 0, .int .u16 0, .int .u8 0, .int .u16 0, .int .u8 0, .int .i64 0, .int .i64 0] 41))
                have hne14_12 : c14 ≠ c12 := by have := World.block_lt_of_cell? _ _ z14.row.c0; simp only at this; omega
                have hne12_14 : c12 ≠ c14 := fun e => hne14_12 e.symm
                replace z14 := z14.below (ba (bz W3) (.cells #[.int .u8 0, .int .u16 0, .int .u8 0, .int .u8 0, .int .u8 0, .int .u16 0, .int .u16 0, .int .u8 0, .int .u16 0, .int .u8 0, .int .i64 0, .int .i64 0] 41))
                rw [← hc12]
                generalize (W3.alloc (.cells #[.int .u8 0, .int .u16 0, .int .u8 0, .int .u8 0, .int .u8 0, .int .u16 0, .int .u16 0, .int .u8 0, .int .u16 0, .int .u8 0, .int .i64 0, .int .i64 0] 41)) = W4 at *
                clear hc12
                have hL : Leaf4 w2 W4 c11 c12 c13 c14 := ⟨hHeld, z11, z12, z13, z14, hge11, hge12, hge13, hge14, hne11_12, hne11_13, hne11_14, hne12_13, hne12_14, hne13_14⟩
                clear hHeld z11 z12 z13 z14 hge11 hge12 hge13 hge14 hne11_12 hne11_13 hne11_14 hne12_11 hne12_13 hne12_14 hne13_11 hne13_12 hne13_14 hne14_11 hne14_12 hne14_13
                revert hL
                revert c14
                revert c13
                revert c12
                revert c11
                revert W4
                exact LEAF
            case t10n33 =>
              go_simp
              obtain ⟨c12, hc12⟩ : ∃ c, c = W1.heap.size := ⟨_, rfl⟩
              have hge12 : w2.heap.size ≤ c12 := by rw [hc12]; exact hHeld.size
              refine hK.out _ _ (by exact ba hHeld _) (fun hHeld2 => ?_)
              clear hK K
              have hHeld := hHeld2
              clear hHeld2
              try simp only [Act.put, List.setIfInBounds_toArray, List.set_cons_zero, List.set_cons_succ]
              have z12 : RowF (W1.alloc (.cells #[.int .u8 0, .int .u16 0, .int .u8 0, .int .u8 0, .int .u8 0, .int .u16 0, .int .u16 0, .int .u8 0, .int .u16 0, .int .u8 0, .int .i64 0, .int .i64 0] 41)) c12 Rw.zero := by rw [hc12]; exact RowF.new W1
              have hne13_12 : c13 ≠ c12 := by have := World.block_lt_of_cell? _ _ z13.row.c0; simp only at this; omega
              have hne12_13 : c12 ≠ c13 := fun e => hne13_12 e.symm
              replace z13 := z13.below (ba (bz W1) (.cells #[.int .u8 0, .int .u16 0, .int .u8 0, .int .u8 0, .int .u8 0, .int .u16 0, .int .u16 0, .int .u8 0, .int .u16 0, .int .u8 0, .int .i64 0, .int .i64 0] 41))
              rw [← hc12]
              generalize (W1.alloc (.cells #[.int .u8 0, .int .u16 0, .int .u8 0, .int .u8 0, .int .u8 0, .int .u16 0, .int .u16 0, .int .u8 0, .int .u16 0, .int .u8 0, .int .i64 0, .int .i64 0] 41)) = W2 at *
              clear hc12
              refine wpAnyH_ready (rs := [32, 35]) (by kernel_rfl) (by simp) ?_
              refine AllReadyH.cons rfl (fun K hK => ?t12n32) (AllReadyH.cons rfl (fun K hK => ?t12n35) AllReadyH.nil)
              case t12n32 =>
                go_simp
                obtain ⟨c11, hc11⟩ : ∃ c, c = W2.heap.size := ⟨_, rfl⟩
                have hge11 : w2.heap.size ≤ c11 := by rw [hc11]; exact hHeld.size
                refine hK.out _ _ (by exact ba hHeld _) (fun hHeld2 => ?_)
                clear hK K
                have hHeld := hHeld2
                clear hHeld2
                try simp only [Act.put, List.setIfInBounds_toArray, List.set_cons_zero, List.set_cons_succ]
                have z11 : RowF (W2.alloc (.cells #[.int .u8 0, .int .u16 0, .int .u8 0, .int .u8 0, .int .u8 0, .int .u16 0, .int .u16 0, .int .u8 0, .int .u16 0, .int .u8 0, .int .i64 0, .int .i64 0] 41)) c11 Rw.zero := by rw [hc11]; exact RowF.new W2
                have hne13_11 : c13 ≠ c11 := by have := World.block_lt_of_cell? _ _ z13.row.c0; simp only at this; omega
                have hne11_13 : c11 ≠ c13 := fun e => hne13_11 e.symm
                replace z13 := z13.below (ba (bz W2) (.cells #[.int .u8 0, .int .u16 0, .int .u8 0, .int .u8 0, .int .u8 0, .int .u16 0, .int .u16 0, .int .u8 0, .int .u16 0, .int .u8 0, .int .i64 0, .int .i64 0] 41))
                have hne12_11 : c12 ≠ c11 := by have := World.block_lt_of_cell? _ _ z12.row.c0; simp only at this; omega
                have hne11_12 : c11 ≠ c12 := fun e => hne12_11 e.symm
                replace z12 := z12.below (ba (bz W2) (.cells #[.int .u8 0, .int .u16 0, .int .u8 0, .int .u8 0, .int .u8 0, .int .u16 0, .int .u16 0, .int .u8 0, .int .u16 0, .int .u8 0, .int .i64 0, .int .i64 0] 41))
                rw [← hc11]
                generalize (W2.alloc (.cells #[.int .u8 0, .int .u16 0, .int .u8 0, .int .u8 0, .int .u8 0, .int .u16 0, .int .u16 0, .int .u8 0, .int .u16 0, .int .u8 0, .int .i64 0, .int .i64 0] 41)) = W3 at *
                clear hc11
                refine wpAnyH_ready (rs := [35]) (by kernel_rfl) (by simp) ?_
                refine AllReadyH.cons rfl (fun K hK => ?_) AllReadyH.nil
                go_simp
                obtain ⟨c14, hc14⟩ : ∃ c, c = W3.heap.size := ⟨_, rfl⟩
                have hge14 : w2.heap.size ≤ c14 := by rw [hc14]; exact hHeld.size
                refine hK.out _ _ (by exact ba hHeld _) (fun hHeld2 => ?_)
                clear hK K
                have hHeld := hHeld2
                clear hHeld2
                try simp only [Act.put, List.setIfInBounds_toArray, List.set_cons_zero, List.set_cons_succ]
                have z14 : RowF (W3.alloc (.cells #[.int .u8 0, .int .u16 0, .int .u8 0, .int .u8 0, .int .u8 0, .int .u16 0, .int .u16 0, .int .u8 0, .int .u16 0, .int .u8 0, .int .i64 0, .int .i64 0] 41)) c14 Rw.zero := by rw [hc14]; exact RowF.new W3
                have hne13_14 : c13 ≠ c14 := by have := World.block_lt_of_cell? _ _ z13.row.c0; simp only at this; omega
                have hne14_13 : c14 ≠ c13 := fun e => hne13_14 e.symm
                replace z13 := z13.below (ba (bz W3) (.cells #[.int .u8 0, .int .u16 0, .int .u8 0, .int .u8 0, .int .u8 0, .int .u16 0, .int .u16 0, .int .u8 0, .int .u16 0, .int .u8 0, .int .i64 0, .int .i64 0] 41))
                have hne12_14 : c12 ≠ c14 := by have := World.block_lt_of_cell? _ _ z12.row.c0; simp only at this; omega
                have hne14_12 : c14 ≠ c12 := fun e => hne12_14 e.symm
                replace z12 := z12.below (ba (bz W3) (.cells #[.int .u8 0, .int .u16 0, .int .u8 0, .int .u8 0, .int .u8 0, .int .u16 0, .int .u16 0, .int .u8 0, .int .u16 0, .int .u8 0, .int .i64 0, .int .i64 0] 41))
                have hne11_14 : c11 ≠ c14 := by have := World.block_lt_of_cell? _ _ z11.row.c0; simp only at this; omega
                have hne14_11 : c14 ≠ c11 := fun e => hne11_14 e.symm
                replace z11 := z11.below (ba (bz W3) (.cells #[.int .u8 0, .int .u16 0, .int .u8 0, .int .u8 0, .int .u8 0, .int .u16 0, .int .u16 0, .int .u8 0, .int .u16 0, .int .u8 0, .int .i64 0, .int .i64 0] 41))
                rw [← hc14]
                generalize (W3.alloc (.cells #[.int .u8 0, .int .u16 0, .int .u8 0, .int .u8 0, .int .u8 0, .int .u16 0, .int .u16 0, .int .u8 0, .int .u16 0, .int .u8 0, .int .i64 0, .int .i64 0] 41)) = W4 at *
                clear hc14
                have hL : Leaf4 w2 W4 c11 c12 c13 c14 := ⟨hHeld, z11, z12, z13, z14, hge11, hge12, hge13, hge14, hne11_12, hne11_13, hne11_14, hne12_13, hne12_14, hne13_14⟩
                clear hHeld z11 z12 z13 z14 hge11 hge12 hge13 hge14 hne11_12 hne11_13 hne11_14 hne12_11 hne12_13 hne12_14 hne13_11 hne13_12 hne13_14 hne14_11 hne14_12 hne14_13
                revert hL
                revert c14
                revert c13
                revert c12
                revert c11
                revert W4
                exact LEAF
              case t12n35 =>
                go_simp
                obtain ⟨c14, hc14⟩ : ∃ c, c = W2.heap.size := ⟨_, rfl⟩
                have hge14 : w2.heap.size ≤ c14 := by rw [hc14]; exact hHeld.size
                refine hK.out _ _ (by exact ba hHeld _) (fun hHeld2 => ?_)
                clear hK K
                have hHeld := hHeld2
                clear hHeld2
                try simp only [Act.put, List.setIfInBounds_toArray, List.set_cons_zero, List.set_cons_succ]
                have z14 : RowF (W2.alloc (.cells #[.int .u8 0, .int .u16 0, .int .u8 0, .int .u8 0, .int .u8 0, .int .u16 0, .int .u16 0, .int .u8 0, .int .u16 0, .int .u8 0, .int .i64 0, .int .i64 0] 41)) c14 Rw.zero := by rw [hc14]; exact RowF.new W2
                have hne13_14 : c13 ≠ c14 := by have := World.block_lt_of_cell? _ _ z13.row.c0; simp only at this; omega
                have hne14_13 : c14 ≠ c13 := fun e => hne13_14 e.symm
                replace z13 := z13.below (ba (bz W2) (.cells #[.int .u8 0, .int .u16 0, .int .u8 0, .int .u8 0, .int .u8 0, .int .u16 0, .int .u16 0, .int .u8 0, .int .u16 0, .int .u8 0, .int .i64 0, .int .i64 0] 41))
                have hne12_14 : c12 ≠ c14 := by have := World.block_lt_of_cell? _ _ z12.row.c0; simp only at this; omega
                have hne14_12 : c14 ≠ c12 := fun e => hne12_14 e.symm
                replace z12 := z12.below (ba (bz W2) (.cells #[.int .u8 0, .int .u16 0, .int .u8 0, .int .u8 0, .int .u8 0, .int .u16 0, .int .u16 0, .int .u8 0, .int .u16 0, .int .u8 0, .int .i64 0, .int .i64 0] 41))
                rw [← hc14]
                generalize (W2.alloc (.cells #[.int .u8 0, .int .u16 0, .int .u8 0, .int .u8 0, .int .u8 0, .int .u16 0, .int .u16 0, .int .u8 0, .int .u16 0, .int .u8 0, .int .i64 0, .int .i64 0] 41)) = W3 at *
                clear hc14
                refine wpAnyH_ready (rs := [32]) (by kernel_rfl) (by simp) ?_
                refine AllReadyH.cons rfl (fun K hK => ?_) AllReadyH.nil
                go_simp
                obtain ⟨c11, hc11⟩ : ∃ c, c = W3.heap.size := ⟨_, rfl⟩
                have hge11 : w2.heap.size ≤ c11 := by rw [hc11]; exact hHeld.size
                refine hK.out _ _ (by exact ba hHeld _) (fun hHeld2 => ?_)
                clear hK K
                have hHeld := hHeld2
                clear hHeld2
                try simp only [Act.put, List.setIfInBounds_toArray, List.set_cons_zero, List.set_cons_succ]
                have z11 : RowF (W3.alloc (.cells #[.int .u8 0, .int .u16 0, .int .u8 0, .int .u8 0, .int .u8 0, .int .u16 0, .int .u16 0, .int .u8 0, .int .u16 0, .int .u8 0, .int .i64 0, .int .i64 0] 41)) c11 Rw.zero := by rw [hc11]; exact RowF.new W3
                have hne13_11 : c13 ≠ c11 := by have := World.block_lt_of_cell? _ _ z13.row.c0; simp only at this; omega
                have hne11_13 : c11 ≠ c13 := fun e => hne13_11 e.symm
                replace z13 := z13.below (ba (bz W3) (.cells #[.int .u8 0, .int .u16 0, .int .u8 0, .int .u8 0, .int .u8 0, .int .u16 0, .int .u16 0, .int .u8 0, .int .u16 0, .int .u8 0, .int .i64 0, .int .i64 0] 41))
                have hne12_11 : c12 ≠ c11 := by have := World.block_lt_of_cell? _ _ z12.row.c0; simp only at this; omega
                have hne11_12 : c11 ≠ c12 := fun e => hne12_11 e.symm
                replace z12 := z12.below (ba (bz W3) (.cells #[.int .u8 0, .int .u16 0, .int .u8 0, .int .u8 0, .int .u8 0, .int .u16 0, .int .u16 0, .int .u8 0, .int .u16 0, .int .u8 0, .int .i64 0, .int .i64 0] 41))
                have hne14_11 : c14 ≠ c11 := by have := World.block_lt_of_cell? _ _ z14.row.c0; simp only at this; omega
                have hne11_14 : c11 ≠ c14 := fun e => hne14_11 e.symm
                replace z14 := z14.below (ba (bz W3) (.cells #[.int .u8 0, .int .u16 0, .int .u8 0, .int .u8 0, .int .u8 0, .int .u16 0, .int .u16 0, .int .u8 0, .int .u16 0, .int .u8 0, .int .i64 0, .int .i64 0] 41))
                rw [← hc11]
                generalize (W3.alloc (.cells #[.int .u8 0, .int .u16 0, .int .u8 0, .int .u8 0, .int .u8 0, .int .u16 0, .int .u16 0, .int .u8 0, .int .u16 0, .int .u8 0, .int .i64 0, .int .i64 0] 41)) = W4 at *
                clear hc11
                have hL : Leaf4 w2 W4 c11 c12 c13 c14 := ⟨hHeld, z11, z12, z13, z14, hge11, hge12, hge13, hge14, hne11_12, hne11_13, hne11_14, hne12_13, hne12_14, hne13_14⟩
                clear hHeld z11 z12 z13 z14 hge11 hge12 hge13 hge14 hne11_12 hne11_13 hne11_14 hne12_11 hne12_13 hne12_14 hne13_11 hne13_12 hne13_14 hne14_11 hne14_12 hne14_13
                revert hL
                revert c14
                revert c13
                revert c12
                revert c11
                revert W4
                exact LEAF
            case t10n35 =>
              go_simp
              obtain ⟨c14, hc14⟩ : ∃ c, c = W1.heap.size := ⟨_, rfl⟩
              have hge14 : w2.heap.size ≤ c14 := by rw [hc14]; exact hHeld.size
              refine hK.out _ _ (by exact ba hHeld _) (fun hHeld2 => ?_)
              clear hK K
              have hHeld := hHeld2
              clear hHeld2
              try simp only [Act.put, List.setIfInBounds_toArray, List.set_cons_zero, List.set_cons_succ]
              have z14 : RowF (W1.alloc (.cells #[.int .u8 0, .int .u16 0, .int .u8 0, .int .u8 0, .int .u8 0, .int .u16 0, .int .u16 0, .int .u8 0, .int .u16 0, .int .u8 0, .int .i64 0, .int .i64 0] 41)) c14 Rw.zero := by rw [hc14]; exact RowF.new W1
              have hne13_14 : c13 ≠ c14 := by have := World.block_lt_of_cell? _ _ z13.row.c0; simp only at this; omega
              have hne14_13 : c14 ≠ c13 := fun e => hne13_14 e.symm
              replace z13 := z13.below (ba (bz W1) (.cells #[.int .u8 0, .int .u16 0, .int .u8 0, .int .u8 0, .int .u8 0, .int .u16 0, .int .u16 0, .int .u8 0, .int .u16 0, .int .u8 0, .int .i64 0, .int .i64 0] 41))
              rw [← hc14]
              generalize (W1.alloc (.cells #[.int .u8 0, .int .u16 0, .int .u8 0, .int .u8 0, .int .u8 0, .int .u16 0, .int .u16 0, .int .u8 0, .int .u16 0, .int .u8 0, .int .i64 0, .int .i64 0] 41)) = W2 at *
              clear hc14
              refine wpAnyH_ready (rs := [32, 33]) (by kernel_rfl) (by simp) ?_
              refine AllReadyH.cons rfl (fun K hK => ?t13n32) (AllReadyH.cons rfl (fun K hK => ?t13n33) AllReadyH.nil)
              case t13n32 =>
                go_simp
                obtain ⟨c11, hc11⟩ : ∃ c, c = W2.heap.size := ⟨_, rfl⟩
                have hge11 : w2.heap.size ≤ c11 := by rw [hc11]; exact hHeld.size
                refine hK.out _ _ (by exact ba hHeld _) (fun hHeld2 => ?_)
                clear hK K
                have hHeld := hHeld2
                clear hHeld2
                try simp only [Act.put, List.setIfInBounds_toArray, List.set_cons_zero, List.set_cons_succ]
                have z11 : RowF (W2.alloc (.cells #[.int .u8 0, .int .u16 0, .int .u8 0, .int .u8 0, .int .u8 0, .int .u16 0, .int .u16 0, .int .u8 0, .int .u16 0, .int .u8 0, .int .i64 0, .int .i64 0] 41)) c11 Rw.zero := by rw [hc11]; exact RowF.new W2
                have hne13_11 : c13 ≠ c11 := by have := World.block_lt_of_cell? _ _ z13.row.c0; simp only at this; omega
                have hne11_13 : c11 ≠ c13 := fun e => hne13_11 e.symm
                replace z13 := z13.below (ba (bz W2) (.cells #[.int .u8 0, .int .u16 0, .int .u8 0, .int .u8 0, .int .u8 0, .int .u16 0, .int .u16 0, .int .u8 0, .int .u16 0, .int .u8 0, .int .i64 0, .int .i64 0] 41))
                have hne14_11 : c14 ≠ c11 := by have := World.block_lt_of_cell? _ _ z14.row.c0; simp only at this; omega
                have hne11_14 : c11 ≠ c14 := fun e => hne14_11 e.symm
                replace z14 := z14.below (ba (bz W2) (.cells #[.int .u8 0, .int .u16 0, .int .u8 0, .int .u8 0, .int .u8 0, .int .u16 0, .int .u16 0, .int .u8 0, .int .u16 0, .int .u8 0, .int .i64 0, .int .i64 0] 41))
                rw [← hc11]
                generalize (W2.alloc (.cells #[.int .u8 0, .int .u16 0, .int .u8 0, .int .u8 0, .int .u8 0, .int .u16 0, .int .u16 0, .int .u8 0, .int .u16 0, .int .u8 0, .int .i64 0, .int .i64 0] 41)) = W3 at *
                clear hc11
                refine wpAnyH_ready (rs := [33]) (by kernel_rfl) (by simp) ?_
                refine AllReadyH.cons rfl (fun K hK => ?_) AllReadyH.nil
                go_simp
                obtain ⟨c12, hc12⟩ : ∃ c, c = W3.heap.size := ⟨_, rfl⟩
                have hge12 : w2.heap.size ≤ c12 := by rw [hc12]; exact hHeld.size
                refine hK.out _ _ (by exact ba hHeld _) (fun hHeld2 => ?_)
                clear hK K
                have hHeld := hHeld2
                clear hHeld2
                try simp only [Act.put, List.setIfInBounds_toArray, List.set_cons_zero, List.set_cons_succ]
                have z12 : RowF (W3.alloc (.cells #[.int .u8 0, .int .u16 0, .int .u8 0, .int .u8 0, .int .u8 0, .int .u16 0, .int .u16 0, .int .u8 0, .int .u16 0, .int .u8 0, .int .i64 0, .int .i64 0] 41)) c12 Rw.zero := by rw [hc12]; exact RowF.new W3
                have hne13_12 : c13 ≠ c12 := by have := World.block_lt_of_cell? _ _ z13.row.c0; simp only at this; omega
                have hne12_13 : c12 ≠ c13 := fun e => hne13_12 e.symm
                replace z13 := z13.below (ba (bz W3) (.cells #[.int .u8 0, .int .u16 0, .int .u8 0, .int .u8 0, .int .u8 0, .int .u16 0, .int .u16 0, .int .u8 0, .int .u16 0, .int .u8 0, .int .i64 0, .int .i64 0] 41))
                have hne14_12 : c14 ≠ c12 := by have := World.block_lt_of_cell? _ _ z14.row.c0; simp only at this; omega
                have hne12_14 : c12 ≠ c14 := fun e => hne14_12 e.symm
                replace z14 := z14.below (ba (bz W3) (.cells #[.int .u8 0, .int .u16 0, .int .u8 0, .int .u8 0, .int .u8 0, .int .u16 0, .int .u16 0, .int .u8 0, .int .u16 0, .int .u8 0, .int .i64 0, .int .i64 0] 41))
                have hne11_12 : c11 ≠ c12 := by have := World.block_lt_of_cell? _ _ z11.row.c0; simp only at this; omega
                have hne12_11 : c12 ≠ c11 := fun e => hne11_12 e.symm
                replace z11 := z11.below (ba (bz W3) (.cells #[.int .u8 0, .int .u16 0, .int .u8 0, .int .u8 0, .int .u8 0, .int .u16 0, .int .u16 0, .int .u8 0, .int .u16 0, .int .u8 0, .int .i64 0, .int .i64 0] 41))
                rw [← hc12]
                generalize (W3.alloc (.cells #[.int .u8 0, .int .u16 0, .int .u8 0, .int .u8 0, .int .u8 0, .int .u16 0, .int .u16 0, .int .u8 0, .int .u16 0, .int .u8 0, .int .i64 0, .int .i64 0] 41)) = W4 at *
                clear hc12
                have hL : Leaf4 w2 W4 c11 c12 c13 c14 := ⟨hHeld, z11, z12, z13, z14, hge11, hge12, hge13, hge14, hne11_12, hne11_13, hne11_14, hne12_13, hne12_14, hne13_14⟩
                clear hHeld z11 z12 z13 z14 hge11 hge12 hge13 hge14 hne11_12 hne11_13 hne11_14 hne12_11 hne12_13 hne12_14 hne13_11 hne13_12 hne13_14 hne14_11 hne14_12 hne14_13
                revert hL
                revert c14
                revert c13
                revert c12
                revert c11
                revert W4
                exact LEAF
              case t13n33 =>
                go_simp
                obtain ⟨c12, hc12⟩ : ∃ c, c = W2.heap.size := ⟨_, rfl⟩
                have hge12 : w2.heap.size ≤ c12 := by rw [hc12]; exact hHeld.size
                refine hK.out _ _ (by exact ba hHeld _) (fun hHeld2 => ?_)
                clear hK K
                have hHeld := hHeld2
                clear hHeld2
                try simp only [Act.put, List.setIfInBounds_toArray, List.set_cons_zero, List.set_cons_succ]
                have z12 : RowF (W2.alloc (.cells #[.int .u8 0, .int .u16 0, .int .u8 0, .int .u8 0, .int .u8 0, .int .u16 0, .int .u16 0, .int .u8 0, .int .u16 0, .int .u8 0, .int .i64 0, .int .i64 0] 41)) c12 Rw.zero := by rw [hc12]; exact RowF.new W2
                have hne13_12 : c13 ≠ c12 := by have := World.block_lt_of_cell? _ _ z13.row.c0; simp only at this; omega
                have hne12_13 : c12 ≠ c13 := fun e => hne13_12 e.symm
                replace z13 := z13.below (ba (bz W2) (.cells #[.int .u8 0, .int .u16 0, .int .u8 0, .int .u8 0, .int .u8 0, .int .u16 0, .int .u16 0, .int .u8 0, .int .u16 0, .int .u8 0, .int .i64 0, .int .i64 0] 41))
                have hne14_12 : c14 ≠ c12 := by have := World.block_lt_of_cell? _ _ z14.row.c0; simp only at this; omega
                have hne12_14 : c12 ≠ c14 := fun e => hne14_12 e.symm
                replace z14 := z14.below (ba (bz W2) (.cells #[.int .u8 0, .int .u16 0, .int .u8 0, .int .u8 0, .int .u8 0, .int .u16 0, .int .u16 0, .int .u8 0, .int .u16 0, .int .u8 0, .int .i64 0, .int .i64 0] 41))
                rw [← hc12]
                generalize (W2.alloc (.cells #[.int .u8 0, .int .u16 0, .int .u8 0, .int .u8 0, .int .u8 0, .int .u16 0, .int .u16 0, .int .u8 0, .int .u16 0, .int .u8 0, .int .i64 0, .int .i64 0] 41)) = W3 at *
                clear hc12
                refine wpAnyH_ready (rs := [32]) (by kernel_rfl) (by simp) ?_
                refine AllReadyH.cons rfl (fun K hK => ?_) AllReadyH.nil
                go_simp
                obtain ⟨c11, hc11⟩ : ∃ c, c = W3.heap.size := ⟨_, rfl⟩
                have hge11 : w2.heap.size ≤ c11 := by rw [hc11]; exact hHeld.size
                refine hK.out _ _ (by exact ba hHeld _) (fun hHeld2 => ?_)
                clear hK K
                have hHeld := hHeld2
                clear hHeld2
                try simp only [Act.put, List.setIfInBounds_toArray, List.set_cons_zero, List.set_cons_succ]
                have z11 : RowF (W3.alloc (.cells #[.int .u8 0, .int .u16 0, .int .u8 0, .int .u8 0, .int .u8 0, .int .u16 0, .int .u16 0, .int .u8 0, .int .u16 0, .int .u8 0, .int .i64 0, .int .i64 0] 41)) c11 Rw.zero := by rw [hc11]; exact RowF.new W3
                have hne13_11 : c13 ≠ c11 := by have := World.block_lt_of_cell? _ _ z13.row.c0; simp only at this; omega
                have hne11_13 : c11 ≠ c13 := fun e => hne13_11 e.symm
                replace z13 := z13.below (ba (bz W3) (.cells #[.int .u8 0, .int .u16 0, .int .u8 0, .int .u8 0, .int .u8 0, .int .u16 0, .int .u16 0, .int .u8 0, .int .u16 0, .int .u8 0, .int .i64 0, .int .i64 0] 41))
                have hne14_11 : c14 ≠ c11 := by have := World.block_lt_of_cell? _ _ z14.row.c0; simp only at this; omega
                have hne11_14 : c11 ≠ c14 := fun e => hne14_11 e.symm
                replace z14 := z14.below (ba (bz W3) (.cells #[.int .u8 0, .int .u16 0, .int .u8 0, .int .u8 0, .int .u8 0, .int .u16 0, .int .u16 0, .int .u8 0, .int .u16 0, .int .u8 0, .int .i64 0, .int .i64 0] 41))
                have hne12_11 : c12 ≠ c11 := by have := World.block_lt_of_cell? _ _ z12.row.c0; simp only at this; omega
                have hne11_12 : c11 ≠ c12 := fun e => hne12_11 e.symm
                replace z12 := z12.below (ba (bz W3) (.cells #[.int .u8 0, .int .u16 0, .int .u8 0, .int .u8 0, .int .u8 0, .int .u16 0, .int .u16 0, .int .u8 0, .int .u16 0, .int .u8 0, .int .i64 0, .int .i64 0] 41))
                rw [← hc11]
                generalize (W3.alloc (.cells #[.int .u8 0, .int .u16 0, .int .u8 0, .int .u8 0, .int .u8 0, .int .u16 0, .int .u16 0, .int .u8 0, .int .u16 0, .int .u8 0, .int .i64 0, .int .i64 0] 41)) = W4 at *
                clear hc11
                have hL : Leaf4 w2 W4 c11 c12 c13 c14 := ⟨hHeld, z11, z12, z13, z14, hge11, hge12, hge13, hge14, hne11_12, hne11_13, hne11_14, hne12_13, hne12_14, hne13_14⟩
                clear hHeld z11 z12 z13 z14 hge11 hge12 hge13 hge14 hne11_12 hne11_13 hne11_14 hne12_11 hne12_13 hne12_14 hne13_11 hne13_12 hne13_14 hne14_11 hne14_12 hne14_13
                revert hL
                revert c14
                revert c13
                revert c12
                revert c11
                revert W4
                exact LEAF
          case t1n35 =>
            go_simp
            obtain ⟨c14, hc14⟩ : ∃ c, c = W0.heap.size := ⟨_, rfl⟩
            have hge14 : w2.heap.size ≤ c14 := by rw [hc14]; exact hHeld.size
            refine hK.out _ _ (by exact ba hHeld _) (fun hHeld2 => ?_)
            clear hK K
            have hHeld := hHeld2
            clear hHeld2
            try simp only [Act.put, List.setIfInBounds_toArray, List.set_cons_zero, List.set_cons_succ]
            have z14 : RowF (W0.alloc (.cells #[.int .u8 0, .int .u16 0, .int .u8 0, .int .u8 0, .int .u8 0, .int .u16 0, .int .u16 0, .int .u8 0, .int .u16 0, .int .u8 0, .int .i64 0, .int .i64 0] 41)) c14 Rw.zero := by rw [hc14]; exact RowF.new W0
            rw [← hc14]
            generalize (W0.alloc (.cells #[.int .u8 0, .int .u16 0, .int .u8 0, .int .u8 0, .int .u8 0, .int .u16 0, .int .u16 0, .int .u8 0, .int .u16 0, .int .u8 0, .int .i64 0, .int .i64 0] 41)) = W1 at *
            clear hc14
            refine wpAnyH_ready (rs := [32, 33, 34]) (by kernel_rfl) (by simp) ?_
            refine AllReadyH.cons rfl (fun K hK => ?t14n32) (AllReadyH.cons rfl (fun K hK => ?t14n33) (AllReadyH.cons rfl (fun K hK => ?t14n34) AllReadyH.nil))
            case t14n32 =>
              go_simp
              obtain ⟨c11, hc11⟩ : ∃ c, c = W1.heap.size := ⟨_, rfl⟩
              have hge11 : w2.heap.size ≤ c11 := by rw [hc11]; exact hHeld.size
              refine hK.out _ _ (by exact ba hHeld _) (fun hHeld2 => ?_)
              clear hK K
              have hHeld := hHeld2
              clear hHeld2
              try simp only [Act.put, List.setIfInBounds_toArray, List.set_cons_zero, List.set_cons_succ]
              have z11 : RowF (W1.alloc (.cells #[.int .u8 0, .int .u16 0, .int .u8 0, .int .u8 0, .int .u8 0, .int .u16 0, .int .u16 0, .int .u8 0, .int .u16 0, .int .u8 0, .int .i64 0, .int .i64 0] 41)) c11 Rw.zero := by rw [hc11]; exact RowF.new W1
              have hne14_11 : c14 ≠ c11 := by have := World.block_lt_of_cell? _ _ z14.row.c0; simp only at this; omega
              have hne11_14 : c11 ≠ c14 := fun e => hne14_11 e.symm
              replace z14 := z14.below (ba (bz W1) (.cells #[.int .u8 0, .int .u16 0, .int .u8 0, .int .u8 0, .int .u8 0, .int .u16 0, .int .u16 0, .int .u8 0, .int .u16 0, .int .u8 0, .int .i64 0, .int .i64 0] 41))
              rw [← hc11]
              generalize (W1.alloc (.cells #[.int .u8 0, .int .u16 0, .int .u8 0, .int .u8 0, .int .u8 0, .int .u16 0, .int .u16 0, .int .u8 0, .int .u16 0, .int .u8 0, .int .i64 0, .int .i64 0] 41)) = W2 at *
              clear hc11
              refine wpAnyH_ready (rs := [33, 34]) (by kernel_rfl) (by simp) ?_
              refine AllReadyH.cons rfl (fun K hK => ?t15n33) (AllReadyH.cons rfl (fun K hK => ?t15n34) AllReadyH.nil)
              case t15n33 =>
                go_simp
                obtain ⟨c12, hc12⟩ : ∃ c, c = W2.heap.size := ⟨_, rfl⟩
                have hge12 : w2.heap.size ≤ c12 := by rw [hc12]; exact hHeld.size
                refine hK.out _ _ (by exact ba hHeld _) (fun hHeld2 => ?_)
                clear hK K
                have hHeld := hHeld2
                clear hHeld2
                try simp only [Act.put, List.setIfInBounds_toArray, List.set_cons_zero, List.set_cons_succ]
                have z12 : RowF (W2.alloc (.cells #[.int .u8 0, .int .u16 0, .int .u8 0, .int .u8 0, .int .u8 0, .int .u16 0, .int .u16 0, .int .u8 0, .int .u16 0, .int .u8 0, .int .i64 0, .int .i64 0] 41)) c12 Rw.zero := by rw [hc12]; exact RowF.new W2
                have hne14_12 : c14 ≠ c12 := by have := World.block_lt_of_cell? _ _ z14.row.c0; simp only at this; omega
                have hne12_14 : c12 ≠ c14 := fun e => hne14_12 e.symm
                replace z14 := z14.below (ba (bz W2) (.cells #[.int .u8 0, .int .u16 0, .int .u8 0, .int .u8 0, .int .u8 0, .int .u16 0, .int .u16 0, .int .u8 0, .int .u16 0, .int .u8 0, .int .i64 0, .int .i64 0] 41))
                have hne11_12 : c11 ≠ c12 := by have := World.block_lt_of_cell? _ _ z11.row.c0; simp only at this; omega
                have hne12_11 : c12 ≠ c11 := fun e => hne11_12 e.symm
                replace z11 := z11.below (ba (bz W2) (.cells #[.int .u8 0, .int .u16 0, .int .u8 0, .int .u8 0, .int .u8 0, .int .u16 0, .int .u16 0, .int .u8 0, .int .u16 0, .int .u8 0, .int .i64 0, .int .i64 0] 41))
                rw [← hc12]
                generalize (W2.alloc (.cells #[.int .u8 0, .int .u16 0, .int .u8 0, .int .u8 0, .int .u8 0, .int .u16 0, .int .u16 0, .int .u8 0, .int .u16 0, .int .u8 0, .int .i64 0, .int .i64 0] 41)) = W3 at *
                clear hc12
                refine wpAnyH_ready (rs := [34]) (by kernel_rfl) (by simp) ?_
                refine AllReadyH.cons rfl (fun K hK => ?_) AllReadyH.nil
                go_simp
                obtain ⟨c13, hc13⟩ : ∃ c, c = W3.heap.size := ⟨_, rfl⟩
                have hge13 : w2.heap.size ≤ c13 := by rw [hc13]; exact hHeld.size
                refine hK.out _ _ (by exact ba hHeld _) (fun hHeld2 => ?_)
                clear hK K
                have hHeld := hHeld2
                clear hHeld2
                try simp only [Act.put, List.setIfInBounds_toArray, List.set_cons_zero, List.set_cons_succ]
                have z13 : RowF (W3.alloc (.cells #[.int .u8 0, .int .u16 0, .int .u8 0, .int .u8 0, .int .u8 0, .int .u16 0, .int .u16 0, .int .u8 0, .int .u16 0, .int .u8 0, .int .i64 0, .int .i64 0] 41)) c13 Rw.zero := by rw [hc13]; exact RowF.new W3
                have hne14_13 : c14 ≠ c13 := by have := World.block_lt_of_cell? _ _ z14.row.c0; simp only at this; omega
                have hne13_14 : c13 ≠ c14 := fun e => hne14_13 e.symm
                replace z14 := z14.below (ba (bz W3) (.cells #[.int .u8 0, .int .u16 0, .int .u8 0, .int .u8 0, .int .u8 0, .int .u16 0, .int .u16 0, .int .u8 0, .int .u16 0, .int .u8 0, .int .i64 0, .int .i64 0] 41))
                have hne11_13 : c11 ≠ c13 := by have := World.block_lt_of_cell? _ _ z11.row.c0; simp only at this; omega
                have hne13_11 : c13 ≠ c11 := fun e => hne11_13 e.symm
                replace z11 := z11.below (ba (bz W3) (.cells #[.int .u8 0, .int .u16 0, .int .u8 0, .int .u8 0, .int .u8 0, .int .u16 0, .int .u16 0, .int .u8 0, .int .u16 0, .int .u8 0, .int .i64 0, .int .i64 0] 41))
                have hne12_13 : c12 ≠ c13 := by have := World.block_lt_of_cell? _ _ z12.row.c0; simp only at this; omega
                have hne13_12 : c13 ≠ c12 := fun e => hne12_13 e.symm
                replace z12 := z12.below (ba (bz W3) (.cells #[.int .u8 0, .int .u16 0, .int .u8 0, .int .u8 0, .int .u8 0, .int .u16 0, .int .u16 0, .int .u8 0, .int .u16 0, .int .u8 0, .int .i64 0, .int .i64 0] 41))
                rw [← hc13]
                generalize (W3.alloc (.cells #[.int .u8 0, .int .u16 0, .int .u8 0, .int .u8 0, .int .u8 0, .int .u16 0, .int .u16 0, .int .u8 0, .int .u16 0, .int .u8 0, .int .i64 0, .int .i64 0] 41)) = W4 at *
                clear hc13
                have hL : Leaf4 w2 W4 c11 c12 c13 c14 := ⟨hHeld, z11, z12, z13, z14, hge11, hge12, hge13, hge14, hne11_12, hne11_13, hne11_14, hne12_13, hne12_14, hne13_14⟩
                clear hHeld z11 z12 z13 z14 hge11 hge12 hge13 hge14 hne11_12 hne11_13 hne11_14 hne12_11 hne12_13 hne12_14 hne13_11 hne13_12 hne13_14 hne14_11 hne14_12 hne14_13
                revert hL
                revert c14
                revert c13
                revert c12
                revert c11
                revert W4
                exact LEAF
              case t15n34 =>
                go_simp
                obtain ⟨c13, hc13⟩ : ∃ c, c = W2.heap.size := ⟨_, rfl⟩
                have hge13 : w2.heap.size ≤ c13 := by rw [hc13]; exact hHeld.size
                refine hK.out _ _ (by exact ba hHeld _) (fun hHeld2 => ?_)
                clear hK K
                have hHeld := hHeld2
                clear hHeld2
                try simp only [Act.put, List.setIfInBounds_toArray, List.set_cons_zero, List.set_cons_succ]
                have z13 : RowF (W2.alloc (.cells #[.int .u8 0, .int .u16 0, .int .u8 0, .int .u8 0, .int .u8 0, .int .u16 0, .int .u16 0, .int .u8 0, .int .u16 0, .int .u8 0, .int .i64 0, .int .i64 0] 41)) c13 Rw.zero := by rw [hc13]; exact RowF.new W2
                have hne14_13 : c14 ≠ c13 := by have := World.block_lt_of_cell? _ _ z14.row.c0; simp only at this; omega
                have hne13_14 : c13 ≠ c14 := fun e => hne14_13 e.symm
                replace z14 := z14.below (ba (bz W2) (.cells #[.int .u8 0, .int .u16 0, .int .u8 0, .int .u8 0, .int .u8 0, .int .u16 0, .int .u16 0, .int .u8 0, .int .u16 0, .int .u8 0, .int .i64 0, .int .i64 0] 41))
                have hne11_13 : c11 ≠ c13 := by have := World.block_lt_of_cell? _ _ z11.row.c0; simp only at this; omega
                have hne13_11 : c13 ≠ c11 := fun e => hne11_13 e.symm
                replace z11 := z11.below (ba (bz W2) (.cells #[.int .u8 0, .int .u16 0, .int .u8 0, .int .u8 0, .int .u8 0, .int .u16 0, .int .u16 0, .int .u8 0, .int .u16 0, .int .u8 0, .int .i64 0, .int .i64 0] 41))
                rw [← hc13]
                generalize (W2.alloc (.cells #[.int .u8 0, .int .u16 0, .int .u8 0, .int .u8 0, .int .u8 0, .int .u16 0, .int .u16 0, .int .u8 0, .int .u16 0, .int .u8 0, .int .i64 0, .int .i64 0] 41)) = W3 at *
                clear hc13
                refine wpAnyH_ready (rs := [33]) (by kernel_rfl) (by simp) ?_
                refine AllReadyH.cons rfl (fun K hK => ?_) AllReadyH.nil
                go_simp
                obtain ⟨c12, hc12⟩ : ∃ c, c = W3.heap.size := ⟨_, rfl⟩
                have hge12 : w2.heap.size ≤ c12 := by rw [hc12]; exact hHeld.size
                refine hK.out _ _ (by exact ba hHeld _) (fun hHeld2 => ?_)
                clear hK K
                have hHeld := hHeld2
                clear hHeld2
                try simp only [Act.put, List.setIfInBounds_toArray, List.set_cons_zero, List.set_cons_succ]
                have z12 : RowF (W3.alloc (.cells #[.int .u8 0, .int .u16 0, .int .u8 0, .int .u8 0, .int .u8 0, .int .u16 0, .int .u16 0, .int .u8 0, .int .u16 0, .int .u8 0, .int .i64 0, .int .i64 0] 41)) c12 Rw.zero := by rw [hc12]; exact RowF.new W3
                have hne14_12 : c14 ≠ c12 := by have := World.block_lt_of_cell? _ _ z14.row.c0; simp only at this; omega
                have hne12_14 : c12 ≠ c14 := fun e => hne14_12 e.symm
                replace z14 := z14.below (ba (bz W3) (.cells #[.int .u8 0, .int .u16 0, .int .u8 0, .int .u8 0, .int .u8 0, .int .u16 0, .int .u16 0, .int .u8 0, .int .u16 0, .int .u8 0, .int .i64 0, .int .i64 0] 41))
                have hne11_12 : c11 ≠ c12 := by have := World.block_lt_of_cell? _ _ z11.row.c0; simp only at this; omega
                have hne12_11 : c12 ≠ c11 := fun e => hne11_12 e.symm
                replace z11 := z11.below (ba (bz W3) (.cells #[.int .u8 0, .int .u16 0, .int .u8 0, .int .u8 0, .int .u8 0, .int .u16 0, .int .u16 0, .int .u8 0, .int .u16 0, .int .u8 0, .int .i64 0, .int .i64 0] 41))
                have hne13_12 : c13 ≠ c12 := by have := World.block_lt_of_cell? _ _ z13.row.c0; simp only at this; omega
                have hne12_13 : c12 ≠ c13 := fun e => hne13_12 e.symm
                replace z13 := z13.below (ba (bz W3) (.cells #[.int .u8 0, .int .u16 0, .int .u8 0, .int .u8 0, .int .u8 0, .int .u16 0, .int .u16 0, .int .u8 0, .int .u16 0, .int .u8 0, .int .i64 0, .int .i64 0] 41))
                rw [← hc12]
                generalize (W3.alloc (.cells #[.int .u8 0, .int .u16 0, .int .u8 0, .int .u8 0, .int .u8 0, .int .u16 0, .int .u16 0, .int .u8 0, .int .u16 0, .int .u8 0, .int .i64 0, .int .i64 0] 41)) = W4 at *
                clear hc12
                have hL : Leaf4 w2 W4 c11 c12 c13 c14 := ⟨hHeld, z11, z12, z13, z14, hge11, hge12, hge13, hge14, hne11_12, hne11_13, hne11_14, hne12_13, hne12_14, hne13_14⟩
                clear hHeld z11 z12 z13 z14 hge11 hge12 hge13 hge14 hne11_12 hne11_13 hne11_14 hne12_11 hne12_13 hne12_14 hne13_11 hne13_12 hne13_14 hne14_11 hne14_12 hne14_13
                revert hL
                revert c14
                revert c13
                revert c12
                revert c11
                revert W4
                exact LEAF
            case t14n33 =>
              go_simp
              obtain ⟨c12, hc12⟩ : ∃ c, c = W1.heap.size := ⟨_, rfl⟩
              have hge12 : w2.heap.size ≤ c12 := by rw [hc12]; exact hHeld.size
              refine hK.out _ _ (by exact ba hHeld _) (fun hHeld2 => ?_)
              clear hK K
              have hHeld := hHeld2
              clear hHeld2
              try simp only [Act.put, List.setIfInBounds_toArray, List.set_cons_zero, List.set_cons_succ]
              have z12 : RowF (W1.alloc (.cells #[.int .u8 0, .int .u16 0, .int .u8 0, .int .u8 0, .int .u8 0, .int .u16 0, .int .u16 0, .int .u8 0, .int .u16 0, .int .u8 0, .int .i64 0, .int .i64 0] 41)) c12 Rw.zero := by rw [hc12]; exact RowF.new W1
              have hne14_12 : c14 ≠ c12 := by have := World.block_lt_of_cell? _ _ z14.row.c0; simp only at this; omega
              have hne12_14 : c12 ≠ c14 := fun e => hne14_12 e.symm
              replace z14 := z14.below (ba (bz W1) (.cells #[.int .u8 0, .int .u16 0, .int .u8 0, .int .u8 0, .int .u8 0, .int .u16 0, .int .u16 0, .int .u8 0, .int .u16 0, .int .u8 0, .int .i64 0, .int .i64 0] 41))
              rw [← hc12]
              generalize (W1.alloc (.cells #[.int .u8 0, .int .u16 0, .int .u8 0, .int .u8 0, .int .u8 0, .int .u16 0, .int .u16 0, .int .u8 0, .int .u16 0, .int .u8 0, .int .i64 0, .int .i64 0] 41)) = W2 at *
              clear hc12
              refine wpAnyH_ready (rs := [32, 34]) (by kernel_rfl) (by simp) ?_
              refine AllReadyH.cons rfl (fun K hK => ?t16n32) (AllReadyH.cons rfl (fun K hK => ?t16n34) AllReadyH.nil)
              case t16n32 =>
                go_simp
                obtain ⟨c11, hc11⟩ : ∃ c, c = W2.heap.size := ⟨_, rfl⟩
                have hge11 : w2.heap.size ≤ c11 := by rw [hc11]; exact hHeld.size
                refine hK.out _ _ (by exact ba hHeld _) (fun hHeld2 => ?_)
                clear hK K
                have hHeld := hHeld2
                clear hHeld2
                try simp only [Act.put, List.setIfInBounds_toArray, List.set_cons_zero, List.set_cons_succ]
                have z11 : RowF (W2.alloc (.cells #[.int .u8 0, .int .u16 0, .int .u8 0, .int .u8 0, .int .u8 0, .int .u16 0, .int .u16 0, .int .u8 0, .int .u16 0, .int .u8 0, .int .i64 0, .int .i64 0] 41)) c11 Rw.zero := by rw [hc11]; exact RowF.new W2
                have hne14_11 : c14 ≠ c11 := by have := World.block_lt_of_cell? _ _ z14.row.c0; simp only at this; omega
                have hne11_14 : c11 ≠ c14 := fun e => hne14_11 e.symm
                replace z14 := z14.below (ba (bz W2) (.cells #[.int .u8 0, .int .u16 0, .int .u8 0, .int .u8 0, .int .u8 0, .int .u16 0, .int .u16 0, .int .u8 0, .int .u16 0, .int .u8 0, .int .i64 0, .int .i64 0] 41))
                have hne12_11 : c12 ≠ c11 := by have := World.block_lt_of_cell? _ _ z12.row.c0; simp only at this; omega
                have hne11_12 : c11 ≠ c12 := fun e => hne12_11 e.symm
                replace z12 := z12.below (ba (bz W2) (.cells #[.int .u8 0, .int .u16 0, .int .u8 0, .int .u8 0, .int .u8 0, .int .u16 0, .int .u16 0, .int .u8 0, .int .u16 0, .int .u8 0, .int .i64 0, .int .i64 0] 41))
                rw [← hc11]
                generalize (W2.alloc (.cells #[.int .u8 0, .int .u16 0, .int .u8 0, .int .u8 0, .int .u8 0, .int .u16 0, .int .u16 0, .int .u8 0, .int .u16 0, .int .u8 0, .int .i64 0, .int .i64 0] 41)) = W3 at *
                clear hc11
                refine wpAnyH_ready (rs := [34]) (by kernel_rfl) (by simp) ?_
                refine AllReadyH.cons rfl (fun K hK => ?_) AllReadyH.nil
                go_simp
                obtain ⟨c13, hc13⟩ : ∃ c, c = W3.heap.size := ⟨_, rfl⟩
                have hge13 : w2.heap.size ≤ c13 := by rw [hc13]; exact hHeld.size
                refine hK.out _ _ (by exact ba hHeld _) (fun hHeld2 => ?_)
                clear hK K
                have hHeld := hHeld2
                clear hHeld2
                try simp only [Act.put, List.setIfInBounds_toArray, List.set_cons_zero, List.set_cons_succ]
                have z13 : RowF (W3.alloc (.cells #[.int .u8 0, .int .u16 0, .int .u8 0, .int .u8 0, .int .u8 0, .int .u16 0, .int .u16 0, .int .u8 0, .int .u16 0, .int .u8 0, .int .i64 0, .int .i64 0] 41)) c13 Rw.zero := by rw [hc13]; exact RowF.new W3
                have hne14_13 : c14 ≠ c13 := by have := World.block_lt_of_cell? _ _ z14.row.c0; simp only at this; omega
                have hne13_14 : c13 ≠ c14 := fun e => hne14_13 e.symm
                replace z14 := z14.below (ba (bz W3) (.cells #[.int .u8 0, .int .u16 0, .int .u8 0, .int .u8 0, .int .u8 0, .int .u16 0, .int .u16 0, .int .u8 0, .int .u16 0, .int .u8 0, .int .i64 0, .int .i64 0] 41))
                have hne12_13 : c12 ≠ c13 := by have := World.block_lt_of_cell? _ _ z12.row.c0; simp only at this; omega
                have hne13_12 : c13 ≠ c12 := fun e => hne12_13 e.symm
                replace z12 := z12.below (ba (bz W3) (.cells #[.int .u8 0, .int .u16 0, .int .u8 0, .int .u8 0, .int .u8 0, .int .u16 0, .int .u16 0, .int .u8 0, .int .u16 0, .int .u8 0, .int .i64 0, .int .i64 0] 41))
                have hne11_13 : c11 ≠ c13 := by have := World.block_lt_of_cell? _ _ z11.row.c0; simp only at this; omega
                have hne13_11 : c13 ≠ c11 := fun e => hne11_13 e.symm
                replace z11 := z11.below (ba (bz W3) (.cells #[.int .u8 0, .int .u16 0, .int .u8 0, .int .u8 0, .int .u8 0, .int .u16 0, .int .u16 0, .int .u8 0, .int .u16 0, .int .u8 0, .int .i64 0, .int .i64 0] 41))
                rw [← hc13]
                generalize (W3.alloc (.cells #[.int .u8 0, .int .u16 0, .int .u8 0, .int .u8 0, .int .u8 0, .int .u16 0, .int .u16 0, .int .u8 0, .int .u16 0, .int .u8 0, .int .i64 0, .int .i64 0] 41)) = W4 at *
                clear hc13
                have hL : Leaf4 w2 W4 c11 c12 c13 c14 := ⟨hHeld, z11, z12, z13, z14, hge11, hge12, hge13, hge14, hne11_12, hne11_13, hne11_14, hne12_13, hne12_14, hne13_14⟩
                clear hHeld z11 z12 z13 z14 hge11 hge12 hge13 hge14 hne11_12 hne11_13 hne11_14 hne12_11 hne12_13 hne12_14 hne13_11 hne13_12 hne13_14 hne14_11 hne14_12 hne14_13
                revert hL
                revert c14
                revert c13
                revert c12
                revert c11
                revert W4
                exact LEAF
              case t16n34 =>
                go_simp
                obtain ⟨c13, hc13⟩ : ∃ c, c = W2.heap.size := ⟨_, rfl⟩
                have hge13 : w2.heap.size ≤ c13 := by rw [hc13]; exact hHeld.size
                refine hK.out _ _ (by exact ba hHeld _) (fun hHeld2 => ?_)
                clear hK K
                have hHeld := hHeld2
                clear hHeld2
                try simp only [Act.put, List.setIfInBounds_toArray, List.set_cons_zero, List.set_cons_succ]
                have z13 : RowF (W2.alloc (.cells #[.int .u8 0, .int .u16 0, .int .u8 0, .int .u8 0, .int .u8 0, .int .u16 0, .int .u16 0, .int .u8 0, .int .u16 0, .int .u8 0, .int .i64 0, .int .i64 0] 41)) c13 Rw.zero := by rw [hc13]; exact RowF.new W2
                have hne14_13 : c14 ≠ c13 := by have := World.block_lt_of_cell? _ _ z14.row.c0; simp only at this; omega
                have hne13_14 : c13 ≠ c14 := fun e => hne14_13 e.symm
                replace z14 := z14.below (ba (bz W2) (.cells #[.int .u8 0, .int .u16 0, .int .u8 0, .int .u8 0, .int .u8 0, .int .u16 0, .int .u16 0, .int .u8 0, .int .u16 0, .int .u8 0, .int .i64 0, .int .i64 0] 41))
                have hne12_13 : c12 ≠ c13 := by have := World.block_lt_of_cell? _ _ z12.row.c0; simp only at this; omega
                have hne13_12 : c13 ≠ c12 := fun e => hne12_13 e.symm
                replace z12 := z12.below (ba (bz W2) (.cells #[.int .u8 0, .int .u16 0, .int .u8 0, .int .u8 0, .int .u8 0, .int .u16 0, .int .u16 0, .int .u8 0, .int .u16 0, .int .u8 0, .int .i64 0, .int .i64 0] 41))
                rw [← hc13]
                generalize (W2.alloc (.cells #[.int .u8 0, .int .u16 0, .int .u8 0, .int .u8 0, .int .u8 0, .int .u16 0, .int .u16 0, .int .u8 0, .int .u16 0, .int .u8 0, .int .i64 0, .int .i64 0] 41)) = W3 at *
                clear hc13
                refine wpAnyH_ready (rs := [32]) (by kernel_rfl) (by simp) ?_
                refine AllReadyH.cons rfl (fun K hK => ?_) AllReadyH.nil
                go_simp
                obtain ⟨c11, hc11⟩ : ∃ c, c = W3.heap.size := ⟨_, rfl⟩
                have hge11 : w2.heap.size ≤ c11 := by rw [hc11]; exact hHeld.size
                refine hK.out _ _ (by exact ba hHeld _) (fun hHeld2 => ?_)
                clear hK K
                have hHeld := hHeld2
                clear hHeld2
                try simp only [Act.put, List.setIfInBounds_toArray, List.set_cons_zero, List.set_cons_succ]
                have z11 : RowF (W3.alloc (.cells #[.int .u8 0, .int .u16 0, .int .u8 0, .int .u8 0, .int .u8 0, .int .u16 0, .int .u16 0, .int .u8 0, .int .u16 0, .int .u8 0, .int .i64 0, .int .i64 0] 41)) c11 Rw.zero := by rw [hc11]; exact RowF.new W3
                have hne14_11 : c14 ≠ c11 := by have := World.block_lt_of_cell? _ _ z14.row.c0; simp only at this; omega
                have hne11_14 : c11 ≠ c14 := fun e => hne14_11 e.symm
                replace z14 := z14.below (ba (bz W3) (.cells #[.int .u8 0, .int .u16 0, .int .u8 0, .int .u8 0, .int .u8 0, .int .u16 0, .int .u16 0, .int .u8 0, .int .u16 0, .int .u8 0, .int .i64 0, .int .i64 0] 41))
                have hne12_11 : c12 ≠ c11 := by have := World.block_lt_of_cell? _ _ z12.row.c0; simp only at this; omega
                have hne11_12 : c11 ≠ c12 := fun e => hne12_11 e.symm
                replace z12 := z12.below (ba (bz W3) (.cells #[.int .u8 0, .int .u16 0, .int .u8 0, .int .u8 0, .int .u8 0, .int .u16 0, .int .u16 0, .int .u8 0, .int .u16 0, .int .u8 0, .int .i64 0, .int .i64 0] 41))
                have hne13_11 : c13 ≠ c11 := by have := World.block_lt_of_cell? _ _ z13.row.c0; simp only at this; omega
                have hne11_13 : c11 ≠ c13 := fun e => hne13_11 e.symm
                replace z13 := z13.below (ba (bz W3) (.cells #[.int .u8 0, .int .u16 0, .int .u8 0, .int .u8 0, .int .u8 0, .int .u16 0, .int .u16 0, .int .u8 0, .int .u16 0, .int .u8 0, .int .i64 0, .int .i64 0] 41))
                rw [← hc11]
                generalize (W3.alloc (.cells #[.int .u8 0, .int .u16 0, .int .u8 0, .int .u8 0, .int .u8 0, .int .u16 0, .int .u16 0, .int .u8 0, .int .u16 0, .int .u8 0, .int .i64 0, .int .i64 0] 41)) = W4 at *
                clear hc11
                have hL : Leaf4 w2 W4 c11 c12 c13 c14 := ⟨hHeld, z11, z12, z13, z14, hge11, hge12, hge13, hge14, hne11_12, hne11_13, hne11_14, hne12_13, hne12_14, hne13_14⟩
                clear hHeld z11 z12 z13 z14 hge11 hge12 hge13 hge14 hne11_12 hne11_13 hne11_14 hne12_11 hne12_13 hne12_14 hne13_11 hne13_12 hne13_14 hne14_11 hne14_12 hne14_13
                revert hL
                revert c14
                revert c13
                revert c12
                revert c11
                revert W4
                exact LEAF
            case t14n34 =>
              go_simp
              obtain ⟨c13, hc13⟩ : ∃ c, c = W1.heap.size := ⟨_, rfl⟩
              have hge13 : w2.heap.size ≤ c13 := by rw [hc13]; exact hHeld.size
              refine hK.out _ _ (by exact ba hHeld _) (fun hHeld2 => ?_)
              clear hK K
              have hHeld := hHeld2
              clear hHeld2
              try simp only [Act.put, List.setIfInBounds_toArray, List.set_cons_zero, List.set_cons_succ]
              have z13 : RowF (W1.alloc (.cells #[.int .u8 0, .int .u16 0, .int .u8 0, .int .u8 0, .int .u8 0, .int .u16 0, .int .u16 0, .int .u8 0, .int .u16 0, .int .u8 0, .int .i64 0, .int .i64 0] 41)) c13 Rw.zero := by rw [hc13]; exact RowF.new W1
              have hne14_13 : c14 ≠ c13 := by have := World.block_lt_of_cell? _ _ z14.row.c0; simp only at this; omega
              have hne13_14 : c13 ≠ c14 := fun e => hne14_13 e.symm
              replace z14 := z14.below (ba (bz W1) (.cells #[.int .u8 0, .int .u16 0, .int .u8 0, .int .u8 0, .int .u8 0, .int .u16 0, .int .u16 0, .int .u8 0, .int .u16 0, .int .u8 0, .int .i64 0, .int .i64 0] 41))
              rw [← hc13]
              generalize (W1.alloc (.cells #[.int .u8 0, .int .u16 0, .int .u8 0, .int .u8 0, .int .u8 0, .int .u16 0, .int .u16 0, .int .u8 0, .int .u16 0, .int .u8 0, .int .i64 0, .int .i64 0] 41)) = W2 at *
              clear hc13
              refine wpAnyH_ready (rs := [32, 33]) (by kernel_rfl) (by simp) ?_
              refine AllReadyH.cons rfl (fun K hK => ?t17n32) (AllReadyH.cons rfl (fun K hK => ?t17n33) AllReadyH.nil)
              case t17n32 =>
                go_simp
                obtain ⟨c11, hc11⟩ : ∃ c, c = W2.heap.size := ⟨_, rfl⟩
                have hge11 : w2.heap.size ≤ c11 := by rw [hc11]; exact hHeld.size
                refine hK.out _ _ (by exact ba hHeld _) (fun hHeld2 => ?_)
                clear hK K
                have hHeld := hHeld2
                clear hHeld2
                try simp only [Act.put, List.setIfInBounds_toArray, List.set_cons_zero, List.set_cons_succ]
                have z11 : RowF (W2.alloc (.cells #[.int .u8 0, .int .u16 0, .int .u8 0, .int .u8 0, .int .u8 0, .int .u16 0, .int .u16 0, .int .u8 0, .int .u16 0, .int .u8 0, .int .i64 0, .int .i64 0] 41)) c11 Rw.zero := by rw [hc11]; exact RowF.new W2
                have hne14_11 : c14 ≠ c11 := by have := World.block_lt_of_cell? _ _ z14.row.c0; simp only at this; omega
                have hne11_14 : c11 ≠ c14 := fun e => hne14_11 e.symm
                replace z14 := z14.below (ba (bz W2) (.cells #[.int .u8 0, .int .u16 0, .int .u8 0, .int .u8 0, .int .u8 0, .int .u16 0, .int .u16 0, .int .u8 0, .int .u16 0, .int .u8 0, .int .i64 0, .int .i64 0] 41))
                have hne13_11 : c13 ≠ c11 := by have := World.block_lt_of_cell? _ _ z13.row.c0; simp only at this; omega
                have hne11_13 : c11 ≠ c13 := fun e => hne13_11 e.symm
                replace z13 := z13.below (ba (bz W2) (.cells #[.int .u8 0, .int .u16 0, .int .u8 0, .int .u8 0, .int .u8 0, .int .u16 0, .int .u16 0, .int .u8 0, .int .u16 0, .int .u8 0, .int .i64 0, .int .i64 0] 41))
                rw [← hc11]
                generalize (W2.alloc (.cells #[.int .u8 0, .int .u16 0, .int .u8 0, .int .u8 0, .int .u8 0, .int .u16 0, .int .u16 0, .int .u8 0, .int .u16 0, .int .u8 0, .int .i64 0, .int .i64 0] 41)) = W3 at *
                clear hc11
                refine wpAnyH_ready (rs := [33]) (by kernel_rfl) (by simp) ?_
                refine AllReadyH.cons rfl (fun K hK => ?_) AllReadyH.nil
                go_simp
                obtain ⟨c12, hc12⟩ : ∃ c, c = W3.heap.size := ⟨_, rfl⟩
                have hge12 : w2.heap.size ≤ c12 := by rw [hc12]; exact hHeld.size
                refine hK.out _ _ (by exact ba hHeld _) (fun hHeld2 => ?_)
                clear hK K
                have hHeld := hHeld2
                clear hHeld2
                try simp only [Act.put, List.setIfInBounds_toArray, List.set_cons_zero, List.set_cons_succ]
                have z12 : RowF (W3.alloc (.cells #[.int .u8 0, .int .u16 0, .int .u8 0, .int .u8 0, .int .u8 0, .int .u16 0, .int .u16 0, .int .u8 0, .int .u16 0, .int .u8 0, .int .i64 0, .int .i64 0] 41)) c12 Rw.zero := by rw [hc12]; exact RowF.new W3
                have hne14_12 : c14 ≠ c12 := by have := World.block_lt_of_cell? _ _ z14.row.c0; simp only at this; omega
                have hne12_14 : c12 ≠ c14 := fun e => hne14_12 e.symm
                replace z14 := z14.below (ba (bz W3) (.cells #[.int .u8 0, .int .u16 0, .int .u8 0, .int .u8 0, .int .u8 0, .int .u16 0, .int .u16 0, .int .u8 0, .int .u16 0, .int .u8 0, .int .i64 0, .int .i64 0] 41))
                have hne13_12 : c13 ≠ c12 := by have := World.block_lt_of_cell? _ _ z13.row.c0; simp only at this; omega
                have hne12_13 : c12 ≠ c13 := fun e => hne13_12 e.symm
                replace z13 := z13.below (ba (bz W3) (.cells #[.int .u8 0, .int .u16 0, .int .u8 0, .int .u8 0, .int .u8 0, .int .u16 0, .int .u16 0, .int .u8 0, .int .u16 0, .int .u8 0, .int .i64 0, .int .i64 0] 41))
                have hne11_12 : c11 ≠ c12 := by have := World.block_lt_of_cell? _ _ z11.row.c0; simp only at this; omega
                have hne12_11 : c12 ≠ c11 := fun e => hne11_12 e.symm
                replace z11 := z11.below (ba (bz W3) (.cells #[.int .u8 0, .int .u16 0, .int .u8 0, .int .u8 0, .int .u8 0, .int .u16 0, .int .u16 0, .int .u8 0, .int .u16 0, .int .u8 0, .int .i64 0, .int .i64 0] 41))
                rw [← hc12]
                generalize (W3.alloc (.cells #[.int .u8 0, .int .u16 0, .int .u8 0, .int .u8 0, .int .u8 0, .int .u16 0, .int .u16 0, .int .u8 0, .int .u16 0, .int .u8 0, .int .i64 0, .int .i64 0] 41)) = W4 at *
                clear hc12
                have hL : Leaf4 w2 W4 c11 c12 c13 c14 := ⟨hHeld, z11, z12, z13, z14, hge11, hge12, hge13, hge14, hne11_12, hne11_13, hne11_14, hne12_13, hne12_14, hne13_14⟩
                clear hHeld z11 z12 z13 z14 hge11 hge12 hge13 hge14 hne11_12 hne11_13 hne11_14 hne12_11 hne12_13 hne12_14 hne13_11 hne13_12 hne13_14 hne14_11 hne14_12 hne14_13
                revert hL
                revert c14
                revert c13
                revert c12
                revert c11
                revert W4
                exact LEAF
              case t17n33 =>
                go_simp
                obtain ⟨c12, hc12⟩ : ∃ c, c = W2.heap.size := ⟨_, rfl⟩
                have hge12 : w2.heap.size ≤ c12 := by rw [hc12]; exact hHeld.size
                refine hK.out _ _ (by exact ba hHeld _) (fun hHeld2 => ?_)
                clear hK K
                have hHeld := hHeld2
                clear hHeld2
                try simp only [Act.put, List.setIfInBounds_toArray, List.set_cons_zero, List.set_cons_succ]
                have z12 : RowF (W2.alloc (.cells #[.int .u8 0, .int .u16 0, .int .u8 0, .int .u8 0, .int .u8 0, .int .u16 0, .int .u16 0, .int .u8 0, .int .u16 0, .int .u8 0, .int .i64 0, .int .i64 0] 41)) c12 Rw.zero := by rw [hc12]; exact RowF.new W2
                have hne14_12 : c14 ≠ c12 := by have := World.block_lt_of_cell? _ _ z14.row.c0; simp only at this; omega
                have hne12_14 : c12 ≠ c14 := fun e => hne14_12 e.symm
                replace z14 := z14.below (ba (bz W2) (.cells #[.int .u8 0, .int .u16 0, .int .u8 0, .int .u8 0, .int .u8 0, .int .u16 0, .int .u16 0, .int .u8 0, .int .u16 0, .int .u8 0, .int .i64 0, .int .i64 0] 41))
                have hne13_12 : c13 ≠ c12 := by have := World.block_lt_of_cell? _ _ z13.row.c0; simp only at this; omega
                have hne12_13 : c12 ≠ c13 := fun e => hne13_12 e.symm
                replace z13 := z13.below (ba (bz W2) (.cells #[.int .u8 0, .int .u16 0, .int .u8 0, .int .u8 0, .int .u8 0, .int .u16 0, .int .u16 0, .int .u8 0, .int .u16 0, .int .u8 0, .int .i64 0, .int .i64 0] 41))
                rw [← hc12]
                generalize (W2.alloc (.cells #[.int .u8 0, .int .u16 0, .int .u8 0, .int .u8 0, .int .u8 0, .int .u16 0, .int .u16 0, .int .u8 0, .int .u16 0, .int .u8 0, .int .i64 0, .int .i64 0] 41)) = W3 at *
                clear hc12
                refine wpAnyH_ready (rs := [32]) (by kernel_rfl) (by simp) ?_
                refine AllReadyH.cons rfl (fun K hK => ?_) AllReadyH.nil
                go_simp
                obtain ⟨c11, hc11⟩ : ∃ c, c = W3.heap.size := ⟨_, rfl⟩
                have hge11 : w2.heap.size ≤ c11 := by rw [hc11]; exact hHeld.size
                refine hK.out _ _ (by exact ba hHeld _) (fun hHeld2 => ?_)
                clear hK K
                have hHeld := hHeld2
                clear hHeld2
                try simp only [Act.put, List.setIfInBounds_toArray, List.set_cons_zero, List.set_cons_succ]
                have z11 : RowF (W3.alloc (.cells #[.int .u8 0, .int .u16 0, .int .u8 0, .int .u8 0, .int .u8 0, .int .u16 0, .int .u16 0, .int .u8 0, .int .u16 0, .int .u8 0, .int .i64 0, .int .i64 0] 41)) c11 Rw.zero := by rw [hc11]; exact RowF.new W3
                have hne14_11 : c14 ≠ c11 := by have := World.block_lt_of_cell? _ _ z14.row.c0; simp only at this; omega
                have hne11_14 : c11 ≠ c14 := fun e => hne14_11 e.symm
                replace z14 := z14.below (ba (bz W3) (.cells #[.int .u8 0, .int .u16 0, .int .u8 0, .int .u8 0, .int .u8 0, .int .u16 0, .int .u16 0, .int .u8 0, .int .u16 0, .int .u8 0, .int .i64 0, .int .i64 0] 41))
                have hne13_11 : c13 ≠ c11 := by have := World.block_lt_of_cell? _ _ z13.row.c0; simp only at this; omega
                have hne11_13 : c11 ≠ c13 := fun e => hne13_11 e.symm
                replace z13 := z13.below (ba (bz W3) (.cells #[.int .u8 0, .int .u16 0, .int .u8 0, .int .u8 0, .int .u8 0, .int .u16 0, .int .u16 0, .int .u8 0, .int .u16 0, .int .u8 0, .int .i64 0, .int .i64 0] 41))
                have hne12_11 : c12 ≠ c11 := by have := World.block_lt_of_cell? _ _ z12.row.c0; simp only at this; omega
                have hne11_12 : c11 ≠ c12 := fun e => hne12_11 e.symm
                replace z12 := z12.below (ba (bz W3) (.cells #[.int .u8 0, .int .u16 0, .int .u8 0, .int .u8 0, .int .u8 0, .int .u16 0, .int .u16 0, .int .u8 0, .int .u16 0, .int .u8 0, .int .i64 0, .int .i64 0] 41))
                rw [← hc11]
                generalize (W3.alloc (.cells #[.int .u8 0, .int .u16 0, .int .u8 0, .int .u8 0, .int .u8 0, .int .u16 0, .int .u16 0, .int .u8 0, .int .u16 0, .int .u8 0, .int .i64 0, .int .i64 0] 41)) = W4 at *
                clear hc11
                have hL : Leaf4 w2 W4 c11 c12 c13 c14 := ⟨hHeld, z11, z12, z13, z14, hge11, hge12, hge13, hge14, hne11_12, hne11_13, hne11_14, hne12_13, hne12_14, hne13_14⟩
                clear hHeld z11 z12 z13 z14 hge11 hge12 hge13 hge14 hne11_12 hne11_13 hne11_14 hne12_11 hne12_13 hne12_14 hne13_11 hne13_12 hne13_14 hne14_11 hne14_12 hne14_13
                revert hL
                revert c14
                revert c13
                revert c12
                revert c11
                revert W4
                exact LEAF
        case leaf =>
          clear k0 k1 k2 k3
          intro W4 c11 c12 c13 c14 hL
          have hHeld := hL.below
          have z11 := hL.z11
          have z12 := hL.z12
          have z13 := hL.z13
          have z14 := hL.z14
          refine wpAnyH_ready (rs := [36]) (by kernel_rfl) (by simp) ?_
          refine AllReadyH.cons rfl (fun K hK => ?_) AllReadyH.nil
          obtain ⟨q0, q1, q2, q3, q4, q5, q6, q7, q8, q9, q10, q11⟩ := z11.row
          have fq := z11.fz
          have fq0 := fq 0 (by decide)
          have fq1 := fq 1 (by decide)
          have fq2 := fq 2 (by decide)
          have fq3 := fq 3 (by decide)
          have fq4 := fq 4 (by decide)
          have fq5 := fq 5 (by decide)
          have fq6 := fq 6 (by decide)
          have fq7 := fq 7 (by decide)
          have fq8 := fq 8 (by decide)
          have fq9 := fq 9 (by decide)
          have fq10 := fq 10 (by decide)
          have fq11 := fq 11 (by decide)
          simp only [Nat.zero_add] at q0 q1 q2 q3 q4 q5 q6 q7 q8 q9 q10 q11
          unfold Rw.zero at q0 q1 q2 q3 q4 q5 q6 q7 q8 q9 q10 q11
          dsimp only at q0 q1 q2 q3 q4 q5 q6 q7 q8 q9 q10 q11
          go_simp
          try simp only [Rw.val]
          go_simp
          refine hK.out _ (put12 W4 c11 xa) (by exact put12_below hHeld (hL.ge11) xa) (fun hHeld2 => ?_)
          clear q0 q1 q2 q3 q4 q5 q6 q7 q8 q9 q10 q11 fq fq0 fq1 fq2 fq3 fq4 fq5 fq6 fq7 fq8 fq9 fq10 fq11
          clear hK K
          clear hHeld
          have hHeld := hHeld2
          clear hHeld2
          try simp only [Act.put, List.setIfInBounds_toArray, List.set_cons_zero, List.set_cons_succ]
          replace z11 := z11.put xa
          replace z12 := z12.put_other (c := c11) xa (fun e => hL.ne1112 e.symm)
          replace z13 := z13.put_other (c := c11) xa (fun e => hL.ne1113 e.symm)
          replace z14 := z14.put_other (c := c11) xa (fun e => hL.ne1114 e.symm)
          generalize put12 W4 c11 xa = W5 at *
          refine wpAnyH_ready (rs := [37]) (by kernel_rfl) (by simp) ?_
          refine AllReadyH.cons rfl (fun K hK => ?_) AllReadyH.nil
          obtain ⟨q0, q1, q2, q3, q4, q5, q6, q7, q8, q9, q10, q11⟩ := z12.row
          have fq := z12.fz
          have fq0 := fq 0 (by decide)
          have fq1 := fq 1 (by decide)
          have fq2 := fq 2 (by decide)
          have fq3 := fq 3 (by decide)
          have fq4 := fq 4 (by decide)
          have fq5 := fq 5 (by decide)
          have fq6 := fq 6 (by decide)
          have fq7 := fq 7 (by decide)
          have fq8 := fq 8 (by decide)
          have fq9 := fq 9 (by decide)
          have fq10 := fq 10 (by decide)
          have fq11 := fq 11 (by decide)
          simp only [Nat.zero_add] at q0 q1 q2 q3 q4 q5 q6 q7 q8 q9 q10 q11
          unfold Rw.zero at q0 q1 q2 q3 q4 q5 q6 q7 q8 q9 q10 q11
          dsimp only at q0 q1 q2 q3 q4 q5 q6 q7 q8 q9 q10 q11
          go_simp
          try simp only [Rw.val]
          go_simp
          refine hK.out _ (put12 W5 c12 xb) (by exact put12_below hHeld (hL.ge12) xb) (fun hHeld2 => ?_)
          clear q0 q1 q2 q3 q4 q5 q6 q7 q8 q9 q10 q11 fq fq0 fq1 fq2 fq3 fq4 fq5 fq6 fq7 fq8 fq9 fq10 fq11
          clear hK K
          clear hHeld
          have hHeld := hHeld2
          clear hHeld2
          try simp only [Act.put, List.setIfInBounds_toArray, List.set_cons_zero, List.set_cons_succ]
          replace z11 := z11.put_other (c := c12) xb hL.ne1112
          replace z12 := z12.put xb
          replace z13 := z13.put_other (c := c12) xb (fun e => hL.ne1213 e.symm)
          replace z14 := z14.put_other (c := c12) xb (fun e => hL.ne1214 e.symm)
          generalize put12 W5 c12 xb = W6 at *
          refine wpAnyH_ready (rs := [38]) (by kernel_rfl) (by simp) ?_
          refine AllReadyH.cons rfl (fun K hK => ?_) AllReadyH.nil
          obtain ⟨q0, q1, q2, q3, q4, q5, q6, q7, q8, q9, q10, q11⟩ := z13.row
          have fq := z13.fz
          have fq0 := fq 0 (by decide)
          have fq1 := fq 1 (by decide)
          have fq2 := fq 2 (by decide)
          have fq3 := fq 3 (by decide)
          have fq4 := fq 4 (by decide)
          have fq5 := fq 5 (by decide)
          have fq6 := fq 6 (by decide)
          have fq7 := fq 7 (by decide)
          have fq8 := fq 8 (by decide)
          have fq9 := fq 9 (by decide)
          have fq10 := fq 10 (by decide)
          have fq11 := fq 11 (by decide)
          simp only [Nat.zero_add] at q0 q1 q2 q3 q4 q5 q6 q7 q8 q9 q10 q11
          unfold Rw.zero at q0 q1 q2 q3 q4 q5 q6 q7 q8 q9 q10 q11
          dsimp only at q0 q1 q2 q3 q4 q5 q6 q7 q8 q9 q10 q11
          go_simp
          try simp only [Rw.val]
          go_simp
          refine hK.out _ (put12 W6 c13 xc) (by exact put12_below hHeld (hL.ge13) xc) (fun hHeld2 => ?_)
          clear q0 q1 q2 q3 q4 q5 q6 q7 q8 q9 q10 q11 fq fq0 fq1 fq2 fq3 fq4 fq5 fq6 fq7 fq8 fq9 fq10 fq11
          clear hK K
          clear hHeld
          have hHeld := hHeld2
          clear hHeld2
          try simp only [Act.put, List.setIfInBounds_toArray, List.set_cons_zero, List.set_cons_succ]
          replace z11 := z11.put_other (c := c13) xc hL.ne1113
          replace z12 := z12.put_other (c := c13) xc hL.ne1213
          replace z13 := z13.put xc
          replace z14 := z14.put_other (c := c13) xc (fun e => hL.ne1314 e.symm)
          generalize put12 W6 c13 xc = W7 at *
          refine wpAnyH_ready (rs := [39]) (by kernel_rfl) (by simp) ?_
          refine AllReadyH.cons rfl (fun K hK => ?_) AllReadyH.nil
          obtain ⟨q0, q1, q2, q3, q4, q5, q6, q7, q8, q9, q10, q11⟩ := z14.row
          have fq := z14.fz
          have fq0 := fq 0 (by decide)
          have fq1 := fq 1 (by decide)
          have fq2 := fq 2 (by decide)
          have fq3 := fq 3 (by decide)
          have fq4 := fq 4 (by decide)
          have fq5 := fq 5 (by decide)
          have fq6 := fq 6 (by decide)
          have fq7 := fq 7 (by decide)
          have fq8 := fq 8 (by decide)
          have fq9 := fq 9 (by decide)
          have fq10 := fq 10 (by decide)
          have fq11 := fq 11 (by decide)
          simp only [Nat.zero_add] at q0 q1 q2 q3 q4 q5 q6 q7 q8 q9 q10 q11
          unfold Rw.zero at q0 q1 q2 q3 q4 q5 q6 q7 q8 q9 q10 q11
          dsimp only at q0 q1 q2 q3 q4 q5 q6 q7 q8 q9 q10 q11
          go_simp
          try simp only [Rw.val]
          go_simp
          refine hK.out _ (put12 W7 c14 xd) (by exact put12_below hHeld (hL.ge14) xd) (fun hHeld2 => ?_)
          clear q0 q1 q2 q3 q4 q5 q6 q7 q8 q9 q10 q11 fq fq0 fq1 fq2 fq3 fq4 fq5 fq6 fq7 fq8 fq9 fq10 fq11
          clear hK K
          clear hHeld
          have hHeld := hHeld2
          clear hHeld2
          try simp only [Act.put, List.setIfInBounds_toArray, List.set_cons_zero, List.set_cons_succ]
          replace z11 := z11.put_other (c := c14) xd hL.ne1114
          replace z12 := z12.put_other (c := c14) xd hL.ne1214
          replace z13 := z13.put_other (c := c14) xd hL.ne1314
          replace z14 := z14.put xd
          generalize put12 W7 c14 xd = W8 at *
          refine wpAnyH_done (by kernel_rfl) ?_ _
          go_wp2_with fail
          go_meet
          exact ⟨c11, c12, c13, c14, rfl, rfl, rfl, rfl, Lib.hid ⟨hHeld, z11.row, z12.row, z13.row, z14.row⟩⟩
      case rest =>
        obtain ⟨c11, c12, c13, c14, rfl, rfl, rfl, rfl, HC⟩ := hcut
        rename_i kk hk
        refine hk _ _ ?_
        exact rest_all _ rfl HRL HC HS2m HM hm0 hlen HB2 (bef_self HRL.out HMA.out) HMA HMB
end Go.Proofs.Ytjmanajbdkbkdaa
