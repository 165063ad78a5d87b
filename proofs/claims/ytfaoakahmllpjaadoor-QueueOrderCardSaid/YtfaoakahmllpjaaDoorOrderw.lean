/- QueueOrder: what is taken out comes in the order in which it was put in. -/
import Derived.Test.YtfaoakahmllpjaaDoorOrder
import Derived.Test.YtfaoakahmllpjaaDoorGena
namespace Go.Proofs.YtfaoakahmllpjaaDoor
open Go.RowKit Go.Um
set_option maxHeartbeats 0

theorem info25 : (Tryd.prog.info? 25).map (fun i => (i.zero, i.size, i.bytes)) = some (some (.agg #[.int .u8 0, .int .u8 0, .int .u8 0, .int .u16 0, .int .u16 0]), 5, 8) := by kernel_rfl
theorem op_one (x : Op5) : ∀ u ∈ x.cells, u.oneCell' = true := by intro u hu; simp [Op5.cells] at hu; rcases hu with rfl | rfl | rfl | rfl | rfl <;> rfl

theorem qorder_big (l : List Int) (v : Value) (ops : List Op5) (ao : Option Addr) (cap : Nat) (w : World) (hv : Lies w l v) (hbig : 200 < l.length ∨ 200 < ops.length) (hk : Kinds w) :
    Calls Tryd.prog 5 #[v, .slice ao ops.length cap] w fun e w' => e = .returned (.bool true) ∧ Below w.heap.size w w' := by
  obtain ⟨ao1, cap1, b1, o1, rfl, hs⟩ := hv
  clear hs
  by_cases h : 200 < l.length
  · have h2 : decide (200 < (l.length : Int)) = true := by simp; omega
    clear hbig
    go_enter Tryd.func5, Tryd.ntmps5
    go_wp2_with fail
    refine (works_any _ hk).mono ?_
    rintro e w1 ⟨rfl, hb1⟩
    go_wp2
    go_ret
    exact ⟨rfl, hb1⟩
  · have h2 : decide (200 < (l.length : Int)) = false := by simp; omega
    have h3 : decide (200 < (ops.length : Int)) = true := by simp; omega
    clear hbig
    go_enter Tryd.func5, Tryd.ntmps5
    go_wp2_with fail
    refine (works_any _ hk).mono ?_
    rintro e w1 ⟨rfl, hb1⟩
    go_wp2
    go_ret
    exact ⟨rfl, hb1⟩

set_option maxRecDepth 100000 in
theorem qorder_small (l : List Int) (v : Value) (ops : List Op5) (ao : Option Addr) (cap b o : Nat) (w : World) (hv : Lies w l v) (h : SlAt w 5 ops.length (ops.flatMap Op5.cells) ao cap b o) (hok : ∀ x ∈ ops, x.ok) (hl : l.length ≤ 200) (ho : ops.length ≤ 200) (hk : Kinds w) :
    Calls Tryd.prog 5 #[v, .slice ao ops.length cap] w fun e w' => e = .returned (.bool true) ∧ Below w.heap.size w w' := by
  obtain ⟨i0, hi, hz0, hz1, hz2⟩ := info_parts info23
  obtain ⟨i5, hi5, hz50, hz51, hz52⟩ := info_parts info25
  have HV := Lib.hid hv
  obtain ⟨ao1, cap1, b1, o1, rfl, hs⟩ := hv
  have h2 : decide (200 < (l.length : Int)) = false := by simp; omega
  have h3 : decide (200 < (ops.length : Int)) = false := by simp; omega
  have hidx := h.idx (P := Tryd.prog) (t := 41) Tryd.underlying41 size25 (by decide)
  have HS := Lib.hid hs
  have HA := Lib.hid h
  have Hok := Lib.hid hok
  have HK := Lib.hid hk
  clear hs h hok hk
  go_enter Tryd.func5, Tryd.ntmps5
  go_upto_region 5 with fail
  go_cut [6] (fun t6 wx => Two w [] l (.slice none 0 0) t6 wx)
  case first =>
    go_wp2_with (at_builtin; refine wpList_append_slat rfl (.tmp 26) (.tmp 27) 22 rfl w.heap.size 23 i0 (.int .u16 0) 1 2 Tryd.underlying22 hi hz0 hz1 hz2 rfl (by decide) (.slice none 0 0) 0 [] rfl (World.ownsRow_nil _ _ _ _) ao1 l.length cap1 b1 o1 (us l) rfl HS.out us_one (by unfold maxLen; omega) (by omega) (Nat.le_refl _) ?_)
    intro v' w' hown hgrow hat
    go_wp2_with fail
    go_meet
    refine ⟨World.ownsRow_nil _ _ _ _, by simpa using hown, .inl rfl, ?_⟩
    exact (bz w).grown hgrow (Nat.le_refl _) (fun k hk => by cases hk)
  case rest =>
    have HT := Lib.hid hcut
    clear hcut
    go_wp2_with fail
    go_loopw [5, 6, 8] (fun t5 t6 t8 wr => ∃ k : Nat, k ≤ ops.length ∧ t8 = .int .i64 k ∧ Two w (goods (ops.take k)) (l ++ putIn (goods (ops.take k))) t5 t6 wr) (fun _ _ t8 _ => ops.length - (intOf t8).toNat)
    case atStart => exact ⟨0, Nat.zero_le _, rfl, by simpa [goods, putIn] using HT.out⟩
    case round =>
      obtain ⟨k, hk, rfl, htwo⟩ := hrel
      by_cases hlt : k < ops.length
      · obtain ⟨x, hx⟩ : ∃ x, ops[k]? = some x := ⟨_, List.getElem?_eq_getElem hlt⟩
        obtain ⟨g0, g1, g2, g3, g4⟩ := op_at (HA.out.below' htwo.bel HA.out.lt) hx
        have hxo : x.ok := Hok.out x (List.mem_of_getElem? hx)
        have hst := fun S v' W h hb => step_any S [] v' x hxo W h (by simp) hb
        have hgs := goods_snoc hx
        obtain ⟨A, hA⟩ : ∃ A, A = goods (ops.take k) := ⟨_, rfl⟩
        have hAl : A.length ≤ k := by rw [hA]; have := goods_le (ops.take k); rw [List.length_take] at this; omega
        rw [← hA] at htwo hgs
        obtain ⟨B, hB⟩ : ∃ B, B = l ++ putIn A := ⟨_, rfl⟩
        have hBl : B.length ≤ 200 + k := by rw [hB, List.length_append]; have := putIn_le A; omega
        rw [← hB] at htwo
        have hgood : ∀ y, good y = true → errOf y = 0 := fun y h => by simp [errOf, h]
        have hbadE : ∀ y, good y = false → errOf y = 10 := fun y h => by simp [errOf, h]
        obtain ⟨er, her⟩ : ∃ er, er = errOf x := ⟨_, rfl⟩
        rw [← her] at hst
        obtain ⟨q, hq⟩ : ∃ q, q = nxt [] x := ⟨_, rfl⟩
        obtain ⟨r, hr⟩ : ∃ r, r = ans [] x := ⟨_, rfl⟩
        rw [← hq, ← hr] at hst
        have HX := Lib.hid hx
        have HB := Lib.hid hB
        have HGS := Lib.hid hgs
        have HTW := Lib.hid htwo
        have HKr := Lib.hid (HK.out.below htwo.bel)
        have k0 : (0 : Int) ≤ (k : Int) := by omega
        have k1 : (k : Int) < (ops.length : Int) := by omega
        have hsz := htwo.bel.size
        have hbw : b < wr.heap.size := World.block_lt_of_cell? wr _ g0
        have HER : Hid (er = if good x then 0 else 10) := her
        have HG0 := Lib.hid hgood
        have HG1 := Lib.hid hbadE
        have hgf : good x = true → x.f = 4 ∨ x.f = 5 := fun h => good_f h
        have HGF := Lib.hid hgf
        obtain ⟨f, ob, kk, a, bb⟩ := x
        unfold opV at hst
        have H2 := Lib.hid hst
        clear hst hx hA hB hgs htwo her hq hr hgood hbadE hgf hxo
        go_upto_region 9 with fail
        go_cut [11] (fun t11 wx => t11 = .int .i64 er ∧ Below wr.heap.size wr wx)
        case first =>
          go_region_held3 (fun w' => w'.cell? ⟨b, o + k * 5, none⟩ = some (.int .u8 f) ∧ w'.cell? ⟨b, o + k * 5 + 1, none⟩ = some (.int .u8 ob) ∧ w'.cell? ⟨b, o + k * 5 + 2, none⟩ = some (.int .u8 kk) ∧ w'.cell? ⟨b, o + k * 5 + 3, none⟩ = some (.int .u16 a) ∧ w'.cell? ⟨b, o + k * 5 + 4, none⟩ = some (.int .u16 bb))
            (refine ⟨?_, ?_, ?_, ?_, ?_⟩ <;> (repeat (first | (with_reducible assumption) | ((with_reducible refine new_at ?_ ?_); (focus (first | rfl | (simp; done))); (focus rfl)) | (with_reducible apply keep_alloc) | (with_reducible apply keep_drew) | (with_reducible refine keep_set ?_ ?_) | (intro e; dsimp only at e; omega))))
            (first
              | (go_at_call 19; refine (new_any _).mono ?_; rintro e w1 ⟨rfl, hb1⟩; have hB1 : Below wr.heap.size wr w1 := bt (by (repeat (first | (with_reducible exact bz wr) | (with_reducible apply ba) | (with_reducible apply Below.drew)))) hb1; have HB1 := Lib.hid hB1; have hz1 : wr.heap.size ≤ w1.heap.size := hB1.size; have hz1' := hb1.size; have x0 := cell_past hB1 g0; have x1 := cell_past hB1 g1; have x2 := cell_past hB1 g2; have x3 := cell_past hB1 g3; have x4 := cell_past hB1 g4; obtain ⟨c2, f2, z2, n2⟩ := past hb1; clear n2; have ap00 := c2 wr.heap.size 0; have fp00 := f2 wr.heap.size 0; have ap01 := c2 wr.heap.size 1; have fp01 := f2 wr.heap.size 1; have yp0 := z2 wr.heap.size; have ap10 := c2 (wr.heap.size + 1) 0; have fp10 := f2 (wr.heap.size + 1) 0; have ap11 := c2 (wr.heap.size + 1) 1; have fp11 := f2 (wr.heap.size + 1) 1; have yp1 := z2 (wr.heap.size + 1); clear c2 f2 z2; clear hb1 hB1; simp [go_sem] at ap00 fp00 ap01 fp01 yp0 ap10 fp10 ap11 fp11 yp1 hz1')
              | (go_at_call 12; refine (H2.out _ _ _ (Far.of_lies (nil_lies _)) ((HKr.out.below HB1.out).below (by (repeat (first | (with_reducible exact bz w1) | (with_reducible apply ba) | (with_reducible apply Below.drew)))))).mono ?_; rintro e w2 ⟨v2, rfl, hf2, hb2⟩; have hB2 : Below w1.heap.size w1 w2 := bt (by (repeat (first | (with_reducible exact bz w1) | (with_reducible apply ba) | (with_reducible apply Below.drew)))) hb2; have HB2 := Lib.hid hB2; obtain ⟨ao2, cap2, b2', o2', rfl, hs2, hS2⟩ := hf2; have x0' := cell_past hB2 x0; have x1' := cell_past hB2 x1; have x2' := cell_past hB2 x2; have x3' := cell_past hB2 x3; have x4' := cell_past hB2 x4; have hz2 : w1.heap.size ≤ w2.heap.size := hB2.size; obtain ⟨c2, f2, z2, n2⟩ := past hb2; clear n2; have aq00 := c2 wr.heap.size 0; have fq00 := f2 wr.heap.size 0; have aq01 := c2 wr.heap.size 1; have fq01 := f2 wr.heap.size 1; have yq0 := z2 wr.heap.size; have aq10 := c2 (wr.heap.size + 1) 0; have fq10 := f2 (wr.heap.size + 1) 0; have aq11 := c2 (wr.heap.size + 1) 1; have fq11 := f2 (wr.heap.size + 1) 1; have yq1 := z2 (wr.heap.size + 1); have aq20 := c2 w1.heap.size 0; have fq20 := f2 w1.heap.size 0; have aq21 := c2 w1.heap.size 1; have fq21 := f2 w1.heap.size 1; have yq2 := z2 w1.heap.size; have aq30 := c2 (w1.heap.size + 1) 0; have fq30 := f2 (w1.heap.size + 1) 0; have aq31 := c2 (w1.heap.size + 1) 1; have fq31 := f2 (w1.heap.size + 1) 1; have yq3 := z2 (w1.heap.size + 1); clear c2 f2 z2; clear hs2 hS2 hb2 hB2; simp [go_sem, *] at aq00 fq00 aq01 fq01 yq0 aq10 fq10 aq11 fq11 yq1 aq20 fq20 aq21 fq21 yq2 aq30 fq30 aq31 fq31 yq3))
          all_goals (go_wp2_with fail; go_meet)
          all_goals (refine ⟨rfl, ?_⟩)
          all_goals (repeat (first | (with_reducible exact bt HB1.out HB2.out) | (with_reducible apply ba) | (with_reducible apply Below.drew) | (with_reducible refine bs ?_ ?_ _) | (dsimp only; omega)))
        case rest =>
          obtain ⟨rfl, hbx⟩ := hcut
          have x0 := cell_past hbx g0
          have x1 := cell_past hbx g1
          have x2 := cell_past hbx g2
          have x3 := cell_past hbx g3
          have x4 := cell_past hbx g4
          have HT2 := Lib.hid (HTW.out.past hbx)
          have hszc : w.heap.size ≤ wc.heap.size := HT2.out.bel.size
          clear hbx g0 g1 g2 g3 g4
          cases hgd : good ⟨f, ob, kk, a, bb⟩ with
          | false =>
            have te : (er != 0) = true := by rw [HER.out, hgd]; rfl
            have HGD := Lib.hid hgd
            clear hgd
            go_wp2_with fail
            go_roundw
            case rel => exact ⟨k + 1, by omega, by go_num, by rw [HGS.out, HGD.out, if_neg (by decide), List.append_nil, ← HB.out]; exact HT2.out⟩
            case measure => simp [intOf]; omega
          | true =>
            have te : (er != 0) = false := by rw [HER.out, hgd]; rfl
            have HGD := Lib.hid hgd
            clear hgd
            go_wp2_with (at_builtin; refine wpList_append_lies _ rfl (.tmp 47) (.tmp 52) 41 rfl w.heap.size 25 i5 (.agg #[.int .u8 0, .int .u8 0, .int .u8 0, .int .u16 0, .int .u16 0]) 5 8 Tryd.underlying41 hi5 hz50 hz51 hz52 rfl (by decide) _ _ _ rfl (HT2.out.o5.alloc _) ⟨wc.heap.size, 0, none⟩ 1 1 (Op5.cells ⟨f, ob, kk, a, bb⟩) rfl rfl (new_cells _ _ _ _ (by simp)) (op_one _) (by decide) (by unfold maxLen; omega) (by omega) (by simp; omega) _ rfl ?_)
            intro gg cap2 w2 hown2 hgrow2 hat hlt2
            have htwo2 := (HT2.out.past (ba (bz wc) _)).put5 hgrow2 hown2 (by simp) hat
            have HT3 := Lib.hid htwo2
            obtain ⟨z0, z1, z2, z3, z4⟩ := op_at (HA.out.below' htwo2.bel HA.out.lt) HX.out
            have hsz2 := htwo2.bel.size
            clear hown2 hgrow2 hat hlt2 htwo2 x0 x1 x2 x3 x4
            dsimp only at z0 z1 z2 z3 z4
            rcases HGF.out HGD.out with h4 | h5
            · subst h4
              go_wp2_with (at_builtin; refine wpList_append_lies _ rfl (.tmp 60) (.tmp 66) 22 rfl w.heap.size 23 i0 (.int .u16 0) 1 2 Tryd.underlying22 hi hz0 hz1 hz2 rfl (by decide) _ _ _ rfl (HT3.out.o6.alloc _) ⟨w2.heap.size, 0, none⟩ 1 1 [.int .u16 a] rfl rfl (new_cells _ _ _ _ (by simp)) (by simp [Value.oneCell']) (by decide) (by unfold maxLen; omega) (by omega) (by simp; omega) _ rfl ?_)
              intro gg3 cap3 w3 hown3 hgrow3 hat3 hlt3
              have htwo3 := (HT3.out.past (ba (bz w2) _)).put6 hgrow3 hown3 (by simp) hat3
              have HT4 := Lib.hid htwo3
              clear hown3 hgrow3 hat3 hlt3 htwo3
              go_wp2_with fail
              go_roundw
              case rel => exact ⟨k + 1, by omega, by go_num, by rw [HGS.out, HGD.out, if_pos rfl, putIn_snoc, ← List.append_assoc, ← HB.out, if_pos rfl]; exact HT4.out⟩
              case measure => simp [intOf]; omega
            · subst h5
              go_wp2_with fail
              go_roundw
              case rel => exact ⟨k + 1, by omega, by go_num, by rw [HGS.out, HGD.out, if_pos rfl, putIn_snoc, ← List.append_assoc, ← HB.out, if_neg (by show ¬ (5 : Int) = 4; decide), List.append_nil]; exact HT3.out⟩
              case measure => simp [intOf]; omega
      · have hfull : ops.take k = ops := List.take_of_length_le (by omega)
        rw [hfull] at htwo
        obtain ⟨G, hG⟩ : ∃ G, G = goods ops := ⟨_, rfl⟩
        rw [← hG] at htwo
        have hgg : ∀ x ∈ G, good x = true := by rw [hG]; exact goods_good ops
        have hGl : G.length ≤ 200 := by rw [hG]; have := goods_le ops; omega
        have hGok : ∀ x ∈ G, x.ok := by rw [hG]; exact fun x hx => Hok.out x (List.mem_filter.1 hx).1
        have hstop : stopAt G = G.length := all_good hgg
        have her : errAt G = 0 := by rw [errAt, if_pos hstop]
        obtain ⟨q, hq⟩ : ∃ q, q = stN l G G.length := ⟨_, rfl⟩
        obtain ⟨out, hout⟩ : ∃ out, out = outN l G G.length := ⟨_, rfl⟩
        obtain ⟨B, hB⟩ : ∃ B, B = l ++ putIn G := ⟨_, rfl⟩
        have hBl : B.length ≤ 400 := by rw [hB, List.length_append]; have := putIn_le G; omega
        have hql : q.length ≤ 400 := by have := stN_len l G G.length; rw [hq]; omega
        have hend := order_end l G hgg
        rw [← hB] at htwo
        obtain ⟨ao5, cap5, b5, o5, hv5, hs5, hb5⟩ := SlAt.owned htwo.o5
        obtain ⟨ao6, cap6, b6, o6, hv6, hs6, hb6⟩ := SlAt.owned htwo.o6
        have hp := fun S v' W (h1 : Far S W l v') hb hk => prun_any S l v' G ao5 cap5 b5 o5 W h1 (hs5.below hb) hGok hGl hl hk
        unfold RunPost at hp
        rw [hstop, her, ← hq, ← hout] at hp
        have hidx5 := hs5.idx (P := Tryd.prog) (t := 41) Tryd.underlying41 size25 (by decide)
        rw [hv5, hv6]
        have hbel := htwo.bel
        have kk1 : ¬ ((k : Int) < (ops.length : Int)) := by omega
        have HP := Lib.hid hp
        have HG := Lib.hid hgg
        have HQ := Lib.hid hq
        have HO := Lib.hid hout
        have HE := Lib.hid hend
        have HBB := Lib.hid hB
        have HS5 := Lib.hid hs5
        have HS6 := Lib.hid hs6
        have HBEL := Lib.hid hbel
        have HKr := Lib.hid (HK.out.below hbel)
        clear hfull hG hgg hGok hstop her hq hout hB hend hv5 hv6 hs5 hs6 hb5 hb6 hp hbel htwo
        have hneq := neq31
        go_wp2_with fail
        refine (qof_any l _ _ (HV.out.below HBEL.out) (by omega)).mono ?_
        rintro e w1 ⟨s, rfl, hown1, hb1⟩
        have Hs1 := Lib.hid (Far.of_lies (Lies.own hown1))
        obtain ⟨ao2, cap2, b2, o2, rfl, _, _⟩ := SlAt.owned hown1
        have HB1 := Lib.hid hb1
        clear hb1 hown1
        go_wp2_with fail
        refine (HP.out _ _ _ Hs1.out HB1.out (HKr.out.below HB1.out)).mono ?_
        rintro e w2 ⟨s2, r2, rfl, hf2, hown2, hb2⟩
        have Hf2 := Lib.hid (hf2.lies.below (ba (bz w2) (.cells #[s2] 28)))
        obtain ⟨ao3, cap3, b3, o3, rfl, _, _⟩ := hf2
        obtain ⟨ao4, cap4, b4, o4, rfl, hs4, _⟩ := SlAt.owned hown2
        have hB2 := ba (bt HB1.out hb2) (.cells #[.slice ao3 q.length cap3] 28)
        have hidx4 := hs4.idx (P := Tryd.prog) (t := 42) Tryd.underlying42 size31 (by decide)
        have HS4 := Lib.hid (hs4.below (ba (bz w2) (.cells #[.slice ao3 q.length cap3] 28)))
        have HS5' := Lib.hid (HS5.out.below hB2)
        have HS6' := Lib.hid (HS6.out.below hB2)
        have HB2 := Lib.hid (HBEL.out.trans (hB2.mono HBEL.out.size))
        have hzz : w.heap.size ≤ w2.heap.size + 1 := by have := HB2.out.size; simpa using this
        have HQ2 := Lib.hid (show (w2.alloc (.cells #[.slice ao3 q.length cap3] 28)).cell? ⟨w2.heap.size, 0, none⟩ = some (.slice ao3 q.length cap3) from by simp [go_sem])
        clear hs4 hown2 hb2 hB2
        go_wp2_with fail
        go_loopw [7, 15, 16] (fun t7 t15 t16 wz => ∃ k : Nat, k ≤ G.length ∧ t16 = .int .i64 k ∧ t15 = .int .i64 (stN l G k).length ∧ wz.ownsRow (w2.heap.size + 1) 23 1 t7 (outs (outN l G k)).length (us (outs (outN l G k))) ∧ Hid (Below (w2.heap.size + 1) (w2.alloc (.cells #[.slice ao3 q.length cap3] 28)) wz)) (fun _ _ t16 _ => G.length - (intOf t16).toNat)
        case atStart => exact ⟨0, Nat.zero_le _, rfl, rfl, World.ownsRow_nil _ _ _ _, Below.refl _ _⟩
        case round =>
          obtain ⟨k, hk, rfl, rfl, hown, hbz⟩ := hrel
          have hsz : w2.heap.size + 1 ≤ wr.heap.size := by have := hbz.out.size; simpa using this
          by_cases hlt : k < G.length
          · obtain ⟨x, hx⟩ : ∃ x, G[k]? = some x := ⟨_, List.getElem?_eq_getElem hlt⟩
            obtain ⟨g0, g1, g2, g3, g4⟩ := op_at (HS5'.out.below' hbz.out (fun hp => by have := HS5'.out.lt hp; simpa using this)) hx
            have hox : out[k]? = some (ans (stN l G k) x) := by rw [HO.out]; exact outN_get hx
            obtain ⟨r0, r1⟩ := res_at (HS4.out.below' hbz.out (fun hp => by have := HS4.out.lt hp; simpa using this)) hox
            have hss := stN_succ (s := l) hx
            have hos := outN_succ (s := l) hx
            have hol : (outs (outN l G k)).length ≤ k := outs_le l G k hk
            have hql2 := stN_len l G k
            have hgx := HG.out x (List.mem_of_getElem? hx)
            obtain ⟨qk, hqk⟩ : ∃ qk, qk = stN l G k := ⟨_, rfl⟩
            rw [← hqk] at hss hos r0 r1 hql2 ⊢
            obtain ⟨oo, hoo⟩ : ∃ oo, oo = outs (outN l G k) := ⟨_, rfl⟩
            have hosn := congrArg outs hos
            rw [outs_snoc, ← hoo] at hosn
            rw [← hoo] at hown hol
            have k0 : (0 : Int) ≤ (k : Int) := by omega
            have k1 : (k : Int) < (G.length : Int) := by omega
            clear hos hox hqk hoo g1 g2 g3 g4
            rcases good_ways (q := qk) hgx with ⟨h4, ha, hn⟩ | ⟨h5, hqe, ha, hn⟩ | ⟨y, r, h5, hqe, ha, hn⟩
            · rw [h4] at g0
              rw [ha] at r0 r1 hosn
              rw [hn] at hss
              have HSS := Lib.hid hss
              have HOS := Lib.hid hosn
              clear hss hosn h4 ha hn hx hgx
              have q1 : (0 : Int) ≤ (qk.length : Int) := by omega
              have q2 : (qk.length : Int) ≤ 400 := by omega
              go_wp2_with fail
              go_roundw
              case rel => exact ⟨k + 1, by omega, by go_num, by rw [HSS.out, List.length_append]; go_num, by rw [HOS.out, if_neg (by decide), List.append_nil]; exact hown, hbz⟩
              case measure => simp [intOf]; omega
            · rw [h5] at g0
              rw [ha] at r0 r1 hosn
              rw [hn] at hss
              subst hqe
              have HSS := Lib.hid hss
              have HOS := Lib.hid hosn
              clear hss hosn h5 ha hn hx hgx
              go_wp2_with fail
              go_roundw
              case rel => exact ⟨k + 1, by omega, by go_num, by rw [HSS.out], by rw [HOS.out, if_neg (by decide), List.append_nil]; exact hown, hbz⟩
              case measure => simp [intOf]; omega
            · rw [h5] at g0
              rw [ha] at r0 r1 hosn
              rw [hn] at hss
              subst hqe
              have HSS := Lib.hid hss
              have HOS := Lib.hid hosn
              have e1 : (((y :: r).length : Nat) : Int) = (r.length : Int) + 1 := by simp
              have z1 : ((((y :: r).length : Nat) : Int) == 0) = false := by rw [beq_eq_false_iff_ne]; omega
              have q1 : (1 : Int) ≤ (((y :: r).length : Nat) : Int) := by omega
              have q2 : (((y :: r).length : Nat) : Int) ≤ 400 := by omega
              obtain ⟨m, hm⟩ : ∃ m : Nat, m = (y :: r).length := ⟨_, rfl⟩
              rw [← hm] at e1 z1 q1 q2 ⊢
              have E1 := Lib.hid e1
              clear hss hosn h5 ha hn hx hgx e1 hm
              go_wp2_with (at_builtin; refine wpList_append_own _ rfl (.tmp 101) (.tmp 107) 22 rfl (w2.heap.size + 1) 23 i0 (.int .u16 0) 1 2 Tryd.underlying22 hi hz0 hz1 hz2 rfl (by decide) _ _ _ rfl (hown.alloc _) ⟨wr.heap.size, 0, none⟩ 1 1 [.int .u16 y] rfl rfl (new_cells _ _ _ _ (by simp)) (by simp [Value.oneCell']) (by unfold maxLen; omega) (by omega) (by simp; omega) ?_)
              intro v' w4 hown4 hgrow4 _
              have hb4 : Below (w2.heap.size + 1) (w2.alloc (.cells #[.slice ao3 q.length cap3] 28)) w4 := below_own (hbz.out.alloc hsz _) (hown.alloc _) hgrow4 (Nat.le_refl _) (by simp; omega)
              go_wp2_with fail
              go_roundw
              case rel => exact ⟨k + 1, by omega, by go_num, by rw [HSS.out]; have := E1.out; congr 1; omega, by rw [HOS.out, if_pos trivial]; simpa [us] using hown4, hb4⟩
              case measure => simp [intOf]; omega
          · have hkG : k = G.length := by omega
            subst hkG
            rw [← HO.out] at hown
            rw [← HQ.out]
            have HEE : Hid (us (outs out) ++ us q = us B) := by
              have := HE.out
              rw [← HQ.out, ← HO.out, ← HBB.out] at this
              rw [← this]; simp [us, Hid]
            have hol : (outs out).length ≤ 200 := by rw [HO.out]; exact Nat.le_trans (outs_le l G _ (Nat.le_refl _)) hGl
            have HLEN := Lib.hid (show (outs out).length + q.length = B.length from by simpa [us] using congrArg List.length HEE.out)
            have hzq1 : w2.heap.size < wr.heap.size := by omega
            have hbe : (w2.alloc (.cells #[.slice ao3 q.length cap3] 28)).heap.size = w2.heap.size + 1 := by simp
            have HBE := Lib.hid hbe
            have HPAST : ∀ W, Below (w2.heap.size + 1) (w2.alloc (.cells #[.slice ao3 q.length cap3] 28)) W → Lies W q (.slice ao3 q.length cap3) ∧ SlAt W 1 B.length (us B) ao6 cap6 b6 o6 ∧ W.cell? ⟨w2.heap.size, 0, none⟩ = some (.slice ao3 q.length cap3) := by
              intro W hW
              rw [← HBE.out] at hW
              exact ⟨Hf2.out.below hW, HS6'.out.below hW, cell_past hW HQ2.out⟩
            have HPA := Lib.hid HPAST
            have c12 := (HPAST _ hbz.out).2.2
            have kg : ¬ ((G.length : Int) < (G.length : Int)) := by omega
            clear HPAST hbe
            go_wp2_with fail
            refine (values_any q _ _ (HPA.out _ hbz.out).1 (by omega)).mono ?_
            rintro e w5 ⟨v5, rfl, hown5, hb5⟩
            have hown7 := own_past hown hb5
            obtain ⟨ao9, cap9, b9, o9, rfl, hs9, _⟩ := SlAt.owned hown5
            have hsz5 : wr.heap.size ≤ w5.heap.size := hb5.size
            have hbS5 := hbz.out.trans (hb5.mono hsz)
            have HS9 := Lib.hid hs9
            have HBS5 := Lib.hid hbS5
            clear hown hown5 hs9 hb5 hbS5 c12
            go_wp2_with (at_builtin; refine wpList_append_slat rfl (.tmp 133) (.tmp 135) 22 rfl (w2.heap.size + 1) 23 i0 (.int .u16 0) 1 2 Tryd.underlying22 hi hz0 hz1 hz2 rfl (by decide) _ _ _ rfl hown7 ao9 q.length cap9 b9 o9 (us q) rfl HS9.out us_one (by unfold maxLen; omega) (by omega) (by omega) ?_)
            intro v6 w6 hown6 hgrow6 hat6
            have hB6 := below_own HBS5.out hown7 hgrow6 (Nat.le_refl _) (by omega)
            rw [HEE.out, HLEN.out] at hown6
            have hsz6 : w2.heap.size + 1 ≤ w6.heap.size := by have := hB6.size; simpa using this
            have hB6' := Lib.hid hB6
            have HOWN6 := Lib.hid hown6
            clear hown7 hown6 hgrow6 hat6 hB6
            go_wp2_with fail
            refine (qof_any B _ _ (Lies.own HOWN6.out) (by omega)).mono ?_
            rintro e w7 ⟨v7, rfl, hown7, hb7⟩
            have hB7 := hB6'.out.trans (hb7.mono hsz6)
            have HL7 := Lib.hid (Lies.own hown7)
            have hsz7 : w2.heap.size + 1 ≤ w7.heap.size := by have := hb7.size; omega
            obtain ⟨ao10, cap10, b10, o10, rfl, _, _⟩ := SlAt.owned hown7
            have HB7 := Lib.hid hB7
            clear hown7 hb7 hB7
            go_wp2_with fail
            refine (has_any B B _ _ _ _ _ _ HL7.out (HPA.out _ HB7.out).2.1 (by omega)).mono ?_
            rintro e w8 ⟨rfl, hb8⟩
            rw [decide_eq_true (rfl : B = B)]
            have hB8 := HB7.out.trans (hb8.mono hsz7)
            have c12 := (HPA.out _ hB8).2.2
            have hsz8 : w2.heap.size + 1 ≤ w8.heap.size := by have := hb8.size; omega
            have HB8 := Lib.hid hB8
            clear hb8 hB8
            go_wp2_with fail
            refine (values_any q _ _ (HPA.out _ HB8.out).1 (by omega)).mono ?_
            rintro e w9 ⟨v9, rfl, hown9, hb9⟩
            obtain ⟨ao11, cap11, b11, o11, rfl, _, _⟩ := SlAt.owned hown9
            have HB9 := Lib.hid (HB2.out.trans ((HB8.out.trans (hb9.mono hsz8)).mono hzz))
            clear hown9 hb9 c12
            go_wp2_with fail
            refine (works_any _ (HK.out.below HB9.out)).mono ?_
            rintro e wA ⟨rfl, hbA⟩
            go_wp2
            go_ret
            exact ⟨by simp, bt HB9.out hbA⟩

theorem qorder_any (l : List Int) (v : Value) (ops : List Op5) (ao : Option Addr) (cap b o : Nat) (w : World) (hv : Lies w l v) (h : SlAt w 5 ops.length (ops.flatMap Op5.cells) ao cap b o) (hok : ∀ x ∈ ops, x.ok) (hk : Kinds w) :
    Calls Tryd.prog 5 #[v, .slice ao ops.length cap] w fun e w' => e = .returned (.bool true) ∧ Below w.heap.size w w' := by
  by_cases hl : l.length ≤ 200
  · by_cases ho : ops.length ≤ 200
    · exact qorder_small l v ops ao cap b o w hv h hok hl ho hk
    · exact qorder_big l v ops ao cap w hv (.inr (by omega)) hk
  · exact qorder_big l v ops ao cap w hv (.inl (by omega)) hk
end Go.Proofs.YtfaoakahmllpjaaDoor
