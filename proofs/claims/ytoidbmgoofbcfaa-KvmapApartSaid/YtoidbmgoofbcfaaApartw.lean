/- KvmapApart: keys are apart. Printed by gen_apart.py. -/
import Derived.Test.YtoidbmgoofbcfaaApartp
namespace Go.Proofs.Ytoidbmgoofbcfaa
open Go.RowKit Go.Um
set_option linter.unusedSimpArgs false
set_option linter.unusedVariables false
set_option maxHeartbeats 4000000
set_option maxRecDepth 100000

theorem apart_big (s : KV) (n : Nat) (ao : Option Addr) (cap : Nat) (key : Int) (w : World) (hn : 200 < n) : Calls Try.prog 5 #[s.val, .slice ao n cap, .int .u8 key] w fun e w' => e = .returned (.bool true) ∧ Below w.heap.size w w' := by
  have hd1 : decide ((200 : Int) < (n : Int)) = true := by simp; omega
  clear hn
  unfold KV.val
  go_enter Try.func5, Try.ntmps5
  go_wp2_with fail
  refine (awake_any _).mono ?_
  rintro e w1 ⟨rfl, hb⟩
  go_wp2
  go_ret
  exact ⟨rfl, bt (ba (bz w) _) hb⟩

theorem apart_small (s : KV) (l : List Op5) (key : Int) (ao : Option Addr) (cap b o : Nat) (w : World) (hs : s.ok) (h : SlAt w 5 l.length (l.flatMap Op5.cells) ao cap b o) (hok : ∀ x ∈ l, x.ok) (hlen : l.length ≤ 200) (hkey : 0 ≤ key ∧ key ≤ 255) :
    Calls Try.prog 5 #[s.val, .slice ao l.length cap, .int .u8 key] w fun e w' => e = .returned (.bool true) ∧ Below w.heap.size w w' := by
  obtain ⟨i5, hi5, iz50, iz51, iz52⟩ := info_parts info44
  obtain ⟨j3, hi3, iz30, iz31, iz32⟩ := info_parts info39
  obtain ⟨K, hK⟩ : ∃ K : Nat, Int.tmod key 8 = (K : Int) := ⟨(Int.tmod key 8).toNat, by rw [Int.tmod_eq_emod_of_nonneg hkey.1]; omega⟩
  have hK8 : Hid (K < 8) := by unfold Hid; rw [Int.tmod_eq_emod_of_nonneg hkey.1] at hK; omega
  have hst := stopAt_le l
  have hidx := h.idx (P := Try.prog) (t := 26) Try.underlying26 size44 (by decide)
  have heq := eq25_kv
  have Hok := Lib.hid hok
  have Hsl := Lib.hid h
  have Hs := Lib.hid hs
  have hd1 : decide ((200 : Int) < (l.length : Int)) = false := by rw [decide_eq_false_iff_not]; omega
  have hd2 : decide ((l.length : Int) < (stopAt l : Int)) = false := by rw [decide_eq_false_iff_not]; omega
  have hd3 : decide (l.length < stopAt l) = false := by rw [decide_eq_false_iff_not]; omega
  have HWH := Lib.hid (whole_ok hs)
  have HFN := Lib.hid (whole_fine s)
  have K0 := Lib.hid (KvAt.new w s)
  clear h hok hs hkey
  have HWC := Lib.hid (fun W => whole_any s W Hs.out)
  obtain ⟨S, hS⟩ : ∃ S, S = s.whole := ⟨_, rfl⟩
  rw [← hS] at HWC HWH HFN
  clear hS Hs
  unfold KV.val at HWC ⊢
  go_enter Try.func5, Try.ntmps5
  go_wp2_with fail
  refine (HWC.out _).mono ?_
  rintro e w1 ⟨rfl, hb1⟩
  have K1 := Lib.hid (K0.out.below hb1)
  have HB1 := Lib.hid (bt (ba (bz w) _) hb1)
  obtain ⟨c0, c1, c2, c3, c4, c5, c6, c7, c8, f0, f1, f2, f3, f4, f5, f6, f7, f8⟩ := K1.out
  clear hb1 K0
  go_wp2_with fail
  have K2 := Lib.hid (KvAt.set9 K1.out S)
  obtain ⟨Y1, hY1⟩ : ∃ Y, Y = (((((((((w1.setCell ⟨w.heap.size, 0, none⟩ (.int .u8 S.h)).setCell ⟨w.heap.size, 1, none⟩ (.int .u16 S.v0)).setCell ⟨w.heap.size, 2, none⟩ (.int .u16 S.v1)).setCell ⟨w.heap.size, 3, none⟩ (.int .u16 S.v2)).setCell ⟨w.heap.size, 4, none⟩ (.int .u16 S.v3)).setCell ⟨w.heap.size, 5, none⟩ (.int .u16 S.v4)).setCell ⟨w.heap.size, 6, none⟩ (.int .u16 S.v5)).setCell ⟨w.heap.size, 7, none⟩ (.int .u16 S.v6)).setCell ⟨w.heap.size, 8, none⟩ (.int .u16 S.v7)) := ⟨_, rfl⟩
  rw [← hY1] at K2 ⊢
  have HBY : Hid (Below w.heap.size w Y1) := by
    rw [hY1]
    exact Lib.hid (HB1.out.trans ((kept9 w1 w.heap.size S).below (fun i hi _ e => by omega) HB1.out.size))
  clear hY1 HB1 K1 c0 c1 c2 c3 c4 c5 c6 c7 c8 f0 f1 f2 f3 f4 f5 f6 f7 f8
  refine (run_any S l ao cap b o Y1 HWH.out (Hsl.out.below' HBY.out Hsl.out.lt) Hok.out hlen).mono ?_
  rintro e w2 ⟨v2, rfl, hown, hb2⟩
  obtain ⟨aoR, capR, bR, oR, rfl, hslR, _⟩ := SlAt.owned hown
  have hidx1 := hslR.idx (P := Try.prog) (t := 29) Try.underlying29 size39 (by decide)
  have HR := Lib.hid hslR
  have HBW := Lib.hid (HBY.out.trans (hb2.mono HBY.out.size))
  replace K2 := Lib.hid (K2.out.below hb2)
  obtain ⟨SE, hse⟩ : ∃ t, t = stN S l (stopAt l) := ⟨_, rfl⟩
  obtain ⟨ER, her⟩ : ∃ t, t = errAt l := ⟨_, rfl⟩
  rw [← hse, ← her]
  have HSE := Lib.hid hse
  have KE := Lib.hid (KvAt.new w2 SE)
  unfold KV.val
  clear hown hslR hb2 hse her HBY
  go_wp2_with fail
  replace HR := Lib.hid (HR.out.below (ba (bz w2) (.cells #[.int .u8 SE.h, .int .u16 SE.v0, .int .u16 SE.v1, .int .u16 SE.v2, .int .u16 SE.v3, .int .u16 SE.v4, .int .u16 SE.v5, .int .u16 SE.v6, .int .u16 SE.v7] 25)))
  replace HBW := Lib.hid (ba HBW.out (.cells #[.int .u8 SE.h, .int .u16 SE.v0, .int .u16 SE.v1, .int .u16 SE.v2, .int .u16 SE.v3, .int .u16 SE.v4, .int .u16 SE.v5, .int .u16 SE.v6, .int .u16 SE.v7] 25))
  replace K2 := Lib.hid (K2.out.below (ba (bz w2) (.cells #[.int .u8 SE.h, .int .u16 SE.v0, .int .u16 SE.v1, .int .u16 SE.v2, .int .u16 SE.v3, .int .u16 SE.v4, .int .u16 SE.v5, .int .u16 SE.v6, .int .u16 SE.v7] 25)))
  obtain ⟨Y, hY⟩ : ∃ Y, Y = w2.alloc (.cells #[.int .u8 SE.h, .int .u16 SE.v0, .int .u16 SE.v1, .int .u16 SE.v2, .int .u16 SE.v3, .int .u16 SE.v4, .int .u16 SE.v5, .int .u16 SE.v6, .int .u16 SE.v7] 25) := ⟨_, rfl⟩
  replace KE : Hid (KvAt (w2.alloc (.cells #[.int .u8 SE.h, .int .u16 SE.v0, .int .u16 SE.v1, .int .u16 SE.v2, .int .u16 SE.v3, .int .u16 SE.v4, .int .u16 SE.v5, .int .u16 SE.v6, .int .u16 SE.v7] 25)) w2.heap.size SE) := KE
  rw [← hY] at HR HBW K2 KE ⊢
  obtain ⟨P7, hP7⟩ : ∃ p, p = w2.heap.size := ⟨_, rfl⟩
  rw [← hP7] at KE ⊢
  clear hY hP7
  have HSY := Lib.hid (Hsl.out.below' HBW.out Hsl.out.lt)
  have HP0 : Hid (Pair Y 44 5 39 2 0 0 [] [] (.slice none 0 0) (.slice none 0 0) Y) := Lib.hid (Pair.nil Y 44 5 39 2)
  go_loopw [11, 12, 13] (fun t11 t12 t13 wr => ∃ k : Nat, k ≤ stopAt l ∧ t13 = .int .i64 k ∧ Hid (Pair Y 44 5 39 2 (atKey K (l.take k)).length (atKey K (l.take k)).length ((atKey K (l.take k)).flatMap Op5.cells) ((pick S K (l.take k)).flatMap resC) t11 t12 wr)) (fun _ _ t13 _ => stopAt l - (intOf t13).toNat)
  case atStart => exact ⟨0, Nat.zero_le _, rfl, HP0.out⟩
  case round =>
    obtain ⟨k, hk, rfl, hpair⟩ := hrel
    have hsz := hpair.out.bel.size
    by_cases hlt : k < stopAt l
    · obtain ⟨x, hx⟩ : ∃ x, l[k]? = some x := ⟨_, List.getElem?_eq_getElem (by omega)⟩
      have hy := outs_at S l k x hx (stopAt l) hst hlt
      have hgs := atKey_push K (l.take k) x
      have hps := pick_push S K (l.take k) x
      rw [← take_push hx] at hgs hps
      rw [← stN_fin S l k (by omega)] at hps
      have hAl : (atKey K (l.take k)).length ≤ k := by have := atKey_le K (l.take k); rw [List.length_take] at this; omega
      obtain ⟨G, hG⟩ : ∃ G, G = atKey K (l.take k) := ⟨_, rfl⟩
      obtain ⟨W, hW⟩ : ∃ W, W = pick S K (l.take k) := ⟨_, rfl⟩
      obtain ⟨r, hr⟩ : ∃ r, r = (stp (stN S l k) x).2.1 := ⟨_, rfl⟩
      rw [← hr] at hy hps
      rw [← hG] at hgs hAl hpair
      rw [← hW] at hps hpair
      have HGS := Lib.hid hgs
      have HPS := Lib.hid hps
      have HPR := Lib.hid hpair.out
      obtain ⟨g0, g1, g2, g3, g4⟩ := op_at (HSY.out.below' hpair.out.bel HSY.out.lt) hx
      have Hy := Lib.hid hy
      have i1 : (0 : Int) ≤ (k : Int) := by omega
      have i2 : (k : Int) < (l.length : Int) := by omega
      have i3 : (k : Int) < (stopAt l : Int) := by omega
      obtain ⟨f, ob, kk, a, bb⟩ := x
      dsimp only at g0 g1 g2 g3 g4
      have hbw : b < wr.heap.size := World.block_lt_of_cell? wr _ g0
      clear hx hy hgs hps hG hW hr hpair
      by_cases e : kk = (K : Int)
      · subst e
        go_wp2_with (at_builtin; refine wpList_append_lies _ rfl (.tmp 53) (.tmp 58) 26 rfl Y.heap.size 44 i5 (.agg #[.int .u8 0, .int .u8 0, .int .u8 0, .int .u16 0, .int .u16 0]) 5 8 Try.underlying26 hi5 iz50 iz51 iz52 rfl (by decide) _ _ _ rfl (HPR.out.o1.alloc _) ⟨wr.heap.size, 0, none⟩ 1 1 (Op5.cells ⟨f, ob, (K : Int), a, bb⟩) rfl rfl (new_cells _ _ _ _ (by simp)) (op_one _) (by decide) (by unfold maxLen; omega) (by omega) (by simp; omega) _ rfl ?_)
        intro gg cap2 wa hown2 hgrow2 hat hlt2
        have hp2 := (HPR.out.past (ba (bz wr) _)).put1 hgrow2 hown2 (by simp) hat
        have HP2 := Lib.hid hp2
        obtain ⟨q0, q1⟩ := res_at (HR.out.below' hp2.bel HR.out.lt) Hy.out
        have hsz2 := hp2.bel.size
        obtain ⟨ra, rb⟩ := r
        dsimp only at q0 q1
        clear hown2 hgrow2 hat hlt2 hp2 g0 g1 g2 g3 g4
        go_wp2_with (at_builtin; refine wpList_append_lies _ rfl (.tmp 60) (.tmp 65) 29 rfl Y.heap.size 39 j3 (.agg #[.int .u8 0, .int .u16 0]) 2 4 Try.underlying29 hi3 iz30 iz31 iz32 rfl (by decide) _ _ _ rfl (HP2.out.o2.alloc _) ⟨wa.heap.size, 0, none⟩ 1 1 [.int .u8 ra, .int .u16 rb] rfl rfl (new_cells _ _ _ _ (by simp)) (by simp [Value.oneCell']) (by decide) (by unfold maxLen; omega) (by omega) (by simp; omega) _ rfl ?_)
        intro gg3 cap3 wb hown3 hgrow3 hat3 hlt3
        have hp3 := (HP2.out.past (ba (bz wa) _)).put2 hgrow3 hown3 (by simp) hat3
        have HP3 := Lib.hid hp3
        clear hown3 hgrow3 hat3 hlt3 hp3
        go_wp2_with fail
        go_roundw
        case rel =>
          refine ⟨k + 1, by omega, by go_num, ?_⟩
          rw [HGS.out, HPS.out, if_pos trivial, if_pos trivial, List.length_append, List.flatMap_append, List.flatMap_append]
          exact HP3
        case measure => simp [intOf]; omega
      · have t1 : (kk == (K : Int)) = false := by simp [e]
        have E := Lib.hid e
        clear e
        go_wp2_with fail
        go_roundw
        case rel =>
          refine ⟨k + 1, by omega, by go_num, ?_⟩
          rw [HGS.out, HPS.out, if_neg E.out, if_neg E.out, List.append_nil, List.append_nil]
          exact HPR
        case measure => simp [intOf]; omega
    · have hks : k = stopAt l := by omega
      have hlsub : ∀ x ∈ l.take k, x.ok := fun x hx => Hok.out x (List.mem_of_mem_take hx)
      have hae := apart_end hK8.out hlsub HWH.out HFN.out
      have hkn : ∀ x ∈ atKey K (l.take k), known x = true := by
        intro x hx; rw [hks] at hx; exact known_take x (List.mem_filter.1 hx).1
      have hGok : ∀ x ∈ atKey K (l.take k), x.ok := fun x hx => hlsub x (List.mem_filter.1 hx).1
      have hAl : (atKey K (l.take k)).length ≤ k := by have := atKey_le K (l.take k); rw [List.length_take] at this; omega
      have hpl := pick_len S K (l.take k)
      have hSE : SE = fin S (l.take k) := by rw [HSE.out, hks]; exact stN_fin S l _ hst
      have hSEok : SE.ok := by rw [hSE]; exact fin_ok HWH.out hlsub
      rw [← hSE] at hae
      obtain ⟨N, hN⟩ : ∃ N, N = (atKey K (l.take k)).length := ⟨_, rfl⟩
      rw [← hN] at hpair hAl hpl
      obtain ⟨G, hG⟩ : ∃ G, G = atKey K (l.take k) := ⟨_, rfl⟩
      obtain ⟨W, hW⟩ : ∃ W, W = pick S K (l.take k) := ⟨_, rfl⟩
      rw [← hG] at hae hkn hGok hpair hN
      rw [← hW] at hae hpair hpl
      obtain ⟨ae1, ae2, ae3, ae4⟩ := hae
      have HC1 := fun aoX capX bX oX Wd hX => run_known (S.only K) G N hN hkn aoX capX bX oX Wd (only_ok HWH.out K) hX hGok (by omega)
      have HC2 := fun aoX capX bX oX Wd hX => run_known S G N hN hkn aoX capX bX oX Wd HWH.out hX hGok (by omega)
      have hBok : (fin S G).ok := fin_ok HWH.out hGok
      have HO1 := fun Wd => only_any S K Wd HWH.out
      have HO2 := fun Wd => only_any SE K Wd hSEok
      have HO3 := fun Wd => only_any (fin S G) K Wd hBok
      unfold AllPost at HC1 HC2
      rw [ae1, ae3] at HC1
      rw [ae2] at HC2
      rw [ae4, ae3] at HO3
      obtain ⟨BS, hBS⟩ : ∃ BS, BS = fin S G := ⟨_, rfl⟩
      obtain ⟨AL, hAL⟩ : ∃ AL, AL = SE.only K := ⟨_, rfl⟩
      obtain ⟨ON, hON⟩ : ∃ ON, ON = S.only K := ⟨_, rfl⟩
      rw [← hBS] at HC2 HO3
      rw [← hAL] at HC1 HO2 HO3
      rw [← hON] at HC1 HO1
      replace HC1 := Lib.hid HC1
      replace HC2 := Lib.hid HC2
      replace HO1 := Lib.hid HO1
      replace HO2 := Lib.hid HO2
      replace HO3 := Lib.hid HO3
      unfold KV.val at HC1 HC2 HO1 HO2 HO3
      have HSS := fun aoX aoZ capX bX oX capZ bZ oZ Wd h1 h2 => same_self W N hpl.symm aoX aoZ capX bX oX capZ bZ oZ Wd h1 h2 (by omega)
      replace HSS := Lib.hid HSS
      obtain ⟨ao5, cap5, b5, o5, hv5, hs5, _⟩ := SlAt.owned hpair.out.o1
      obtain ⟨ao6, cap6, b6, o6, hv6, hs6, _⟩ := SlAt.owned hpair.out.o2
      have HS5 := Lib.hid hs5
      have HS6 := Lib.hid hs6
      have HBr := Lib.hid (HBW.out.trans (hpair.out.bel.mono HBW.out.size))
      have K3 := Lib.hid (K2.out.below hpair.out.bel)
      have K7 := Lib.hid (KE.out.below hpair.out.bel)
      rw [hv5, hv6]
      have kk1 : ¬ ((k : Int) < (stopAt l : Int)) := by omega
      have hc3 := K3.out.lt
      obtain ⟨c0, c1, c2, c3, c4, c5, c6, c7, c8, f0, f1, f2, f3, f4, f5, f6, f7, f8⟩ := K3.out
      clear hks hlsub ae1 ae2 ae3 ae4 hkn hGok hpl hSE hSEok hN hG hW hBok hBS hAL hON hs5 hs6 hv5 hv6 hpair f0 f1 f2 f3 f4 f5 f6 f7 f8 hAl
      go_wp2_with fail
      refine (HO1.out _).mono ?_
      rintro e w3 ⟨rfl, hb⟩
      have HZ := Lib.hid hb
      clear hb
      go_wp2_with fail
      refine (HC1.out _ _ _ _ w3 (HS5.out.below HZ.out)).mono ?_
      rintro e w4 ⟨aoM, capM, bM, oM, rfl, hsM, hb⟩
      replace HZ := Lib.hid (bt HZ.out hb)
      have HM := Lib.hid hsM
      clear hb hsM
      replace K3 := Lib.hid (K3.out.below HZ.out)
      have hc4 := K3.out.lt
      clear c0 c1 c2 c3 c4 c5 c6 c7 c8
      obtain ⟨c0, c1, c2, c3, c4, c5, c6, c7, c8, f0, f1, f2, f3, f4, f5, f6, f7, f8⟩ := K3.out
      clear f0 f1 f2 f3 f4 f5 f6 f7 f8
      go_wp2_with fail
      refine (HC2.out _ _ _ _ _ (HS5.out.below (ba HZ.out _))).mono ?_
      rintro e w5 ⟨aoN, capN, bN, oN, rfl, hsN, hb⟩
      have HN := Lib.hid hsN
      have KA := Lib.hid ((KvAt.new w4 AL).below hb)
      replace HM := Lib.hid ((HM.out.below (ba (bz w4) _)).below hb)
      replace HZ := Lib.hid (bt (ba HZ.out _) hb)
      clear hb hsN c0 c1 c2 c3 c4 c5 c6 c7 c8 K3
      replace HS6 := Lib.hid (HS6.out.below HZ.out)
      replace K7 := Lib.hid (K7.out.below HZ.out)
      replace HBr := Lib.hid (HBr.out.trans (HZ.out.mono HBr.out.size))
      clear HS5 HZ HC1 HC2 HO1
      go_wp2_with fail
      have KB := Lib.hid (KvAt.new w5 BS)
      replace KB : Hid (KvAt (w5.alloc (.cells #[.int .u8 BS.h, .int .u16 BS.v0, .int .u16 BS.v1, .int .u16 BS.v2, .int .u16 BS.v3, .int .u16 BS.v4, .int .u16 BS.v5, .int .u16 BS.v6, .int .u16 BS.v7] 25)) w5.heap.size BS) := KB
      replace KA := Lib.hid (KA.out.below (ba (bz w5) (.cells #[.int .u8 BS.h, .int .u16 BS.v0, .int .u16 BS.v1, .int .u16 BS.v2, .int .u16 BS.v3, .int .u16 BS.v4, .int .u16 BS.v5, .int .u16 BS.v6, .int .u16 BS.v7] 25)))
      replace K7 := Lib.hid (K7.out.below (ba (bz w5) (.cells #[.int .u8 BS.h, .int .u16 BS.v0, .int .u16 BS.v1, .int .u16 BS.v2, .int .u16 BS.v3, .int .u16 BS.v4, .int .u16 BS.v5, .int .u16 BS.v6, .int .u16 BS.v7] 25)))
      replace HM := Lib.hid (HM.out.below (ba (bz w5) (.cells #[.int .u8 BS.h, .int .u16 BS.v0, .int .u16 BS.v1, .int .u16 BS.v2, .int .u16 BS.v3, .int .u16 BS.v4, .int .u16 BS.v5, .int .u16 BS.v6, .int .u16 BS.v7] 25)))
      replace HN := Lib.hid (HN.out.below (ba (bz w5) (.cells #[.int .u8 BS.h, .int .u16 BS.v0, .int .u16 BS.v1, .int .u16 BS.v2, .int .u16 BS.v3, .int .u16 BS.v4, .int .u16 BS.v5, .int .u16 BS.v6, .int .u16 BS.v7] 25)))
      replace HS6 := Lib.hid (HS6.out.below (ba (bz w5) (.cells #[.int .u8 BS.h, .int .u16 BS.v0, .int .u16 BS.v1, .int .u16 BS.v2, .int .u16 BS.v3, .int .u16 BS.v4, .int .u16 BS.v5, .int .u16 BS.v6, .int .u16 BS.v7] 25)))
      replace HBr := Lib.hid (ba HBr.out (.cells #[.int .u8 BS.h, .int .u16 BS.v0, .int .u16 BS.v1, .int .u16 BS.v2, .int .u16 BS.v3, .int .u16 BS.v4, .int .u16 BS.v5, .int .u16 BS.v6, .int .u16 BS.v7] 25))
      obtain ⟨Z, hZ⟩ : ∃ Z, Z = w5.alloc (.cells #[.int .u8 BS.h, .int .u16 BS.v0, .int .u16 BS.v1, .int .u16 BS.v2, .int .u16 BS.v3, .int .u16 BS.v4, .int .u16 BS.v5, .int .u16 BS.v6, .int .u16 BS.v7] 25) := ⟨_, rfl⟩
      rw [← hZ] at KB KA K7 HM HN HS6 HBr ⊢
      obtain ⟨PB, hPB⟩ : ∃ p, p = w5.heap.size := ⟨_, rfl⟩
      rw [← hPB] at KB ⊢
      obtain ⟨PA, hPA⟩ : ∃ p, p = w4.heap.size := ⟨_, rfl⟩
      rw [← hPA] at KA ⊢
      clear hZ hPB hPA
      obtain ⟨xa0, xa1, xa2, xa3, xa4, xa5, xa6, xa7, xa8, _, _, _, _, _, _, _, _, _⟩ := KA.out
      obtain ⟨xb0, xb1, xb2, xb3, xb4, xb5, xb6, xb7, xb8, _, _, _, _, _, _, _, _, _⟩ := KB.out
      obtain ⟨xe0, xe1, xe2, xe3, xe4, xe5, xe6, xe7, xe8, _, _, _, _, _, _, _, _, _⟩ := K7.out
      clear KA KB K7
      go_region_held3 (fun w' => w'.cell? ⟨PA, 0, none⟩ = some (.int .u8 AL.h) ∧ w'.cell? ⟨PA, 1, none⟩ = some (.int .u16 AL.v0) ∧ w'.cell? ⟨PA, 2, none⟩ = some (.int .u16 AL.v1) ∧ w'.cell? ⟨PA, 3, none⟩ = some (.int .u16 AL.v2) ∧ w'.cell? ⟨PA, 4, none⟩ = some (.int .u16 AL.v3) ∧ w'.cell? ⟨PA, 5, none⟩ = some (.int .u16 AL.v4) ∧ w'.cell? ⟨PA, 6, none⟩ = some (.int .u16 AL.v5) ∧ w'.cell? ⟨PA, 7, none⟩ = some (.int .u16 AL.v6) ∧ w'.cell? ⟨PA, 8, none⟩ = some (.int .u16 AL.v7) ∧ w'.cell? ⟨PB, 0, none⟩ = some (.int .u8 BS.h) ∧ w'.cell? ⟨PB, 1, none⟩ = some (.int .u16 BS.v0) ∧ w'.cell? ⟨PB, 2, none⟩ = some (.int .u16 BS.v1) ∧ w'.cell? ⟨PB, 3, none⟩ = some (.int .u16 BS.v2) ∧ w'.cell? ⟨PB, 4, none⟩ = some (.int .u16 BS.v3) ∧ w'.cell? ⟨PB, 5, none⟩ = some (.int .u16 BS.v4) ∧ w'.cell? ⟨PB, 6, none⟩ = some (.int .u16 BS.v5) ∧ w'.cell? ⟨PB, 7, none⟩ = some (.int .u16 BS.v6) ∧ w'.cell? ⟨PB, 8, none⟩ = some (.int .u16 BS.v7) ∧ w'.cell? ⟨P7, 0, none⟩ = some (.int .u8 SE.h) ∧ w'.cell? ⟨P7, 1, none⟩ = some (.int .u16 SE.v0) ∧ w'.cell? ⟨P7, 2, none⟩ = some (.int .u16 SE.v1) ∧ w'.cell? ⟨P7, 3, none⟩ = some (.int .u16 SE.v2) ∧ w'.cell? ⟨P7, 4, none⟩ = some (.int .u16 SE.v3) ∧ w'.cell? ⟨P7, 5, none⟩ = some (.int .u16 SE.v4) ∧ w'.cell? ⟨P7, 6, none⟩ = some (.int .u16 SE.v5) ∧ w'.cell? ⟨P7, 7, none⟩ = some (.int .u16 SE.v6) ∧ w'.cell? ⟨P7, 8, none⟩ = some (.int .u16 SE.v7))
        (refine ⟨?_, ?_, ?_, ?_, ?_, ?_, ?_, ?_, ?_, ?_, ?_, ?_, ?_, ?_, ?_, ?_, ?_, ?_, ?_, ?_, ?_, ?_, ?_, ?_, ?_, ?_, ?_⟩ <;> (repeat (first | (with_reducible assumption) | (with_reducible apply keep_alloc) | (with_reducible apply keep_drew))))
        (first
          | (go_at_call 10; refine (awake_any _).mono ?_; rintro e wX ⟨rfl, hb⟩; replace xa0 := cell_past hb (by repeat (first | (with_reducible exact xa0) | (with_reducible apply keep_alloc) | (with_reducible apply keep_drew))); replace xa1 := cell_past hb (by repeat (first | (with_reducible exact xa1) | (with_reducible apply keep_alloc) | (with_reducible apply keep_drew))); replace xa2 := cell_past hb (by repeat (first | (with_reducible exact xa2) | (with_reducible apply keep_alloc) | (with_reducible apply keep_drew))); replace xa3 := cell_past hb (by repeat (first | (with_reducible exact xa3) | (with_reducible apply keep_alloc) | (with_reducible apply keep_drew))); replace xa4 := cell_past hb (by repeat (first | (with_reducible exact xa4) | (with_reducible apply keep_alloc) | (with_reducible apply keep_drew))); replace xa5 := cell_past hb (by repeat (first | (with_reducible exact xa5) | (with_reducible apply keep_alloc) | (with_reducible apply keep_drew))); replace xa6 := cell_past hb (by repeat (first | (with_reducible exact xa6) | (with_reducible apply keep_alloc) | (with_reducible apply keep_drew))); replace xa7 := cell_past hb (by repeat (first | (with_reducible exact xa7) | (with_reducible apply keep_alloc) | (with_reducible apply keep_drew))); replace xa8 := cell_past hb (by repeat (first | (with_reducible exact xa8) | (with_reducible apply keep_alloc) | (with_reducible apply keep_drew))); replace xb0 := cell_past hb (by repeat (first | (with_reducible exact xb0) | (with_reducible apply keep_alloc) | (with_reducible apply keep_drew))); replace xb1 := cell_past hb (by repeat (first | (with_reducible exact xb1) | (with_reducible apply keep_alloc) | (with_reducible apply keep_drew))); replace xb2 := cell_past hb (by repeat (first | (with_reducible exact xb2) | (with_reducible apply keep_alloc) | (with_reducible apply keep_drew))); replace xb3 := cell_past hb (by repeat (first | (with_reducible exact xb3) | (with_reducible apply keep_alloc) | (with_reducible apply keep_drew))); replace xb4 := cell_past hb (by repeat (first | (with_reducible exact xb4) | (with_reducible apply keep_alloc) | (with_reducible apply keep_drew))); replace xb5 := cell_past hb (by repeat (first | (with_reducible exact xb5) | (with_reducible apply keep_alloc) | (with_reducible apply keep_drew))); replace xb6 := cell_past hb (by repeat (first | (with_reducible exact xb6) | (with_reducible apply keep_alloc) | (with_reducible apply keep_drew))); replace xb7 := cell_past hb (by repeat (first | (with_reducible exact xb7) | (with_reducible apply keep_alloc) | (with_reducible apply keep_drew))); replace xb8 := cell_past hb (by repeat (first | (with_reducible exact xb8) | (with_reducible apply keep_alloc) | (with_reducible apply keep_drew))); replace xe0 := cell_past hb (by repeat (first | (with_reducible exact xe0) | (with_reducible apply keep_alloc) | (with_reducible apply keep_drew))); replace xe1 := cell_past hb (by repeat (first | (with_reducible exact xe1) | (with_reducible apply keep_alloc) | (with_reducible apply keep_drew))); replace xe2 := cell_past hb (by repeat (first | (with_reducible exact xe2) | (with_reducible apply keep_alloc) | (with_reducible apply keep_drew))); replace xe3 := cell_past hb (by repeat (first | (with_reducible exact xe3) | (with_reducible apply keep_alloc) | (with_reducible apply keep_drew))); replace xe4 := cell_past hb (by repeat (first | (with_reducible exact xe4) | (with_reducible apply keep_alloc) | (with_reducible apply keep_drew))); replace xe5 := cell_past hb (by repeat (first | (with_reducible exact xe5) | (with_reducible apply keep_alloc) | (with_reducible apply keep_drew))); replace xe6 := cell_past hb (by repeat (first | (with_reducible exact xe6) | (with_reducible apply keep_alloc) | (with_reducible apply keep_drew))); replace xe7 := cell_past hb (by repeat (first | (with_reducible exact xe7) | (with_reducible apply keep_alloc) | (with_reducible apply keep_drew))); replace xe8 := cell_past hb (by repeat (first | (with_reducible exact xe8) | (with_reducible apply keep_alloc) | (with_reducible apply keep_drew))); replace HM := Lib.hid ((HM.out.below (by repeat (first | (with_reducible exact bz _) | (with_reducible apply ba) | (with_reducible apply Below.drew)))).below hb); replace HN := Lib.hid ((HN.out.below (by repeat (first | (with_reducible exact bz _) | (with_reducible apply ba) | (with_reducible apply Below.drew)))).below hb); replace HS6 := Lib.hid ((HS6.out.below (by repeat (first | (with_reducible exact bz _) | (with_reducible apply ba) | (with_reducible apply Below.drew)))).below hb); replace HBr := Lib.hid (HBr.out.trans ((bt (by repeat (first | (with_reducible exact bz _) | (with_reducible apply ba) | (with_reducible apply Below.drew))) hb).mono HBr.out.size)); clear hb)
          | (go_at_call 19; (first | (with_reducible refine (HSS.out aoM ao6 capM bM oM cap6 b6 o6 _ (HM.out.below (by repeat (first | (with_reducible exact bz _) | (with_reducible apply ba) | (with_reducible apply Below.drew)))) (HS6.out.below (by repeat (first | (with_reducible exact bz _) | (with_reducible apply ba) | (with_reducible apply Below.drew))))).mono ?_) | (with_reducible refine (HSS.out aoN ao6 capN bN oN cap6 b6 o6 _ (HN.out.below (by repeat (first | (with_reducible exact bz _) | (with_reducible apply ba) | (with_reducible apply Below.drew)))) (HS6.out.below (by repeat (first | (with_reducible exact bz _) | (with_reducible apply ba) | (with_reducible apply Below.drew))))).mono ?_)); rintro e wX ⟨rfl, hb⟩; replace xa0 := cell_past hb (by repeat (first | (with_reducible exact xa0) | (with_reducible apply keep_alloc) | (with_reducible apply keep_drew))); replace xa1 := cell_past hb (by repeat (first | (with_reducible exact xa1) | (with_reducible apply keep_alloc) | (with_reducible apply keep_drew))); replace xa2 := cell_past hb (by repeat (first | (with_reducible exact xa2) | (with_reducible apply keep_alloc) | (with_reducible apply keep_drew))); replace xa3 := cell_past hb (by repeat (first | (with_reducible exact xa3) | (with_reducible apply keep_alloc) | (with_reducible apply keep_drew))); replace xa4 := cell_past hb (by repeat (first | (with_reducible exact xa4) | (with_reducible apply keep_alloc) | (with_reducible apply keep_drew))); replace xa5 := cell_past hb (by repeat (first | (with_reducible exact xa5) | (with_reducible apply keep_alloc) | (with_reducible apply keep_drew))); replace xa6 := cell_past hb (by repeat (first | (with_reducible exact xa6) | (with_reducible apply keep_alloc) | (with_reducible apply keep_drew))); replace xa7 := cell_past hb (by repeat (first | (with_reducible exact xa7) | (with_reducible apply keep_alloc) | (with_reducible apply keep_drew))); replace xa8 := cell_past hb (by repeat (first | (with_reducible exact xa8) | (with_reducible apply keep_alloc) | (with_reducible apply keep_drew))); replace xb0 := cell_past hb (by repeat (first | (with_reducible exact xb0) | (with_reducible apply keep_alloc) | (with_reducible apply keep_drew))); replace xb1 := cell_past hb (by repeat (first | (with_reducible exact xb1) | (with_reducible apply keep_alloc) | (with_reducible apply keep_drew))); replace xb2 := cell_past hb (by repeat (first | (with_reducible exact xb2) | (with_reducible apply keep_alloc) | (with_reducible apply keep_drew))); replace xb3 := cell_past hb (by repeat (first | (with_reducible exact xb3) | (with_reducible apply keep_alloc) | (with_reducible apply keep_drew))); replace xb4 := cell_past hb (by repeat (first | (with_reducible exact xb4) | (with_reducible apply keep_alloc) | (with_reducible apply keep_drew))); replace xb5 := cell_past hb (by repeat (first | (with_reducible exact xb5) | (with_reducible apply keep_alloc) | (with_reducible apply keep_drew))); replace xb6 := cell_past hb (by repeat (first | (with_reducible exact xb6) | (with_reducible apply keep_alloc) | (with_reducible apply keep_drew))); replace xb7 := cell_past hb (by repeat (first | (with_reducible exact xb7) | (with_reducible apply keep_alloc) | (with_reducible apply keep_drew))); replace xb8 := cell_past hb (by repeat (first | (with_reducible exact xb8) | (with_reducible apply keep_alloc) | (with_reducible apply keep_drew))); replace xe0 := cell_past hb (by repeat (first | (with_reducible exact xe0) | (with_reducible apply keep_alloc) | (with_reducible apply keep_drew))); replace xe1 := cell_past hb (by repeat (first | (with_reducible exact xe1) | (with_reducible apply keep_alloc) | (with_reducible apply keep_drew))); replace xe2 := cell_past hb (by repeat (first | (with_reducible exact xe2) | (with_reducible apply keep_alloc) | (with_reducible apply keep_drew))); replace xe3 := cell_past hb (by repeat (first | (with_reducible exact xe3) | (with_reducible apply keep_alloc) | (with_reducible apply keep_drew))); replace xe4 := cell_past hb (by repeat (first | (with_reducible exact xe4) | (with_reducible apply keep_alloc) | (with_reducible apply keep_drew))); replace xe5 := cell_past hb (by repeat (first | (with_reducible exact xe5) | (with_reducible apply keep_alloc) | (with_reducible apply keep_drew))); replace xe6 := cell_past hb (by repeat (first | (with_reducible exact xe6) | (with_reducible apply keep_alloc) | (with_reducible apply keep_drew))); replace xe7 := cell_past hb (by repeat (first | (with_reducible exact xe7) | (with_reducible apply keep_alloc) | (with_reducible apply keep_drew))); replace xe8 := cell_past hb (by repeat (first | (with_reducible exact xe8) | (with_reducible apply keep_alloc) | (with_reducible apply keep_drew))); replace HM := Lib.hid ((HM.out.below (by repeat (first | (with_reducible exact bz _) | (with_reducible apply ba) | (with_reducible apply Below.drew)))).below hb); replace HN := Lib.hid ((HN.out.below (by repeat (first | (with_reducible exact bz _) | (with_reducible apply ba) | (with_reducible apply Below.drew)))).below hb); replace HS6 := Lib.hid ((HS6.out.below (by repeat (first | (with_reducible exact bz _) | (with_reducible apply ba) | (with_reducible apply Below.drew)))).below hb); replace HBr := Lib.hid (HBr.out.trans ((bt (by repeat (first | (with_reducible exact bz _) | (with_reducible apply ba) | (with_reducible apply Below.drew))) hb).mono HBr.out.size)); clear hb)
          | (go_at_call 18; (first | (with_reducible refine (HO2.out _).mono ?_) | (with_reducible refine (HO3.out _).mono ?_)); rintro e wX ⟨rfl, hb⟩; replace xa0 := cell_past hb (by repeat (first | (with_reducible exact xa0) | (with_reducible apply keep_alloc) | (with_reducible apply keep_drew))); replace xa1 := cell_past hb (by repeat (first | (with_reducible exact xa1) | (with_reducible apply keep_alloc) | (with_reducible apply keep_drew))); replace xa2 := cell_past hb (by repeat (first | (with_reducible exact xa2) | (with_reducible apply keep_alloc) | (with_reducible apply keep_drew))); replace xa3 := cell_past hb (by repeat (first | (with_reducible exact xa3) | (with_reducible apply keep_alloc) | (with_reducible apply keep_drew))); replace xa4 := cell_past hb (by repeat (first | (with_reducible exact xa4) | (with_reducible apply keep_alloc) | (with_reducible apply keep_drew))); replace xa5 := cell_past hb (by repeat (first | (with_reducible exact xa5) | (with_reducible apply keep_alloc) | (with_reducible apply keep_drew))); replace xa6 := cell_past hb (by repeat (first | (with_reducible exact xa6) | (with_reducible apply keep_alloc) | (with_reducible apply keep_drew))); replace xa7 := cell_past hb (by repeat (first | (with_reducible exact xa7) | (with_reducible apply keep_alloc) | (with_reducible apply keep_drew))); replace xa8 := cell_past hb (by repeat (first | (with_reducible exact xa8) | (with_reducible apply keep_alloc) | (with_reducible apply keep_drew))); replace xb0 := cell_past hb (by repeat (first | (with_reducible exact xb0) | (with_reducible apply keep_alloc) | (with_reducible apply keep_drew))); replace xb1 := cell_past hb (by repeat (first | (with_reducible exact xb1) | (with_reducible apply keep_alloc) | (with_reducible apply keep_drew))); replace xb2 := cell_past hb (by repeat (first | (with_reducible exact xb2) | (with_reducible apply keep_alloc) | (with_reducible apply keep_drew))); replace xb3 := cell_past hb (by repeat (first | (with_reducible exact xb3) | (with_reducible apply keep_alloc) | (with_reducible apply keep_drew))); replace xb4 := cell_past hb (by repeat (first | (with_reducible exact xb4) | (with_reducible apply keep_alloc) | (with_reducible apply keep_drew))); replace xb5 := cell_past hb (by repeat (first | (with_reducible exact xb5) | (with_reducible apply keep_alloc) | (with_reducible apply keep_drew))); replace xb6 := cell_past hb (by repeat (first | (with_reducible exact xb6) | (with_reducible apply keep_alloc) | (with_reducible apply keep_drew))); replace xb7 := cell_past hb (by repeat (first | (with_reducible exact xb7) | (with_reducible apply keep_alloc) | (with_reducible apply keep_drew))); replace xb8 := cell_past hb (by repeat (first | (with_reducible exact xb8) | (with_reducible apply keep_alloc) | (with_reducible apply keep_drew))); replace xe0 := cell_past hb (by repeat (first | (with_reducible exact xe0) | (with_reducible apply keep_alloc) | (with_reducible apply keep_drew))); replace xe1 := cell_past hb (by repeat (first | (with_reducible exact xe1) | (with_reducible apply keep_alloc) | (with_reducible apply keep_drew))); replace xe2 := cell_past hb (by repeat (first | (with_reducible exact xe2) | (with_reducible apply keep_alloc) | (with_reducible apply keep_drew))); replace xe3 := cell_past hb (by repeat (first | (with_reducible exact xe3) | (with_reducible apply keep_alloc) | (with_reducible apply keep_drew))); replace xe4 := cell_past hb (by repeat (first | (with_reducible exact xe4) | (with_reducible apply keep_alloc) | (with_reducible apply keep_drew))); replace xe5 := cell_past hb (by repeat (first | (with_reducible exact xe5) | (with_reducible apply keep_alloc) | (with_reducible apply keep_drew))); replace xe6 := cell_past hb (by repeat (first | (with_reducible exact xe6) | (with_reducible apply keep_alloc) | (with_reducible apply keep_drew))); replace xe7 := cell_past hb (by repeat (first | (with_reducible exact xe7) | (with_reducible apply keep_alloc) | (with_reducible apply keep_drew))); replace xe8 := cell_past hb (by repeat (first | (with_reducible exact xe8) | (with_reducible apply keep_alloc) | (with_reducible apply keep_drew))); replace HM := Lib.hid ((HM.out.below (by repeat (first | (with_reducible exact bz _) | (with_reducible apply ba) | (with_reducible apply Below.drew)))).below hb); replace HN := Lib.hid ((HN.out.below (by repeat (first | (with_reducible exact bz _) | (with_reducible apply ba) | (with_reducible apply Below.drew)))).below hb); replace HS6 := Lib.hid ((HS6.out.below (by repeat (first | (with_reducible exact bz _) | (with_reducible apply ba) | (with_reducible apply Below.drew)))).below hb); replace HBr := Lib.hid (HBr.out.trans ((bt (by repeat (first | (with_reducible exact bz _) | (with_reducible apply ba) | (with_reducible apply Below.drew))) hb).mono HBr.out.size)); clear hb))
      all_goals go_wp2
      all_goals go_ret
      all_goals exact ⟨by simp, by first | exact HBr.out | exact HBr.out.drew⟩
theorem apart_any (s : KV) (l : List Op5) (key : Int) (ao : Option Addr) (cap b o : Nat) (w : World) (hs : s.ok) (h : SlAt w 5 l.length (l.flatMap Op5.cells) ao cap b o) (hok : ∀ x ∈ l, x.ok) (hkey : 0 ≤ key ∧ key ≤ 255) :
    Calls Try.prog 5 #[s.val, .slice ao l.length cap, .int .u8 key] w fun e w' => e = .returned (.bool true) ∧ Below w.heap.size w w' := by
  by_cases hlen : l.length ≤ 200
  · exact apart_small s l key ao cap b o w hs h hok hlen hkey
  · exact apart_big s l.length ao cap key w (by omega)
end Go.Proofs.Ytoidbmgoofbcfaa
