/- KvmapRuns: the state, and the answers, behind any operations are the document's. Printed by gen_runsw.py. -/
import Derived.Test.YtoidbmgoofbcfaaRefrun
namespace Go.Proofs.Ytoidbmgoofbcfaa
open Go.RowKit Go.Um
set_option linter.unusedSimpArgs false
set_option linter.unusedVariables false
set_option maxHeartbeats 4000000
set_option maxRecDepth 100000

theorem length_outs' (s : KV) (l : List Op5) : ∀ k, k ≤ l.length → (outN s l k).length = k
  | 0, _ => rfl
  | k + 1, h => by
    rw [outN_succ (List.getElem?_eq_getElem (by omega)), List.length_append, length_outs' s l k (by omega)]; rfl
theorem runs_big (s : KV) (n : Nat) (ao : Option Addr) (cap : Nat) (w : World) (hn : 200 < n) : Calls Try.prog 3 #[s.val, .slice ao n cap] w fun e w' => e = .returned (.bool true) ∧ Below w.heap.size w w' := by
  have hd1 : decide ((200 : Int) < (n : Int)) = true := by simp; omega
  clear hn
  unfold KV.val
  go_enter Try.func3, Try.ntmps3
  go_wp2_with fail
  refine (awake_any _).mono ?_
  rintro e w1 ⟨rfl, hb⟩
  go_wp2
  go_ret
  exact ⟨rfl, bt (ba (bz w) _) hb⟩
theorem runs_small (s : KV) (l : List Op5) (ao : Option Addr) (cap b o : Nat) (w : World) (hs : s.ok) (h : SlAt w 5 l.length (l.flatMap Op5.cells) ao cap b o) (hok : ∀ x ∈ l, x.ok) (hlen : l.length ≤ 200) :
    Calls Try.prog 3 #[s.val, .slice ao l.length cap] w fun e w' => e = .returned (.bool true) ∧ Below w.heap.size w w' := by
  have hneq := neq39
  have hst := stopAt_le l
  have Hsl := Lib.hid h
  have hd1 : decide ((200 : Int) < (l.length : Int)) = false := by rw [decide_eq_false_iff_not]; omega
  have oS := whole_ok hs
  have fS := whole_fine s
  have K0 := Lib.hid (KvAt.new w s)
  have HWC := Lib.hid (fun W => whole_any s W hs)
  obtain ⟨S, hS⟩ : ∃ S, S = s.whole := ⟨_, rfl⟩
  rw [← hS] at HWC oS fS
  have HRN := Lib.hid (fun W hW => run_any S l ao cap b o W oS hW hok hlen)
  have HIT := Lib.hid (fun W => items_any S W oS)
  have oI := itN_ok oS 8 (by omega)
  have hkv := kv_items oS fS
  have hTl := itN_len S 8
  obtain ⟨T, hT⟩ : ∃ T, T = itN S 8 := ⟨_, rfl⟩
  rw [← hT] at HIT oI hkv hTl
  have HRR := Lib.hid (fun aoT capT bT oT W hW hW2 => refrun_any T l aoT capT bT oT ao cap b o W oI hTl hW hW2 hok hlen)
  have hlaw := TN_law oI hok (stopAt l)
  rw [hkv] at HRR hlaw
  unfold RefRunPost at HRR
  unfold RunPost at HRN
  unfold OwnPost at HIT
  obtain ⟨TE, hTE⟩ : ∃ t, t = TN T l (stopAt l) := ⟨_, rfl⟩
  obtain ⟨SE, hSE⟩ : ∃ t, t = stN S l (stopAt l) := ⟨_, rfl⟩
  obtain ⟨ER, hER⟩ : ∃ t, t = errAt l := ⟨_, rfl⟩
  obtain ⟨OUT, hOUT⟩ : ∃ t, t = outN S l (stopAt l) := ⟨_, rfl⟩
  have hol : OUT.length = stopAt l := by rw [hOUT]; exact length_outs' S l _ hst
  rw [← hTE] at HRR hlaw
  rw [← hSE] at HRN hlaw
  rw [← hER] at HRN HRR
  rw [← hOUT] at HRN HRR
  obtain ⟨l1, l2, l3⟩ := hlaw
  have HAL := Lib.hid (fun aoX capX bX oX W hW => alike_any SE TE TE.length rfl aoX capX bX oX W hW (by omega) l1)
  rw [l2, show decide (SE = SE) = true from by simp] at HAL
  obtain ⟨m, hm⟩ : ∃ m, m = stopAt l := ⟨_, rfl⟩
  rw [← hm] at HRN HRR hol
  have HOL := Lib.hid hol
  have hm2 : m ≤ 200 := by omega
  clear h hok hs hS hT oI hkv hTl hTE hSE hER hOUT l1 l2 l3 oS fS hst hm hol
  unfold KV.val at HWC HRN HIT HAL ⊢
  go_enter Try.func3, Try.ntmps3
  go_wp2_with fail
  refine (HWC.out _).mono ?_
  rintro e w1 ⟨rfl, hb1⟩
  have K1 := Lib.hid (K0.out.below hb1)
  have HB1 := Lib.hid (bt (ba (bz w) _) hb1)
  obtain ⟨c0, c1, c2, c3, c4, c5, c6, c7, c8, f0, f1, f2, f3, f4, f5, f6, f7, f8⟩ := K1.out
  clear hb1 K0
  go_wp2_with fail
  have K2 := Lib.hid (KvAt.set9 K1.out S)
  obtain ⟨Y1, hY1⟩ : ∃ Y, Y = (((((((((w1.setCell ⟨w.heap.size, 0, none⟩ (.int .u8 S.h)).setCell ⟨w.heap.size, 1, none⟩ (.int .u16 S.v0)).setCell ⟨w.heap.size, 2, none⟩ (.int .u16 S.v1)).setCell ⟨w.heap.size, 3, none⟩ (.int .u16 S.v2)).setCell ⟨w.heap.size, 4, none⟩ (.int .u16 S.v3)).setCell ⟨w.heap.size, 5, none⟩ (.int .u16 S.v4)).setCell ⟨w.heap.size, 6, none⟩ (.int .u16 S.v5)).setCell ⟨w.heap.size, 7, none⟩ (.int .u16 S.v6)).setCell ⟨w.heap.size, 8, none⟩ (.int .u16 S.v7)) := ⟨_, rfl⟩
  rw [← hY1] at K2 ⊢
  have HBY : Hid (Below w.heap.size w Y1) := by
    rw [hY1]
    exact Lib.hid (HB1.out.trans ((kept9 w1 w.heap.size S).below (fun i hi _ e => by omega) HB1.out.size))
  clear hY1 HB1 K1 c0 c1 c2 c3 c4 c5 c6 c7 c8 f0 f1 f2 f3 f4 f5 f6 f7 f8
  refine (HRN.out Y1 (Hsl.out.below' HBY.out Hsl.out.lt)).mono ?_
  rintro e w2 ⟨v2, rfl, hown, hb2⟩
  obtain ⟨aoR, capR, bR, oR, rfl, hslR, _⟩ := SlAt.owned hown
  have hidx1 := hslR.idx (P := Try.prog) (t := 29) Try.underlying29 size39 (by decide)
  have HR := Lib.hid hslR
  have HBW := Lib.hid (HBY.out.trans (hb2.mono HBY.out.size))
  replace K2 := Lib.hid (K2.out.below hb2)
  have KE := Lib.hid (KvAt.new w2 SE)
  have hz0 := K2.out.lt
  obtain ⟨c0, c1, c2, c3, c4, c5, c6, c7, c8, f0, f1, f2, f3, f4, f5, f6, f7, f8⟩ := K2.out
  clear hown hslR hb2 HBY f0 f1 f2 f3 f4 f5 f6 f7 f8
  go_wp2_with fail
  replace HR := Lib.hid (HR.out.below (ba (bz w2) (.cells #[.int .u8 SE.h, .int .u16 SE.v0, .int .u16 SE.v1, .int .u16 SE.v2, .int .u16 SE.v3, .int .u16 SE.v4, .int .u16 SE.v5, .int .u16 SE.v6, .int .u16 SE.v7] 25)))
  replace HBW := Lib.hid (ba HBW.out (.cells #[.int .u8 SE.h, .int .u16 SE.v0, .int .u16 SE.v1, .int .u16 SE.v2, .int .u16 SE.v3, .int .u16 SE.v4, .int .u16 SE.v5, .int .u16 SE.v6, .int .u16 SE.v7] 25))
  obtain ⟨Y, hY⟩ : ∃ Y, Y = w2.alloc (.cells #[.int .u8 SE.h, .int .u16 SE.v0, .int .u16 SE.v1, .int .u16 SE.v2, .int .u16 SE.v3, .int .u16 SE.v4, .int .u16 SE.v5, .int .u16 SE.v6, .int .u16 SE.v7] 25) := ⟨_, rfl⟩
  replace KE : Hid (KvAt (w2.alloc (.cells #[.int .u8 SE.h, .int .u16 SE.v0, .int .u16 SE.v1, .int .u16 SE.v2, .int .u16 SE.v3, .int .u16 SE.v4, .int .u16 SE.v5, .int .u16 SE.v6, .int .u16 SE.v7] 25)) w2.heap.size SE) := KE
  rw [← hY] at HR HBW KE ⊢
  obtain ⟨P7, hP7⟩ : ∃ p, p = w2.heap.size := ⟨_, rfl⟩
  rw [← hP7] at KE ⊢
  clear hY hP7 c0 c1 c2 c3 c4 c5 c6 c7 c8 K2 hz0
  refine (HIT.out _).mono ?_
  rintro e w3 ⟨vT, rfl, hownT, hb⟩
  obtain ⟨aoT, capT, bT, oT, rfl, hsT, _⟩ := SlAt.owned hownT
  have HT := Lib.hid hsT
  replace HR := Lib.hid (HR.out.below hb)
  replace HBW := Lib.hid (HBW.out.trans (hb.mono HBW.out.size))
  replace KE := Lib.hid (KE.out.below hb)
  clear hb hownT hsT
  go_wp2_with fail
  refine (HRR.out aoT capT bT oT _ HT.out (Hsl.out.below' HBW.out Hsl.out.lt)).mono ?_
  rintro e w4 ⟨aoE, capE, bE, oE, nE, v4, hnE, rfl, hsE, hownE, hb⟩
  subst hnE
  obtain ⟨aoQ, capQ, bQ, oQ, rfl, hsQ, _⟩ := SlAt.owned hownE
  have hidx2 := hsQ.idx (P := Try.prog) (t := 29) Try.underlying29 size39 (by decide)
  have HE := Lib.hid hsE
  have HQ := Lib.hid hsQ
  replace HR := Lib.hid (HR.out.below hb)
  replace HBW := Lib.hid (HBW.out.trans (hb.mono HBW.out.size))
  replace KE := Lib.hid (KE.out.below hb)
  clear hb hownE hsE hsQ HT HIT HRR HRN HWC
  obtain ⟨c0, c1, c2, c3, c4, c5, c6, c7, c8, f0, f1, f2, f3, f4, f5, f6, f7, f8⟩ := KE.out
  clear f0 f1 f2 f3 f4 f5 f6 f7 f8
  go_wp2_with fail
  refine (HAL.out aoE capE bE oE _ HE.out).mono ?_
  rintro e w5 ⟨rfl, hb⟩
  replace HR := Lib.hid (HR.out.below hb)
  replace HQ := Lib.hid (HQ.out.below hb)
  replace HBW := Lib.hid (HBW.out.trans (hb.mono HBW.out.size))
  clear hb KE HE HAL c0 c1 c2 c3 c4 c5 c6 c7 c8
  go_wp2_with fail
  go_loopw [11] (fun t11 wr => ∃ k : Nat, k ≤ m ∧ t11 = .int .i64 k ∧ Hid (Below w5.heap.size w5 wr)) (fun t11 _ => m - (intOf t11).toNat)
  case atStart => exact ⟨0, Nat.zero_le _, rfl, bz w5⟩
  case round =>
    obtain ⟨k, hk, rfl, hbl⟩ := hrel
    by_cases hlt : k < m
    · obtain ⟨x, hx⟩ : ∃ x, OUT[k]? = some x := ⟨_, List.getElem?_eq_getElem (by have := HOL.out; omega)⟩
      obtain ⟨g0, g1⟩ := res_at (HR.out.below hbl.out) hx
      obtain ⟨q0, q1⟩ := res_at (HQ.out.below hbl.out) hx
      obtain ⟨xa, xb⟩ := x
      dsimp only at g0 g1 q0 q1
      have i1 : (0 : Int) ≤ (k : Int) := by omega
      have i2 : (k : Int) < (m : Int) := by omega
      clear hx
      go_wp2_with fail
      go_quiet (fail)
      go_wp2_with fail
      go_roundw
      case rel => exact ⟨k + 1, by omega, by go_num, below_drewN hbl.out _⟩
      case measure => simp [intOf]; omega
    · have kk1 : ¬ ((k : Int) < (m : Int)) := by omega
      have HB := Lib.hid (HBW.out.trans (hbl.out.mono HBW.out.size))
      go_wp2_with fail
      refine (awake_any _).mono ?_
      rintro e w6 ⟨rfl, hb⟩
      go_wp2
      go_ret
      exact ⟨rfl, HB.out.trans (hb.mono HB.out.size)⟩
theorem runs_any (s : KV) (l : List Op5) (ao : Option Addr) (cap b o : Nat) (w : World) (hs : s.ok) (h : SlAt w 5 l.length (l.flatMap Op5.cells) ao cap b o) (hok : ∀ x ∈ l, x.ok) :
    Calls Try.prog 3 #[s.val, .slice ao l.length cap] w fun e w' => e = .returned (.bool true) ∧ Below w.heap.size w w' := by
  by_cases hlen : l.length ≤ 200
  · exact runs_small s l ao cap b o w hs h hok hlen
  · exact runs_big s l.length ao cap w (by omega)
end Go.Proofs.Ytoidbmgoofbcfaa
