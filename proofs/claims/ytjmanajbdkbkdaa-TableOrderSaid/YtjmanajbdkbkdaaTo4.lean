/- TableOrder: the code behind the four rows, walked by itself. Printed by gen_to.py. -/
import Derived.Test.YtjmanajbdkbkdaaTq
import Derived.BigQuiet
namespace Go.Proofs.Ytjmanajbdkbkdaa
open Go.RowKit Go.Um
set_option linter.unusedSimpArgs false
set_option linter.unusedVariables false
set_option maxHeartbeats 8000000
set_option maxRecDepth 100000
theorem rest4 {u0 u1 u2 u3 u4 u5 u6 u7 u8 u15 u16 u17 u18 u19 u20 u21 u22 u23 u24 u25 u26 u27 u28 u29 u30 u31 u32 u33 u34 u35 u36 u37 u38 u39 u40 u41 u42 u43 u44 u45 u46 u47 u48 u49 u50 u51 u52 u53 u54 u55 u56 u57 u58 u59 u60 u61 u62 u63 u64 u65 u66 u67 u68 u69 u70 u71 u72 u73 u74 u75 u76 u77 u78 u79 u80 u81 u82 u83 u84 u85 u86 u87 u88 u89 u90 u91 u92 u93 u94 u95 u96 u97 u98 u99 u100 u101 u102 u103 u104 u105 u106 u107 u108 u109 u110 u111 u112 u113 u114 u115 u116 u117 u118 u119 u120 u121 u122 u123 u124 u125 u126 u127 u128 u129 u130 u131 u132 u133 u134 u135 u136 u137 u138 u139 u140 u141 u142 u143 u144 u145 u146 u147 u148 u149 u150 u151 u152 u153 u154 u155 u156 u157 u158 u159 u160 u161 u162 u163 u164 u165 u166 u167 u168 u169 u170 u171 u172 u173 u174 u175 u176 u177 u178 u179 u180 u181 u182 u183 u184 u185 u186 u187 u188 u189 u190 u191 u192 u193 u194 u195 u196 : Value} {xa xb xc xd : Rw} {L : List Rw} {nx : Int} {w w2 wc : World} {g m cap2 c11 c12 c13 c14 : Nat} (code : Code) (hcode : Try.f3.body.map (subC [1, 1, 1, 1, 1, 1, 1, 1, 1]) = some code) (HRL : Hid (RL L nx)) (HC : Hid (Cut4 w2 xa xb xc xd c11 c12 c13 c14 wc)) (HS2 : Hid (SlAt w2 12 m (L.flatMap Rw.cells) (some ⟨g, 0, none⟩) cap2 g 0)) (HM : Hid (m = L.length)) (hm0 : 0 < m) (hlen : m ≤ 60) (HB2 : Hid (Below w.heap.size w w2)) (e_aa : bef xa xa = false) (e_ab : bef xa xb = true) (hs1 : (xa.st == 1) = true) (e_ba : bef xb xa = false) (e_bc : bef xb xc = false) (e_cd : bef xc xd = true) (e_ad : bef xa xd = false) (e_cb : bef xc xb = true) :
    code.wp Try.prog (bodyPost Try.prog Try.f3 (fun e w' => e = .returned (.bool true) ∧ Below w.heap.size w w')) { tmps := #[u0, u1, u2, u3, u4, u5, u6, u7, u8, .slice (some ⟨g, 0, none⟩) m cap2, .int .i64 (m : Int), .pointer (some ⟨c11, 0, none⟩), .pointer (some ⟨c12, 0, none⟩), .pointer (some ⟨c13, 0, none⟩), .pointer (some ⟨c14, 0, none⟩), u15, u16, u17, u18, u19, u20, u21, u22, u23, u24, u25, u26, u27, u28, u29, u30, u31, u32, u33, u34, u35, u36, u37, u38, u39, u40, u41, u42, u43, u44, u45, u46, u47, u48, u49, u50, u51, u52, u53, u54, u55, u56, u57, u58, u59, u60, u61, u62, u63, u64, u65, u66, u67, u68, u69, u70, u71, u72, u73, u74, u75, u76, u77, u78, u79, u80, u81, u82, u83, u84, u85, u86, u87, u88, u89, u90, u91, u92, u93, u94, u95, u96, u97, u98, u99, u100, u101, u102, u103, u104, u105, u106, u107, u108, u109, u110, u111, u112, u113, u114, u115, u116, u117, u118, u119, u120, u121, u122, u123, u124, u125, u126, u127, u128, u129, u130, u131, u132, u133, u134, u135, u136, u137, u138, u139, u140, u141, u142, u143, u144, u145, u146, u147, u148, u149, u150, u151, u152, u153, u154, u155, u156, u157, u158, u159, u160, u161, u162, u163, u164, u165, u166, u167, u168, u169, u170, u171, u172, u173, u174, u175, u176, u177, u178, u179, u180, u181, u182, u183, u184, u185, u186, u187, u188, u189, u190, u191, u192, u193, u194, u195, u196], defers := [] } wc := by
  have hidx2 := HS2.out.idx (P := Try.prog) (t := 38) (e := 41) (by kernel_rfl) size41 (by decide)
  simp only [Nat.zero_add] at hidx2
  simp [Try.f3, subC] at hcode
  subst hcode
  have HBX := Lib.hid (bz wc)
  obtain ⟨a_0, a_1, a_2, a_3, a_4, a_5, a_6, a_7, a_8, a_9, a_10, a_11⟩ := HC.out.a.below HBX.out
  simp only [Nat.zero_add] at a_0 a_1 a_2 a_3 a_4 a_5 a_6 a_7 a_8 a_9 a_10 a_11
  go_wp2_with fail
  refine (before_any xa xa _).mono ?_
  rintro e v4_1 ⟨rfl, hb⟩
  replace HBX := Lib.hid (bt HBX.out hb)
  clear hb
  clear a_0 a_1 a_2 a_3 a_4 a_5 a_6 a_7 a_8 a_9 a_10 a_11
  obtain ⟨a_0, a_1, a_2, a_3, a_4, a_5, a_6, a_7, a_8, a_9, a_10, a_11⟩ := HC.out.a.below HBX.out
  simp only [Nat.zero_add] at a_0 a_1 a_2 a_3 a_4 a_5 a_6 a_7 a_8 a_9 a_10 a_11
  obtain ⟨b_0, b_1, b_2, b_3, b_4, b_5, b_6, b_7, b_8, b_9, b_10, b_11⟩ := HC.out.b.below HBX.out
  simp only [Nat.zero_add] at b_0 b_1 b_2 b_3 b_4 b_5 b_6 b_7 b_8 b_9 b_10 b_11
  go_wp2_with fail
  refine (before_any xa xb _).mono ?_
  rintro e v4_2 ⟨rfl, hb⟩
  replace HBX := Lib.hid (bt HBX.out hb)
  clear hb
  clear a_0 a_1 a_2 a_3 a_4 a_5 a_6 a_7 a_8 a_9 a_10 a_11
  clear b_0 b_1 b_2 b_3 b_4 b_5 b_6 b_7 b_8 b_9 b_10 b_11
  obtain ⟨b_0, b_1, b_2, b_3, b_4, b_5, b_6, b_7, b_8, b_9, b_10, b_11⟩ := HC.out.b.below HBX.out
  simp only [Nat.zero_add] at b_0 b_1 b_2 b_3 b_4 b_5 b_6 b_7 b_8 b_9 b_10 b_11
  obtain ⟨c_0, c_1, c_2, c_3, c_4, c_5, c_6, c_7, c_8, c_9, c_10, c_11⟩ := HC.out.c.below HBX.out
  simp only [Nat.zero_add] at c_0 c_1 c_2 c_3 c_4 c_5 c_6 c_7 c_8 c_9 c_10 c_11
  go_wp2_with fail
  refine (before_any xb xc _).mono ?_
  rintro e v4_3 ⟨rfl, hb⟩
  replace HBX := Lib.hid (bt HBX.out hb)
  clear hb
  clear b_0 b_1 b_2 b_3 b_4 b_5 b_6 b_7 b_8 b_9 b_10 b_11
  clear c_0 c_1 c_2 c_3 c_4 c_5 c_6 c_7 c_8 c_9 c_10 c_11
  obtain ⟨a_0, a_1, a_2, a_3, a_4, a_5, a_6, a_7, a_8, a_9, a_10, a_11⟩ := HC.out.a.below HBX.out
  simp only [Nat.zero_add] at a_0 a_1 a_2 a_3 a_4 a_5 a_6 a_7 a_8 a_9 a_10 a_11
  obtain ⟨b_0, b_1, b_2, b_3, b_4, b_5, b_6, b_7, b_8, b_9, b_10, b_11⟩ := HC.out.b.below HBX.out
  simp only [Nat.zero_add] at b_0 b_1 b_2 b_3 b_4 b_5 b_6 b_7 b_8 b_9 b_10 b_11
  go_wp2_with fail
  refine (before_any xa xb _).mono ?_
  rintro e v4_4 ⟨rfl, hb⟩
  replace HBX := Lib.hid (bt HBX.out hb)
  clear hb
  clear a_0 a_1 a_2 a_3 a_4 a_5 a_6 a_7 a_8 a_9 a_10 a_11
  clear b_0 b_1 b_2 b_3 b_4 b_5 b_6 b_7 b_8 b_9 b_10 b_11
  obtain ⟨a_0, a_1, a_2, a_3, a_4, a_5, a_6, a_7, a_8, a_9, a_10, a_11⟩ := HC.out.a.below HBX.out
  simp only [Nat.zero_add] at a_0 a_1 a_2 a_3 a_4 a_5 a_6 a_7 a_8 a_9 a_10 a_11
  obtain ⟨b_0, b_1, b_2, b_3, b_4, b_5, b_6, b_7, b_8, b_9, b_10, b_11⟩ := HC.out.b.below HBX.out
  simp only [Nat.zero_add] at b_0 b_1 b_2 b_3 b_4 b_5 b_6 b_7 b_8 b_9 b_10 b_11
  go_wp2_with fail
  refine (before_any xb xa _).mono ?_
  rintro e v4_5 ⟨rfl, hb⟩
  replace HBX := Lib.hid (bt HBX.out hb)
  clear hb
  clear a_0 a_1 a_2 a_3 a_4 a_5 a_6 a_7 a_8 a_9 a_10 a_11
  clear b_0 b_1 b_2 b_3 b_4 b_5 b_6 b_7 b_8 b_9 b_10 b_11
  obtain ⟨a_0, a_1, a_2, a_3, a_4, a_5, a_6, a_7, a_8, a_9, a_10, a_11⟩ := HC.out.a.below HBX.out
  simp only [Nat.zero_add] at a_0 a_1 a_2 a_3 a_4 a_5 a_6 a_7 a_8 a_9 a_10 a_11
  obtain ⟨b_0, b_1, b_2, b_3, b_4, b_5, b_6, b_7, b_8, b_9, b_10, b_11⟩ := HC.out.b.below HBX.out
  simp only [Nat.zero_add] at b_0 b_1 b_2 b_3 b_4 b_5 b_6 b_7 b_8 b_9 b_10 b_11
  go_wp2_with fail
  refine (before_any xa xb _).mono ?_
  rintro e v4_6 ⟨rfl, hb⟩
  replace HBX := Lib.hid (bt HBX.out hb)
  clear hb
  clear a_0 a_1 a_2 a_3 a_4 a_5 a_6 a_7 a_8 a_9 a_10 a_11
  clear b_0 b_1 b_2 b_3 b_4 b_5 b_6 b_7 b_8 b_9 b_10 b_11
  obtain ⟨c_0, c_1, c_2, c_3, c_4, c_5, c_6, c_7, c_8, c_9, c_10, c_11⟩ := HC.out.c.below HBX.out
  simp only [Nat.zero_add] at c_0 c_1 c_2 c_3 c_4 c_5 c_6 c_7 c_8 c_9 c_10 c_11
  obtain ⟨d_0, d_1, d_2, d_3, d_4, d_5, d_6, d_7, d_8, d_9, d_10, d_11⟩ := HC.out.d.below HBX.out
  simp only [Nat.zero_add] at d_0 d_1 d_2 d_3 d_4 d_5 d_6 d_7 d_8 d_9 d_10 d_11
  go_wp2_with fail
  refine (before_any xc xd _).mono ?_
  rintro e v4_7 ⟨rfl, hb⟩
  replace HBX := Lib.hid (bt HBX.out hb)
  clear hb
  clear c_0 c_1 c_2 c_3 c_4 c_5 c_6 c_7 c_8 c_9 c_10 c_11
  clear d_0 d_1 d_2 d_3 d_4 d_5 d_6 d_7 d_8 d_9 d_10 d_11
  obtain ⟨a_0, a_1, a_2, a_3, a_4, a_5, a_6, a_7, a_8, a_9, a_10, a_11⟩ := HC.out.a.below HBX.out
  simp only [Nat.zero_add] at a_0 a_1 a_2 a_3 a_4 a_5 a_6 a_7 a_8 a_9 a_10 a_11
  obtain ⟨d_0, d_1, d_2, d_3, d_4, d_5, d_6, d_7, d_8, d_9, d_10, d_11⟩ := HC.out.d.below HBX.out
  simp only [Nat.zero_add] at d_0 d_1 d_2 d_3 d_4 d_5 d_6 d_7 d_8 d_9 d_10 d_11
  go_wp2_with fail
  refine (before_any xa xd _).mono ?_
  rintro e v4_8 ⟨rfl, hb⟩
  replace HBX := Lib.hid (bt HBX.out hb)
  clear hb
  clear a_0 a_1 a_2 a_3 a_4 a_5 a_6 a_7 a_8 a_9 a_10 a_11
  clear d_0 d_1 d_2 d_3 d_4 d_5 d_6 d_7 d_8 d_9 d_10 d_11
  obtain ⟨b_0, b_1, b_2, b_3, b_4, b_5, b_6, b_7, b_8, b_9, b_10, b_11⟩ := HC.out.b.below HBX.out
  simp only [Nat.zero_add] at b_0 b_1 b_2 b_3 b_4 b_5 b_6 b_7 b_8 b_9 b_10 b_11
  obtain ⟨c_0, c_1, c_2, c_3, c_4, c_5, c_6, c_7, c_8, c_9, c_10, c_11⟩ := HC.out.c.below HBX.out
  simp only [Nat.zero_add] at c_0 c_1 c_2 c_3 c_4 c_5 c_6 c_7 c_8 c_9 c_10 c_11
  go_wp2_with fail
  refine (before_any xc xb _).mono ?_
  rintro e v4_9 ⟨rfl, hb⟩
  replace HBX := Lib.hid (bt HBX.out hb)
  clear hb
  clear b_0 b_1 b_2 b_3 b_4 b_5 b_6 b_7 b_8 b_9 b_10 b_11
  clear c_0 c_1 c_2 c_3 c_4 c_5 c_6 c_7 c_8 c_9 c_10 c_11
  have HB2X := Lib.hid (bt HC.out.below HBX.out)
  go_wp2_with fail
  go_loopw [15] (fun t15 wz => ∃ j : Nat, 1 ≤ j ∧ j ≤ m ∧ t15 = .int .i64 j ∧ Hid (Below wc.heap.size wc wz)) (fun t15 _ => m - (intOf t15).toNat)
  case atStart => exact ⟨1, Nat.le_refl _, by omega, rfl, HBX⟩
  case round =>
    obtain ⟨j, hj1, hj, rfl, hbz⟩ := hrel
    by_cases hjl : j < m
    · obtain ⟨xj, hxj⟩ : ∃ x, L[j]? = some x := ⟨_, List.getElem?_eq_getElem (by rw [← HM.out]; exact hjl)⟩
      obtain ⟨xp, hxp⟩ : ∃ x, L[j - 1]? = some x := ⟨_, List.getElem?_eq_getElem (by rw [← HM.out]; omega)⟩
      have hbw := bt HC.out.below hbz.out
      have RJ := row_at (HS2.out.below hbw) hxj
      have RP := row_at (HS2.out.below hbw) hxp
      simp only [Nat.zero_add] at RJ RP
      have j10 := RJ.c10
      have j11 := RJ.c11
      have p10 := RP.c10
      have hup := up_at HRL.out hxj hxp hj1
      have s1 : decide (xj.fr ≤ xp.fr) = false := decide_eq_false (by omega)
      have s2 : decide (xj.to ≤ xj.fr) = false := decide_eq_false (by have := (HRL.out.each xj (List.mem_of_getElem? hxj)).1; omega)
      have v1 : (0 : Int) ≤ (j : Int) := by omega
      have v2 : (j : Int) < (m : Int) := by omega
      have v3 : decide ((j : Int) < (m : Int)) = true := decide_eq_true v2
      have v4 : (0 : Int) ≤ (j : Int) - 1 := by omega
      have v5 : (j : Int) - 1 < (m : Int) := by omega
      have v6 : IntKind.i64.wrap ((j : Int) - 1) = (j : Int) - 1 := IntWalk.i64_in _ (by omega)
      have hixp := hidx2 ((j : Int) - 1) v4 v5
      rw [show ((j : Int) - 1).toNat = j - 1 by omega] at hixp
      have hixj := hidx2 (j : Int) v1 v2
      rw [Int.toNat_natCast] at hixj
      clear RJ RP hbw hup hxj hxp
      go_wp2_with fail
      go_quiet (fail)
      go_wp2_with fail
      go_roundw
      case rel => exact ⟨j + 1, by omega, by omega, by go_num, Lib.hid (below_drewN hbz.out _)⟩
      case measure => simp [intOf]; omega
    · have v2 : ¬ (j : Int) < (m : Int) := by omega
      have v3 : decide ((j : Int) < (m : Int)) = false := decide_eq_false v2
      replace HBX := Lib.hid hbz.out
      obtain ⟨a_0, a_1, a_2, a_3, a_4, a_5, a_6, a_7, a_8, a_9, a_10, a_11⟩ := HC.out.a.below HBX.out
      simp only [Nat.zero_add] at a_0 a_1 a_2 a_3 a_4 a_5 a_6 a_7 a_8 a_9 a_10 a_11
      go_wp2_with fail
      refine (works_any _).mono ?_
      rintro e w9 ⟨rfl, hb9⟩
      have HF := Lib.hid (bt (bt HC.out.below HBX.out) hb9)
      clear hb9
      go_wp2
      go_ret
      exact ⟨rfl, HB2.out.trans (HF.out.mono HB2.out.size)⟩
end Go.Proofs.Ytjmanajbdkbkdaa
