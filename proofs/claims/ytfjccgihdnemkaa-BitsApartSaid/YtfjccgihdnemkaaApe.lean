/- BitsApart: its region 21, walked by itself. Printed by gen_apr.py. -/
import Derived.Test.YtfjccgihdnemkaaApr
import Derived.Test.YtfjccgihdnemkaaAw
import Derived.Test.YtfjccgihdnemkaaTake
import Derived.Deep.RegionHeld3
namespace Go.Proofs.Ytfjccgihdnemkaa
open Go.RowKit Go.Um
set_option linter.unusedSimpArgs false
set_option linter.unusedVariables false
set_option maxHeartbeats 8000000
set_option maxRecDepth 100000
theorem r21 {u0 u1 u2 u3 u4 u5 u6 u9 u10 u11 u12 u13 u14 u15 u16 u18 u19 u20 u21 u22 u23 u24 u25 u26 u27 u28 u29 u30 u31 u32 u33 u34 u35 u36 u37 u38 u39 u40 u41 u42 u43 u44 u45 u46 u47 u48 u49 u50 u51 u52 u53 u54 u55 u56 u57 u58 u59 u60 u61 u62 u63 u64 u65 u66 u67 u68 u69 u70 u71 u72 u73 u74 u75 u76 u77 u78 u79 u80 u81 u82 u83 u84 u85 u86 u87 u88 u89 u90 u91 u92 u93 u94 u95 u96 u97 u98 u99 u100 u101 u102 u103 u104 u105 u106 u107 u108 u109 u110 u111 u112 u113 u114 u115 u116 u117 u118 u119 u120 u121 u122 u123 u124 u125 u126 u127 u128 u129 u130 u131 u132 u133 u134 u135 u136 u137 u138 u139 u140 u141 u142 u143 u144 u145 u146 u147 u148 u149 u150 u151 u152 u153 u154 u155 u156 u157 u158 u159 u160 u161 u162 u163 u164 u165 u166 u167 u168 u169 u170 u171 u172 u173 u174 u175 u176 u177 u178 u179 u180 u181 u182 u183 u184 u185 u186 u187 u188 u189 u190 u191 u192 u193 u194 u195 u196 u197 u198 u199 u200 u201 u202 u203 u204 u205 u206 u207 u208 u209 u210 u211 u212 u213 u214 u215 u216 u217 u218 u219 u220 u221 u222 u223 u224 u225 u226 u227 u228 u229 u230 u231 u232 u233 : Value} {W4 : World} {p7 p8 p17 m1 cap1 m2 cap2 m17 cap17 N M CU CS CT : Nat} {ao1 ao2 ao17 : Option Addr} {B : Bool} (ops : Array Oper) (hops : Try.f6.body.map (subC [1, 1, 1, 1, 1, 1, 1, 1, 1, 1, 1, 0]) = some (.region 21 ops true)) (C7 : Hid (∀ W, Below W4.heap.size W4 W → W.cell? ⟨p7, 0, none⟩ = some (.slice ao1 m1 cap1))) (C8 : Hid (∀ W, Below W4.heap.size W4 W → W.cell? ⟨p8, 0, none⟩ = some (.slice ao2 m2 cap2))) (C17 : Hid (∀ W, Below W4.heap.size W4 W → W.cell? ⟨p17, 0, none⟩ = some (.slice ao17 m17 cap17))) (HS7 : Hid (∀ W, Below W4.heap.size W4 W → SetAt W (.agg #[.slice ao1 m1 cap1]) (N))) (HS8 : Hid (∀ W, Below W4.heap.size W4 W → SetAt W (.agg #[.slice ao2 m2 cap2]) (M))) (HS17 : Hid (∀ W, Below W4.heap.size W4 W → SetAt W (.agg #[.slice ao17 m17 cap17]) (N ||| M))) (HK39 : Hid (∀ W, Below W4.heap.size W4 W → Calls Try.prog 15 #[.agg #[.slice ao17 m17 cap17]] W fun e w' => e = .returned (.int .i64 (CU : Int)) ∧ Below W.heap.size W w')) (HK41 : Hid (∀ W, Below W4.heap.size W4 W → Calls Try.prog 15 #[.agg #[.slice ao1 m1 cap1]] W fun e w' => e = .returned (.int .i64 (CS : Int)) ∧ Below W.heap.size W w')) (HK43 : Hid (∀ W, Below W4.heap.size W4 W → Calls Try.prog 15 #[.agg #[.slice ao2 m2 cap2]] W fun e w' => e = .returned (.int .i64 (CT : Int)) ∧ Below W.heap.size W w')) (HBT : Hid (B = true ↔ ∀ n, N.testBit n = true → M.testBit n = true)) (HBU : Hid (B = true ↔ N ||| M = M)) (hcle : (CU : Int) ≤ (CS : Int) + (CT : Int)) (hcw : IntKind.i64.wrap ((CS : Int) + (CT : Int)) = (CS : Int) + (CT : Int)) :
    (Code.region 21 ops true).wp Try.prog (fun e a W => match e with | .normal => Below W4.heap.size W4 W ∧ ∃ v184 v185 v186 v187 v188 v189 v190 v191 v192 v193 v194 v195 v196 v197 v198 v199 v200 v201 v202 v203 v204 v205 v206 v207 v208 v209 v210 v211 v212 v213 v214 v215 v216 v217 v218 v219 v220 v221 v222 v223 v224 v225 v226 v227 v228 v229 v230 v231 v232 v233 : Value, a = { tmps := #[u0, u1, u2, u3, u4, u5, .bool true, .pointer (some ⟨p7, 0, none⟩), .pointer (some ⟨p8, 0, none⟩), u9, u10, u11, u12, u13, u14, u15, u16, .pointer (some ⟨p17, 0, none⟩), u18, u19, u20, u21, u22, u23, u24, u25, u26, u27, u28, u29, u30, u31, u32, u33, u34, u35, u36, u37, u38, u39, u40, u41, u42, u43, u44, u45, u46, u47, u48, u49, u50, u51, u52, u53, u54, u55, u56, u57, u58, u59, u60, u61, u62, u63, u64, u65, u66, u67, u68, u69, u70, u71, u72, u73, u74, u75, u76, u77, u78, u79, u80, u81, u82, u83, u84, u85, u86, u87, u88, u89, u90, u91, u92, u93, u94, u95, u96, u97, u98, u99, u100, u101, u102, u103, u104, u105, u106, u107, u108, u109, u110, u111, u112, u113, u114, u115, u116, u117, u118, u119, u120, u121, u122, u123, u124, u125, u126, u127, u128, u129, u130, u131, u132, u133, u134, u135, u136, u137, u138, u139, u140, u141, u142, u143, u144, u145, u146, u147, u148, u149, u150, u151, u152, u153, u154, u155, u156, u157, u158, u159, u160, u161, u162, u163, u164, u165, u166, u167, u168, u169, u170, u171, u172, u173, u174, u175, u176, u177, u178, u179, u180, u181, u182, u183, v184, v185, v186, v187, v188, v189, v190, v191, v192, v193, v194, v195, v196, v197, v198, v199, v200, v201, v202, v203, v204, v205, v206, v207, v208, v209, v210, v211, v212, v213, v214, v215, v216, v217, v218, v219, v220, v221, v222, v223, v224, v225, v226, v227, v228, v229, v230, v231, v232, v233], defers := [] } | _ => False) { tmps := #[u0, u1, u2, u3, u4, u5, u6, .pointer (some ⟨p7, 0, none⟩), .pointer (some ⟨p8, 0, none⟩), u9, u10, u11, u12, u13, u14, u15, u16, .pointer (some ⟨p17, 0, none⟩), u18, u19, u20, u21, u22, u23, u24, u25, u26, u27, u28, u29, u30, u31, u32, u33, u34, u35, u36, u37, u38, u39, u40, u41, u42, u43, u44, u45, u46, u47, u48, u49, u50, u51, u52, u53, u54, u55, u56, u57, u58, u59, u60, u61, u62, u63, u64, u65, u66, u67, u68, u69, u70, u71, u72, u73, u74, u75, u76, u77, u78, u79, u80, u81, u82, u83, u84, u85, u86, u87, u88, u89, u90, u91, u92, u93, u94, u95, u96, u97, u98, u99, u100, u101, u102, u103, u104, u105, u106, u107, u108, u109, u110, u111, u112, u113, u114, u115, u116, u117, u118, u119, u120, u121, u122, u123, u124, u125, u126, u127, u128, u129, u130, u131, u132, u133, u134, u135, u136, u137, u138, u139, u140, u141, u142, u143, u144, u145, u146, u147, u148, u149, u150, u151, u152, u153, u154, u155, u156, u157, u158, u159, u160, u161, u162, u163, u164, u165, u166, u167, u168, u169, u170, u171, u172, u173, u174, u175, u176, u177, u178, u179, u180, u181, u182, u183, u184, u185, u186, u187, u188, u189, u190, u191, u192, u193, u194, u195, u196, u197, u198, u199, u200, u201, u202, u203, u204, u205, u206, u207, u208, u209, u210, u211, u212, u213, u214, u215, u216, u217, u218, u219, u220, u221, u222, u223, u224, u225, u226, u227, u228, u229, u230, u231, u232, u233], defers := [] } W4 := by
  simp [Try.f6, subC] at hops
  subst hops
  have hbc := bz W4
  refine wp_region_held_drew (S := (fun W => Below W4.heap.size W4 W)) (by kernel_rfl) (by first | exact hbc | exact hbc.drew) (fun hHeld => ?_)
  replace hbc := hbc.drew
  refine takeD (i := 0) (v := ?zvrqe0) (some 184) rfl rfl (by kernel_rfl) (by kernel_rfl) (by kernel_rfl) (fun _ _ _ h => h) (Or.inl ⟨by rfl, ?zyrqe0⟩) (by assumption) ?zrrqe0
  case zyrqe0 => (intro w hSw; have cL := C17.out w hSw; go_simp; try with_reducible rfl)
  try simp only [Act.put, List.setIfInBounds_toArray, List.set_cons_zero, List.set_cons_succ]
  refine takeD (i := 2) (v := ?zvrqe2) (some 186) rfl rfl (by kernel_rfl) (by kernel_rfl) (by kernel_rfl) (fun _ _ _ h => h) (Or.inl ⟨by rfl, ?zyrqe2⟩) (by assumption) ?zrrqe2
  case zyrqe2 => (intro w hSw; have cL := C8.out w hSw; go_simp; try with_reducible rfl)
  try simp only [Act.put, List.setIfInBounds_toArray, List.set_cons_zero, List.set_cons_succ]
  refine takeD (i := 3) (v := ?zvrqe3) (some 187) rfl rfl (by kernel_rfl) (by kernel_rfl) (by kernel_rfl) (fun _ _ _ h => h) (Or.inl ⟨by rfl, ?zyrqe3⟩) (by assumption) ?zrrqe3
  case zyrqe3 => (intro w hSw; have cL := C7.out w hSw; go_simp; try with_reducible rfl)
  try simp only [Act.put, List.setIfInBounds_toArray, List.set_cons_zero, List.set_cons_succ]
  refine wpAnyH_ready (rs := [1]) (by kernel_rfl) (by simp) ?_
  refine AllReadyH.cons rfl (fun K hK => ?_) AllReadyH.nil
  go_simp
  refine (key_any _ _ _ (HS17.out _ hbc)).mono ?_
  rintro e wka ⟨ska, rfl, hka, hbk⟩
  have HKa := Lib.hid hka
  replace hbc := bt hbc hbk
  clear hbk hka
  go_wp2_with fail
  refine hK.out _ _ (by first | exact hbc | exact hbc.drew) (fun hHeld2 => ?_)
  clear hK K
  clear hHeld
  have hHeld := hHeld2
  clear hHeld2
  try simp only [Act.put, List.setIfInBounds_toArray, List.set_cons_zero, List.set_cons_succ]
  refine wpAnyH_ready (rs := [4]) (by kernel_rfl) (by simp) ?_
  refine AllReadyH.cons rfl (fun K hK => ?_) AllReadyH.nil
  go_simp
  refine (union_any _ _ _ _ _ (HS8.out _ hbc) (HS7.out _ hbc)).mono ?_
  rintro e wkb ⟨vb, rfl, hsb, hbk⟩
  rw [Nat.or_comm] at hsb
  replace hbc := bt hbc hbk
  clear hbk
  go_wp2_with fail
  refine hK.out _ _ (by first | exact hbc | exact hbc.drew) (fun hHeld2 => ?_)
  clear hK K
  clear hHeld
  have hHeld := hHeld2
  clear hHeld2
  try simp only [Act.put, List.setIfInBounds_toArray, List.set_cons_zero, List.set_cons_succ]
  refine wpAnyH_ready (rs := [5]) (by kernel_rfl) (by simp) ?_
  refine AllReadyH.cons rfl (fun K hK => ?_) AllReadyH.nil
  go_simp
  refine (key_any _ _ _ hsb).mono ?_
  rintro e wkc ⟨skc, rfl, hkc, hbk⟩
  replace hbc := bt hbc hbk
  obtain rfl := HKa.out.unique hkc
  clear hbk hkc hsb
  go_wp2_with fail
  refine hK.out _ _ (by first | exact hbc | exact hbc.drew) (fun hHeld2 => ?_)
  clear hK K
  clear hHeld
  have hHeld := hHeld2
  clear hHeld2
  try simp only [Act.put, List.setIfInBounds_toArray, List.set_cons_zero, List.set_cons_succ]
  refine takeD (i := 6) (v := ?zvrqe6) (some 190) rfl rfl (by kernel_rfl) (by kernel_rfl) (by kernel_rfl) (fun _ _ _ h => h) (Or.inl ⟨by rfl, ?zyrqe6⟩) (by assumption) ?zrrqe6
  case zyrqe6 => (intro w hSw; clear hSw; go_simp; try with_reducible rfl)
  try simp only [Act.put, List.setIfInBounds_toArray, List.set_cons_zero, List.set_cons_succ]
  refine takeD (i := 7) (v := ?zvrqe7) (some 191) rfl rfl (by kernel_rfl) (by kernel_rfl) (by kernel_rfl) (fun _ _ _ h => h) (Or.inl ⟨by rfl, ?zyrqe7⟩) (by assumption) ?zrrqe7
  case zyrqe7 => (intro w hSw; clear hSw; go_simp; try with_reducible rfl)
  try simp only [Act.put, List.setIfInBounds_toArray, List.set_cons_zero, List.set_cons_succ]
  refine takeD (i := 8) (v := ?zvrqe8) (some 192) rfl rfl (by kernel_rfl) (by kernel_rfl) (by kernel_rfl) (fun _ _ _ h => h) (Or.inl ⟨by rfl, ?zyrqe8⟩) (by assumption) ?zrrqe8
  case zyrqe8 => (intro w hSw; have cL := C17.out w hSw; go_simp; try with_reducible rfl)
  try simp only [Act.put, List.setIfInBounds_toArray, List.set_cons_zero, List.set_cons_succ]
  refine takeD (i := 9) (v := ?zvrqe9) (some 193) rfl rfl (by kernel_rfl) (by kernel_rfl) (by kernel_rfl) (fun _ _ _ h => h) (Or.inl ⟨by rfl, ?zyrqe9⟩) (by assumption) ?zrrqe9
  case zyrqe9 => (intro w hSw; have cL := C8.out w hSw; go_simp; try with_reducible rfl)
  try simp only [Act.put, List.setIfInBounds_toArray, List.set_cons_zero, List.set_cons_succ]
  refine takeD (i := 12) (v := ?zvrqe12) (some 196) rfl rfl (by kernel_rfl) (by kernel_rfl) (by kernel_rfl) (fun _ _ _ h => h) (Or.inl ⟨by rfl, ?zyrqe12⟩) (by assumption) ?zrrqe12
  case zyrqe12 => (intro w hSw; have cL := C17.out w hSw; go_simp; try with_reducible rfl)
  try simp only [Act.put, List.setIfInBounds_toArray, List.set_cons_zero, List.set_cons_succ]
  refine wpAnyH_ready (rs := [10]) (by kernel_rfl) (by simp) ?_
  refine AllReadyH.cons rfl (fun K hK => ?_) AllReadyH.nil
  go_simp
  refine (union_any _ _ _ _ _ (HS17.out _ hbc) (HS8.out _ hbc)).mono ?_
  rintro e wkd ⟨vd, rfl, hsd, hbk⟩
  rw [or_or] at hsd
  replace hbc := bt hbc hbk
  clear hbk
  go_wp2_with fail
  refine hK.out _ _ (by first | exact hbc | exact hbc.drew) (fun hHeld2 => ?_)
  clear hK K
  clear hHeld
  have hHeld := hHeld2
  clear hHeld2
  try simp only [Act.put, List.setIfInBounds_toArray, List.set_cons_zero, List.set_cons_succ]
  refine wpAnyH_ready (rs := [11]) (by kernel_rfl) (by simp) ?_
  refine AllReadyH.cons rfl (fun K hK => ?_) AllReadyH.nil
  go_simp
  refine (key_any _ _ _ hsd).mono ?_
  rintro e wke ⟨ske, rfl, hke, hbk⟩
  replace hbc := bt hbc hbk
  clear hbk hsd
  go_wp2_with fail
  refine hK.out _ _ (by first | exact hbc | exact hbc.drew) (fun hHeld2 => ?_)
  clear hK K
  clear hHeld
  have hHeld := hHeld2
  clear hHeld2
  try simp only [Act.put, List.setIfInBounds_toArray, List.set_cons_zero, List.set_cons_succ]
  refine wpAnyH_ready (rs := [13]) (by kernel_rfl) (by simp) ?_
  refine AllReadyH.cons rfl (fun K hK => ?_) AllReadyH.nil
  go_simp
  refine (key_any _ _ _ (HS17.out _ hbc)).mono ?_
  rintro e wkf ⟨skf, rfl, hkf, hbk⟩
  replace hbc := bt hbc hbk
  obtain rfl := hke.unique hkf
  clear hbk hke hkf
  go_wp2_with fail
  refine hK.out _ _ (by first | exact hbc | exact hbc.drew) (fun hHeld2 => ?_)
  clear hK K
  clear hHeld
  have hHeld := hHeld2
  clear hHeld2
  try simp only [Act.put, List.setIfInBounds_toArray, List.set_cons_zero, List.set_cons_succ]
  refine takeD (i := 14) (v := ?zvrqe14) (some 198) rfl rfl (by kernel_rfl) (by kernel_rfl) (by kernel_rfl) (fun _ _ _ h => h) (Or.inl ⟨by rfl, ?zyrqe14⟩) (by assumption) ?zrrqe14
  case zyrqe14 => (intro w hSw; clear hSw; go_simp; try with_reducible rfl)
  try simp only [Act.put, List.setIfInBounds_toArray, List.set_cons_zero, List.set_cons_succ]
  refine takeD (i := 15) (v := ?zvrqe15) (some 199) rfl rfl (by kernel_rfl) (by kernel_rfl) (by kernel_rfl) (fun _ _ _ h => h) (Or.inl ⟨by rfl, ?zyrqe15⟩) (by assumption) ?zrrqe15
  case zyrqe15 => (intro w hSw; clear hSw; go_simp; try with_reducible rfl)
  try simp only [Act.put, List.setIfInBounds_toArray, List.set_cons_zero, List.set_cons_succ]
  refine takeD (i := 16) (v := ?zvrqe16) (some 200) rfl rfl (by kernel_rfl) (by kernel_rfl) (by kernel_rfl) (fun _ _ _ h => h) (Or.inl ⟨by rfl, ?zyrqe16⟩) (by assumption) ?zrrqe16
  case zyrqe16 => (intro w hSw; clear hSw; go_simp; try with_reducible rfl)
  try simp only [Act.put, List.setIfInBounds_toArray, List.set_cons_zero, List.set_cons_succ]
  refine takeD (i := 17) (v := ?zvrqe17) (some 201) rfl rfl (by kernel_rfl) (by kernel_rfl) (by kernel_rfl) (fun _ _ _ h => h) (Or.inl ⟨by rfl, ?zyrqe17⟩) (by assumption) ?zrrqe17
  case zyrqe17 => (intro w hSw; have cL := C7.out w hSw; go_simp; try with_reducible rfl)
  try simp only [Act.put, List.setIfInBounds_toArray, List.set_cons_zero, List.set_cons_succ]
  refine takeD (i := 18) (v := ?zvrqe18) (some 202) rfl rfl (by kernel_rfl) (by kernel_rfl) (by kernel_rfl) (fun _ _ _ h => h) (Or.inl ⟨by rfl, ?zyrqe18⟩) (by assumption) ?zrrqe18
  case zyrqe18 => (intro w hSw; have cL := C17.out w hSw; go_simp; try with_reducible rfl)
  try simp only [Act.put, List.setIfInBounds_toArray, List.set_cons_zero, List.set_cons_succ]
  refine wpAnyH_ready (rs := [19]) (by kernel_rfl) (by simp) ?_
  refine AllReadyH.cons rfl (fun K hK => ?_) AllReadyH.nil
  go_simp
  refine (within_any (HS7.out _ hbc) (HS17.out _ hbc) true ⟨fun _ n h => by rw [Nat.testBit_or, h]; rfl, fun _ => rfl⟩).mono ?_
  rintro e wkg ⟨rfl, hbk⟩
  replace hbc := bt hbc hbk
  clear hbk
  go_wp2_with fail
  refine hK.out _ _ (by first | exact hbc | exact hbc.drew) (fun hHeld2 => ?_)
  clear hK K
  clear hHeld
  have hHeld := hHeld2
  clear hHeld2
  try simp only [Act.put, List.setIfInBounds_toArray, List.set_cons_zero, List.set_cons_succ]
  refine takeD (i := 20) (v := ?zvrqe20) (some 204) rfl rfl (by kernel_rfl) (by kernel_rfl) (by kernel_rfl) (fun _ _ _ h => h) (Or.inl ⟨by rfl, ?zyrqe20⟩) (by assumption) ?zrrqe20
  case zyrqe20 => (intro w hSw; clear hSw; go_simp; try with_reducible rfl)
  try simp only [Act.put, List.setIfInBounds_toArray, List.set_cons_zero, List.set_cons_succ]
  refine takeD (i := 21) (v := ?zvrqe21) (some 205) rfl rfl (by kernel_rfl) (by kernel_rfl) (by kernel_rfl) (fun _ _ _ h => h) (Or.inl ⟨by rfl, ?zyrqe21⟩) (by assumption) ?zrrqe21
  case zyrqe21 => (intro w hSw; clear hSw; go_simp; try with_reducible rfl)
  try simp only [Act.put, List.setIfInBounds_toArray, List.set_cons_zero, List.set_cons_succ]
  refine takeD (i := 22) (v := ?zvrqe22) (some 206) rfl rfl (by kernel_rfl) (by kernel_rfl) (by kernel_rfl) (fun _ _ _ h => h) (Or.inl ⟨by rfl, ?zyrqe22⟩) (by assumption) ?zrrqe22
  case zyrqe22 => (intro w hSw; have cL := C8.out w hSw; go_simp; try with_reducible rfl)
  try simp only [Act.put, List.setIfInBounds_toArray, List.set_cons_zero, List.set_cons_succ]
  refine takeD (i := 23) (v := ?zvrqe23) (some 207) rfl rfl (by kernel_rfl) (by kernel_rfl) (by kernel_rfl) (fun _ _ _ h => h) (Or.inl ⟨by rfl, ?zyrqe23⟩) (by assumption) ?zrrqe23
  case zyrqe23 => (intro w hSw; have cL := C17.out w hSw; go_simp; try with_reducible rfl)
  try simp only [Act.put, List.setIfInBounds_toArray, List.set_cons_zero, List.set_cons_succ]
  refine wpAnyH_ready (rs := [24]) (by kernel_rfl) (by simp) ?_
  refine AllReadyH.cons rfl (fun K hK => ?_) AllReadyH.nil
  go_simp
  refine (within_any (HS8.out _ hbc) (HS17.out _ hbc) true ⟨fun _ n h => by rw [Nat.testBit_or, h, Bool.or_true], fun _ => rfl⟩).mono ?_
  rintro e wkh ⟨rfl, hbk⟩
  replace hbc := bt hbc hbk
  clear hbk
  go_wp2_with fail
  refine hK.out _ _ (by first | exact hbc | exact hbc.drew) (fun hHeld2 => ?_)
  clear hK K
  clear hHeld
  have hHeld := hHeld2
  clear hHeld2
  try simp only [Act.put, List.setIfInBounds_toArray, List.set_cons_zero, List.set_cons_succ]
  refine takeD (i := 25) (v := ?zvrqe25) (some 209) rfl rfl (by kernel_rfl) (by kernel_rfl) (by kernel_rfl) (fun _ _ _ h => h) (Or.inl ⟨by rfl, ?zyrqe25⟩) (by assumption) ?zrrqe25
  case zyrqe25 => (intro w hSw; clear hSw; go_simp; try with_reducible rfl)
  try simp only [Act.put, List.setIfInBounds_toArray, List.set_cons_zero, List.set_cons_succ]
  refine takeD (i := 26) (v := ?zvrqe26) (some 210) rfl rfl (by kernel_rfl) (by kernel_rfl) (by kernel_rfl) (fun _ _ _ h => h) (Or.inl ⟨by rfl, ?zyrqe26⟩) (by assumption) ?zrrqe26
  case zyrqe26 => (intro w hSw; clear hSw; go_simp; try with_reducible rfl)
  try simp only [Act.put, List.setIfInBounds_toArray, List.set_cons_zero, List.set_cons_succ]
  refine takeD (i := 27) (v := ?zvrqe27) (some 211) rfl rfl (by kernel_rfl) (by kernel_rfl) (by kernel_rfl) (fun _ _ _ h => h) (Or.inl ⟨by rfl, ?zyrqe27⟩) (by assumption) ?zrrqe27
  case zyrqe27 => (intro w hSw; have cL := C7.out w hSw; go_simp; try with_reducible rfl)
  try simp only [Act.put, List.setIfInBounds_toArray, List.set_cons_zero, List.set_cons_succ]
  refine takeD (i := 28) (v := ?zvrqe28) (some 212) rfl rfl (by kernel_rfl) (by kernel_rfl) (by kernel_rfl) (fun _ _ _ h => h) (Or.inl ⟨by rfl, ?zyrqe28⟩) (by assumption) ?zrrqe28
  case zyrqe28 => (intro w hSw; have cL := C8.out w hSw; go_simp; try with_reducible rfl)
  try simp only [Act.put, List.setIfInBounds_toArray, List.set_cons_zero, List.set_cons_succ]
  refine takeD (i := 30) (v := ?zvrqe30) (some 214) rfl rfl (by kernel_rfl) (by kernel_rfl) (by kernel_rfl) (fun _ _ _ h => h) (Or.inl ⟨by rfl, ?zyrqe30⟩) (by assumption) ?zrrqe30
  case zyrqe30 => (intro w hSw; have cL := C17.out w hSw; go_simp; try with_reducible rfl)
  try simp only [Act.put, List.setIfInBounds_toArray, List.set_cons_zero, List.set_cons_succ]
  refine takeD (i := 32) (v := ?zvrqe32) (some 216) rfl rfl (by kernel_rfl) (by kernel_rfl) (by kernel_rfl) (fun _ _ _ h => h) (Or.inl ⟨by rfl, ?zyrqe32⟩) (by assumption) ?zrrqe32
  case zyrqe32 => (intro w hSw; have cL := C8.out w hSw; go_simp; try with_reducible rfl)
  try simp only [Act.put, List.setIfInBounds_toArray, List.set_cons_zero, List.set_cons_succ]
  refine wpAnyH_ready (rs := [29]) (by kernel_rfl) (by simp) ?_
  refine AllReadyH.cons rfl (fun K hK => ?_) AllReadyH.nil
  go_simp
  refine (within_any (HS7.out _ hbc) (HS8.out _ hbc) B HBT.out).mono ?_
  rintro e wki ⟨rfl, hbk⟩
  replace hbc := bt hbc hbk
  clear hbk
  go_wp2_with fail
  refine hK.out _ _ (by first | exact hbc | exact hbc.drew) (fun hHeld2 => ?_)
  clear hK K
  clear hHeld
  have hHeld := hHeld2
  clear hHeld2
  try simp only [Act.put, List.setIfInBounds_toArray, List.set_cons_zero, List.set_cons_succ]
  refine wpAnyH_ready (rs := [31]) (by kernel_rfl) (by simp) ?_
  refine AllReadyH.cons rfl (fun K hK => ?_) AllReadyH.nil
  go_simp
  refine (key_any _ _ _ (HS17.out _ hbc)).mono ?_
  rintro e wkj ⟨skj, rfl, hkj, hbk⟩
  have HKj := Lib.hid hkj
  replace hbc := bt hbc hbk
  clear hbk hkj
  go_wp2_with fail
  refine hK.out _ _ (by first | exact hbc | exact hbc.drew) (fun hHeld2 => ?_)
  clear hK K
  clear hHeld
  have hHeld := hHeld2
  clear hHeld2
  try simp only [Act.put, List.setIfInBounds_toArray, List.set_cons_zero, List.set_cons_succ]
  refine wpAnyH_ready (rs := [33]) (by kernel_rfl) (by simp) ?_
  refine AllReadyH.cons rfl (fun K hK => ?_) AllReadyH.nil
  go_simp
  refine (key_any _ _ _ (HS8.out _ hbc)).mono ?_
  rintro e wkk ⟨skk, rfl, hkk, hbk⟩
  have HKk := Lib.hid hkk
  replace hbc := bt hbc hbk
  clear hbk hkk
  have hq1 := bool_key HKj.out HKk.out HBU.out
  go_wp2_with fail
  refine hK.out _ _ (by first | exact hbc | exact hbc.drew) (fun hHeld2 => ?_)
  clear hK K
  clear hHeld
  have hHeld := hHeld2
  clear hHeld2
  try simp only [Act.put, List.setIfInBounds_toArray, List.set_cons_zero, List.set_cons_succ]
  refine takeD (i := 34) (v := ?zvrqe34) (some 218) rfl rfl (by kernel_rfl) (by kernel_rfl) (by kernel_rfl) (fun _ _ _ h => h) (Or.inl ⟨by rfl, ?zyrqe34⟩) (by assumption) ?zrrqe34
  case zyrqe34 => (intro w hSw; clear hSw; go_simp; try with_reducible rfl)
  try simp only [Act.put, List.setIfInBounds_toArray, List.set_cons_zero, List.set_cons_succ]
  refine takeD (i := 35) (v := ?zvrqe35) (some 219) rfl rfl (by kernel_rfl) (by kernel_rfl) (by kernel_rfl) (fun _ _ _ h => h) (Or.inl ⟨by rfl, ?zyrqe35⟩) (by assumption) ?zrrqe35
  case zyrqe35 => (intro w hSw; clear hSw; go_simp; try with_reducible rfl)
  try simp only [Act.put, List.setIfInBounds_toArray, List.set_cons_zero, List.set_cons_succ]
  refine takeD (i := 36) (v := ?zvrqe36) (some 220) rfl rfl (by kernel_rfl) (by kernel_rfl) (by kernel_rfl) (fun _ _ _ h => h) (Or.inl ⟨by rfl, ?zyrqe36⟩) (by assumption) ?zrrqe36
  case zyrqe36 => (intro w hSw; clear hSw; go_simp; try with_reducible rfl)
  try simp only [Act.put, List.setIfInBounds_toArray, List.set_cons_zero, List.set_cons_succ]
  refine takeD (i := 37) (v := ?zvrqe37) (some 221) rfl rfl (by kernel_rfl) (by kernel_rfl) (by kernel_rfl) (fun _ _ _ h => h) (Or.inl ⟨by rfl, ?zyrqe37⟩) (by assumption) ?zrrqe37
  case zyrqe37 => (intro w hSw; clear hSw; go_simp; try with_reducible rfl)
  try simp only [Act.put, List.setIfInBounds_toArray, List.set_cons_zero, List.set_cons_succ]
  refine takeD (i := 38) (v := ?zvrqe38) (some 222) rfl rfl (by kernel_rfl) (by kernel_rfl) (by kernel_rfl) (fun _ _ _ h => h) (Or.inl ⟨by rfl, ?zyrqe38⟩) (by assumption) ?zrrqe38
  case zyrqe38 => (intro w hSw; have cL := C17.out w hSw; go_simp; try with_reducible rfl)
  try simp only [Act.put, List.setIfInBounds_toArray, List.set_cons_zero, List.set_cons_succ]
  refine takeD (i := 40) (v := ?zvrqe40) (some 224) rfl rfl (by kernel_rfl) (by kernel_rfl) (by kernel_rfl) (fun _ _ _ h => h) (Or.inl ⟨by rfl, ?zyrqe40⟩) (by assumption) ?zrrqe40
  case zyrqe40 => (intro w hSw; have cL := C7.out w hSw; go_simp; try with_reducible rfl)
  try simp only [Act.put, List.setIfInBounds_toArray, List.set_cons_zero, List.set_cons_succ]
  refine takeD (i := 42) (v := ?zvrqe42) (some 226) rfl rfl (by kernel_rfl) (by kernel_rfl) (by kernel_rfl) (fun _ _ _ h => h) (Or.inl ⟨by rfl, ?zyrqe42⟩) (by assumption) ?zrrqe42
  case zyrqe42 => (intro w hSw; have cL := C8.out w hSw; go_simp; try with_reducible rfl)
  try simp only [Act.put, List.setIfInBounds_toArray, List.set_cons_zero, List.set_cons_succ]
  refine wpAnyH_ready (rs := [39]) (by kernel_rfl) (by simp) ?_
  refine AllReadyH.cons rfl (fun K hK => ?_) AllReadyH.nil
  go_simp
  refine (HK39.out _ hbc).mono ?_
  rintro e wkl ⟨rfl, hbk⟩
  replace hbc := bt hbc hbk
  clear hbk
  go_wp2_with fail
  refine hK.out _ _ (by first | exact hbc | exact hbc.drew) (fun hHeld2 => ?_)
  clear hK K
  clear hHeld
  have hHeld := hHeld2
  clear hHeld2
  try simp only [Act.put, List.setIfInBounds_toArray, List.set_cons_zero, List.set_cons_succ]
  refine wpAnyH_ready (rs := [41]) (by kernel_rfl) (by simp) ?_
  refine AllReadyH.cons rfl (fun K hK => ?_) AllReadyH.nil
  go_simp
  refine (HK41.out _ hbc).mono ?_
  rintro e wkm ⟨rfl, hbk⟩
  replace hbc := bt hbc hbk
  clear hbk
  go_wp2_with fail
  refine hK.out _ _ (by first | exact hbc | exact hbc.drew) (fun hHeld2 => ?_)
  clear hK K
  clear hHeld
  have hHeld := hHeld2
  clear hHeld2
  try simp only [Act.put, List.setIfInBounds_toArray, List.set_cons_zero, List.set_cons_succ]
  refine wpAnyH_ready (rs := [43]) (by kernel_rfl) (by simp) ?_
  refine AllReadyH.cons rfl (fun K hK => ?_) AllReadyH.nil
  go_simp
  refine (HK43.out _ hbc).mono ?_
  rintro e wkn ⟨rfl, hbk⟩
  replace hbc := bt hbc hbk
  clear hbk
  go_wp2_with fail
  refine hK.out _ _ (by first | exact hbc | exact hbc.drew) (fun hHeld2 => ?_)
  clear hK K
  clear hHeld
  have hHeld := hHeld2
  clear hHeld2
  try simp only [Act.put, List.setIfInBounds_toArray, List.set_cons_zero, List.set_cons_succ]
  refine takeD (i := 44) (v := ?zvrqe44) (some 228) rfl rfl (by kernel_rfl) (by kernel_rfl) (by kernel_rfl) (fun _ _ _ h => h) (Or.inl ⟨by rfl, ?zyrqe44⟩) (by assumption) ?zrrqe44
  case zyrqe44 => (intro w hSw; clear hSw; go_simp; try with_reducible rfl)
  try simp only [Act.put, List.setIfInBounds_toArray, List.set_cons_zero, List.set_cons_succ]
  refine takeD (i := 45) (v := ?zvrqe45) (some 229) rfl rfl (by kernel_rfl) (by kernel_rfl) (by kernel_rfl) (fun _ _ _ h => h) (Or.inl ⟨by rfl, ?zyrqe45⟩) (by assumption) ?zrrqe45
  case zyrqe45 => (intro w hSw; clear hSw; go_simp; try with_reducible rfl)
  try simp only [Act.put, List.setIfInBounds_toArray, List.set_cons_zero, List.set_cons_succ]
  refine takeD (i := 46) (v := ?zvrqe46) (some 230) rfl rfl (by kernel_rfl) (by kernel_rfl) (by kernel_rfl) (fun _ _ _ h => h) (Or.inl ⟨by rfl, ?zyrqe46⟩) (by assumption) ?zrrqe46
  case zyrqe46 => (intro w hSw; clear hSw; go_simp; try with_reducible rfl)
  try simp only [Act.put, List.setIfInBounds_toArray, List.set_cons_zero, List.set_cons_succ]
  refine takeD (i := 47) (v := ?zvrqe47) (some 231) rfl rfl (by kernel_rfl) (by kernel_rfl) (by kernel_rfl) (fun _ _ _ h => h) (Or.inl ⟨by rfl, ?zyrqe47⟩) (by assumption) ?zrrqe47
  case zyrqe47 => (intro w hSw; clear hSw; go_simp; try with_reducible rfl)
  try simp only [Act.put, List.setIfInBounds_toArray, List.set_cons_zero, List.set_cons_succ]
  refine wpAnyH_ready (rs := [48]) (by kernel_rfl) (by simp) ?_
  refine AllReadyH.cons rfl (fun K hK => ?_) AllReadyH.nil
  go_simp
  refine (awake_any _).mono ?_
  rintro e wko ⟨rfl, hbk⟩
  replace hbc := bt hbc hbk
  clear hbk
  go_wp2_with fail
  refine hK.out _ _ (by first | exact hbc | exact hbc.drew) (fun hHeld2 => ?_)
  clear hK K
  clear hHeld
  have hHeld := hHeld2
  clear hHeld2
  try simp only [Act.put, List.setIfInBounds_toArray, List.set_cons_zero, List.set_cons_succ]
  refine takeD (i := 49) (v := ?zvrqe49) (some 233) rfl rfl (by kernel_rfl) (by kernel_rfl) (by kernel_rfl) (fun _ _ _ h => h) (Or.inl ⟨by rfl, ?zyrqe49⟩) (by assumption) ?zrrqe49
  case zyrqe49 => (intro w hSw; clear hSw; go_simp; try with_reducible rfl)
  try simp only [Act.put, List.setIfInBounds_toArray, List.set_cons_zero, List.set_cons_succ]
  refine takeD (i := 50) (v := ?zvrqe50) (some 6) rfl rfl (by kernel_rfl) (by kernel_rfl) (by kernel_rfl) (fun _ _ _ h => h) (Or.inl ⟨by rfl, ?zyrqe50⟩) (by assumption) ?zrrqe50
  case zyrqe50 => (intro w hSw; clear hSw; go_simp; try with_reducible rfl)
  try simp only [Act.put, List.setIfInBounds_toArray, List.set_cons_zero, List.set_cons_succ]
  refine wpAnyH_done (by kernel_rfl) ?_ _
  exact ⟨hbc, _, _, _, _, _, _, _, _, _, _, _, _, _, _, _, _, _, _, _, _, _, _, _, _, _, _, _, _, _, _, _, _, _, _, _, _, _, _, _, _, _, _, _, _, _, _, _, _, _, _, rfl⟩
end Go.Proofs.Ytfjccgihdnemkaa
