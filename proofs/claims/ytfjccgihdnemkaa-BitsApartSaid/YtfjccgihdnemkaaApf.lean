/- BitsApart: its region 14, walked by itself. Printed by gen_apr.py. -/
import Derived.Test.YtfjccgihdnemkaaApr
import Derived.Test.YtfjccgihdnemkaaTake
import Derived.Deep.RegionHeld3
namespace Go.Proofs.Ytfjccgihdnemkaa
open Go.RowKit Go.Um
set_option linter.unusedSimpArgs false
set_option linter.unusedVariables false
set_option maxHeartbeats 8000000
set_option maxRecDepth 100000
theorem r14 {u0 u1 u2 u3 u4 u5 u6 u10 u11 u14 u15 u16 u17 u18 u19 u20 u21 u22 u23 u24 u25 u26 u27 u28 u29 u30 u31 u32 u33 u34 u35 u36 u37 u38 u39 u40 u41 u42 u43 u44 u45 u46 u47 u48 u49 u50 u51 u52 u53 u54 u55 u56 u57 u58 u59 u60 u61 u62 u63 u64 u65 u66 u67 u68 u69 u70 u71 u72 u73 u74 u75 u76 u77 u78 u79 u80 u81 u82 u83 u84 u85 u86 u87 u88 u89 u90 u91 u92 u93 u94 u95 u96 u97 u98 u99 u100 u101 u102 u103 u104 u105 u106 u107 u108 u109 u110 u111 u112 u113 u114 u115 u116 u117 u118 u119 u120 u121 u122 u123 u124 u125 u126 u127 u128 u129 u130 u131 u132 u133 u134 u135 u136 u137 u138 u139 u140 u141 u142 u143 u144 u145 u146 u147 u148 u149 u150 u151 u152 u153 u154 u155 u156 u157 u158 u159 u160 u161 u162 u163 u164 u165 u166 u167 u168 u169 u170 u171 u172 u173 u174 u175 u176 u177 u178 u179 u180 u181 u182 u183 u184 u185 u186 u187 u188 u189 u190 u191 u192 u193 u194 u195 u196 u197 u198 u199 u200 u201 u202 u203 u204 u205 u206 u207 u208 u209 u210 u211 u212 u213 u214 u215 u216 u217 u218 u219 u220 u221 u222 u223 u224 u225 u226 u227 u228 u229 u230 u231 u232 u233 : Value} {W1 : World} {p7 p8 p12 m1 cap1 m2 cap2 m12 cap12 N M : Nat} {ao1 ao2 ao12 : Option Addr} {Q : Bool} (ops : Array Oper) (hops : Try.f6.body.map (subC [1, 1, 1, 1, 1, 1, 0, 0]) = some (.region 14 ops true)) (C7 : Hid (∀ W, Below W1.heap.size W1 W → W.cell? ⟨p7, 0, none⟩ = some (.slice ao1 m1 cap1))) (C8 : Hid (∀ W, Below W1.heap.size W1 W → W.cell? ⟨p8, 0, none⟩ = some (.slice ao2 m2 cap2))) (C12 : Hid (∀ W, Below W1.heap.size W1 W → W.cell? ⟨p12, 0, none⟩ = some (.slice ao12 m12 cap12))) (HS7 : Hid (∀ W, Below W1.heap.size W1 W → SetAt W (.agg #[.slice ao1 m1 cap1]) N)) (HS8 : Hid (∀ W, Below W1.heap.size W1 W → SetAt W (.agg #[.slice ao2 m2 cap2]) M)) (HS12 : Hid (∀ W, Below W1.heap.size W1 W → SetAt W (.agg #[.slice ao12 m12 cap12]) N)) (HQ : Hid (Q = true ↔ N = M)) :
    (Code.region 14 ops true).wp Try.prog (fun e a W => match e with | .normal => Below W1.heap.size W1 W ∧ ∃ v71 v72 v73 v74 v75 v76 v77 v78 v79 v80 v81 v82 v83 v84 v85 v86 v87 v88 v89 v90 v91 v92 v93 v94 v95 v96 v97 v98 v99 : Value, a = { tmps := #[u0, u1, u2, u3, u4, u5, u6, .pointer (some ⟨p7, 0, none⟩), .pointer (some ⟨p8, 0, none⟩), .bool Q, u10, u11, .pointer (some ⟨p12, 0, none⟩), .int .i64 0, u14, u15, u16, u17, u18, u19, u20, u21, u22, u23, u24, u25, u26, u27, u28, u29, u30, u31, u32, u33, u34, u35, u36, u37, u38, u39, u40, u41, u42, u43, u44, u45, u46, u47, u48, u49, u50, u51, u52, u53, u54, u55, u56, u57, u58, u59, u60, u61, u62, u63, u64, u65, u66, u67, u68, u69, u70, v71, v72, v73, v74, v75, v76, v77, v78, v79, v80, v81, v82, v83, v84, v85, v86, v87, v88, v89, v90, v91, v92, v93, v94, v95, v96, v97, v98, v99, .bool false, u101, u102, u103, u104, u105, u106, u107, u108, u109, u110, u111, u112, u113, u114, u115, u116, u117, u118, u119, u120, u121, u122, u123, u124, u125, u126, u127, u128, u129, u130, u131, u132, u133, u134, u135, u136, u137, u138, u139, u140, u141, u142, u143, u144, u145, u146, u147, u148, u149, u150, u151, u152, u153, u154, u155, u156, u157, u158, u159, u160, u161, u162, u163, u164, u165, u166, u167, u168, u169, u170, u171, u172, u173, u174, u175, u176, u177, u178, u179, u180, u181, u182, u183, u184, u185, u186, u187, u188, u189, u190, u191, u192, u193, u194, u195, u196, u197, u198, u199, u200, u201, u202, u203, u204, u205, u206, u207, u208, u209, u210, u211, u212, u213, u214, u215, u216, u217, u218, u219, u220, u221, u222, u223, u224, u225, u226, u227, u228, u229, u230, u231, u232, u233], defers := [] } | _ => False) { tmps := #[u0, u1, u2, u3, u4, u5, u6, .pointer (some ⟨p7, 0, none⟩), .pointer (some ⟨p8, 0, none⟩), .bool Q, u10, u11, .pointer (some ⟨p12, 0, none⟩), .int .i64 0, u14, u15, u16, u17, u18, u19, u20, u21, u22, u23, u24, u25, u26, u27, u28, u29, u30, u31, u32, u33, u34, u35, u36, u37, u38, u39, u40, u41, u42, u43, u44, u45, u46, u47, u48, u49, u50, u51, u52, u53, u54, u55, u56, u57, u58, u59, u60, u61, u62, u63, u64, u65, u66, u67, u68, u69, u70, u71, u72, u73, u74, u75, u76, u77, u78, u79, u80, u81, u82, u83, u84, u85, u86, u87, u88, u89, u90, u91, u92, u93, u94, u95, u96, u97, u98, u99, u100, u101, u102, u103, u104, u105, u106, u107, u108, u109, u110, u111, u112, u113, u114, u115, u116, u117, u118, u119, u120, u121, u122, u123, u124, u125, u126, u127, u128, u129, u130, u131, u132, u133, u134, u135, u136, u137, u138, u139, u140, u141, u142, u143, u144, u145, u146, u147, u148, u149, u150, u151, u152, u153, u154, u155, u156, u157, u158, u159, u160, u161, u162, u163, u164, u165, u166, u167, u168, u169, u170, u171, u172, u173, u174, u175, u176, u177, u178, u179, u180, u181, u182, u183, u184, u185, u186, u187, u188, u189, u190, u191, u192, u193, u194, u195, u196, u197, u198, u199, u200, u201, u202, u203, u204, u205, u206, u207, u208, u209, u210, u211, u212, u213, u214, u215, u216, u217, u218, u219, u220, u221, u222, u223, u224, u225, u226, u227, u228, u229, u230, u231, u232, u233], defers := [] } W1 := by
  simp [Try.f6, subC] at hops
  subst hops
  have hbc := bz W1
  refine wp_region_held_drew (S := (fun W => Below W1.heap.size W1 W)) (by kernel_rfl) (by first | exact hbc | exact hbc.drew) (fun hHeld => ?_)
  replace hbc := hbc.drew
  refine takeD (i := 0) (v := ?zvrqf0) (some 71) rfl rfl (by kernel_rfl) (by kernel_rfl) (by kernel_rfl) (fun _ _ _ h => h) (Or.inl ⟨by rfl, ?zyrqf0⟩) (by assumption) ?zrrqf0
  case zyrqf0 => (intro w hSw; have cL := C7.out w hSw; go_simp; try with_reducible rfl)
  try simp only [Act.put, List.setIfInBounds_toArray, List.set_cons_zero, List.set_cons_succ]
  refine takeD (i := 2) (v := ?zvrqf2) (some 73) rfl rfl (by kernel_rfl) (by kernel_rfl) (by kernel_rfl) (fun _ _ _ h => h) (Or.inl ⟨by rfl, ?zyrqf2⟩) (by assumption) ?zrrqf2
  case zyrqf2 => (intro w hSw; have cL := C8.out w hSw; go_simp; try with_reducible rfl)
  try simp only [Act.put, List.setIfInBounds_toArray, List.set_cons_zero, List.set_cons_succ]
  refine takeD (i := 5) (v := ?zvrqf5) (some 76) rfl rfl (by kernel_rfl) (by kernel_rfl) (by kernel_rfl) (fun _ _ _ h => h) (Or.inl ⟨by rfl, ?zyrqf5⟩) (by assumption) ?zrrqf5
  case zyrqf5 => (intro w hSw; clear hSw; go_simp; try with_reducible rfl)
  try simp only [Act.put, List.setIfInBounds_toArray, List.set_cons_zero, List.set_cons_succ]
  refine wpAnyH_ready (rs := [1]) (by kernel_rfl) (by simp) ?_
  refine AllReadyH.cons rfl (fun K hK => ?_) AllReadyH.nil
  go_simp
  refine (key_any _ _ _ (HS7.out _ hbc)).mono ?_
  rintro e wka ⟨ska, rfl, hka, hbk⟩
  have HKa := Lib.hid hka
  replace hbc := bt hbc hbk
  clear hbk hka
  go_wp2_with fail
  refine hK.out _ _ (by first | exact hbc | exact hbc.drew) (fun hHeld2 => ?_)
  clear hK K
  clear hHeld
  have hHeld := hHeld2
  clear hHeld2
  try simp only [Act.put, List.setIfInBounds_toArray, List.set_cons_zero, List.set_cons_succ]
  refine wpAnyH_ready (rs := [3]) (by kernel_rfl) (by simp) ?_
  refine AllReadyH.cons rfl (fun K hK => ?_) AllReadyH.nil
  go_simp
  refine (key_any _ _ _ (HS8.out _ hbc)).mono ?_
  rintro e wkb ⟨skb, rfl, hkb, hbk⟩
  have HKb := Lib.hid hkb
  replace hbc := bt hbc hbk
  clear hbk hkb
  have hq1 := bool_key HKa.out HKb.out HQ.out
  go_wp2_with fail
  refine hK.out _ _ (by first | exact hbc | exact hbc.drew) (fun hHeld2 => ?_)
  clear hK K
  clear hHeld
  have hHeld := hHeld2
  clear hHeld2
  try simp only [Act.put, List.setIfInBounds_toArray, List.set_cons_zero, List.set_cons_succ]
  refine takeD (i := 4) (v := ?zvrqf4) (some 75) rfl rfl (by kernel_rfl) (by kernel_rfl) (by kernel_rfl) (fun _ _ _ h => h) (Or.inl ⟨by rfl, ?zyrqf4⟩) (by assumption) ?zrrqf4
  case zyrqf4 => (intro w hSw; clear hSw; go_simp; try with_reducible rfl)
  try simp only [Act.put, List.setIfInBounds_toArray, List.set_cons_zero, List.set_cons_succ]
  refine takeD (i := 6) (v := ?zvrqf6) (some 77) rfl rfl (by kernel_rfl) (by kernel_rfl) (by kernel_rfl) (fun _ _ _ h => h) (Or.inl ⟨by rfl, ?zyrqf6⟩) (by assumption) ?zrrqf6
  case zyrqf6 => (intro w hSw; clear hSw; go_simp; try with_reducible rfl)
  try simp only [Act.put, List.setIfInBounds_toArray, List.set_cons_zero, List.set_cons_succ]
  refine takeD (i := 7) (v := ?zvrqf7) (some 78) rfl rfl (by kernel_rfl) (by kernel_rfl) (by kernel_rfl) (fun _ _ _ h => h) (Or.inl ⟨by rfl, ?zyrqf7⟩) (by assumption) ?zrrqf7
  case zyrqf7 => (intro w hSw; clear hSw; go_simp; try with_reducible rfl)
  try simp only [Act.put, List.setIfInBounds_toArray, List.set_cons_zero, List.set_cons_succ]
  refine takeD (i := 8) (v := ?zvrqf8) (some 79) rfl rfl (by kernel_rfl) (by kernel_rfl) (by kernel_rfl) (fun _ _ _ h => h) (Or.inl ⟨by rfl, ?zyrqf8⟩) (by assumption) ?zrrqf8
  case zyrqf8 => (intro w hSw; clear hSw; go_simp; try with_reducible rfl)
  try simp only [Act.put, List.setIfInBounds_toArray, List.set_cons_zero, List.set_cons_succ]
  refine takeD (i := 9) (v := ?zvrqf9) (some 80) rfl rfl (by kernel_rfl) (by kernel_rfl) (by kernel_rfl) (fun _ _ _ h => h) (Or.inl ⟨by rfl, ?zyrqf9⟩) (by assumption) ?zrrqf9
  case zyrqf9 => (intro w hSw; clear hSw; go_simp; try with_reducible rfl)
  try simp only [Act.put, List.setIfInBounds_toArray, List.set_cons_zero, List.set_cons_succ]
  refine takeD (i := 10) (v := ?zvrqf10) (some 81) rfl rfl (by kernel_rfl) (by kernel_rfl) (by kernel_rfl) (fun _ _ _ h => h) (Or.inl ⟨by rfl, ?zyrqf10⟩) (by assumption) ?zrrqf10
  case zyrqf10 => (intro w hSw; clear hSw; go_simp; try with_reducible rfl)
  try simp only [Act.put, List.setIfInBounds_toArray, List.set_cons_zero, List.set_cons_succ]
  refine takeD (i := 11) (v := ?zvrqf11) (some 82) rfl rfl (by kernel_rfl) (by kernel_rfl) (by kernel_rfl) (fun _ _ _ h => h) (Or.inl ⟨by rfl, ?zyrqf11⟩) (by assumption) ?zrrqf11
  case zyrqf11 => (intro w hSw; clear hSw; go_simp; try with_reducible rfl)
  try simp only [Act.put, List.setIfInBounds_toArray, List.set_cons_zero, List.set_cons_succ]
  refine takeD (i := 12) (v := ?zvrqf12) (some 83) rfl rfl (by kernel_rfl) (by kernel_rfl) (by kernel_rfl) (fun _ _ _ h => h) (Or.inl ⟨by rfl, ?zyrqf12⟩) (by assumption) ?zrrqf12
  case zyrqf12 => (intro w hSw; have cL := C12.out w hSw; go_simp; try with_reducible rfl)
  try simp only [Act.put, List.setIfInBounds_toArray, List.set_cons_zero, List.set_cons_succ]
  refine takeD (i := 14) (v := ?zvrqf14) (some 85) rfl rfl (by kernel_rfl) (by kernel_rfl) (by kernel_rfl) (fun _ _ _ h => h) (Or.inl ⟨by rfl, ?zyrqf14⟩) (by assumption) ?zrrqf14
  case zyrqf14 => (intro w hSw; have cL := C7.out w hSw; go_simp; try with_reducible rfl)
  try simp only [Act.put, List.setIfInBounds_toArray, List.set_cons_zero, List.set_cons_succ]
  refine wpAnyH_ready (rs := [13]) (by kernel_rfl) (by simp) ?_
  refine AllReadyH.cons rfl (fun K hK => ?_) AllReadyH.nil
  go_simp
  refine (key_any _ _ _ (HS12.out _ hbc)).mono ?_
  rintro e wkc ⟨skc, rfl, hkc, hbk⟩
  have HKc := Lib.hid hkc
  replace hbc := bt hbc hbk
  clear hbk hkc
  go_wp2_with fail
  refine hK.out _ _ (by first | exact hbc | exact hbc.drew) (fun hHeld2 => ?_)
  clear hK K
  clear hHeld
  have hHeld := hHeld2
  clear hHeld2
  try simp only [Act.put, List.setIfInBounds_toArray, List.set_cons_zero, List.set_cons_succ]
  refine wpAnyH_ready (rs := [15]) (by kernel_rfl) (by simp) ?_
  refine AllReadyH.cons rfl (fun K hK => ?_) AllReadyH.nil
  go_simp
  refine (key_any _ _ _ (HS7.out _ hbc)).mono ?_
  rintro e wkd ⟨skd, rfl, hkd, hbk⟩
  have HKd := Lib.hid hkd
  replace hbc := bt hbc hbk
  clear hbk hkd
  obtain rfl := HKc.out.unique HKd.out
  go_wp2_with fail
  refine hK.out _ _ (by first | exact hbc | exact hbc.drew) (fun hHeld2 => ?_)
  clear hK K
  clear hHeld
  have hHeld := hHeld2
  clear hHeld2
  try simp only [Act.put, List.setIfInBounds_toArray, List.set_cons_zero, List.set_cons_succ]
  refine takeD (i := 16) (v := ?zvrqf16) (some 87) rfl rfl (by kernel_rfl) (by kernel_rfl) (by kernel_rfl) (fun _ _ _ h => h) (Or.inl ⟨by rfl, ?zyrqf16⟩) (by assumption) ?zrrqf16
  case zyrqf16 => (intro w hSw; clear hSw; go_simp; try with_reducible rfl)
  try simp only [Act.put, List.setIfInBounds_toArray, List.set_cons_zero, List.set_cons_succ]
  refine takeD (i := 17) (v := ?zvrqf17) (some 88) rfl rfl (by kernel_rfl) (by kernel_rfl) (by kernel_rfl) (fun _ _ _ h => h) (Or.inl ⟨by rfl, ?zyrqf17⟩) (by assumption) ?zrrqf17
  case zyrqf17 => (intro w hSw; clear hSw; go_simp; try with_reducible rfl)
  try simp only [Act.put, List.setIfInBounds_toArray, List.set_cons_zero, List.set_cons_succ]
  refine takeD (i := 18) (v := ?zvrqf18) (some 89) rfl rfl (by kernel_rfl) (by kernel_rfl) (by kernel_rfl) (fun _ _ _ h => h) (Or.inl ⟨by rfl, ?zyrqf18⟩) (by assumption) ?zrrqf18
  case zyrqf18 => (intro w hSw; clear hSw; go_simp; try with_reducible rfl)
  try simp only [Act.put, List.setIfInBounds_toArray, List.set_cons_zero, List.set_cons_succ]
  refine takeD (i := 19) (v := ?zvrqf19) (some 90) rfl rfl (by kernel_rfl) (by kernel_rfl) (by kernel_rfl) (fun _ _ _ h => h) (Or.inl ⟨by rfl, ?zyrqf19⟩) (by assumption) ?zrrqf19
  case zyrqf19 => (intro w hSw; have cL := C7.out w hSw; go_simp; try with_reducible rfl)
  try simp only [Act.put, List.setIfInBounds_toArray, List.set_cons_zero, List.set_cons_succ]
  refine takeD (i := 20) (v := ?zvrqf20) (some 91) rfl rfl (by kernel_rfl) (by kernel_rfl) (by kernel_rfl) (fun _ _ _ h => h) (Or.inl ⟨by rfl, ?zyrqf20⟩) (by assumption) ?zrrqf20
  case zyrqf20 => (intro w hSw; have cL := C12.out w hSw; go_simp; try with_reducible rfl)
  try simp only [Act.put, List.setIfInBounds_toArray, List.set_cons_zero, List.set_cons_succ]
  refine wpAnyH_ready (rs := [21]) (by kernel_rfl) (by simp) ?_
  refine AllReadyH.cons rfl (fun K hK => ?_) AllReadyH.nil
  go_simp
  refine (within_any (HS7.out _ hbc) (HS12.out _ hbc) true ⟨fun _ n h => h, fun _ => rfl⟩).mono ?_
  rintro e wke ⟨rfl, hbk⟩
  replace hbc := bt hbc hbk
  clear hbk
  go_wp2_with fail
  refine hK.out _ _ (by first | exact hbc | exact hbc.drew) (fun hHeld2 => ?_)
  clear hK K
  clear hHeld
  have hHeld := hHeld2
  clear hHeld2
  try simp only [Act.put, List.setIfInBounds_toArray, List.set_cons_zero, List.set_cons_succ]
  refine takeD (i := 22) (v := ?zvrqf22) (some 93) rfl rfl (by kernel_rfl) (by kernel_rfl) (by kernel_rfl) (fun _ _ _ h => h) (Or.inl ⟨by rfl, ?zyrqf22⟩) (by assumption) ?zrrqf22
  case zyrqf22 => (intro w hSw; clear hSw; go_simp; try with_reducible rfl)
  try simp only [Act.put, List.setIfInBounds_toArray, List.set_cons_zero, List.set_cons_succ]
  refine takeD (i := 23) (v := ?zvrqf23) (some 94) rfl rfl (by kernel_rfl) (by kernel_rfl) (by kernel_rfl) (fun _ _ _ h => h) (Or.inl ⟨by rfl, ?zyrqf23⟩) (by assumption) ?zrrqf23
  case zyrqf23 => (intro w hSw; clear hSw; go_simp; try with_reducible rfl)
  try simp only [Act.put, List.setIfInBounds_toArray, List.set_cons_zero, List.set_cons_succ]
  refine takeD (i := 24) (v := ?zvrqf24) (some 95) rfl rfl (by kernel_rfl) (by kernel_rfl) (by kernel_rfl) (fun _ _ _ h => h) (Or.inl ⟨by rfl, ?zyrqf24⟩) (by assumption) ?zrrqf24
  case zyrqf24 => (intro w hSw; clear hSw; go_simp; try with_reducible rfl)
  try simp only [Act.put, List.setIfInBounds_toArray, List.set_cons_zero, List.set_cons_succ]
  refine takeD (i := 25) (v := ?zvrqf25) (some 96) rfl rfl (by kernel_rfl) (by kernel_rfl) (by kernel_rfl) (fun _ _ _ h => h) (Or.inl ⟨by rfl, ?zyrqf25⟩) (by assumption) ?zrrqf25
  case zyrqf25 => (intro w hSw; have cL := C12.out w hSw; go_simp; try with_reducible rfl)
  try simp only [Act.put, List.setIfInBounds_toArray, List.set_cons_zero, List.set_cons_succ]
  refine takeD (i := 26) (v := ?zvrqf26) (some 97) rfl rfl (by kernel_rfl) (by kernel_rfl) (by kernel_rfl) (fun _ _ _ h => h) (Or.inl ⟨by rfl, ?zyrqf26⟩) (by assumption) ?zrrqf26
  case zyrqf26 => (intro w hSw; have cL := C7.out w hSw; go_simp; try with_reducible rfl)
  try simp only [Act.put, List.setIfInBounds_toArray, List.set_cons_zero, List.set_cons_succ]
  refine wpAnyH_ready (rs := [27]) (by kernel_rfl) (by simp) ?_
  refine AllReadyH.cons rfl (fun K hK => ?_) AllReadyH.nil
  go_simp
  refine (within_any (HS12.out _ hbc) (HS7.out _ hbc) true ⟨fun _ n h => h, fun _ => rfl⟩).mono ?_
  rintro e wkf ⟨rfl, hbk⟩
  replace hbc := bt hbc hbk
  clear hbk
  go_wp2_with fail
  refine hK.out _ _ (by first | exact hbc | exact hbc.drew) (fun hHeld2 => ?_)
  clear hK K
  clear hHeld
  have hHeld := hHeld2
  clear hHeld2
  try simp only [Act.put, List.setIfInBounds_toArray, List.set_cons_zero, List.set_cons_succ]
  refine takeD (i := 28) (v := ?zvrqf28) (some 99) rfl rfl (by kernel_rfl) (by kernel_rfl) (by kernel_rfl) (fun _ _ _ h => h) (Or.inl ⟨by rfl, ?zyrqf28⟩) (by assumption) ?zrrqf28
  case zyrqf28 => (intro w hSw; clear hSw; go_simp; try with_reducible rfl)
  try simp only [Act.put, List.setIfInBounds_toArray, List.set_cons_zero, List.set_cons_succ]
  refine takeD (i := 29) (v := ?zvrqf29) (some 100) rfl rfl (by kernel_rfl) (by kernel_rfl) (by kernel_rfl) (fun _ _ _ h => h) (Or.inl ⟨by rfl, ?zyrqf29⟩) (by assumption) ?zrrqf29
  case zyrqf29 => (intro w hSw; clear hSw; go_simp; try with_reducible rfl)
  try simp only [Act.put, List.setIfInBounds_toArray, List.set_cons_zero, List.set_cons_succ]
  refine wpAnyH_done (by kernel_rfl) ?_ _
  exact ⟨hbc, _, _, _, _, _, _, _, _, _, _, _, _, _, _, _, _, _, _, _, _, _, _, _, _, _, _, _, _, _, rfl⟩
end Go.Proofs.Ytfjccgihdnemkaa
