/- BitsApart: its region 18, walked by itself. Printed by gen_apr.py. -/
import Derived.Test.YtfjccgihdnemkaaApr
import Derived.Test.YtfjccgihdnemkaaTake
import Derived.Deep.RegionHeld3
namespace Go.Proofs.Ytfjccgihdnemkaa
open Go.RowKit Go.Um
set_option linter.unusedSimpArgs false
set_option linter.unusedVariables false
set_option maxHeartbeats 8000000
set_option maxRecDepth 100000
theorem r18c {u0 u1 u2 u3 u4 u6 u8 u9 u10 u11 u12 u13 u17 u18 u19 u20 u21 u22 u23 u24 u25 u26 u27 u28 u29 u30 u31 u32 u33 u34 u35 u36 u37 u38 u39 u40 u41 u42 u43 u44 u45 u46 u47 u48 u49 u50 u51 u52 u53 u54 u55 u56 u57 u58 u59 u60 u61 u62 u63 u64 u65 u66 u67 u68 u69 u70 u71 u72 u73 u74 u75 u76 u77 u78 u79 u80 u81 u82 u83 u84 u85 u86 u87 u88 u89 u90 u91 u92 u93 u94 u95 u96 u97 u98 u99 u100 u101 u102 u103 u104 u105 u106 u107 u108 u109 u110 u111 u112 u113 u114 u115 u116 u117 u118 u119 u120 u121 u122 u123 u124 u125 u126 u127 u128 u129 u130 u131 u132 u133 u134 u135 u136 u137 u138 u139 u140 u141 u142 u143 u144 u145 u146 u147 u148 u149 u150 u151 u152 u153 u154 u155 u156 u157 u158 u159 u160 u161 u162 u163 u164 u165 u166 u167 u168 u169 u170 u171 u172 u173 u174 u175 u176 u177 u178 u179 u180 u181 u182 u183 u184 u185 u186 u187 u188 u189 u190 u191 u192 u193 u194 u195 u196 u197 u198 u199 u200 u201 u202 u203 u204 u205 u206 u207 u208 u209 u210 u211 u212 u213 u214 u215 u216 u217 u218 u219 u220 u221 u222 u223 u224 u225 u226 u227 u228 u229 u230 u231 u232 u233 : Value} {W2 : World} {B5 p7 c14 c15 m1 cap1 m14 cap14 m15 cap15 N K : Nat} {ao1 ao14 ao15 : Option Addr} {mb h1 : Bool} {x0 x1 : Int} (ops : Array Oper) (hops : Try.f6.body.map (subC [1, 1, 1, 1, 1, 1, 1, 1, 1, 0, 0]) = some (.region 18 ops true)) (C5 : Hid (∀ W, Below W2.heap.size W2 W → W.cell? ⟨B5, 0, none⟩ = some (.int .i64 x0) ∧ W.cell? ⟨B5, 1, none⟩ = some (.int .i64 x1))) (C7 : Hid (∀ W, Below W2.heap.size W2 W → W.cell? ⟨p7, 0, none⟩ = some (.slice ao1 m1 cap1))) (C14 : Hid (∀ W, Below W2.heap.size W2 W → W.cell? ⟨c14, 0, none⟩ = some (.slice ao14 m14 cap14))) (C15 : Hid (∀ W, Below W2.heap.size W2 W → W.cell? ⟨c15, 0, none⟩ = some (.slice ao15 m15 cap15))) (HA3 : Hid (∀ W, Below W2.heap.size W2 W → Calls Try.prog 13 #[.agg #[.slice ao14 m14 cap14], .int .i64 x0] W fun e w' => e = .returned (.bool mb) ∧ Below W.heap.size W w')) (HA10 : Hid (∀ W, Below W2.heap.size W2 W → Calls Try.prog 13 #[.agg #[.slice ao15 m15 cap15], .int .i64 x0] W fun e w' => e = .returned (.bool false) ∧ Below W.heap.size W w')) (HA55 : Hid (∀ W, Below W2.heap.size W2 W → Calls Try.prog 13 #[.agg #[.slice ao1 m1 cap1], .int .i64 x0] W fun e w' => e = .returned (.bool false) ∧ Below W.heap.size W w')) (HA22 : Hid (∀ W, Below W2.heap.size W2 W → Calls Try.prog 13 #[.agg #[.slice ao14 m14 cap14], .int .i64 x1] W fun e w' => e = .returned (.bool h1) ∧ Below W.heap.size W w')) (HA26 : Hid (∀ W, Below W2.heap.size W2 W → Calls Try.prog 13 #[.agg #[.slice ao1 m1 cap1], .int .i64 x1] W fun e w' => e = .returned (.bool h1) ∧ Below W.heap.size W w')) (HA32 : Hid (∀ W, Below W2.heap.size W2 W → Calls Try.prog 13 #[.agg #[.slice ao15 m15 cap15], .int .i64 x1] W fun e w' => e = .returned (.bool h1) ∧ Below W.heap.size W w')) (HA45 : Hid (∀ W, Below W2.heap.size W2 W → Calls Try.prog 26 #[.agg #[.slice ao14 m14 cap14], .int .i64 x0] W (SetPost K W))) (HS15 : Hid (∀ W, Below W2.heap.size W2 W → SetAt W (.agg #[.slice ao15 m15 cap15]) K)) (hx2 : (x1 != x0) = true) (hx3 : (x1 == x0) = false) (hx : ¬ x1 = x0) :
    (Code.region 18 ops true).wp Try.prog (fun e a W => match e with | .normal => Below W2.heap.size W2 W ∧ ∃ v117 v118 v119 v120 v121 v122 v123 v124 v125 v126 v127 v128 v129 v130 v131 v132 v133 v134 v135 v136 v137 v138 v139 v140 v141 v142 v143 v144 v145 v146 v147 v148 v149 v150 v151 v152 v153 v154 v155 v156 v157 v158 v159 v160 v161 v162 v163 v164 v165 v166 v167 v168 v169 v170 v171 v172 v173 v174 v175 v176 v177 v178 v179 : Value, a = { tmps := #[u0, u1, u2, u3, u4, .pointer (some ⟨B5, 0, none⟩), u6, .pointer (some ⟨p7, 0, none⟩), u8, u9, u10, u11, u12, u13, .pointer (some ⟨c14, 0, none⟩), .pointer (some ⟨c15, 0, none⟩), .bool mb, u17, u18, u19, u20, u21, u22, u23, u24, u25, u26, u27, u28, u29, u30, u31, u32, u33, u34, u35, u36, u37, u38, u39, u40, u41, u42, u43, u44, u45, u46, u47, u48, u49, u50, u51, u52, u53, u54, u55, u56, u57, u58, u59, u60, u61, u62, u63, u64, u65, u66, u67, u68, u69, u70, u71, u72, u73, u74, u75, u76, u77, u78, u79, u80, u81, u82, u83, u84, u85, u86, u87, u88, u89, u90, u91, u92, u93, u94, u95, u96, u97, u98, u99, u100, u101, u102, u103, u104, u105, u106, u107, u108, u109, u110, u111, u112, u113, u114, u115, u116, v117, v118, v119, v120, v121, v122, v123, v124, v125, v126, v127, v128, v129, v130, v131, v132, v133, v134, v135, v136, v137, v138, v139, v140, v141, v142, v143, v144, v145, v146, v147, v148, v149, v150, v151, v152, v153, v154, v155, v156, v157, v158, v159, v160, v161, v162, v163, v164, v165, v166, v167, v168, v169, v170, v171, v172, v173, v174, v175, v176, v177, v178, v179, .bool false, u181, u182, u183, u184, u185, u186, u187, u188, u189, u190, u191, u192, u193, u194, u195, u196, u197, u198, u199, u200, u201, u202, u203, u204, u205, u206, u207, u208, u209, u210, u211, u212, u213, u214, u215, u216, u217, u218, u219, u220, u221, u222, u223, u224, u225, u226, u227, u228, u229, u230, u231, u232, u233], defers := [] } | _ => False) { tmps := #[u0, u1, u2, u3, u4, .pointer (some ⟨B5, 0, none⟩), u6, .pointer (some ⟨p7, 0, none⟩), u8, u9, u10, u11, u12, u13, .pointer (some ⟨c14, 0, none⟩), .pointer (some ⟨c15, 0, none⟩), .bool mb, u17, u18, u19, u20, u21, u22, u23, u24, u25, u26, u27, u28, u29, u30, u31, u32, u33, u34, u35, u36, u37, u38, u39, u40, u41, u42, u43, u44, u45, u46, u47, u48, u49, u50, u51, u52, u53, u54, u55, u56, u57, u58, u59, u60, u61, u62, u63, u64, u65, u66, u67, u68, u69, u70, u71, u72, u73, u74, u75, u76, u77, u78, u79, u80, u81, u82, u83, u84, u85, u86, u87, u88, u89, u90, u91, u92, u93, u94, u95, u96, u97, u98, u99, u100, u101, u102, u103, u104, u105, u106, u107, u108, u109, u110, u111, u112, u113, u114, u115, u116, u117, u118, u119, u120, u121, u122, u123, u124, u125, u126, u127, u128, u129, u130, u131, u132, u133, u134, u135, u136, u137, u138, u139, u140, u141, u142, u143, u144, u145, u146, u147, u148, u149, u150, u151, u152, u153, u154, u155, u156, u157, u158, u159, u160, u161, u162, u163, u164, u165, u166, u167, u168, u169, u170, u171, u172, u173, u174, u175, u176, u177, u178, u179, u180, u181, u182, u183, u184, u185, u186, u187, u188, u189, u190, u191, u192, u193, u194, u195, u196, u197, u198, u199, u200, u201, u202, u203, u204, u205, u206, u207, u208, u209, u210, u211, u212, u213, u214, u215, u216, u217, u218, u219, u220, u221, u222, u223, u224, u225, u226, u227, u228, u229, u230, u231, u232, u233], defers := [] } W2 := by
  simp [Try.f6, subC] at hops
  subst hops
  have hbc := bz W2
  refine wp_region_held_drew (S := (fun W => Below W2.heap.size W2 W)) (by kernel_rfl) (by first | exact hbc | exact hbc.drew) (fun hHeld => ?_)
  replace hbc := hbc.drew
  refine takeD (i := 0) (v := ?zvrqc0) (some 117) rfl rfl (by kernel_rfl) (by kernel_rfl) (by kernel_rfl) (fun _ _ _ h => h) (Or.inl ⟨by rfl, ?zyrqc0⟩) (by assumption) ?zrrqc0
  case zyrqc0 => (intro w hSw; have cL := C14.out w hSw; go_simp; try with_reducible rfl)
  try simp only [Act.put, List.setIfInBounds_toArray, List.set_cons_zero, List.set_cons_succ]
  refine takeD (i := 1) (v := ?zvrqc1) (some 118) rfl rfl (by kernel_rfl) (by kernel_rfl) (by kernel_rfl) (fun _ _ _ h => h) (Or.inl ⟨by rfl, ?zyrqc1⟩) (by assumption) ?zrrqc1
  case zyrqc1 => (intro w hSw; clear hSw; go_simp; try with_reducible rfl)
  try simp only [Act.put, List.setIfInBounds_toArray, List.set_cons_zero, List.set_cons_succ]
  refine takeD (i := 2) (v := ?zvrqc2) (some 119) rfl rfl (by kernel_rfl) (by kernel_rfl) (by kernel_rfl) (fun _ _ _ h => h) (Or.inl ⟨by rfl, ?zyrqc2⟩) (by assumption) ?zrrqc2
  case zyrqc2 => (intro w hSw; have cL := (C5.out w hSw).1; go_simp; try with_reducible rfl)
  try simp only [Act.put, List.setIfInBounds_toArray, List.set_cons_zero, List.set_cons_succ]
  refine takeD (i := 4) (v := ?zvrqc4) (some 121) rfl rfl (by kernel_rfl) (by kernel_rfl) (by kernel_rfl) (fun _ _ _ h => h) (Or.inl ⟨by rfl, ?zyrqc4⟩) (by assumption) ?zrrqc4
  case zyrqc4 => (intro w hSw; clear hSw; go_simp; try with_reducible rfl)
  try simp only [Act.put, List.setIfInBounds_toArray, List.set_cons_zero, List.set_cons_succ]
  refine wpAnyH_ready (rs := [3]) (by kernel_rfl) (by simp) ?_
  refine AllReadyH.cons rfl (fun K hK => ?_) AllReadyH.nil
  go_simp
  refine (HA3.out _ hbc).mono ?_
  rintro e wka ⟨rfl, hbk⟩
  replace hbc := bt hbc hbk
  clear hbk
  go_wp2_with fail
  refine hK.out _ _ (by first | exact hbc | exact hbc.drew) (fun hHeld2 => ?_)
  clear hK K
  clear hHeld
  have hHeld := hHeld2
  clear hHeld2
  try simp only [Act.put, List.setIfInBounds_toArray, List.set_cons_zero, List.set_cons_succ]
  refine takeD (i := 5) (v := ?zvrqc5) (some 122) rfl rfl (by kernel_rfl) (by kernel_rfl) (by kernel_rfl) (fun _ _ _ h => h) (Or.inl ⟨by rfl, ?zyrqc5⟩) (by assumption) ?zrrqc5
  case zyrqc5 => (intro w hSw; clear hSw; go_simp; try with_reducible rfl)
  try simp only [Act.put, List.setIfInBounds_toArray, List.set_cons_zero, List.set_cons_succ]
  refine takeD (i := 6) (v := ?zvrqc6) (some 123) rfl rfl (by kernel_rfl) (by kernel_rfl) (by kernel_rfl) (fun _ _ _ h => h) (Or.inl ⟨by rfl, ?zyrqc6⟩) (by assumption) ?zrrqc6
  case zyrqc6 => (intro w hSw; clear hSw; go_simp; try with_reducible rfl)
  try simp only [Act.put, List.setIfInBounds_toArray, List.set_cons_zero, List.set_cons_succ]
  refine takeD (i := 7) (v := ?zvrqc7) (some 124) rfl rfl (by kernel_rfl) (by kernel_rfl) (by kernel_rfl) (fun _ _ _ h => h) (Or.inl ⟨by rfl, ?zyrqc7⟩) (by assumption) ?zrrqc7
  case zyrqc7 => (intro w hSw; have cL := C15.out w hSw; go_simp; try with_reducible rfl)
  try simp only [Act.put, List.setIfInBounds_toArray, List.set_cons_zero, List.set_cons_succ]
  refine takeD (i := 8) (v := ?zvrqc8) (some 125) rfl rfl (by kernel_rfl) (by kernel_rfl) (by kernel_rfl) (fun _ _ _ h => h) (Or.inl ⟨by rfl, ?zyrqc8⟩) (by assumption) ?zrrqc8
  case zyrqc8 => (intro w hSw; clear hSw; go_simp; try with_reducible rfl)
  try simp only [Act.put, List.setIfInBounds_toArray, List.set_cons_zero, List.set_cons_succ]
  refine takeD (i := 9) (v := ?zvrqc9) (some 126) rfl rfl (by kernel_rfl) (by kernel_rfl) (by kernel_rfl) (fun _ _ _ h => h) (Or.inl ⟨by rfl, ?zyrqc9⟩) (by assumption) ?zrrqc9
  case zyrqc9 => (intro w hSw; have cL := (C5.out w hSw).1; go_simp; try with_reducible rfl)
  try simp only [Act.put, List.setIfInBounds_toArray, List.set_cons_zero, List.set_cons_succ]
  refine wpAnyH_ready (rs := [10]) (by kernel_rfl) (by simp) ?_
  refine AllReadyH.cons rfl (fun K hK => ?_) AllReadyH.nil
  go_simp
  refine (HA10.out _ hbc).mono ?_
  rintro e wkb ⟨rfl, hbk⟩
  replace hbc := bt hbc hbk
  clear hbk
  go_wp2_with fail
  refine hK.out _ _ (by first | exact hbc | exact hbc.drew) (fun hHeld2 => ?_)
  clear hK K
  clear hHeld
  have hHeld := hHeld2
  clear hHeld2
  try simp only [Act.put, List.setIfInBounds_toArray, List.set_cons_zero, List.set_cons_succ]
  refine takeD (i := 11) (v := ?zvrqc11) (some 128) rfl rfl (by kernel_rfl) (by kernel_rfl) (by kernel_rfl) (fun _ _ _ h => h) (Or.inl ⟨by rfl, ?zyrqc11⟩) (by assumption) ?zrrqc11
  case zyrqc11 => (intro w hSw; clear hSw; go_simp; try with_reducible rfl)
  try simp only [Act.put, List.setIfInBounds_toArray, List.set_cons_zero, List.set_cons_succ]
  refine takeD (i := 12) (v := ?zvrqc12) (some 129) rfl rfl (by kernel_rfl) (by kernel_rfl) (by kernel_rfl) (fun _ _ _ h => h) (Or.inl ⟨by rfl, ?zyrqc12⟩) (by assumption) ?zrrqc12
  case zyrqc12 => (intro w hSw; clear hSw; go_simp; try with_reducible rfl)
  try simp only [Act.put, List.setIfInBounds_toArray, List.set_cons_zero, List.set_cons_succ]
  refine takeD (i := 13) (v := ?zvrqc13) (some 130) rfl rfl (by kernel_rfl) (by kernel_rfl) (by kernel_rfl) (fun _ _ _ h => h) (Or.inl ⟨by rfl, ?zyrqc13⟩) (by assumption) ?zrrqc13
  case zyrqc13 => (intro w hSw; clear hSw; go_simp; try with_reducible rfl)
  try simp only [Act.put, List.setIfInBounds_toArray, List.set_cons_zero, List.set_cons_succ]
  refine takeD (i := 14) (v := ?zvrqc14) (some 131) rfl rfl (by kernel_rfl) (by kernel_rfl) (by kernel_rfl) (fun _ _ _ h => h) (Or.inl ⟨by rfl, ?zyrqc14⟩) (by assumption) ?zrrqc14
  case zyrqc14 => (intro w hSw; have cL := (C5.out w hSw).2; go_simp; try with_reducible rfl)
  try simp only [Act.put, List.setIfInBounds_toArray, List.set_cons_zero, List.set_cons_succ]
  refine takeD (i := 15) (v := ?zvrqc15) (some 132) rfl rfl (by kernel_rfl) (by kernel_rfl) (by kernel_rfl) (fun _ _ _ h => h) (Or.inl ⟨by rfl, ?zyrqc15⟩) (by assumption) ?zrrqc15
  case zyrqc15 => (intro w hSw; clear hSw; go_simp; try with_reducible rfl)
  try simp only [Act.put, List.setIfInBounds_toArray, List.set_cons_zero, List.set_cons_succ]
  refine takeD (i := 16) (v := ?zvrqc16) (some 133) rfl rfl (by kernel_rfl) (by kernel_rfl) (by kernel_rfl) (fun _ _ _ h => h) (Or.inl ⟨by rfl, ?zyrqc16⟩) (by assumption) ?zrrqc16
  case zyrqc16 => (intro w hSw; have cL := (C5.out w hSw).1; go_simp; try with_reducible rfl)
  try simp only [Act.put, List.setIfInBounds_toArray, List.set_cons_zero, List.set_cons_succ]
  refine takeD (i := 17) (v := ?zvrqc17) (some 134) rfl rfl (by kernel_rfl) (by kernel_rfl) (by kernel_rfl) (fun _ _ _ h => h) (Or.inl ⟨by rfl, ?zyrqc17⟩) (by assumption) ?zrrqc17
  case zyrqc17 => (intro w hSw; clear hSw; go_simp; try with_reducible rfl)
  try simp only [Act.put, List.setIfInBounds_toArray, List.set_cons_zero, List.set_cons_succ]
  refine takeD (i := 18) (v := ?zvrqc18) (some 135) rfl rfl (by kernel_rfl) (by kernel_rfl) (by kernel_rfl) (fun _ _ _ h => h) (Or.inl ⟨by rfl, ?zyrqc18⟩) (by assumption) ?zrrqc18
  case zyrqc18 => (intro w hSw; clear hSw; go_simp; try with_reducible rfl)
  try simp only [Act.put, List.setIfInBounds_toArray, List.set_cons_zero, List.set_cons_succ]
  refine takeD (i := 19) (v := ?zvrqc19) (some 136) rfl rfl (by kernel_rfl) (by kernel_rfl) (by kernel_rfl) (fun _ _ _ h => h) (Or.inl ⟨by rfl, ?zyrqc19⟩) (by assumption) ?zrrqc19
  case zyrqc19 => (intro w hSw; have cL := C14.out w hSw; go_simp; try with_reducible rfl)
  try simp only [Act.put, List.setIfInBounds_toArray, List.set_cons_zero, List.set_cons_succ]
  refine takeD (i := 20) (v := ?zvrqc20) (some 137) rfl rfl (by kernel_rfl) (by kernel_rfl) (by kernel_rfl) (fun _ _ _ h => h) (Or.inl ⟨by rfl, ?zyrqc20⟩) (by assumption) ?zrrqc20
  case zyrqc20 => (intro w hSw; clear hSw; go_simp; try with_reducible rfl)
  try simp only [Act.put, List.setIfInBounds_toArray, List.set_cons_zero, List.set_cons_succ]
  refine takeD (i := 21) (v := ?zvrqc21) (some 138) rfl rfl (by kernel_rfl) (by kernel_rfl) (by kernel_rfl) (fun _ _ _ h => h) (Or.inl ⟨by rfl, ?zyrqc21⟩) (by assumption) ?zrrqc21
  case zyrqc21 => (intro w hSw; have cL := (C5.out w hSw).2; go_simp; try with_reducible rfl)
  try simp only [Act.put, List.setIfInBounds_toArray, List.set_cons_zero, List.set_cons_succ]
  refine takeD (i := 23) (v := ?zvrqc23) (some 140) rfl rfl (by kernel_rfl) (by kernel_rfl) (by kernel_rfl) (fun _ _ _ h => h) (Or.inl ⟨by rfl, ?zyrqc23⟩) (by assumption) ?zrrqc23
  case zyrqc23 => (intro w hSw; have cL := C7.out w hSw; go_simp; try with_reducible rfl)
  try simp only [Act.put, List.setIfInBounds_toArray, List.set_cons_zero, List.set_cons_succ]
  refine takeD (i := 24) (v := ?zvrqc24) (some 141) rfl rfl (by kernel_rfl) (by kernel_rfl) (by kernel_rfl) (fun _ _ _ h => h) (Or.inl ⟨by rfl, ?zyrqc24⟩) (by assumption) ?zrrqc24
  case zyrqc24 => (intro w hSw; clear hSw; go_simp; try with_reducible rfl)
  try simp only [Act.put, List.setIfInBounds_toArray, List.set_cons_zero, List.set_cons_succ]
  refine takeD (i := 25) (v := ?zvrqc25) (some 142) rfl rfl (by kernel_rfl) (by kernel_rfl) (by kernel_rfl) (fun _ _ _ h => h) (Or.inl ⟨by rfl, ?zyrqc25⟩) (by assumption) ?zrrqc25
  case zyrqc25 => (intro w hSw; have cL := (C5.out w hSw).2; go_simp; try with_reducible rfl)
  try simp only [Act.put, List.setIfInBounds_toArray, List.set_cons_zero, List.set_cons_succ]
  refine wpAnyH_ready (rs := [22]) (by kernel_rfl) (by simp) ?_
  refine AllReadyH.cons rfl (fun K hK => ?_) AllReadyH.nil
  go_simp
  refine (HA22.out _ hbc).mono ?_
  rintro e wkc ⟨rfl, hbk⟩
  replace hbc := bt hbc hbk
  clear hbk
  go_wp2_with fail
  refine hK.out _ _ (by first | exact hbc | exact hbc.drew) (fun hHeld2 => ?_)
  clear hK K
  clear hHeld
  have hHeld := hHeld2
  clear hHeld2
  try simp only [Act.put, List.setIfInBounds_toArray, List.set_cons_zero, List.set_cons_succ]
  refine wpAnyH_ready (rs := [26]) (by kernel_rfl) (by simp) ?_
  refine AllReadyH.cons rfl (fun K hK => ?_) AllReadyH.nil
  go_simp
  refine (HA26.out _ hbc).mono ?_
  rintro e wkd ⟨rfl, hbk⟩
  replace hbc := bt hbc hbk
  clear hbk
  go_wp2_with fail
  refine hK.out _ _ (by first | exact hbc | exact hbc.drew) (fun hHeld2 => ?_)
  clear hK K
  clear hHeld
  have hHeld := hHeld2
  clear hHeld2
  try simp only [Act.put, List.setIfInBounds_toArray, List.set_cons_zero, List.set_cons_succ]
  refine takeD (i := 27) (v := ?zvrqc27) (some 144) rfl rfl (by kernel_rfl) (by kernel_rfl) (by kernel_rfl) (fun _ _ _ h => h) (Or.inl ⟨by rfl, ?zyrqc27⟩) (by assumption) ?zrrqc27
  case zyrqc27 => (intro w hSw; clear hSw; go_simp; try with_reducible rfl)
  try simp only [Act.put, List.setIfInBounds_toArray, List.set_cons_zero, List.set_cons_succ]
  refine takeD (i := 28) (v := ?zvrqc28) (some 145) rfl rfl (by kernel_rfl) (by kernel_rfl) (by kernel_rfl) (fun _ _ _ h => h) (Or.inl ⟨by rfl, ?zyrqc28⟩) (by assumption) ?zrrqc28
  case zyrqc28 => (intro w hSw; clear hSw; go_simp; try with_reducible rfl)
  try simp only [Act.put, List.setIfInBounds_toArray, List.set_cons_zero, List.set_cons_succ]
  refine takeD (i := 29) (v := ?zvrqc29) (some 146) rfl rfl (by kernel_rfl) (by kernel_rfl) (by kernel_rfl) (fun _ _ _ h => h) (Or.inl ⟨by rfl, ?zyrqc29⟩) (by assumption) ?zrrqc29
  case zyrqc29 => (intro w hSw; have cL := C15.out w hSw; go_simp; try with_reducible rfl)
  try simp only [Act.put, List.setIfInBounds_toArray, List.set_cons_zero, List.set_cons_succ]
  refine takeD (i := 30) (v := ?zvrqc30) (some 147) rfl rfl (by kernel_rfl) (by kernel_rfl) (by kernel_rfl) (fun _ _ _ h => h) (Or.inl ⟨by rfl, ?zyrqc30⟩) (by assumption) ?zrrqc30
  case zyrqc30 => (intro w hSw; clear hSw; go_simp; try with_reducible rfl)
  try simp only [Act.put, List.setIfInBounds_toArray, List.set_cons_zero, List.set_cons_succ]
  refine takeD (i := 31) (v := ?zvrqc31) (some 148) rfl rfl (by kernel_rfl) (by kernel_rfl) (by kernel_rfl) (fun _ _ _ h => h) (Or.inl ⟨by rfl, ?zyrqc31⟩) (by assumption) ?zrrqc31
  case zyrqc31 => (intro w hSw; have cL := (C5.out w hSw).2; go_simp; try with_reducible rfl)
  try simp only [Act.put, List.setIfInBounds_toArray, List.set_cons_zero, List.set_cons_succ]
  refine takeD (i := 33) (v := ?zvrqc33) (some 150) rfl rfl (by kernel_rfl) (by kernel_rfl) (by kernel_rfl) (fun _ _ _ h => h) (Or.inl ⟨by rfl, ?zyrqc33⟩) (by assumption) ?zrrqc33
  case zyrqc33 => (intro w hSw; have cL := C7.out w hSw; go_simp; try with_reducible rfl)
  try simp only [Act.put, List.setIfInBounds_toArray, List.set_cons_zero, List.set_cons_succ]
  refine takeD (i := 34) (v := ?zvrqc34) (some 151) rfl rfl (by kernel_rfl) (by kernel_rfl) (by kernel_rfl) (fun _ _ _ h => h) (Or.inl ⟨by rfl, ?zyrqc34⟩) (by assumption) ?zrrqc34
  case zyrqc34 => (intro w hSw; clear hSw; go_simp; try with_reducible rfl)
  try simp only [Act.put, List.setIfInBounds_toArray, List.set_cons_zero, List.set_cons_succ]
  refine takeD (i := 35) (v := ?zvrqc35) (some 152) rfl rfl (by kernel_rfl) (by kernel_rfl) (by kernel_rfl) (fun _ _ _ h => h) (Or.inl ⟨by rfl, ?zyrqc35⟩) (by assumption) ?zrrqc35
  case zyrqc35 => (intro w hSw; have cL := (C5.out w hSw).2; go_simp; try with_reducible rfl)
  try simp only [Act.put, List.setIfInBounds_toArray, List.set_cons_zero, List.set_cons_succ]
  refine wpAnyH_ready (rs := [32]) (by kernel_rfl) (by simp) ?_
  refine AllReadyH.cons rfl (fun K hK => ?_) AllReadyH.nil
  go_simp
  refine (HA32.out _ hbc).mono ?_
  rintro e wke ⟨rfl, hbk⟩
  replace hbc := bt hbc hbk
  clear hbk
  go_wp2_with fail
  refine hK.out _ _ (by first | exact hbc | exact hbc.drew) (fun hHeld2 => ?_)
  clear hK K
  clear hHeld
  have hHeld := hHeld2
  clear hHeld2
  try simp only [Act.put, List.setIfInBounds_toArray, List.set_cons_zero, List.set_cons_succ]
  refine wpAnyH_ready (rs := [36]) (by kernel_rfl) (by simp) ?_
  refine AllReadyH.cons rfl (fun K hK => ?_) AllReadyH.nil
  go_simp
  refine (HA26.out _ hbc).mono ?_
  rintro e wkf ⟨rfl, hbk⟩
  replace hbc := bt hbc hbk
  clear hbk
  go_wp2_with fail
  refine hK.out _ _ (by first | exact hbc | exact hbc.drew) (fun hHeld2 => ?_)
  clear hK K
  clear hHeld
  have hHeld := hHeld2
  clear hHeld2
  try simp only [Act.put, List.setIfInBounds_toArray, List.set_cons_zero, List.set_cons_succ]
  refine takeD (i := 37) (v := ?zvrqc37) (some 154) rfl rfl (by kernel_rfl) (by kernel_rfl) (by kernel_rfl) (fun _ _ _ h => h) (Or.inl ⟨by rfl, ?zyrqc37⟩) (by assumption) ?zrrqc37
  case zyrqc37 => (intro w hSw; clear hSw; go_simp; try with_reducible rfl)
  try simp only [Act.put, List.setIfInBounds_toArray, List.set_cons_zero, List.set_cons_succ]
  refine takeD (i := 38) (v := ?zvrqc38) (some 155) rfl rfl (by kernel_rfl) (by kernel_rfl) (by kernel_rfl) (fun _ _ _ h => h) (Or.inl ⟨by rfl, ?zyrqc38⟩) (by assumption) ?zrrqc38
  case zyrqc38 => (intro w hSw; clear hSw; go_simp; try with_reducible rfl)
  try simp only [Act.put, List.setIfInBounds_toArray, List.set_cons_zero, List.set_cons_succ]
  refine takeD (i := 39) (v := ?zvrqc39) (some 156) rfl rfl (by kernel_rfl) (by kernel_rfl) (by kernel_rfl) (fun _ _ _ h => h) (Or.inl ⟨by rfl, ?zyrqc39⟩) (by assumption) ?zrrqc39
  case zyrqc39 => (intro w hSw; clear hSw; go_simp; try with_reducible rfl)
  try simp only [Act.put, List.setIfInBounds_toArray, List.set_cons_zero, List.set_cons_succ]
  refine takeD (i := 40) (v := ?zvrqc40) (some 157) rfl rfl (by kernel_rfl) (by kernel_rfl) (by kernel_rfl) (fun _ _ _ h => h) (Or.inl ⟨by rfl, ?zyrqc40⟩) (by assumption) ?zrrqc40
  case zyrqc40 => (intro w hSw; clear hSw; go_simp; try with_reducible rfl)
  try simp only [Act.put, List.setIfInBounds_toArray, List.set_cons_zero, List.set_cons_succ]
  refine takeD (i := 41) (v := ?zvrqc41) (some 158) rfl rfl (by kernel_rfl) (by kernel_rfl) (by kernel_rfl) (fun _ _ _ h => h) (Or.inl ⟨by rfl, ?zyrqc41⟩) (by assumption) ?zrrqc41
  case zyrqc41 => (intro w hSw; clear hSw; go_simp; try with_reducible rfl)
  try simp only [Act.put, List.setIfInBounds_toArray, List.set_cons_zero, List.set_cons_succ]
  refine takeD (i := 42) (v := ?zvrqc42) (some 159) rfl rfl (by kernel_rfl) (by kernel_rfl) (by kernel_rfl) (fun _ _ _ h => h) (Or.inl ⟨by rfl, ?zyrqc42⟩) (by assumption) ?zrrqc42
  case zyrqc42 => (intro w hSw; have cL := C14.out w hSw; go_simp; try with_reducible rfl)
  try simp only [Act.put, List.setIfInBounds_toArray, List.set_cons_zero, List.set_cons_succ]
  refine takeD (i := 43) (v := ?zvrqc43) (some 160) rfl rfl (by kernel_rfl) (by kernel_rfl) (by kernel_rfl) (fun _ _ _ h => h) (Or.inl ⟨by rfl, ?zyrqc43⟩) (by assumption) ?zrrqc43
  case zyrqc43 => (intro w hSw; clear hSw; go_simp; try with_reducible rfl)
  try simp only [Act.put, List.setIfInBounds_toArray, List.set_cons_zero, List.set_cons_succ]
  refine takeD (i := 44) (v := ?zvrqc44) (some 161) rfl rfl (by kernel_rfl) (by kernel_rfl) (by kernel_rfl) (fun _ _ _ h => h) (Or.inl ⟨by rfl, ?zyrqc44⟩) (by assumption) ?zrrqc44
  case zyrqc44 => (intro w hSw; have cL := (C5.out w hSw).1; go_simp; try with_reducible rfl)
  try simp only [Act.put, List.setIfInBounds_toArray, List.set_cons_zero, List.set_cons_succ]
  refine takeD (i := 47) (v := ?zvrqc47) (some 164) rfl rfl (by kernel_rfl) (by kernel_rfl) (by kernel_rfl) (fun _ _ _ h => h) (Or.inl ⟨by rfl, ?zyrqc47⟩) (by assumption) ?zrrqc47
  case zyrqc47 => (intro w hSw; have cL := C15.out w hSw; go_simp; try with_reducible rfl)
  try simp only [Act.put, List.setIfInBounds_toArray, List.set_cons_zero, List.set_cons_succ]
  refine wpAnyH_ready (rs := [45]) (by kernel_rfl) (by simp) ?_
  refine AllReadyH.cons rfl (fun K hK => ?_) AllReadyH.nil
  go_simp
  refine (HA45.out _ hbc).mono ?_
  rintro e wkg ⟨vg, rfl, hsg, hbk⟩
  replace hbc := bt hbc hbk
  clear hbk
  go_wp2_with fail
  refine hK.out _ _ (by first | exact hbc | exact hbc.drew) (fun hHeld2 => ?_)
  clear hK K
  clear hHeld
  have hHeld := hHeld2
  clear hHeld2
  try simp only [Act.put, List.setIfInBounds_toArray, List.set_cons_zero, List.set_cons_succ]
  refine wpAnyH_ready (rs := [46]) (by kernel_rfl) (by simp) ?_
  refine AllReadyH.cons rfl (fun K hK => ?_) AllReadyH.nil
  go_simp
  refine (key_any _ _ _ hsg).mono ?_
  rintro e wkh ⟨skh, rfl, hkh, hbk⟩
  replace hbc := bt hbc hbk
  clear hbk hsg
  go_wp2_with fail
  refine hK.out _ _ (by first | exact hbc | exact hbc.drew) (fun hHeld2 => ?_)
  clear hK K
  clear hHeld
  have hHeld := hHeld2
  clear hHeld2
  try simp only [Act.put, List.setIfInBounds_toArray, List.set_cons_zero, List.set_cons_succ]
  refine wpAnyH_ready (rs := [48]) (by kernel_rfl) (by simp) ?_
  refine AllReadyH.cons rfl (fun K hK => ?_) AllReadyH.nil
  go_simp
  refine (key_any _ _ _ (HS15.out _ hbc)).mono ?_
  rintro e wki ⟨ski, rfl, hki, hbk⟩
  replace hbc := bt hbc hbk
  obtain rfl := hkh.unique hki
  clear hbk hkh hki
  go_wp2_with fail
  refine hK.out _ _ (by first | exact hbc | exact hbc.drew) (fun hHeld2 => ?_)
  clear hK K
  clear hHeld
  have hHeld := hHeld2
  clear hHeld2
  try simp only [Act.put, List.setIfInBounds_toArray, List.set_cons_zero, List.set_cons_succ]
  refine takeD (i := 49) (v := ?zvrqc49) (some 166) rfl rfl (by kernel_rfl) (by kernel_rfl) (by kernel_rfl) (fun _ _ _ h => h) (Or.inl ⟨by rfl, ?zyrqc49⟩) (by assumption) ?zrrqc49
  case zyrqc49 => (intro w hSw; clear hSw; go_simp; try with_reducible rfl)
  try simp only [Act.put, List.setIfInBounds_toArray, List.set_cons_zero, List.set_cons_succ]
  refine takeD (i := 50) (v := ?zvrqc50) (some 167) rfl rfl (by kernel_rfl) (by kernel_rfl) (by kernel_rfl) (fun _ _ _ h => h) (Or.inl ⟨by rfl, ?zyrqc50⟩) (by assumption) ?zrrqc50
  case zyrqc50 => (intro w hSw; clear hSw; go_simp; try with_reducible rfl)
  try simp only [Act.put, List.setIfInBounds_toArray, List.set_cons_zero, List.set_cons_succ]
  refine takeD (i := 51) (v := ?zvrqc51) (some 168) rfl rfl (by kernel_rfl) (by kernel_rfl) (by kernel_rfl) (fun _ _ _ h => h) (Or.inl ⟨by rfl, ?zyrqc51⟩) (by assumption) ?zrrqc51
  case zyrqc51 => (intro w hSw; clear hSw; go_simp; try with_reducible rfl)
  try simp only [Act.put, List.setIfInBounds_toArray, List.set_cons_zero, List.set_cons_succ]
  refine takeD (i := 52) (v := ?zvrqc52) (some 169) rfl rfl (by kernel_rfl) (by kernel_rfl) (by kernel_rfl) (fun _ _ _ h => h) (Or.inl ⟨by rfl, ?zyrqc52⟩) (by assumption) ?zrrqc52
  case zyrqc52 => (intro w hSw; have cL := C7.out w hSw; go_simp; try with_reducible rfl)
  try simp only [Act.put, List.setIfInBounds_toArray, List.set_cons_zero, List.set_cons_succ]
  refine takeD (i := 53) (v := ?zvrqc53) (some 170) rfl rfl (by kernel_rfl) (by kernel_rfl) (by kernel_rfl) (fun _ _ _ h => h) (Or.inl ⟨by rfl, ?zyrqc53⟩) (by assumption) ?zrrqc53
  case zyrqc53 => (intro w hSw; clear hSw; go_simp; try with_reducible rfl)
  try simp only [Act.put, List.setIfInBounds_toArray, List.set_cons_zero, List.set_cons_succ]
  refine takeD (i := 54) (v := ?zvrqc54) (some 171) rfl rfl (by kernel_rfl) (by kernel_rfl) (by kernel_rfl) (fun _ _ _ h => h) (Or.inl ⟨by rfl, ?zyrqc54⟩) (by assumption) ?zrrqc54
  case zyrqc54 => (intro w hSw; have cL := (C5.out w hSw).1; go_simp; try with_reducible rfl)
  try simp only [Act.put, List.setIfInBounds_toArray, List.set_cons_zero, List.set_cons_succ]
  refine wpAnyH_ready (rs := [55]) (by kernel_rfl) (by simp) ?_
  refine AllReadyH.cons rfl (fun K hK => ?_) AllReadyH.nil
  go_simp
  refine (HA55.out _ hbc).mono ?_
  rintro e wkj ⟨rfl, hbk⟩
  replace hbc := bt hbc hbk
  clear hbk
  go_wp2_with fail
  refine hK.out _ _ (by first | exact hbc | exact hbc.drew) (fun hHeld2 => ?_)
  clear hK K
  clear hHeld
  have hHeld := hHeld2
  clear hHeld2
  try simp only [Act.put, List.setIfInBounds_toArray, List.set_cons_zero, List.set_cons_succ]
  refine takeD (i := 56) (v := ?zvrqc56) (some 173) rfl rfl (by kernel_rfl) (by kernel_rfl) (by kernel_rfl) (fun _ _ _ h => h) (Or.inl ⟨by rfl, ?zyrqc56⟩) (by assumption) ?zrrqc56
  case zyrqc56 => (intro w hSw; clear hSw; go_simp; try with_reducible rfl)
  try simp only [Act.put, List.setIfInBounds_toArray, List.set_cons_zero, List.set_cons_succ]
  refine takeD (i := 57) (v := undef) (some 174) rfl rfl (by kernel_rfl) (by kernel_rfl) (by kernel_rfl) (fun _ _ _ h => h) (Or.inr ⟨by first | kernel_rfl | rfl, rfl⟩) (by assumption) ?zrrqc57
  try simp only [Act.put, List.setIfInBounds_toArray, List.set_cons_zero, List.set_cons_succ]
  refine takeD (i := 58) (v := undef) (some 175) rfl rfl (by kernel_rfl) (by kernel_rfl) (by kernel_rfl) (fun _ _ _ h => h) (Or.inr ⟨by first | kernel_rfl | rfl, rfl⟩) (by assumption) ?zrrqc58
  try simp only [Act.put, List.setIfInBounds_toArray, List.set_cons_zero, List.set_cons_succ]
  refine takeD (i := 59) (v := undef) (some 176) rfl rfl (by kernel_rfl) (by kernel_rfl) (by kernel_rfl) (fun _ _ _ h => h) (Or.inr ⟨by first | kernel_rfl | rfl, rfl⟩) (by assumption) ?zrrqc59
  try simp only [Act.put, List.setIfInBounds_toArray, List.set_cons_zero, List.set_cons_succ]
  refine takeD (i := 60) (v := undef) (some 177) rfl rfl (by kernel_rfl) (by kernel_rfl) (by kernel_rfl) (fun _ _ _ h => h) (Or.inr ⟨by first | kernel_rfl | rfl, rfl⟩) (by assumption) ?zrrqc60
  try simp only [Act.put, List.setIfInBounds_toArray, List.set_cons_zero, List.set_cons_succ]
  refine takeD (i := 61) (v := undef) (some 178) rfl rfl (by kernel_rfl) (by kernel_rfl) (by kernel_rfl) (fun _ _ _ h => h) (Or.inr ⟨by first | kernel_rfl | rfl, rfl⟩) (by assumption) ?zrrqc61
  try simp only [Act.put, List.setIfInBounds_toArray, List.set_cons_zero, List.set_cons_succ]
  refine takeD (i := 62) (v := ?zvrqc62) (some 179) rfl rfl (by kernel_rfl) (by kernel_rfl) (by kernel_rfl) (fun _ _ _ h => h) (Or.inl ⟨by rfl, ?zyrqc62⟩) (by assumption) ?zrrqc62
  case zyrqc62 => (intro w hSw; clear hSw; go_simp; try with_reducible rfl)
  try simp only [Act.put, List.setIfInBounds_toArray, List.set_cons_zero, List.set_cons_succ]
  refine takeD (i := 63) (v := ?zvrqc63) (some 180) rfl rfl (by kernel_rfl) (by kernel_rfl) (by kernel_rfl) (fun _ _ _ h => h) (Or.inl ⟨by rfl, ?zyrqc63⟩) (by assumption) ?zrrqc63
  case zyrqc63 => (intro w hSw; clear hSw; go_simp; try with_reducible rfl)
  try simp only [Act.put, List.setIfInBounds_toArray, List.set_cons_zero, List.set_cons_succ]
  refine wpAnyH_done (by kernel_rfl) ?_ _
  exact ⟨hbc, _, _, _, _, _, _, _, _, _, _, _, _, _, _, _, _, _, _, _, _, _, _, _, _, _, _, _, _, _, _, _, _, _, _, _, _, _, _, _, _, _, _, _, _, _, _, _, _, _, _, _, _, _, _, _, _, _, _, _, _, _, _, _, rfl⟩
end Go.Proofs.Ytfjccgihdnemkaa
