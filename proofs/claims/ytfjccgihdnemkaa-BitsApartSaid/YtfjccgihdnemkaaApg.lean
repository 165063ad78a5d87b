/- BitsApart: its region 16, walked by itself. Printed by gen_apr.py. -/
import Derived.Test.YtfjccgihdnemkaaApr
import Derived.Test.YtfjccgihdnemkaaTake
import Derived.Deep.RegionHeld3
namespace Go.Proofs.Ytfjccgihdnemkaa
open Go.RowKit Go.Um
set_option linter.unusedSimpArgs false
set_option linter.unusedVariables false
set_option maxHeartbeats 8000000
set_option maxRecDepth 100000
theorem r16 {u0 u1 u2 u3 u4 u6 u8 u9 u10 u11 u12 u13 u14 u15 u16 u17 u18 u19 u20 u21 u22 u23 u24 u25 u26 u27 u28 u29 u30 u31 u32 u33 u34 u35 u36 u37 u38 u39 u40 u41 u42 u43 u44 u45 u46 u47 u48 u49 u50 u51 u52 u53 u54 u55 u56 u57 u58 u59 u60 u61 u62 u63 u64 u65 u66 u67 u68 u69 u70 u71 u72 u73 u74 u75 u76 u77 u78 u79 u80 u81 u82 u83 u84 u85 u86 u87 u88 u89 u90 u91 u92 u93 u94 u95 u96 u97 u98 u99 u100 u101 u102 u103 u104 u105 u106 u107 u108 u109 u110 u111 u112 u113 u114 u115 u116 u117 u118 u119 u120 u121 u122 u123 u124 u125 u126 u127 u128 u129 u130 u131 u132 u133 u134 u135 u136 u137 u138 u139 u140 u141 u142 u143 u144 u145 u146 u147 u148 u149 u150 u151 u152 u153 u154 u155 u156 u157 u158 u159 u160 u161 u162 u163 u164 u165 u166 u167 u168 u169 u170 u171 u172 u173 u174 u175 u176 u177 u178 u179 u180 u181 u182 u183 u184 u185 u186 u187 u188 u189 u190 u191 u192 u193 u194 u195 u196 u197 u198 u199 u200 u201 u202 u203 u204 u205 u206 u207 u208 u209 u210 u211 u212 u213 u214 u215 u216 u217 u218 u219 u220 u221 u222 u223 u224 u225 u226 u227 u228 u229 u230 u231 u232 u233 : Value} {W1 : World} {B5 p7 m1 cap1 N : Nat} {ao1 : Option Addr} {x0 x1 : Int} (ops : Array Oper) (hops : Try.f6.body.map (subC [1, 1, 1, 1, 1, 1, 1, 0]) = some (.region 16 ops true)) (C5 : Hid (∀ W, Below W1.heap.size W1 W → W.cell? ⟨B5, 0, none⟩ = some (.int .i64 x0) ∧ W.cell? ⟨B5, 1, none⟩ = some (.int .i64 x1))) (C7 : Hid (∀ W, Below W1.heap.size W1 W → W.cell? ⟨p7, 0, none⟩ = some (.slice ao1 m1 cap1))) (HS7 : Hid (∀ W, Below W1.heap.size W1 W → SetAt W (.agg #[.slice ao1 m1 cap1]) N)) :
    (Code.region 16 ops true).wp Try.prog (fun e a W => match e with | .normal => ∃ c14 c15 : Nat, ApCut W1 N x0 c14 c15 W ∧ ∃ v101 v102 v103 v104 v105 v106 v107 v108 : Value, a = { tmps := #[u0, u1, u2, u3, u4, .pointer (some ⟨B5, 0, none⟩), u6, .pointer (some ⟨p7, 0, none⟩), u8, u9, u10, u11, u12, u13, .pointer (some ⟨c14, 0, none⟩), .pointer (some ⟨c15, 0, none⟩), u16, u17, u18, u19, u20, u21, u22, u23, u24, u25, u26, u27, u28, u29, u30, u31, u32, u33, u34, u35, u36, u37, u38, u39, u40, u41, u42, u43, u44, u45, u46, u47, u48, u49, u50, u51, u52, u53, u54, u55, u56, u57, u58, u59, u60, u61, u62, u63, u64, u65, u66, u67, u68, u69, u70, u71, u72, u73, u74, u75, u76, u77, u78, u79, u80, u81, u82, u83, u84, u85, u86, u87, u88, u89, u90, u91, u92, u93, u94, u95, u96, u97, u98, u99, u100, v101, v102, v103, v104, v105, v106, v107, v108, u109, u110, u111, u112, u113, u114, u115, u116, u117, u118, u119, u120, u121, u122, u123, u124, u125, u126, u127, u128, u129, u130, u131, u132, u133, u134, u135, u136, u137, u138, u139, u140, u141, u142, u143, u144, u145, u146, u147, u148, u149, u150, u151, u152, u153, u154, u155, u156, u157, u158, u159, u160, u161, u162, u163, u164, u165, u166, u167, u168, u169, u170, u171, u172, u173, u174, u175, u176, u177, u178, u179, u180, u181, u182, u183, u184, u185, u186, u187, u188, u189, u190, u191, u192, u193, u194, u195, u196, u197, u198, u199, u200, u201, u202, u203, u204, u205, u206, u207, u208, u209, u210, u211, u212, u213, u214, u215, u216, u217, u218, u219, u220, u221, u222, u223, u224, u225, u226, u227, u228, u229, u230, u231, u232, u233], defers := [] } | _ => False) { tmps := #[u0, u1, u2, u3, u4, .pointer (some ⟨B5, 0, none⟩), u6, .pointer (some ⟨p7, 0, none⟩), u8, u9, u10, u11, u12, u13, u14, u15, u16, u17, u18, u19, u20, u21, u22, u23, u24, u25, u26, u27, u28, u29, u30, u31, u32, u33, u34, u35, u36, u37, u38, u39, u40, u41, u42, u43, u44, u45, u46, u47, u48, u49, u50, u51, u52, u53, u54, u55, u56, u57, u58, u59, u60, u61, u62, u63, u64, u65, u66, u67, u68, u69, u70, u71, u72, u73, u74, u75, u76, u77, u78, u79, u80, u81, u82, u83, u84, u85, u86, u87, u88, u89, u90, u91, u92, u93, u94, u95, u96, u97, u98, u99, u100, u101, u102, u103, u104, u105, u106, u107, u108, u109, u110, u111, u112, u113, u114, u115, u116, u117, u118, u119, u120, u121, u122, u123, u124, u125, u126, u127, u128, u129, u130, u131, u132, u133, u134, u135, u136, u137, u138, u139, u140, u141, u142, u143, u144, u145, u146, u147, u148, u149, u150, u151, u152, u153, u154, u155, u156, u157, u158, u159, u160, u161, u162, u163, u164, u165, u166, u167, u168, u169, u170, u171, u172, u173, u174, u175, u176, u177, u178, u179, u180, u181, u182, u183, u184, u185, u186, u187, u188, u189, u190, u191, u192, u193, u194, u195, u196, u197, u198, u199, u200, u201, u202, u203, u204, u205, u206, u207, u208, u209, u210, u211, u212, u213, u214, u215, u216, u217, u218, u219, u220, u221, u222, u223, u224, u225, u226, u227, u228, u229, u230, u231, u232, u233], defers := [] } W1 := by
  simp [Try.f6, subC] at hops
  subst hops
  have hbc := bz W1
  refine wp_region_held_drew (S := (fun W => Below W1.heap.size W1 W)) (by kernel_rfl) hbc.drew (fun hHeld => ?_)
  replace hbc := hbc.drew
  refine takeD (i := 0) (v := ?zvt160) (some 101) rfl rfl (by kernel_rfl) (by kernel_rfl) (by kernel_rfl) (fun _ _ _ h => h) (Or.inl ⟨by rfl, ?zyt160⟩) (by assumption) ?zrt160
  case zyt160 => (intro w hSw; have cL := C7.out w hSw; go_simp; try with_reducible rfl)
  try simp only [Act.put, List.setIfInBounds_toArray, List.set_cons_zero, List.set_cons_succ]
  refine takeD (i := 1) (v := ?zvt161) (some 102) rfl rfl (by kernel_rfl) (by kernel_rfl) (by kernel_rfl) (fun _ _ _ h => h) (Or.inl ⟨by rfl, ?zyt161⟩) (by assumption) ?zrt161
  case zyt161 => (intro w hSw; clear hSw; go_simp; try with_reducible rfl)
  try simp only [Act.put, List.setIfInBounds_toArray, List.set_cons_zero, List.set_cons_succ]
  refine takeD (i := 2) (v := ?zvt162) (some 103) rfl rfl (by kernel_rfl) (by kernel_rfl) (by kernel_rfl) (fun _ _ _ h => h) (Or.inl ⟨by rfl, ?zyt162⟩) (by assumption) ?zrt162
  case zyt162 => (intro w hSw; have cL := (C5.out w hSw).1; go_simp; try with_reducible rfl)
  try simp only [Act.put, List.setIfInBounds_toArray, List.set_cons_zero, List.set_cons_succ]
  refine takeD (i := 4) (v := ?zvt164) (some 105) rfl rfl (by kernel_rfl) (by kernel_rfl) (by kernel_rfl) (fun _ _ _ h => h) (Or.inl ⟨by rfl, ?zyt164⟩) (by assumption) ?zrt164
  case zyt164 => (intro w hSw; have cL := C7.out w hSw; go_simp; try with_reducible rfl)
  try simp only [Act.put, List.setIfInBounds_toArray, List.set_cons_zero, List.set_cons_succ]
  refine takeD (i := 5) (v := ?zvt165) (some 106) rfl rfl (by kernel_rfl) (by kernel_rfl) (by kernel_rfl) (fun _ _ _ h => h) (Or.inl ⟨by rfl, ?zyt165⟩) (by assumption) ?zrt165
  case zyt165 => (intro w hSw; clear hSw; go_simp; try with_reducible rfl)
  try simp only [Act.put, List.setIfInBounds_toArray, List.set_cons_zero, List.set_cons_succ]
  refine takeD (i := 6) (v := ?zvt166) (some 107) rfl rfl (by kernel_rfl) (by kernel_rfl) (by kernel_rfl) (fun _ _ _ h => h) (Or.inl ⟨by rfl, ?zyt166⟩) (by assumption) ?zrt166
  case zyt166 => (intro w hSw; have cL := (C5.out w hSw).1; go_simp; try with_reducible rfl)
  try simp only [Act.put, List.setIfInBounds_toArray, List.set_cons_zero, List.set_cons_succ]
  generalize World.drew _ = V0 at *
  refine wpAnyH_ready (rs := [3, 8, 9]) (by kernel_rfl) (by simp) ?_
  refine AllReadyH.cons rfl (fun K hK => ?t1n3) (AllReadyH.cons rfl (fun K hK => ?t1n8) (AllReadyH.cons rfl (fun K hK => ?t1n9) AllReadyH.nil))
  case t1n3 =>
    go_simp
    refine (with_any _ _ x0 V0 (HS7.out _ hbc)).mono ?_
    rintro e V1 ⟨v14, rfl, hset14, hb⟩
    obtain ⟨m14, ao14, cap14, b14, o14, rfl, _⟩ := id hset14
    replace hbc := bt hbc hb
    clear hb
    go_wp2_with fail
    refine hK.out _ _ hbc (fun hHeld2 => ?_)
    clear hK K
    clear hHeld
    have hHeld := hHeld2
    clear hHeld2
    try simp only [Act.put, List.setIfInBounds_toArray, List.set_cons_zero, List.set_cons_succ]
    refine wpAnyH_ready (rs := [7, 8, 9]) (by kernel_rfl) (by simp) ?_
    refine AllReadyH.cons rfl (fun K hK => ?t2n7) (AllReadyH.cons rfl (fun K hK => ?t2n8) (AllReadyH.cons rfl (fun K hK => ?t2n9) AllReadyH.nil))
    case t2n7 =>
      go_simp
      refine (without_any _ _ x0 V1 (HS7.out _ hbc)).mono ?_
      rintro e V2 ⟨v15, rfl, hset15, hb⟩
      obtain ⟨m15, ao15, cap15, b15, o15, rfl, _⟩ := id hset15
      replace hbc := bt hbc hb
      replace hset14 := hset14.below hb
      clear hb
      go_wp2_with fail
      refine hK.out _ _ hbc (fun hHeld2 => ?_)
      clear hK K
      clear hHeld
      have hHeld := hHeld2
      clear hHeld2
      try simp only [Act.put, List.setIfInBounds_toArray, List.set_cons_zero, List.set_cons_succ]
      refine wpAnyH_ready (rs := [8, 9]) (by kernel_rfl) (by simp) ?_
      refine AllReadyH.cons rfl (fun K hK => ?t3n8) (AllReadyH.cons rfl (fun K hK => ?t3n9) AllReadyH.nil)
      case t3n8 =>
        go_simp
        obtain ⟨c14, hc14⟩ : ∃ c, c = V2.heap.size := ⟨_, rfl⟩
        have hge14 : W1.heap.size ≤ c14 := by rw [hc14]; exact hbc.size
        refine hK.out _ _ (hbc.alloc hbc.size _) (fun hHeld2 => ?_)
        clear hK K
        clear hHeld
        have hHeld := hHeld2
        clear hHeld2
        try simp only [Act.put, List.setIfInBounds_toArray, List.set_cons_zero, List.set_cons_succ]
        have x14 : (V2.alloc (.cells #[Value.slice none 0 0] 27)).cell? ⟨c14, 0, none⟩ = some (.slice none 0 0) := by rw [hc14]; exact (cell_new_l V2 _ 27).1
        have f14 : (V2.alloc (.cells #[Value.slice none 0 0] 27)).frozen? ⟨c14, 0, none⟩ = false := by rw [hc14]; exact (cell_new_l V2 (.slice none 0 0) 27).2
        replace hset14 := hset14.below (ba (bz _) (.cells #[Value.slice none 0 0] 27))
        replace hset15 := hset15.below (ba (bz _) (.cells #[Value.slice none 0 0] 27))
        replace hbc := hbc.alloc hbc.size (.cells #[Value.slice none 0 0] 27)
        rw [← hc14]
        generalize (V2.alloc (.cells #[Value.slice none 0 0] 27)) = V3 at *
        clear hc14
        refine wpAnyH_ready (rs := [9]) (by kernel_rfl) (by simp) ?_
        refine AllReadyH.cons rfl (fun K hK => ?_) AllReadyH.nil
        go_simp
        obtain ⟨c15, hc15⟩ : ∃ c, c = V3.heap.size := ⟨_, rfl⟩
        have hge15 : W1.heap.size ≤ c15 := by rw [hc15]; exact hbc.size
        refine hK.out _ _ (hbc.alloc hbc.size _) (fun hHeld2 => ?_)
        clear hK K
        clear hHeld
        have hHeld := hHeld2
        clear hHeld2
        try simp only [Act.put, List.setIfInBounds_toArray, List.set_cons_zero, List.set_cons_succ]
        have x15 : (V3.alloc (.cells #[Value.slice none 0 0] 27)).cell? ⟨c15, 0, none⟩ = some (.slice none 0 0) := by rw [hc15]; exact (cell_new_l V3 _ 27).1
        have f15 : (V3.alloc (.cells #[Value.slice none 0 0] 27)).frozen? ⟨c15, 0, none⟩ = false := by rw [hc15]; exact (cell_new_l V3 (.slice none 0 0) 27).2
        have hne : ¬ c14 = c15 := by have h1 := World.block_lt_of_cell? _ _ x14; simp only at h1; omega
        replace f14 := frozen_alloc_l (.cells #[Value.slice none 0 0] 27) x14 f14
        replace x14 := cell_alloc_l (.cells #[Value.slice none 0 0] 27) x14
        replace hset14 := hset14.below (ba (bz _) (.cells #[Value.slice none 0 0] 27))
        replace hset15 := hset15.below (ba (bz _) (.cells #[Value.slice none 0 0] 27))
        replace hbc := hbc.alloc hbc.size (.cells #[Value.slice none 0 0] 27)
        rw [← hc15]
        generalize (V3.alloc (.cells #[Value.slice none 0 0] 27)) = V4 at *
        clear hc15
        refine wpAnyH_ready (rs := [10]) (by kernel_rfl) (by simp) ?_
        refine AllReadyH.cons rfl (fun K hK => ?_) AllReadyH.nil
        go_simp
        refine hK.out _ _ (hbc.setCell (p := ⟨c14, 0, none⟩) hge14 _) (fun hHeld2 => ?_)
        clear hK K
        clear hHeld
        have hHeld := hHeld2
        clear hHeld2
        try simp only [Act.put, List.setIfInBounds_toArray, List.set_cons_zero, List.set_cons_succ]
        have y14 : (V4.setCell ⟨c14, 0, none⟩ (.slice ao14 m14 cap14)).cell? ⟨c14, 0, none⟩ = some (.slice ao14 m14 cap14) := World.cell?_setCell_same' _ _ _ (by rw [x14]; rfl)
        replace hset14 := set_other hset14 x14 (fun _ => by simp) (.slice ao14 m14 cap14)
        replace hset15 := set_other hset15 x14 (fun _ => by simp) (.slice ao14 m14 cap14)
        replace x15 := cset (p := ⟨c14, 0, none⟩) (u := .slice ao14 m14 cap14) (fun e => hne e.symm) x15
        replace f15 : (V4.setCell ⟨c14, 0, none⟩ (.slice ao14 m14 cap14)).frozen? ⟨c15, 0, none⟩ = false := by rw [World.frozen?_setCell]; exact f15
        replace hbc := hbc.setCell (p := ⟨c14, 0, none⟩) hge14 (.slice ao14 m14 cap14)
        clear x14 f14
        generalize (V4.setCell ⟨c14, 0, none⟩ (.slice ao14 m14 cap14)) = V5 at *
        refine wpAnyH_ready (rs := [11]) (by kernel_rfl) (by simp) ?_
        refine AllReadyH.cons rfl (fun K hK => ?_) AllReadyH.nil
        go_simp
        refine hK.out _ _ (hbc.setCell (p := ⟨c15, 0, none⟩) hge15 _) (fun hHeld2 => ?_)
        clear hK K
        refine wpAnyH_done (by kernel_rfl) ?_ _
        exact ⟨c14, c15, ⟨hbc.setCell (p := ⟨c15, 0, none⟩) hge15 _, ⟨_, cset (p := ⟨c15, 0, none⟩) hne y14, set_other hset14 x15 (fun _ => by simp) _⟩, ⟨_, World.cell?_setCell_same' _ _ _ (by rw [x15]; rfl), set_other hset15 x15 (fun _ => by simp) _⟩⟩, _, _, _, _, _, _, _, _, rfl⟩
      case t3n9 =>
        go_simp
        obtain ⟨c15, hc15⟩ : ∃ c, c = V2.heap.size := ⟨_, rfl⟩
        have hge15 : W1.heap.size ≤ c15 := by rw [hc15]; exact hbc.size
        refine hK.out _ _ (hbc.alloc hbc.size _) (fun hHeld2 => ?_)
        clear hK K
        clear hHeld
        have hHeld := hHeld2
        clear hHeld2
        try simp only [Act.put, List.setIfInBounds_toArray, List.set_cons_zero, List.set_cons_succ]
        have x15 : (V2.alloc (.cells #[Value.slice none 0 0] 27)).cell? ⟨c15, 0, none⟩ = some (.slice none 0 0) := by rw [hc15]; exact (cell_new_l V2 _ 27).1
        have f15 : (V2.alloc (.cells #[Value.slice none 0 0] 27)).frozen? ⟨c15, 0, none⟩ = false := by rw [hc15]; exact (cell_new_l V2 (.slice none 0 0) 27).2
        replace hset14 := hset14.below (ba (bz _) (.cells #[Value.slice none 0 0] 27))
        replace hset15 := hset15.below (ba (bz _) (.cells #[Value.slice none 0 0] 27))
        replace hbc := hbc.alloc hbc.size (.cells #[Value.slice none 0 0] 27)
        rw [← hc15]
        generalize (V2.alloc (.cells #[Value.slice none 0 0] 27)) = V3 at *
        clear hc15
        refine wpAnyH_ready (rs := [8]) (by kernel_rfl) (by simp) ?_
        refine AllReadyH.cons rfl (fun K hK => ?_) AllReadyH.nil
        go_simp
        obtain ⟨c14, hc14⟩ : ∃ c, c = V3.heap.size := ⟨_, rfl⟩
        have hge14 : W1.heap.size ≤ c14 := by rw [hc14]; exact hbc.size
        refine hK.out _ _ (hbc.alloc hbc.size _) (fun hHeld2 => ?_)
        clear hK K
        clear hHeld
        have hHeld := hHeld2
        clear hHeld2
        try simp only [Act.put, List.setIfInBounds_toArray, List.set_cons_zero, List.set_cons_succ]
        have x14 : (V3.alloc (.cells #[Value.slice none 0 0] 27)).cell? ⟨c14, 0, none⟩ = some (.slice none 0 0) := by rw [hc14]; exact (cell_new_l V3 _ 27).1
        have f14 : (V3.alloc (.cells #[Value.slice none 0 0] 27)).frozen? ⟨c14, 0, none⟩ = false := by rw [hc14]; exact (cell_new_l V3 (.slice none 0 0) 27).2
        have hne : ¬ c14 = c15 := by have h1 := World.block_lt_of_cell? _ _ x15; simp only at h1; omega
        replace f15 := frozen_alloc_l (.cells #[Value.slice none 0 0] 27) x15 f15
        replace x15 := cell_alloc_l (.cells #[Value.slice none 0 0] 27) x15
        replace hset14 := hset14.below (ba (bz _) (.cells #[Value.slice none 0 0] 27))
        replace hset15 := hset15.below (ba (bz _) (.cells #[Value.slice none 0 0] 27))
        replace hbc := hbc.alloc hbc.size (.cells #[Value.slice none 0 0] 27)
        rw [← hc14]
        generalize (V3.alloc (.cells #[Value.slice none 0 0] 27)) = V4 at *
        clear hc14
        refine wpAnyH_ready (rs := [10]) (by kernel_rfl) (by simp) ?_
        refine AllReadyH.cons rfl (fun K hK => ?_) AllReadyH.nil
        go_simp
        refine hK.out _ _ (hbc.setCell (p := ⟨c14, 0, none⟩) hge14 _) (fun hHeld2 => ?_)
        clear hK K
        clear hHeld
        have hHeld := hHeld2
        clear hHeld2
        try simp only [Act.put, List.setIfInBounds_toArray, List.set_cons_zero, List.set_cons_succ]
        have y14 : (V4.setCell ⟨c14, 0, none⟩ (.slice ao14 m14 cap14)).cell? ⟨c14, 0, none⟩ = some (.slice ao14 m14 cap14) := World.cell?_setCell_same' _ _ _ (by rw [x14]; rfl)
        replace hset14 := set_other hset14 x14 (fun _ => by simp) (.slice ao14 m14 cap14)
        replace hset15 := set_other hset15 x14 (fun _ => by simp) (.slice ao14 m14 cap14)
        replace x15 := cset (p := ⟨c14, 0, none⟩) (u := .slice ao14 m14 cap14) (fun e => hne e.symm) x15
        replace f15 : (V4.setCell ⟨c14, 0, none⟩ (.slice ao14 m14 cap14)).frozen? ⟨c15, 0, none⟩ = false := by rw [World.frozen?_setCell]; exact f15
        replace hbc := hbc.setCell (p := ⟨c14, 0, none⟩) hge14 (.slice ao14 m14 cap14)
        clear x14 f14
        generalize (V4.setCell ⟨c14, 0, none⟩ (.slice ao14 m14 cap14)) = V5 at *
        refine wpAnyH_ready (rs := [11]) (by kernel_rfl) (by simp) ?_
        refine AllReadyH.cons rfl (fun K hK => ?_) AllReadyH.nil
        go_simp
        refine hK.out _ _ (hbc.setCell (p := ⟨c15, 0, none⟩) hge15 _) (fun hHeld2 => ?_)
        clear hK K
        refine wpAnyH_done (by kernel_rfl) ?_ _
        exact ⟨c14, c15, ⟨hbc.setCell (p := ⟨c15, 0, none⟩) hge15 _, ⟨_, cset (p := ⟨c15, 0, none⟩) hne y14, set_other hset14 x15 (fun _ => by simp) _⟩, ⟨_, World.cell?_setCell_same' _ _ _ (by rw [x15]; rfl), set_other hset15 x15 (fun _ => by simp) _⟩⟩, _, _, _, _, _, _, _, _, rfl⟩
    case t2n8 =>
      go_simp
      obtain ⟨c14, hc14⟩ : ∃ c, c = V1.heap.size := ⟨_, rfl⟩
      have hge14 : W1.heap.size ≤ c14 := by rw [hc14]; exact hbc.size
      refine hK.out _ _ (hbc.alloc hbc.size _) (fun hHeld2 => ?_)
      clear hK K
      clear hHeld
      have hHeld := hHeld2
      clear hHeld2
      try simp only [Act.put, List.setIfInBounds_toArray, List.set_cons_zero, List.set_cons_succ]
      have x14 : (V1.alloc (.cells #[Value.slice none 0 0] 27)).cell? ⟨c14, 0, none⟩ = some (.slice none 0 0) := by rw [hc14]; exact (cell_new_l V1 _ 27).1
      have f14 : (V1.alloc (.cells #[Value.slice none 0 0] 27)).frozen? ⟨c14, 0, none⟩ = false := by rw [hc14]; exact (cell_new_l V1 (.slice none 0 0) 27).2
      replace hset14 := hset14.below (ba (bz _) (.cells #[Value.slice none 0 0] 27))
      replace hbc := hbc.alloc hbc.size (.cells #[Value.slice none 0 0] 27)
      rw [← hc14]
      generalize (V1.alloc (.cells #[Value.slice none 0 0] 27)) = V2 at *
      clear hc14
      refine wpAnyH_ready (rs := [7, 9]) (by kernel_rfl) (by simp) ?_
      refine AllReadyH.cons rfl (fun K hK => ?t4n7) (AllReadyH.cons rfl (fun K hK => ?t4n9) AllReadyH.nil)
      case t4n7 =>
        go_simp
        refine (without_any _ _ x0 V2 (HS7.out _ hbc)).mono ?_
        rintro e V3 ⟨v15, rfl, hset15, hb⟩
        obtain ⟨m15, ao15, cap15, b15, o15, rfl, _⟩ := id hset15
        replace hbc := bt hbc hb
        replace hset14 := hset14.below hb
        replace f14 := (hb.frozen (World.block_lt_of_cell? _ _ x14)).trans f14
        replace x14 := cell_past_ hb x14
        clear hb
        go_wp2_with fail
        refine hK.out _ _ hbc (fun hHeld2 => ?_)
        clear hK K
        clear hHeld
        have hHeld := hHeld2
        clear hHeld2
        try simp only [Act.put, List.setIfInBounds_toArray, List.set_cons_zero, List.set_cons_succ]
        refine wpAnyH_ready (rs := [9]) (by kernel_rfl) (by simp) ?_
        refine AllReadyH.cons rfl (fun K hK => ?_) AllReadyH.nil
        go_simp
        obtain ⟨c15, hc15⟩ : ∃ c, c = V3.heap.size := ⟨_, rfl⟩
        have hge15 : W1.heap.size ≤ c15 := by rw [hc15]; exact hbc.size
        refine hK.out _ _ (hbc.alloc hbc.size _) (fun hHeld2 => ?_)
        clear hK K
        clear hHeld
        have hHeld := hHeld2
        clear hHeld2
        try simp only [Act.put, List.setIfInBounds_toArray, List.set_cons_zero, List.set_cons_succ]
        have x15 : (V3.alloc (.cells #[Value.slice none 0 0] 27)).cell? ⟨c15, 0, none⟩ = some (.slice none 0 0) := by rw [hc15]; exact (cell_new_l V3 _ 27).1
        have f15 : (V3.alloc (.cells #[Value.slice none 0 0] 27)).frozen? ⟨c15, 0, none⟩ = false := by rw [hc15]; exact (cell_new_l V3 (.slice none 0 0) 27).2
        have hne : ¬ c14 = c15 := by have h1 := World.block_lt_of_cell? _ _ x14; simp only at h1; omega
        replace f14 := frozen_alloc_l (.cells #[Value.slice none 0 0] 27) x14 f14
        replace x14 := cell_alloc_l (.cells #[Value.slice none 0 0] 27) x14
        replace hset14 := hset14.below (ba (bz _) (.cells #[Value.slice none 0 0] 27))
        replace hset15 := hset15.below (ba (bz _) (.cells #[Value.slice none 0 0] 27))
        replace hbc := hbc.alloc hbc.size (.cells #[Value.slice none 0 0] 27)
        rw [← hc15]
        generalize (V3.alloc (.cells #[Value.slice none 0 0] 27)) = V4 at *
        clear hc15
        refine wpAnyH_ready (rs := [10]) (by kernel_rfl) (by simp) ?_
        refine AllReadyH.cons rfl (fun K hK => ?_) AllReadyH.nil
        go_simp
        refine hK.out _ _ (hbc.setCell (p := ⟨c14, 0, none⟩) hge14 _) (fun hHeld2 => ?_)
        clear hK K
        clear hHeld
        have hHeld := hHeld2
        clear hHeld2
        try simp only [Act.put, List.setIfInBounds_toArray, List.set_cons_zero, List.set_cons_succ]
        have y14 : (V4.setCell ⟨c14, 0, none⟩ (.slice ao14 m14 cap14)).cell? ⟨c14, 0, none⟩ = some (.slice ao14 m14 cap14) := World.cell?_setCell_same' _ _ _ (by rw [x14]; rfl)
        replace hset14 := set_other hset14 x14 (fun _ => by simp) (.slice ao14 m14 cap14)
        replace hset15 := set_other hset15 x14 (fun _ => by simp) (.slice ao14 m14 cap14)
        replace x15 := cset (p := ⟨c14, 0, none⟩) (u := .slice ao14 m14 cap14) (fun e => hne e.symm) x15
        replace f15 : (V4.setCell ⟨c14, 0, none⟩ (.slice ao14 m14 cap14)).frozen? ⟨c15, 0, none⟩ = false := by rw [World.frozen?_setCell]; exact f15
        replace hbc := hbc.setCell (p := ⟨c14, 0, none⟩) hge14 (.slice ao14 m14 cap14)
        clear x14 f14
        generalize (V4.setCell ⟨c14, 0, none⟩ (.slice ao14 m14 cap14)) = V5 at *
        refine wpAnyH_ready (rs := [11]) (by kernel_rfl) (by simp) ?_
        refine AllReadyH.cons rfl (fun K hK => ?_) AllReadyH.nil
        go_simp
        refine hK.out _ _ (hbc.setCell (p := ⟨c15, 0, none⟩) hge15 _) (fun hHeld2 => ?_)
        clear hK K
        refine wpAnyH_done (by kernel_rfl) ?_ _
        exact ⟨c14, c15, ⟨hbc.setCell (p := ⟨c15, 0, none⟩) hge15 _, ⟨_, cset (p := ⟨c15, 0, none⟩) hne y14, set_other hset14 x15 (fun _ => by simp) _⟩, ⟨_, World.cell?_setCell_same' _ _ _ (by rw [x15]; rfl), set_other hset15 x15 (fun _ => by simp) _⟩⟩, _, _, _, _, _, _, _, _, rfl⟩
      case t4n9 =>
        go_simp
        obtain ⟨c15, hc15⟩ : ∃ c, c = V2.heap.size := ⟨_, rfl⟩
        have hge15 : W1.heap.size ≤ c15 := by rw [hc15]; exact hbc.size
        refine hK.out _ _ (hbc.alloc hbc.size _) (fun hHeld2 => ?_)
        clear hK K
        clear hHeld
        have hHeld := hHeld2
        clear hHeld2
        try simp only [Act.put, List.setIfInBounds_toArray, List.set_cons_zero, List.set_cons_succ]
        have x15 : (V2.alloc (.cells #[Value.slice none 0 0] 27)).cell? ⟨c15, 0, none⟩ = some (.slice none 0 0) := by rw [hc15]; exact (cell_new_l V2 _ 27).1
        have f15 : (V2.alloc (.cells #[Value.slice none 0 0] 27)).frozen? ⟨c15, 0, none⟩ = false := by rw [hc15]; exact (cell_new_l V2 (.slice none 0 0) 27).2
        have hne : ¬ c14 = c15 := by have h1 := World.block_lt_of_cell? _ _ x14; simp only at h1; omega
        replace f14 := frozen_alloc_l (.cells #[Value.slice none 0 0] 27) x14 f14
        replace x14 := cell_alloc_l (.cells #[Value.slice none 0 0] 27) x14
        replace hset14 := hset14.below (ba (bz _) (.cells #[Value.slice none 0 0] 27))
        replace hbc := hbc.alloc hbc.size (.cells #[Value.slice none 0 0] 27)
        rw [← hc15]
        generalize (V2.alloc (.cells #[Value.slice none 0 0] 27)) = V3 at *
        clear hc15
        refine wpAnyH_ready (rs := [7]) (by kernel_rfl) (by simp) ?_
        refine AllReadyH.cons rfl (fun K hK => ?_) AllReadyH.nil
        go_simp
        refine (without_any _ _ x0 V3 (HS7.out _ hbc)).mono ?_
        rintro e V4 ⟨v15, rfl, hset15, hb⟩
        obtain ⟨m15, ao15, cap15, b15, o15, rfl, _⟩ := id hset15
        replace hbc := bt hbc hb
        replace hset14 := hset14.below hb
        replace f14 := (hb.frozen (World.block_lt_of_cell? _ _ x14)).trans f14
        replace x14 := cell_past_ hb x14
        replace f15 := (hb.frozen (World.block_lt_of_cell? _ _ x15)).trans f15
        replace x15 := cell_past_ hb x15
        clear hb
        go_wp2_with fail
        refine hK.out _ _ hbc (fun hHeld2 => ?_)
        clear hK K
        clear hHeld
        have hHeld := hHeld2
        clear hHeld2
        try simp only [Act.put, List.setIfInBounds_toArray, List.set_cons_zero, List.set_cons_succ]
        refine wpAnyH_ready (rs := [10]) (by kernel_rfl) (by simp) ?_
        refine AllReadyH.cons rfl (fun K hK => ?_) AllReadyH.nil
        go_simp
        refine hK.out _ _ (hbc.setCell (p := ⟨c14, 0, none⟩) hge14 _) (fun hHeld2 => ?_)
        clear hK K
        clear hHeld
        have hHeld := hHeld2
        clear hHeld2
        try simp only [Act.put, List.setIfInBounds_toArray, List.set_cons_zero, List.set_cons_succ]
        have y14 : (V4.setCell ⟨c14, 0, none⟩ (.slice ao14 m14 cap14)).cell? ⟨c14, 0, none⟩ = some (.slice ao14 m14 cap14) := World.cell?_setCell_same' _ _ _ (by rw [x14]; rfl)
        replace hset14 := set_other hset14 x14 (fun _ => by simp) (.slice ao14 m14 cap14)
        replace hset15 := set_other hset15 x14 (fun _ => by simp) (.slice ao14 m14 cap14)
        replace x15 := cset (p := ⟨c14, 0, none⟩) (u := .slice ao14 m14 cap14) (fun e => hne e.symm) x15
        replace f15 : (V4.setCell ⟨c14, 0, none⟩ (.slice ao14 m14 cap14)).frozen? ⟨c15, 0, none⟩ = false := by rw [World.frozen?_setCell]; exact f15
        replace hbc := hbc.setCell (p := ⟨c14, 0, none⟩) hge14 (.slice ao14 m14 cap14)
        clear x14 f14
        generalize (V4.setCell ⟨c14, 0, none⟩ (.slice ao14 m14 cap14)) = V5 at *
        refine wpAnyH_ready (rs := [11]) (by kernel_rfl) (by simp) ?_
        refine AllReadyH.cons rfl (fun K hK => ?_) AllReadyH.nil
        go_simp
        refine hK.out _ _ (hbc.setCell (p := ⟨c15, 0, none⟩) hge15 _) (fun hHeld2 => ?_)
        clear hK K
        refine wpAnyH_done (by kernel_rfl) ?_ _
        exact ⟨c14, c15, ⟨hbc.setCell (p := ⟨c15, 0, none⟩) hge15 _, ⟨_, cset (p := ⟨c15, 0, none⟩) hne y14, set_other hset14 x15 (fun _ => by simp) _⟩, ⟨_, World.cell?_setCell_same' _ _ _ (by rw [x15]; rfl), set_other hset15 x15 (fun _ => by simp) _⟩⟩, _, _, _, _, _, _, _, _, rfl⟩
    case t2n9 =>
      go_simp
      obtain ⟨c15, hc15⟩ : ∃ c, c = V1.heap.size := ⟨_, rfl⟩
      have hge15 : W1.heap.size ≤ c15 := by rw [hc15]; exact hbc.size
      refine hK.out _ _ (hbc.alloc hbc.size _) (fun hHeld2 => ?_)
      clear hK K
      clear hHeld
      have hHeld := hHeld2
      clear hHeld2
      try simp only [Act.put, List.setIfInBounds_toArray, List.set_cons_zero, List.set_cons_succ]
      have x15 : (V1.alloc (.cells #[Value.slice none 0 0] 27)).cell? ⟨c15, 0, none⟩ = some (.slice none 0 0) := by rw [hc15]; exact (cell_new_l V1 _ 27).1
      have f15 : (V1.alloc (.cells #[Value.slice none 0 0] 27)).frozen? ⟨c15, 0, none⟩ = false := by rw [hc15]; exact (cell_new_l V1 (.slice none 0 0) 27).2
      replace hset14 := hset14.below (ba (bz _) (.cells #[Value.slice none 0 0] 27))
      replace hbc := hbc.alloc hbc.size (.cells #[Value.slice none 0 0] 27)
      rw [← hc15]
      generalize (V1.alloc (.cells #[Value.slice none 0 0] 27)) = V2 at *
      clear hc15
      refine wpAnyH_ready (rs := [7, 8]) (by kernel_rfl) (by simp) ?_
      refine AllReadyH.cons rfl (fun K hK => ?t5n7) (AllReadyH.cons rfl (fun K hK => ?t5n8) AllReadyH.nil)
      case t5n7 =>
        go_simp
        refine (without_any _ _ x0 V2 (HS7.out _ hbc)).mono ?_
        rintro e V3 ⟨v15, rfl, hset15, hb⟩
        obtain ⟨m15, ao15, cap15, b15, o15, rfl, _⟩ := id hset15
        replace hbc := bt hbc hb
        replace hset14 := hset14.below hb
        replace f15 := (hb.frozen (World.block_lt_of_cell? _ _ x15)).trans f15
        replace x15 := cell_past_ hb x15
        clear hb
        go_wp2_with fail
        refine hK.out _ _ hbc (fun hHeld2 => ?_)
        clear hK K
        clear hHeld
        have hHeld := hHeld2
        clear hHeld2
        try simp only [Act.put, List.setIfInBounds_toArray, List.set_cons_zero, List.set_cons_succ]
        refine wpAnyH_ready (rs := [8]) (by kernel_rfl) (by simp) ?_
        refine AllReadyH.cons rfl (fun K hK => ?_) AllReadyH.nil
        go_simp
        obtain ⟨c14, hc14⟩ : ∃ c, c = V3.heap.size := ⟨_, rfl⟩
        have hge14 : W1.heap.size ≤ c14 := by rw [hc14]; exact hbc.size
        refine hK.out _ _ (hbc.alloc hbc.size _) (fun hHeld2 => ?_)
        clear hK K
        clear hHeld
        have hHeld := hHeld2
        clear hHeld2
        try simp only [Act.put, List.setIfInBounds_toArray, List.set_cons_zero, List.set_cons_succ]
        have x14 : (V3.alloc (.cells #[Value.slice none 0 0] 27)).cell? ⟨c14, 0, none⟩ = some (.slice none 0 0) := by rw [hc14]; exact (cell_new_l V3 _ 27).1
        have f14 : (V3.alloc (.cells #[Value.slice none 0 0] 27)).frozen? ⟨c14, 0, none⟩ = false := by rw [hc14]; exact (cell_new_l V3 (.slice none 0 0) 27).2
        have hne : ¬ c14 = c15 := by have h1 := World.block_lt_of_cell? _ _ x15; simp only at h1; omega
        replace f15 := frozen_alloc_l (.cells #[Value.slice none 0 0] 27) x15 f15
        replace x15 := cell_alloc_l (.cells #[Value.slice none 0 0] 27) x15
        replace hset14 := hset14.below (ba (bz _) (.cells #[Value.slice none 0 0] 27))
        replace hset15 := hset15.below (ba (bz _) (.cells #[Value.slice none 0 0] 27))
        replace hbc := hbc.alloc hbc.size (.cells #[Value.slice none 0 0] 27)
        rw [← hc14]
        generalize (V3.alloc (.cells #[Value.slice none 0 0] 27)) = V4 at *
        clear hc14
        refine wpAnyH_ready (rs := [10]) (by kernel_rfl) (by simp) ?_
        refine AllReadyH.cons rfl (fun K hK => ?_) AllReadyH.nil
        go_simp
        refine hK.out _ _ (hbc.setCell (p := ⟨c14, 0, none⟩) hge14 _) (fun hHeld2 => ?_)
        clear hK K
        clear hHeld
        have hHeld := hHeld2
        clear hHeld2
        try simp only [Act.put, List.setIfInBounds_toArray, List.set_cons_zero, List.set_cons_succ]
        have y14 : (V4.setCell ⟨c14, 0, none⟩ (.slice ao14 m14 cap14)).cell? ⟨c14, 0, none⟩ = some (.slice ao14 m14 cap14) := World.cell?_setCell_same' _ _ _ (by rw [x14]; rfl)
        replace hset14 := set_other hset14 x14 (fun _ => by simp) (.slice ao14 m14 cap14)
        replace hset15 := set_other hset15 x14 (fun _ => by simp) (.slice ao14 m14 cap14)
        replace x15 := cset (p := ⟨c14, 0, none⟩) (u := .slice ao14 m14 cap14) (fun e => hne e.symm) x15
        replace f15 : (V4.setCell ⟨c14, 0, none⟩ (.slice ao14 m14 cap14)).frozen? ⟨c15, 0, none⟩ = false := by rw [World.frozen?_setCell]; exact f15
        replace hbc := hbc.setCell (p := ⟨c14, 0, none⟩) hge14 (.slice ao14 m14 cap14)
        clear x14 f14
        generalize (V4.setCell ⟨c14, 0, none⟩ (.slice ao14 m14 cap14)) = V5 at *
        refine wpAnyH_ready (rs := [11]) (by kernel_rfl) (by simp) ?_
        refine AllReadyH.cons rfl (fun K hK => ?_) AllReadyH.nil
        go_simp
        refine hK.out _ _ (hbc.setCell (p := ⟨c15, 0, none⟩) hge15 _) (fun hHeld2 => ?_)
        clear hK K
        refine wpAnyH_done (by kernel_rfl) ?_ _
        exact ⟨c14, c15, ⟨hbc.setCell (p := ⟨c15, 0, none⟩) hge15 _, ⟨_, cset (p := ⟨c15, 0, none⟩) hne y14, set_other hset14 x15 (fun _ => by simp) _⟩, ⟨_, World.cell?_setCell_same' _ _ _ (by rw [x15]; rfl), set_other hset15 x15 (fun _ => by simp) _⟩⟩, _, _, _, _, _, _, _, _, rfl⟩
      case t5n8 =>
        go_simp
        obtain ⟨c14, hc14⟩ : ∃ c, c = V2.heap.size := ⟨_, rfl⟩
        have hge14 : W1.heap.size ≤ c14 := by rw [hc14]; exact hbc.size
        refine hK.out _ _ (hbc.alloc hbc.size _) (fun hHeld2 => ?_)
        clear hK K
        clear hHeld
        have hHeld := hHeld2
        clear hHeld2
        try simp only [Act.put, List.setIfInBounds_toArray, List.set_cons_zero, List.set_cons_succ]
        have x14 : (V2.alloc (.cells #[Value.slice none 0 0] 27)).cell? ⟨c14, 0, none⟩ = some (.slice none 0 0) := by rw [hc14]; exact (cell_new_l V2 _ 27).1
        have f14 : (V2.alloc (.cells #[Value.slice none 0 0] 27)).frozen? ⟨c14, 0, none⟩ = false := by rw [hc14]; exact (cell_new_l V2 (.slice none 0 0) 27).2
        have hne : ¬ c14 = c15 := by have h1 := World.block_lt_of_cell? _ _ x15; simp only at h1; omega
        replace f15 := frozen_alloc_l (.cells #[Value.slice none 0 0] 27) x15 f15
        replace x15 := cell_alloc_l (.cells #[Value.slice none 0 0] 27) x15
        replace hset14 := hset14.below (ba (bz _) (.cells #[Value.slice none 0 0] 27))
        replace hbc := hbc.alloc hbc.size (.cells #[Value.slice none 0 0] 27)
        rw [← hc14]
        generalize (V2.alloc (.cells #[Value.slice none 0 0] 27)) = V3 at *
        clear hc14
        refine wpAnyH_ready (rs := [7]) (by kernel_rfl) (by simp) ?_
        refine AllReadyH.cons rfl (fun K hK => ?_) AllReadyH.nil
        go_simp
        refine (without_any _ _ x0 V3 (HS7.out _ hbc)).mono ?_
        rintro e V4 ⟨v15, rfl, hset15, hb⟩
        obtain ⟨m15, ao15, cap15, b15, o15, rfl, _⟩ := id hset15
        replace hbc := bt hbc hb
        replace hset14 := hset14.below hb
        replace f14 := (hb.frozen (World.block_lt_of_cell? _ _ x14)).trans f14
        replace x14 := cell_past_ hb x14
        replace f15 := (hb.frozen (World.block_lt_of_cell? _ _ x15)).trans f15
        replace x15 := cell_past_ hb x15
        clear hb
        go_wp2_with fail
        refine hK.out _ _ hbc (fun hHeld2 => ?_)
        clear hK K
        clear hHeld
        have hHeld := hHeld2
        clear hHeld2
        try simp only [Act.put, List.setIfInBounds_toArray, List.set_cons_zero, List.set_cons_succ]
        refine wpAnyH_ready (rs := [10]) (by kernel_rfl) (by simp) ?_
        refine AllReadyH.cons rfl (fun K hK => ?_) AllReadyH.nil
        go_simp
        refine hK.out _ _ (hbc.setCell (p := ⟨c14, 0, none⟩) hge14 _) (fun hHeld2 => ?_)
        clear hK K
        clear hHeld
        have hHeld := hHeld2
        clear hHeld2
        try simp only [Act.put, List.setIfInBounds_toArray, List.set_cons_zero, List.set_cons_succ]
        have y14 : (V4.setCell ⟨c14, 0, none⟩ (.slice ao14 m14 cap14)).cell? ⟨c14, 0, none⟩ = some (.slice ao14 m14 cap14) := World.cell?_setCell_same' _ _ _ (by rw [x14]; rfl)
        replace hset14 := set_other hset14 x14 (fun _ => by simp) (.slice ao14 m14 cap14)
        replace hset15 := set_other hset15 x14 (fun _ => by simp) (.slice ao14 m14 cap14)
        replace x15 := cset (p := ⟨c14, 0, none⟩) (u := .slice ao14 m14 cap14) (fun e => hne e.symm) x15
        replace f15 : (V4.setCell ⟨c14, 0, none⟩ (.slice ao14 m14 cap14)).frozen? ⟨c15, 0, none⟩ = false := by rw [World.frozen?_setCell]; exact f15
        replace hbc := hbc.setCell (p := ⟨c14, 0, none⟩) hge14 (.slice ao14 m14 cap14)
        clear x14 f14
        generalize (V4.setCell ⟨c14, 0, none⟩ (.slice ao14 m14 cap14)) = V5 at *
        refine wpAnyH_ready (rs := [11]) (by kernel_rfl) (by simp) ?_
        refine AllReadyH.cons rfl (fun K hK => ?_) AllReadyH.nil
        go_simp
        refine hK.out _ _ (hbc.setCell (p := ⟨c15, 0, none⟩) hge15 _) (fun hHeld2 => ?_)
        clear hK K
        refine wpAnyH_done (by kernel_rfl) ?_ _
        exact ⟨c14, c15, ⟨hbc.setCell (p := ⟨c15, 0, none⟩) hge15 _, ⟨_, cset (p := ⟨c15, 0, none⟩) hne y14, set_other hset14 x15 (fun _ => by simp) _⟩, ⟨_, World.cell?_setCell_same' _ _ _ (by rw [x15]; rfl), set_other hset15 x15 (fun _ => by simp) _⟩⟩, _, _, _, _, _, _, _, _, rfl⟩
  case t1n8 =>
    go_simp
    obtain ⟨c14, hc14⟩ : ∃ c, c = V0.heap.size := ⟨_, rfl⟩
    have hge14 : W1.heap.size ≤ c14 := by rw [hc14]; exact hbc.size
    refine hK.out _ _ (hbc.alloc hbc.size _) (fun hHeld2 => ?_)
    clear hK K
    clear hHeld
    have hHeld := hHeld2
    clear hHeld2
    try simp only [Act.put, List.setIfInBounds_toArray, List.set_cons_zero, List.set_cons_succ]
    have x14 : (V0.alloc (.cells #[Value.slice none 0 0] 27)).cell? ⟨c14, 0, none⟩ = some (.slice none 0 0) := by rw [hc14]; exact (cell_new_l V0 _ 27).1
    have f14 : (V0.alloc (.cells #[Value.slice none 0 0] 27)).frozen? ⟨c14, 0, none⟩ = false := by rw [hc14]; exact (cell_new_l V0 (.slice none 0 0) 27).2
    replace hbc := hbc.alloc hbc.size (.cells #[Value.slice none 0 0] 27)
    rw [← hc14]
    generalize (V0.alloc (.cells #[Value.slice none 0 0] 27)) = V1 at *
    clear hc14
    refine wpAnyH_ready (rs := [3, 9]) (by kernel_rfl) (by simp) ?_
    refine AllReadyH.cons rfl (fun K hK => ?t6n3) (AllReadyH.cons rfl (fun K hK => ?t6n9) AllReadyH.nil)
    case t6n3 =>
      go_simp
      refine (with_any _ _ x0 V1 (HS7.out _ hbc)).mono ?_
      rintro e V2 ⟨v14, rfl, hset14, hb⟩
      obtain ⟨m14, ao14, cap14, b14, o14, rfl, _⟩ := id hset14
      replace hbc := bt hbc hb
      replace f14 := (hb.frozen (World.block_lt_of_cell? _ _ x14)).trans f14
      replace x14 := cell_past_ hb x14
      clear hb
      go_wp2_with fail
      refine hK.out _ _ hbc (fun hHeld2 => ?_)
      clear hK K
      clear hHeld
      have hHeld := hHeld2
      clear hHeld2
      try simp only [Act.put, List.setIfInBounds_toArray, List.set_cons_zero, List.set_cons_succ]
      refine wpAnyH_ready (rs := [7, 9]) (by kernel_rfl) (by simp) ?_
      refine AllReadyH.cons rfl (fun K hK => ?t7n7) (AllReadyH.cons rfl (fun K hK => ?t7n9) AllReadyH.nil)
      case t7n7 =>
        go_simp
        refine (without_any _ _ x0 V2 (HS7.out _ hbc)).mono ?_
        rintro e V3 ⟨v15, rfl, hset15, hb⟩
        obtain ⟨m15, ao15, cap15, b15, o15, rfl, _⟩ := id hset15
        replace hbc := bt hbc hb
        replace hset14 := hset14.below hb
        replace f14 := (hb.frozen (World.block_lt_of_cell? _ _ x14)).trans f14
        replace x14 := cell_past_ hb x14
        clear hb
        go_wp2_with fail
        refine hK.out _ _ hbc (fun hHeld2 => ?_)
        clear hK K
        clear hHeld
        have hHeld := hHeld2
        clear hHeld2
        try simp only [Act.put, List.setIfInBounds_toArray, List.set_cons_zero, List.set_cons_succ]
        refine wpAnyH_ready (rs := [9]) (by kernel_rfl) (by simp) ?_
        refine AllReadyH.cons rfl (fun K hK => ?_) AllReadyH.nil
        go_simp
        obtain ⟨c15, hc15⟩ : ∃ c, c = V3.heap.size := ⟨_, rfl⟩
        have hge15 : W1.heap.size ≤ c15 := by rw [hc15]; exact hbc.size
        refine hK.out _ _ (hbc.alloc hbc.size _) (fun hHeld2 => ?_)
        clear hK K
        clear hHeld
        have hHeld := hHeld2
        clear hHeld2
        try simp only [Act.put, List.setIfInBounds_toArray, List.set_cons_zero, List.set_cons_succ]
        have x15 : (V3.alloc (.cells #[Value.slice none 0 0] 27)).cell? ⟨c15, 0, none⟩ = some (.slice none 0 0) := by rw [hc15]; exact (cell_new_l V3 _ 27).1
        have f15 : (V3.alloc (.cells #[Value.slice none 0 0] 27)).frozen? ⟨c15, 0, none⟩ = false := by rw [hc15]; exact (cell_new_l V3 (.slice none 0 0) 27).2
        have hne : ¬ c14 = c15 := by have h1 := World.block_lt_of_cell? _ _ x14; simp only at h1; omega
        replace f14 := frozen_alloc_l (.cells #[Value.slice none 0 0] 27) x14 f14
        replace x14 := cell_alloc_l (.cells #[Value.slice none 0 0] 27) x14
        replace hset14 := hset14.below (ba (bz _) (.cells #[Value.slice none 0 0] 27))
        replace hset15 := hset15.below (ba (bz _) (.cells #[Value.slice none 0 0] 27))
        replace hbc := hbc.alloc hbc.size (.cells #[Value.slice none 0 0] 27)
        rw [← hc15]
        generalize (V3.alloc (.cells #[Value.slice none 0 0] 27)) = V4 at *
        clear hc15
        refine wpAnyH_ready (rs := [10]) (by kernel_rfl) (by simp) ?_
        refine AllReadyH.cons rfl (fun K hK => ?_) AllReadyH.nil
        go_simp
        refine hK.out _ _ (hbc.setCell (p := ⟨c14, 0, none⟩) hge14 _) (fun hHeld2 => ?_)
        clear hK K
        clear hHeld
        have hHeld := hHeld2
        clear hHeld2
        try simp only [Act.put, List.setIfInBounds_toArray, List.set_cons_zero, List.set_cons_succ]
        have y14 : (V4.setCell ⟨c14, 0, none⟩ (.slice ao14 m14 cap14)).cell? ⟨c14, 0, none⟩ = some (.slice ao14 m14 cap14) := World.cell?_setCell_same' _ _ _ (by rw [x14]; rfl)
        replace hset14 := set_other hset14 x14 (fun _ => by simp) (.slice ao14 m14 cap14)
        replace hset15 := set_other hset15 x14 (fun _ => by simp) (.slice ao14 m14 cap14)
        replace x15 := cset (p := ⟨c14, 0, none⟩) (u := .slice ao14 m14 cap14) (fun e => hne e.symm) x15
        replace f15 : (V4.setCell ⟨c14, 0, none⟩ (.slice ao14 m14 cap14)).frozen? ⟨c15, 0, none⟩ = false := by rw [World.frozen?_setCell]; exact f15
        replace hbc := hbc.setCell (p := ⟨c14, 0, none⟩) hge14 (.slice ao14 m14 cap14)
        clear x14 f14
        generalize (V4.setCell ⟨c14, 0, none⟩ (.slice ao14 m14 cap14)) = V5 at *
        refine wpAnyH_ready (rs := [11]) (by kernel_rfl) (by simp) ?_
        refine AllReadyH.cons rfl (fun K hK => ?_) AllReadyH.nil
        go_simp
        refine hK.out _ _ (hbc.setCell (p := ⟨c15, 0, none⟩) hge15 _) (fun hHeld2 => ?_)
        clear hK K
        refine wpAnyH_done (by kernel_rfl) ?_ _
        exact ⟨c14, c15, ⟨hbc.setCell (p := ⟨c15, 0, none⟩) hge15 _, ⟨_, cset (p := ⟨c15, 0, none⟩) hne y14, set_other hset14 x15 (fun _ => by simp) _⟩, ⟨_, World.cell?_setCell_same' _ _ _ (by rw [x15]; rfl), set_other hset15 x15 (fun _ => by simp) _⟩⟩, _, _, _, _, _, _, _, _, rfl⟩
      case t7n9 =>
        go_simp
        obtain ⟨c15, hc15⟩ : ∃ c, c = V2.heap.size := ⟨_, rfl⟩
        have hge15 : W1.heap.size ≤ c15 := by rw [hc15]; exact hbc.size
        refine hK.out _ _ (hbc.alloc hbc.size _) (fun hHeld2 => ?_)
        clear hK K
        clear hHeld
        have hHeld := hHeld2
        clear hHeld2
        try simp only [Act.put, List.setIfInBounds_toArray, List.set_cons_zero, List.set_cons_succ]
        have x15 : (V2.alloc (.cells #[Value.slice none 0 0] 27)).cell? ⟨c15, 0, none⟩ = some (.slice none 0 0) := by rw [hc15]; exact (cell_new_l V2 _ 27).1
        have f15 : (V2.alloc (.cells #[Value.slice none 0 0] 27)).frozen? ⟨c15, 0, none⟩ = false := by rw [hc15]; exact (cell_new_l V2 (.slice none 0 0) 27).2
        have hne : ¬ c14 = c15 := by have h1 := World.block_lt_of_cell? _ _ x14; simp only at h1; omega
        replace f14 := frozen_alloc_l (.cells #[Value.slice none 0 0] 27) x14 f14
        replace x14 := cell_alloc_l (.cells #[Value.slice none 0 0] 27) x14
        replace hset14 := hset14.below (ba (bz _) (.cells #[Value.slice none 0 0] 27))
        replace hbc := hbc.alloc hbc.size (.cells #[Value.slice none 0 0] 27)
        rw [← hc15]
        generalize (V2.alloc (.cells #[Value.slice none 0 0] 27)) = V3 at *
        clear hc15
        refine wpAnyH_ready (rs := [7]) (by kernel_rfl) (by simp) ?_
        refine AllReadyH.cons rfl (fun K hK => ?_) AllReadyH.nil
        go_simp
        refine (without_any _ _ x0 V3 (HS7.out _ hbc)).mono ?_
        rintro e V4 ⟨v15, rfl, hset15, hb⟩
        obtain ⟨m15, ao15, cap15, b15, o15, rfl, _⟩ := id hset15
        replace hbc := bt hbc hb
        replace hset14 := hset14.below hb
        replace f14 := (hb.frozen (World.block_lt_of_cell? _ _ x14)).trans f14
        replace x14 := cell_past_ hb x14
        replace f15 := (hb.frozen (World.block_lt_of_cell? _ _ x15)).trans f15
        replace x15 := cell_past_ hb x15
        clear hb
        go_wp2_with fail
        refine hK.out _ _ hbc (fun hHeld2 => ?_)
        clear hK K
        clear hHeld
        have hHeld := hHeld2
        clear hHeld2
        try simp only [Act.put, List.setIfInBounds_toArray, List.set_cons_zero, List.set_cons_succ]
        refine wpAnyH_ready (rs := [10]) (by kernel_rfl) (by simp) ?_
        refine AllReadyH.cons rfl (fun K hK => ?_) AllReadyH.nil
        go_simp
        refine hK.out _ _ (hbc.setCell (p := ⟨c14, 0, none⟩) hge14 _) (fun hHeld2 => ?_)
        clear hK K
        clear hHeld
        have hHeld := hHeld2
        clear hHeld2
        try simp only [Act.put, List.setIfInBounds_toArray, List.set_cons_zero, List.set_cons_succ]
        have y14 : (V4.setCell ⟨c14, 0, none⟩ (.slice ao14 m14 cap14)).cell? ⟨c14, 0, none⟩ = some (.slice ao14 m14 cap14) := World.cell?_setCell_same' _ _ _ (by rw [x14]; rfl)
        replace hset14 := set_other hset14 x14 (fun _ => by simp) (.slice ao14 m14 cap14)
        replace hset15 := set_other hset15 x14 (fun _ => by simp) (.slice ao14 m14 cap14)
        replace x15 := cset (p := ⟨c14, 0, none⟩) (u := .slice ao14 m14 cap14) (fun e => hne e.symm) x15
        replace f15 : (V4.setCell ⟨c14, 0, none⟩ (.slice ao14 m14 cap14)).frozen? ⟨c15, 0, none⟩ = false := by rw [World.frozen?_setCell]; exact f15
        replace hbc := hbc.setCell (p := ⟨c14, 0, none⟩) hge14 (.slice ao14 m14 cap14)
        clear x14 f14
        generalize (V4.setCell ⟨c14, 0, none⟩ (.slice ao14 m14 cap14)) = V5 at *
        refine wpAnyH_ready (rs := [11]) (by kernel_rfl) (by simp) ?_
        refine AllReadyH.cons rfl (fun K hK => ?_) AllReadyH.nil
        go_simp
        refine hK.out _ _ (hbc.setCell (p := ⟨c15, 0, none⟩) hge15 _) (fun hHeld2 => ?_)
        clear hK K
        refine wpAnyH_done (by kernel_rfl) ?_ _
        exact ⟨c14, c15, ⟨hbc.setCell (p := ⟨c15, 0, none⟩) hge15 _, ⟨_, cset (p := ⟨c15, 0, none⟩) hne y14, set_other hset14 x15 (fun _ => by simp) _⟩, ⟨_, World.cell?_setCell_same' _ _ _ (by rw [x15]; rfl), set_other hset15 x15 (fun _ => by simp) _⟩⟩, _, _, _, _, _, _, _, _, rfl⟩
    case t6n9 =>
      go_simp
      obtain ⟨c15, hc15⟩ : ∃ c, c = V1.heap.size := ⟨_, rfl⟩
      have hge15 : W1.heap.size ≤ c15 := by rw [hc15]; exact hbc.size
      refine hK.out _ _ (hbc.alloc hbc.size _) (fun hHeld2 => ?_)
      clear hK K
      clear hHeld
      have hHeld := hHeld2
      clear hHeld2
      try simp only [Act.put, List.setIfInBounds_toArray, List.set_cons_zero, List.set_cons_succ]
      have x15 : (V1.alloc (.cells #[Value.slice none 0 0] 27)).cell? ⟨c15, 0, none⟩ = some (.slice none 0 0) := by rw [hc15]; exact (cell_new_l V1 _ 27).1
      have f15 : (V1.alloc (.cells #[Value.slice none 0 0] 27)).frozen? ⟨c15, 0, none⟩ = false := by rw [hc15]; exact (cell_new_l V1 (.slice none 0 0) 27).2
      have hne : ¬ c14 = c15 := by have h1 := World.block_lt_of_cell? _ _ x14; simp only at h1; omega
      replace f14 := frozen_alloc_l (.cells #[Value.slice none 0 0] 27) x14 f14
      replace x14 := cell_alloc_l (.cells #[Value.slice none 0 0] 27) x14
      replace hbc := hbc.alloc hbc.size (.cells #[Value.slice none 0 0] 27)
      rw [← hc15]
      generalize (V1.alloc (.cells #[Value.slice none 0 0] 27)) = V2 at *
      clear hc15
      refine wpAnyH_ready (rs := [3]) (by kernel_rfl) (by simp) ?_
      refine AllReadyH.cons rfl (fun K hK => ?_) AllReadyH.nil
      go_simp
      refine (with_any _ _ x0 V2 (HS7.out _ hbc)).mono ?_
      rintro e V3 ⟨v14, rfl, hset14, hb⟩
      obtain ⟨m14, ao14, cap14, b14, o14, rfl, _⟩ := id hset14
      replace hbc := bt hbc hb
      replace f14 := (hb.frozen (World.block_lt_of_cell? _ _ x14)).trans f14
      replace x14 := cell_past_ hb x14
      replace f15 := (hb.frozen (World.block_lt_of_cell? _ _ x15)).trans f15
      replace x15 := cell_past_ hb x15
      clear hb
      go_wp2_with fail
      refine hK.out _ _ hbc (fun hHeld2 => ?_)
      clear hK K
      clear hHeld
      have hHeld := hHeld2
      clear hHeld2
      try simp only [Act.put, List.setIfInBounds_toArray, List.set_cons_zero, List.set_cons_succ]
      refine wpAnyH_ready (rs := [7]) (by kernel_rfl) (by simp) ?_
      refine AllReadyH.cons rfl (fun K hK => ?_) AllReadyH.nil
      go_simp
      refine (without_any _ _ x0 V3 (HS7.out _ hbc)).mono ?_
      rintro e V4 ⟨v15, rfl, hset15, hb⟩
      obtain ⟨m15, ao15, cap15, b15, o15, rfl, _⟩ := id hset15
      replace hbc := bt hbc hb
      replace hset14 := hset14.below hb
      replace f14 := (hb.frozen (World.block_lt_of_cell? _ _ x14)).trans f14
      replace x14 := cell_past_ hb x14
      replace f15 := (hb.frozen (World.block_lt_of_cell? _ _ x15)).trans f15
      replace x15 := cell_past_ hb x15
      clear hb
      go_wp2_with fail
      refine hK.out _ _ hbc (fun hHeld2 => ?_)
      clear hK K
      clear hHeld
      have hHeld := hHeld2
      clear hHeld2
      try simp only [Act.put, List.setIfInBounds_toArray, List.set_cons_zero, List.set_cons_succ]
      refine wpAnyH_ready (rs := [10]) (by kernel_rfl) (by simp) ?_
      refine AllReadyH.cons rfl (fun K hK => ?_) AllReadyH.nil
      go_simp
      refine hK.out _ _ (hbc.setCell (p := ⟨c14, 0, none⟩) hge14 _) (fun hHeld2 => ?_)
      clear hK K
      clear hHeld
      have hHeld := hHeld2
      clear hHeld2
      try simp only [Act.put, List.setIfInBounds_toArray, List.set_cons_zero, List.set_cons_succ]
      have y14 : (V4.setCell ⟨c14, 0, none⟩ (.slice ao14 m14 cap14)).cell? ⟨c14, 0, none⟩ = some (.slice ao14 m14 cap14) := World.cell?_setCell_same' _ _ _ (by rw [x14]; rfl)
      replace hset14 := set_other hset14 x14 (fun _ => by simp) (.slice ao14 m14 cap14)
      replace hset15 := set_other hset15 x14 (fun _ => by simp) (.slice ao14 m14 cap14)
      replace x15 := cset (p := ⟨c14, 0, none⟩) (u := .slice ao14 m14 cap14) (fun e => hne e.symm) x15
      replace f15 : (V4.setCell ⟨c14, 0, none⟩ (.slice ao14 m14 cap14)).frozen? ⟨c15, 0, none⟩ = false := by rw [World.frozen?_setCell]; exact f15
      replace hbc := hbc.setCell (p := ⟨c14, 0, none⟩) hge14 (.slice ao14 m14 cap14)
      clear x14 f14
      generalize (V4.setCell ⟨c14, 0, none⟩ (.slice ao14 m14 cap14)) = V5 at *
      refine wpAnyH_ready (rs := [11]) (by kernel_rfl) (by simp) ?_
      refine AllReadyH.cons rfl (fun K hK => ?_) AllReadyH.nil
      go_simp
      refine hK.out _ _ (hbc.setCell (p := ⟨c15, 0, none⟩) hge15 _) (fun hHeld2 => ?_)
      clear hK K
      refine wpAnyH_done (by kernel_rfl) ?_ _
      exact ⟨c14, c15, ⟨hbc.setCell (p := ⟨c15, 0, none⟩) hge15 _, ⟨_, cset (p := ⟨c15, 0, none⟩) hne y14, set_other hset14 x15 (fun _ => by simp) _⟩, ⟨_, World.cell?_setCell_same' _ _ _ (by rw [x15]; rfl), set_other hset15 x15 (fun _ => by simp) _⟩⟩, _, _, _, _, _, _, _, _, rfl⟩
  case t1n9 =>
    go_simp
    obtain ⟨c15, hc15⟩ : ∃ c, c = V0.heap.size := ⟨_, rfl⟩
    have hge15 : W1.heap.size ≤ c15 := by rw [hc15]; exact hbc.size
    refine hK.out _ _ (hbc.alloc hbc.size _) (fun hHeld2 => ?_)
    clear hK K
    clear hHeld
    have hHeld := hHeld2
    clear hHeld2
    try simp only [Act.put, List.setIfInBounds_toArray, List.set_cons_zero, List.set_cons_succ]
    have x15 : (V0.alloc (.cells #[Value.slice none 0 0] 27)).cell? ⟨c15, 0, none⟩ = some (.slice none 0 0) := by rw [hc15]; exact (cell_new_l V0 _ 27).1
    have f15 : (V0.alloc (.cells #[Value.slice none 0 0] 27)).frozen? ⟨c15, 0, none⟩ = false := by rw [hc15]; exact (cell_new_l V0 (.slice none 0 0) 27).2
    replace hbc := hbc.alloc hbc.size (.cells #[Value.slice none 0 0] 27)
    rw [← hc15]
    generalize (V0.alloc (.cells #[Value.slice none 0 0] 27)) = V1 at *
    clear hc15
    refine wpAnyH_ready (rs := [3, 8]) (by kernel_rfl) (by simp) ?_
    refine AllReadyH.cons rfl (fun K hK => ?t8n3) (AllReadyH.cons rfl (fun K hK => ?t8n8) AllReadyH.nil)
    case t8n3 =>
      go_simp
      refine (with_any _ _ x0 V1 (HS7.out _ hbc)).mono ?_
      rintro e V2 ⟨v14, rfl, hset14, hb⟩
      obtain ⟨m14, ao14, cap14, b14, o14, rfl, _⟩ := id hset14
      replace hbc := bt hbc hb
      replace f15 := (hb.frozen (World.block_lt_of_cell? _ _ x15)).trans f15
      replace x15 := cell_past_ hb x15
      clear hb
      go_wp2_with fail
      refine hK.out _ _ hbc (fun hHeld2 => ?_)
      clear hK K
      clear hHeld
      have hHeld := hHeld2
      clear hHeld2
      try simp only [Act.put, List.setIfInBounds_toArray, List.set_cons_zero, List.set_cons_succ]
      refine wpAnyH_ready (rs := [7, 8]) (by kernel_rfl) (by simp) ?_
      refine AllReadyH.cons rfl (fun K hK => ?t9n7) (AllReadyH.cons rfl (fun K hK => ?t9n8) AllReadyH.nil)
      case t9n7 =>
        go_simp
        refine (without_any _ _ x0 V2 (HS7.out _ hbc)).mono ?_
        rintro e V3 ⟨v15, rfl, hset15, hb⟩
        obtain ⟨m15, ao15, cap15, b15, o15, rfl, _⟩ := id hset15
        replace hbc := bt hbc hb
        replace hset14 := hset14.below hb
        replace f15 := (hb.frozen (World.block_lt_of_cell? _ _ x15)).trans f15
        replace x15 := cell_past_ hb x15
        clear hb
        go_wp2_with fail
        refine hK.out _ _ hbc (fun hHeld2 => ?_)
        clear hK K
        clear hHeld
        have hHeld := hHeld2
        clear hHeld2
        try simp only [Act.put, List.setIfInBounds_toArray, List.set_cons_zero, List.set_cons_succ]
        refine wpAnyH_ready (rs := [8]) (by kernel_rfl) (by simp) ?_
        refine AllReadyH.cons rfl (fun K hK => ?_) AllReadyH.nil
        go_simp
        obtain ⟨c14, hc14⟩ : ∃ c, c = V3.heap.size := ⟨_, rfl⟩
        have hge14 : W1.heap.size ≤ c14 := by rw [hc14]; exact hbc.size
        refine hK.out _ _ (hbc.alloc hbc.size _) (fun hHeld2 => ?_)
        clear hK K
        clear hHeld
        have hHeld := hHeld2
        clear hHeld2
        try simp only [Act.put, List.setIfInBounds_toArray, List.set_cons_zero, List.set_cons_succ]
        have x14 : (V3.alloc (.cells #[Value.slice none 0 0] 27)).cell? ⟨c14, 0, none⟩ = some (.slice none 0 0) := by rw [hc14]; exact (cell_new_l V3 _ 27).1
        have f14 : (V3.alloc (.cells #[Value.slice none 0 0] 27)).frozen? ⟨c14, 0, none⟩ = false := by rw [hc14]; exact (cell_new_l V3 (.slice none 0 0) 27).2
        have hne : ¬ c14 = c15 := by have h1 := World.block_lt_of_cell? _ _ x15; simp only at h1; omega
        replace f15 := frozen_alloc_l (.cells #[Value.slice none 0 0] 27) x15 f15
        replace x15 := cell_alloc_l (.cells #[Value.slice none 0 0] 27) x15
        replace hset14 := hset14.below (ba (bz _) (.cells #[Value.slice none 0 0] 27))
        replace hset15 := hset15.below (ba (bz _) (.cells #[Value.slice none 0 0] 27))
        replace hbc := hbc.alloc hbc.size (.cells #[Value.slice none 0 0] 27)
        rw [← hc14]
        generalize (V3.alloc (.cells #[Value.slice none 0 0] 27)) = V4 at *
        clear hc14
        refine wpAnyH_ready (rs := [10]) (by kernel_rfl) (by simp) ?_
        refine AllReadyH.cons rfl (fun K hK => ?_) AllReadyH.nil
        go_simp
        refine hK.out _ _ (hbc.setCell (p := ⟨c14, 0, none⟩) hge14 _) (fun hHeld2 => ?_)
        clear hK K
        clear hHeld
        have hHeld := hHeld2
        clear hHeld2
        try simp only [Act.put, List.setIfInBounds_toArray, List.set_cons_zero, List.set_cons_succ]
        have y14 : (V4.setCell ⟨c14, 0, none⟩ (.slice ao14 m14 cap14)).cell? ⟨c14, 0, none⟩ = some (.slice ao14 m14 cap14) := World.cell?_setCell_same' _ _ _ (by rw [x14]; rfl)
        replace hset14 := set_other hset14 x14 (fun _ => by simp) (.slice ao14 m14 cap14)
        replace hset15 := set_other hset15 x14 (fun _ => by simp) (.slice ao14 m14 cap14)
        replace x15 := cset (p := ⟨c14, 0, none⟩) (u := .slice ao14 m14 cap14) (fun e => hne e.symm) x15
        replace f15 : (V4.setCell ⟨c14, 0, none⟩ (.slice ao14 m14 cap14)).frozen? ⟨c15, 0, none⟩ = false := by rw [World.frozen?_setCell]; exact f15
        replace hbc := hbc.setCell (p := ⟨c14, 0, none⟩) hge14 (.slice ao14 m14 cap14)
        clear x14 f14
        generalize (V4.setCell ⟨c14, 0, none⟩ (.slice ao14 m14 cap14)) = V5 at *
        refine wpAnyH_ready (rs := [11]) (by kernel_rfl) (by simp) ?_
        refine AllReadyH.cons rfl (fun K hK => ?_) AllReadyH.nil
        go_simp
        refine hK.out _ _ (hbc.setCell (p := ⟨c15, 0, none⟩) hge15 _) (fun hHeld2 => ?_)
        clear hK K
        refine wpAnyH_done (by kernel_rfl) ?_ _
        exact ⟨c14, c15, ⟨hbc.setCell (p := ⟨c15, 0, none⟩) hge15 _, ⟨_, cset (p := ⟨c15, 0, none⟩) hne y14, set_other hset14 x15 (fun _ => by simp) _⟩, ⟨_, World.cell?_setCell_same' _ _ _ (by rw [x15]; rfl), set_other hset15 x15 (fun _ => by simp) _⟩⟩, _, _, _, _, _, _, _, _, rfl⟩
      case t9n8 =>
        go_simp
        obtain ⟨c14, hc14⟩ : ∃ c, c = V2.heap.size := ⟨_, rfl⟩
        have hge14 : W1.heap.size ≤ c14 := by rw [hc14]; exact hbc.size
        refine hK.out _ _ (hbc.alloc hbc.size _) (fun hHeld2 => ?_)
        clear hK K
        clear hHeld
        have hHeld := hHeld2
        clear hHeld2
        try simp only [Act.put, List.setIfInBounds_toArray, List.set_cons_zero, List.set_cons_succ]
        have x14 : (V2.alloc (.cells #[Value.slice none 0 0] 27)).cell? ⟨c14, 0, none⟩ = some (.slice none 0 0) := by rw [hc14]; exact (cell_new_l V2 _ 27).1
        have f14 : (V2.alloc (.cells #[Value.slice none 0 0] 27)).frozen? ⟨c14, 0, none⟩ = false := by rw [hc14]; exact (cell_new_l V2 (.slice none 0 0) 27).2
        have hne : ¬ c14 = c15 := by have h1 := World.block_lt_of_cell? _ _ x15; simp only at h1; omega
        replace f15 := frozen_alloc_l (.cells #[Value.slice none 0 0] 27) x15 f15
        replace x15 := cell_alloc_l (.cells #[Value.slice none 0 0] 27) x15
        replace hset14 := hset14.below (ba (bz _) (.cells #[Value.slice none 0 0] 27))
        replace hbc := hbc.alloc hbc.size (.cells #[Value.slice none 0 0] 27)
        rw [← hc14]
        generalize (V2.alloc (.cells #[Value.slice none 0 0] 27)) = V3 at *
        clear hc14
        refine wpAnyH_ready (rs := [7]) (by kernel_rfl) (by simp) ?_
        refine AllReadyH.cons rfl (fun K hK => ?_) AllReadyH.nil
        go_simp
        refine (without_any _ _ x0 V3 (HS7.out _ hbc)).mono ?_
        rintro e V4 ⟨v15, rfl, hset15, hb⟩
        obtain ⟨m15, ao15, cap15, b15, o15, rfl, _⟩ := id hset15
        replace hbc := bt hbc hb
        replace hset14 := hset14.below hb
        replace f14 := (hb.frozen (World.block_lt_of_cell? _ _ x14)).trans f14
        replace x14 := cell_past_ hb x14
        replace f15 := (hb.frozen (World.block_lt_of_cell? _ _ x15)).trans f15
        replace x15 := cell_past_ hb x15
        clear hb
        go_wp2_with fail
        refine hK.out _ _ hbc (fun hHeld2 => ?_)
        clear hK K
        clear hHeld
        have hHeld := hHeld2
        clear hHeld2
        try simp only [Act.put, List.setIfInBounds_toArray, List.set_cons_zero, List.set_cons_succ]
        refine wpAnyH_ready (rs := [10]) (by kernel_rfl) (by simp) ?_
        refine AllReadyH.cons rfl (fun K hK => ?_) AllReadyH.nil
        go_simp
        refine hK.out _ _ (hbc.setCell (p := ⟨c14, 0, none⟩) hge14 _) (fun hHeld2 => ?_)
        clear hK K
        clear hHeld
        have hHeld := hHeld2
        clear hHeld2
        try simp only [Act.put, List.setIfInBounds_toArray, List.set_cons_zero, List.set_cons_succ]
        have y14 : (V4.setCell ⟨c14, 0, none⟩ (.slice ao14 m14 cap14)).cell? ⟨c14, 0, none⟩ = some (.slice ao14 m14 cap14) := World.cell?_setCell_same' _ _ _ (by rw [x14]; rfl)
        replace hset14 := set_other hset14 x14 (fun _ => by simp) (.slice ao14 m14 cap14)
        replace hset15 := set_other hset15 x14 (fun _ => by simp) (.slice ao14 m14 cap14)
        replace x15 := cset (p := ⟨c14, 0, none⟩) (u := .slice ao14 m14 cap14) (fun e => hne e.symm) x15
        replace f15 : (V4.setCell ⟨c14, 0, none⟩ (.slice ao14 m14 cap14)).frozen? ⟨c15, 0, none⟩ = false := by rw [World.frozen?_setCell]; exact f15
        replace hbc := hbc.setCell (p := ⟨c14, 0, none⟩) hge14 (.slice ao14 m14 cap14)
        clear x14 f14
        generalize (V4.setCell ⟨c14, 0, none⟩ (.slice ao14 m14 cap14)) = V5 at *
        refine wpAnyH_ready (rs := [11]) (by kernel_rfl) (by simp) ?_
        refine AllReadyH.cons rfl (fun K hK => ?_) AllReadyH.nil
        go_simp
        refine hK.out _ _ (hbc.setCell (p := ⟨c15, 0, none⟩) hge15 _) (fun hHeld2 => ?_)
        clear hK K
        refine wpAnyH_done (by kernel_rfl) ?_ _
        exact ⟨c14, c15, ⟨hbc.setCell (p := ⟨c15, 0, none⟩) hge15 _, ⟨_, cset (p := ⟨c15, 0, none⟩) hne y14, set_other hset14 x15 (fun _ => by simp) _⟩, ⟨_, World.cell?_setCell_same' _ _ _ (by rw [x15]; rfl), set_other hset15 x15 (fun _ => by simp) _⟩⟩, _, _, _, _, _, _, _, _, rfl⟩
    case t8n8 =>
      go_simp
      obtain ⟨c14, hc14⟩ : ∃ c, c = V1.heap.size := ⟨_, rfl⟩
      have hge14 : W1.heap.size ≤ c14 := by rw [hc14]; exact hbc.size
      refine hK.out _ _ (hbc.alloc hbc.size _) (fun hHeld2 => ?_)
      clear hK K
      clear hHeld
      have hHeld := hHeld2
      clear hHeld2
      try simp only [Act.put, List.setIfInBounds_toArray, List.set_cons_zero, List.set_cons_succ]
      have x14 : (V1.alloc (.cells #[Value.slice none 0 0] 27)).cell? ⟨c14, 0, none⟩ = some (.slice none 0 0) := by rw [hc14]; exact (cell_new_l V1 _ 27).1
      have f14 : (V1.alloc (.cells #[Value.slice none 0 0] 27)).frozen? ⟨c14, 0, none⟩ = false := by rw [hc14]; exact (cell_new_l V1 (.slice none 0 0) 27).2
      have hne : ¬ c14 = c15 := by have h1 := World.block_lt_of_cell? _ _ x15; simp only at h1; omega
      replace f15 := frozen_alloc_l (.cells #[Value.slice none 0 0] 27) x15 f15
      replace x15 := cell_alloc_l (.cells #[Value.slice none 0 0] 27) x15
      replace hbc := hbc.alloc hbc.size (.cells #[Value.slice none 0 0] 27)
      rw [← hc14]
      generalize (V1.alloc (.cells #[Value.slice none 0 0] 27)) = V2 at *
      clear hc14
      refine wpAnyH_ready (rs := [3]) (by kernel_rfl) (by simp) ?_
      refine AllReadyH.cons rfl (fun K hK => ?_) AllReadyH.nil
      go_simp
      refine (with_any _ _ x0 V2 (HS7.out _ hbc)).mono ?_
      rintro e V3 ⟨v14, rfl, hset14, hb⟩
      obtain ⟨m14, ao14, cap14, b14, o14, rfl, _⟩ := id hset14
      replace hbc := bt hbc hb
      replace f14 := (hb.frozen (World.block_lt_of_cell? _ _ x14)).trans f14
      replace x14 := cell_past_ hb x14
      replace f15 := (hb.frozen (World.block_lt_of_cell? _ _ x15)).trans f15
      replace x15 := cell_past_ hb x15
      clear hb
      go_wp2_with fail
      refine hK.out _ _ hbc (fun hHeld2 => ?_)
      clear hK K
      clear hHeld
      have hHeld := hHeld2
      clear hHeld2
      try simp only [Act.put, List.setIfInBounds_toArray, List.set_cons_zero, List.set_cons_succ]
      refine wpAnyH_ready (rs := [7]) (by kernel_rfl) (by simp) ?_
      refine AllReadyH.cons rfl (fun K hK => ?_) AllReadyH.nil
      go_simp
      refine (without_any _ _ x0 V3 (HS7.out _ hbc)).mono ?_
      rintro e V4 ⟨v15, rfl, hset15, hb⟩
      obtain ⟨m15, ao15, cap15, b15, o15, rfl, _⟩ := id hset15
      replace hbc := bt hbc hb
      replace hset14 := hset14.below hb
      replace f14 := (hb.frozen (World.block_lt_of_cell? _ _ x14)).trans f14
      replace x14 := cell_past_ hb x14
      replace f15 := (hb.frozen (World.block_lt_of_cell? _ _ x15)).trans f15
      replace x15 := cell_past_ hb x15
      clear hb
      go_wp2_with fail
      refine hK.out _ _ hbc (fun hHeld2 => ?_)
      clear hK K
      clear hHeld
      have hHeld := hHeld2
      clear hHeld2
      try simp only [Act.put, List.setIfInBounds_toArray, List.set_cons_zero, List.set_cons_succ]
      refine wpAnyH_ready (rs := [10]) (by kernel_rfl) (by simp) ?_
      refine AllReadyH.cons rfl (fun K hK => ?_) AllReadyH.nil
      go_simp
      refine hK.out _ _ (hbc.setCell (p := ⟨c14, 0, none⟩) hge14 _) (fun hHeld2 => ?_)
      clear hK K
      clear hHeld
      have hHeld := hHeld2
      clear hHeld2
      try simp only [Act.put, List.setIfInBounds_toArray, List.set_cons_zero, List.set_cons_succ]
      have y14 : (V4.setCell ⟨c14, 0, none⟩ (.slice ao14 m14 cap14)).cell? ⟨c14, 0, none⟩ = some (.slice ao14 m14 cap14) := World.cell?_setCell_same' _ _ _ (by rw [x14]; rfl)
      replace hset14 := set_other hset14 x14 (fun _ => by simp) (.slice ao14 m14 cap14)
      replace hset15 := set_other hset15 x14 (fun _ => by simp) (.slice ao14 m14 cap14)
      replace x15 := cset (p := ⟨c14, 0, none⟩) (u := .slice ao14 m14 cap14) (fun e => hne e.symm) x15
      replace f15 : (V4.setCell ⟨c14, 0, none⟩ (.slice ao14 m14 cap14)).frozen? ⟨c15, 0, none⟩ = false := by rw [World.frozen?_setCell]; exact f15
      replace hbc := hbc.setCell (p := ⟨c14, 0, none⟩) hge14 (.slice ao14 m14 cap14)
      clear x14 f14
      generalize (V4.setCell ⟨c14, 0, none⟩ (.slice ao14 m14 cap14)) = V5 at *
      refine wpAnyH_ready (rs := [11]) (by kernel_rfl) (by simp) ?_
      refine AllReadyH.cons rfl (fun K hK => ?_) AllReadyH.nil
      go_simp
      refine hK.out _ _ (hbc.setCell (p := ⟨c15, 0, none⟩) hge15 _) (fun hHeld2 => ?_)
      clear hK K
      refine wpAnyH_done (by kernel_rfl) ?_ _
      exact ⟨c14, c15, ⟨hbc.setCell (p := ⟨c15, 0, none⟩) hge15 _, ⟨_, cset (p := ⟨c15, 0, none⟩) hne y14, set_other hset14 x15 (fun _ => by simp) _⟩, ⟨_, World.cell?_setCell_same' _ _ _ (by rw [x15]; rfl), set_other hset15 x15 (fun _ => by simp) _⟩⟩, _, _, _, _, _, _, _, _, rfl⟩
end Go.Proofs.Ytfjccgihdnemkaa
