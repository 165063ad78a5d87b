/- TableOrder: the code behind the four rows, walked by itself: all cases. Printed by gen_to.py. -/
import Derived.Test.YtjmanajbdkbkdaaTo0
import Derived.Test.YtjmanajbdkbkdaaTo1
import Derived.Test.YtjmanajbdkbkdaaTo2
import Derived.Test.YtjmanajbdkbkdaaTo3
import Derived.Test.YtjmanajbdkbkdaaTo4
import Derived.Test.YtjmanajbdkbkdaaTo5
import Derived.Test.YtjmanajbdkbkdaaTo6
import Derived.Test.YtjmanajbdkbkdaaTo7
import Derived.BigQuiet
namespace Go.Proofs.Ytjmanajbdkbkdaa
open Go.RowKit Go.Um
set_option linter.unusedSimpArgs false
set_option linter.unusedVariables false
set_option maxHeartbeats 8000000
set_option maxRecDepth 100000
theorem rest_all {u0 u1 u2 u3 u4 u5 u6 u7 u8 u15 u16 u17 u18 u19 u20 u21 u22 u23 u24 u25 u26 u27 u28 u29 u30 u31 u32 u33 u34 u35 u36 u37 u38 u39 u40 u41 u42 u43 u44 u45 u46 u47 u48 u49 u50 u51 u52 u53 u54 u55 u56 u57 u58 u59 u60 u61 u62 u63 u64 u65 u66 u67 u68 u69 u70 u71 u72 u73 u74 u75 u76 u77 u78 u79 u80 u81 u82 u83 u84 u85 u86 u87 u88 u89 u90 u91 u92 u93 u94 u95 u96 u97 u98 u99 u100 u101 u102 u103 u104 u105 u106 u107 u108 u109 u110 u111 u112 u113 u114 u115 u116 u117 u118 u119 u120 u121 u122 u123 u124 u125 u126 u127 u128 u129 u130 u131 u132 u133 u134 u135 u136 u137 u138 u139 u140 u141 u142 u143 u144 u145 u146 u147 u148 u149 u150 u151 u152 u153 u154 u155 u156 u157 u158 u159 u160 u161 u162 u163 u164 u165 u166 u167 u168 u169 u170 u171 u172 u173 u174 u175 u176 u177 u178 u179 u180 u181 u182 u183 u184 u185 u186 u187 u188 u189 u190 u191 u192 u193 u194 u195 u196 : Value} {xa xb xc xd : Rw} {L : List Rw} {nx : Int} {w w2 wc : World} {g m cap2 c11 c12 c13 c14 : Nat} (code : Code) (hcode : Try.f3.body.map (subC [1, 1, 1, 1, 1, 1, 1, 1, 1]) = some code) (HRL : Hid (RL L nx)) (HC : Hid (Cut4 w2 xa xb xc xd c11 c12 c13 c14 wc)) (HS2 : Hid (SlAt w2 12 m (L.flatMap Rw.cells) (some ⟨g, 0, none⟩) cap2 g 0)) (HM : Hid (m = L.length)) (hm0 : 0 < m) (hlen : m ≤ 60) (HB2 : Hid (Below w.heap.size w w2)) (e_aa : bef xa xa = false) (HMA : Hid (xa ∈ L)) (HMB : Hid (xb ∈ L)) :
    code.wp Try.prog (bodyPost Try.prog Try.f3 (fun e w' => e = .returned (.bool true) ∧ Below w.heap.size w w')) { tmps := #[u0, u1, u2, u3, u4, u5, u6, u7, u8, .slice (some ⟨g, 0, none⟩) m cap2, .int .i64 (m : Int), .pointer (some ⟨c11, 0, none⟩), .pointer (some ⟨c12, 0, none⟩), .pointer (some ⟨c13, 0, none⟩), .pointer (some ⟨c14, 0, none⟩), u15, u16, u17, u18, u19, u20, u21, u22, u23, u24, u25, u26, u27, u28, u29, u30, u31, u32, u33, u34, u35, u36, u37, u38, u39, u40, u41, u42, u43, u44, u45, u46, u47, u48, u49, u50, u51, u52, u53, u54, u55, u56, u57, u58, u59, u60, u61, u62, u63, u64, u65, u66, u67, u68, u69, u70, u71, u72, u73, u74, u75, u76, u77, u78, u79, u80, u81, u82, u83, u84, u85, u86, u87, u88, u89, u90, u91, u92, u93, u94, u95, u96, u97, u98, u99, u100, u101, u102, u103, u104, u105, u106, u107, u108, u109, u110, u111, u112, u113, u114, u115, u116, u117, u118, u119, u120, u121, u122, u123, u124, u125, u126, u127, u128, u129, u130, u131, u132, u133, u134, u135, u136, u137, u138, u139, u140, u141, u142, u143, u144, u145, u146, u147, u148, u149, u150, u151, u152, u153, u154, u155, u156, u157, u158, u159, u160, u161, u162, u163, u164, u165, u166, u167, u168, u169, u170, u171, u172, u173, u174, u175, u176, u177, u178, u179, u180, u181, u182, u183, u184, u185, u186, u187, u188, u189, u190, u191, u192, u193, u194, u195, u196], defers := [] } wc := by
  rcases Bool.eq_false_or_eq_true (bef xa xb) with e_ab | e_ab
  · have hst := ((bef_iff xa xb).1 e_ab).1
    have hs1 : (xa.st == 1) = true := by simpa using hst
    have e_ba := bef_asym HRL.out HMA.out HMB.out e_ab
    rcases Bool.eq_false_or_eq_true (bef xb xc) with e_bc | e_bc
    · have e_ac := bef_trans HRL.out HMB.out e_ab e_bc
      rcases Bool.eq_false_or_eq_true (bef xc xd) with e_cd | e_cd
      · rcases Bool.eq_false_or_eq_true (bef xa xd) with e_ad | e_ad
        · exact rest6 code hcode HRL HC HS2 HM hm0 hlen HB2 e_aa e_ab hs1 e_ba e_bc e_ac e_cd e_ad
        · have e_cb := bef_inter HRL.out e_ab e_cd e_ad
          exact rest7 code hcode HRL HC HS2 HM hm0 hlen HB2 e_aa e_ab hs1 e_ba e_bc e_ac e_cd e_ad e_cb
      · exact rest5 code hcode HRL HC HS2 HM hm0 hlen HB2 e_aa e_ab hs1 e_ba e_bc e_ac e_cd
    · skip
      rcases Bool.eq_false_or_eq_true (bef xc xd) with e_cd | e_cd
      · rcases Bool.eq_false_or_eq_true (bef xa xd) with e_ad | e_ad
        · exact rest3 code hcode HRL HC HS2 HM hm0 hlen HB2 e_aa e_ab hs1 e_ba e_bc e_cd e_ad
        · have e_cb := bef_inter HRL.out e_ab e_cd e_ad
          exact rest4 code hcode HRL HC HS2 HM hm0 hlen HB2 e_aa e_ab hs1 e_ba e_bc e_cd e_ad e_cb
      · exact rest2 code hcode HRL HC HS2 HM hm0 hlen HB2 e_aa e_ab hs1 e_ba e_bc e_cd
  · by_cases hst : xa.st = 1
    · have hs1 : (xa.st == 1) = true := by simpa using hst
      exact rest0 code hcode HRL HC HS2 HM hm0 hlen HB2 e_aa e_ab hs1
    · have hs1 : (xa.st == 1) = false := by simpa using hst
      exact rest1 code hcode HRL HC HS2 HM hm0 hlen HB2 e_aa e_ab hs1
end Go.Proofs.Ytjmanajbdkbkdaa
