/- The document's Run. Printed by gen_runs.py. -/
import Derived.Test.YtoidbmgoofbcfaaRefstep
import Derived.Test.YtoidbmgoofbcfaaAwake
namespace Go.Proofs.Ytoidbmgoofbcfaa
open Go.RowKit Go.Um
set_option linter.unusedSimpArgs false
set_option linter.unusedVariables false
set_option maxHeartbeats 4000000
set_option maxRecDepth 100000

/-- the document's list behind the first k operations -/
def TN (T : List (Int × Int)) (l : List Op5) : Nat → List (Int × Int)
  | 0 => T
  | k + 1 => match l[k]? with
    | some x => (stepL (TN T l k) x).1
    | none => TN T l k
theorem stepL_foreign {T : List (Int × Int)} {x : Op5} (h : known x = false) : stepL T x = (T, (0, 0), 10) := by
  unfold stepL
  rw [if_pos]
  by_cases hk : 8 ≤ x.k
  · exact .inl hk
  · simp only [known, hk, decide_false, Bool.not_false, Bool.true_and, Bool.or_eq_false_iff, beq_eq_false_iff_ne] at h
    omega
theorem TN_succ {T : List (Int × Int)} {l : List Op5} {k : Nat} {x : Op5} (h : l[k]? = some x) : TN T l (k + 1) = (stepL (TN T l k) x).1 := by simp [TN, h]
theorem TN_law {T : List (Int × Int)} (hT : ItOk T) {l : List Op5} (hl : ∀ x ∈ l, x.ok) : ∀ k, ItOk (TN T l k) ∧ kvN (TN T l k) = stN (kvN T) l k ∧ (TN T l k).length ≤ T.length + k
  | 0 => ⟨hT, rfl, by simp [TN]⟩
  | k + 1 => by
    obtain ⟨h1, h2, h3⟩ := TN_law hT hl k
    cases hx : l[k]? with
    | none => simp only [TN, hx, stN]; exact ⟨h1, h2, by omega⟩
    | some x =>
      have hs := step_law h1 (hl x (List.mem_of_getElem? hx))
      rw [TN_succ hx, stN_succ hx]
      refine ⟨hs.1, by rw [hs.2.1, h2], ?_⟩
      have := stepL_len (T := TN T l k) x
      omega
/-- what the document's Run leaves -/
def RefRunPost (T : List (Int × Int)) (s : KV) (l : List Op5) (w : World) (e : Ending) (w' : World) : Prop :=
  ∃ ao cap b o n v', n = (TN T l (stopAt l)).length ∧ e = .returned (.tuple #[.slice ao n cap, v', .int .i64 (errAt l)]) ∧ SlAt w' 2 n ((TN T l (stopAt l)).flatMap resC) ao cap b o ∧
    w'.ownsRow w.heap.size 39 2 v' (stopAt l) ((outN s l (stopAt l)).flatMap resC) ∧ Below w.heap.size w w'
/-- at the head of a round -/
structure RfInv (w : World) (T : List (Int × Int)) (n : Nat) (out : List Value) (ao : Option Addr) (cap b o : Nat) (t7 : Value) (wr : World) : Prop where
  s : SlAt wr 2 T.length (T.flatMap resC) ao cap b o
  own : wr.ownsRow w.heap.size 39 2 t7 n out
  ne : 0 < (T.flatMap resC).length → t7.ownBlock ≠ some b
  bel : Below w.heap.size w wr
theorem SlAt.grown {W w2 : World} {row : Option Nat} {size n cap b o : Nat} {cs : List Value} {ao : Option Addr} (h : SlAt W size n cs ao cap b o) (hg : W.grownBy w2 row) (hne : 0 < cs.length → row ≠ some b) : SlAt w2 size n cs ao cap b o :=
  ⟨h.len, h.le, h.max, h.addr, fun hp => Nat.lt_of_lt_of_le (h.lt hp) hg.size, fun j u hu => hg.cell (a := ⟨b, o + j, none⟩) (h.cell j u hu) (fun e => hne (by have := (List.getElem?_eq_some_iff.1 hu).1; omega) e.symm)⟩

theorem refrun_any (T : List (Int × Int)) (l : List Op5) (aoT : Option Addr) (capT bT oT : Nat) (ao : Option Addr) (cap b o : Nat) (w : World) (hT : ItOk T) (hTl : T.length ≤ 8) (hsT : SlAt w 2 T.length (T.flatMap resC) aoT capT bT oT) (h : SlAt w 5 l.length (l.flatMap Op5.cells) ao cap b o) (hok : ∀ x ∈ l, x.ok) (hlen : l.length ≤ 200) :
    Calls Try.prog 13 #[.slice aoT T.length capT, .slice ao l.length cap] w (RefRunPost T (kvN T) l w) := by
  obtain ⟨j3, hj, jz0, jz1, jz2⟩ := info_parts info39
  have hidx := h.idx (P := Try.prog) (t := 26) Try.underlying26 size44 (by decide)
  have Hok := Lib.hid hok
  have Hsl := Lib.hid h
  have HLW := Lib.hid (TN_law hT hok)
  have HI0 : Hid (RfInv w (TN T l 0) 0 ((outN (kvN T) l 0).flatMap resC) aoT capT bT oT (.slice none 0 0) w) := Lib.hid ⟨hsT, World.ownsRow_nil _ _ _ _, by simp [Value.ownBlock], bz w⟩
  have hlt0 : T.length = (TN T l 0).length := rfl
  rw [hlt0]
  clear h hok hsT hlt0
  go_enter Try.func13, Try.ntmps13
  go_wp2_with fail
  go_loopw [0, 7, 8] (fun t0 t7 t8 wr => ∃ (k : Nat) (aoK : Option Addr) (capK bK oK : Nat), k ≤ l.length ∧ k ≤ stopAt l ∧ t8 = .int .i64 k ∧ t0 = .slice aoK (TN T l k).length capK ∧ Hid (RfInv w (TN T l k) k ((outN (kvN T) l k).flatMap resC) aoK capK bK oK t7 wr)) (fun _ _ t8 _ => l.length - (intOf t8).toNat)
  case atStart => exact ⟨0, aoT, capT, bT, oT, Nat.zero_le _, Nat.zero_le _, rfl, rfl, HI0.out⟩
  case round =>
    obtain ⟨k, aoK, capK, bK, oK, hk, hks, rfl, rfl, hinv⟩ := hrel
    have hsz := hinv.out.bel.size
    by_cases hlt : k < l.length
    · obtain ⟨x, hx⟩ : ∃ x, l[k]? = some x := ⟨_, List.getElem?_eq_getElem hlt⟩
      obtain ⟨g0, g1, g2, g3, g4⟩ := op_at (Hsl.out.below' hinv.out.bel Hsl.out.lt) hx
      have hxo : x.ok := Hok.out x (List.mem_of_getElem? hx)
      obtain ⟨lw1, lw2, lw3⟩ := HLW.out k
      have hfor : known x = false → stepL (TN T l k) x = (TN T l k, (0, 0), 10) := fun h => stepL_foreign h
      have hstep := fun aoX capX bX oX W hW => refstep_any (TN T l k) (TN T l k).length rfl aoX capX bX oX x W hW lw1 (by omega)
      have hlaw := step_law lw1 hxo
      rw [lw2] at hlaw
      have hTS := TN_succ (T := T) hx
      have hOS := outN_succ (s := kvN T) hx
      obtain ⟨TK, hTK⟩ : ∃ t, t = TN T l k := ⟨_, rfl⟩
      obtain ⟨RR, hRR⟩ : ∃ t, t = stepL (TN T l k) x := ⟨_, rfl⟩
      obtain ⟨OUT, hOUT⟩ : ∃ z, z = (outN (kvN T) l k).flatMap resC := ⟨_, rfl⟩
      have hOS2 := congrArg (fun z => z.flatMap resC) hOS
      simp only [List.flatMap_append] at hOS2
      rw [← hOUT] at hOS2 hinv
      rw [← hRR] at hstep hlaw hTS hfor
      have HTK := Lib.hid hTK
      have HOUT := Lib.hid hOUT
      rw [← hTK] at hstep hinv hfor
      rw [← hTK]
      have HX := Lib.hid hx
      have HTS := Lib.hid hTS
      have HOS := Lib.hid hOS2
      have HI := Lib.hid hinv.out
      have HRS := Lib.hid hstep
      unfold StepPost at HRS
      have HLAW := Lib.hid hlaw
      have i1 : (0 : Int) ≤ (k : Int) := by omega
      have i2 : (k : Int) < (l.length : Int) := by omega
      have hbw : b < wr.heap.size := World.block_lt_of_cell? wr _ g0
      have hkT : TK.length ≤ 208 := by rw [hTK]; omega
      clear hx hxo lw1 lw2 lw3 hstep hlaw hTS hOS hOS2 hTK hRR hOUT hinv
      by_cases hkn : known x = true
      · have he : RR.2.2 = 0 := by have := HLAW.out.2.2; rw [this]; exact known_err hkn
        obtain ⟨ra, hra⟩ : ∃ r, r = RR.2.1.1 := ⟨_, rfl⟩
        obtain ⟨rb, hrb⟩ : ∃ r, r = RR.2.1.2 := ⟨_, rfl⟩
        obtain ⟨RT, hRT⟩ : ∃ r, r = RR.1 := ⟨_, rfl⟩
        rw [he, ← hra, ← hrb, ← hRT] at HRS
        rw [← hRT] at HTS
        have HAB : Hid ((ra, rb) = (stp (stN (kvN T) l k) x).2.1) := Lib.hid (by rw [hra, hrb, ← HLAW.out.2.2])
        have HKN := Lib.hid hkn
        unfold Go.Um.Op5.val at HRS
        clear he hra hrb hRT hkn
        go_wp2_with fail
        refine (HRS.out aoK capK bK oK _ (HI.out.s.below (by repeat (first | (with_reducible exact bz _) | (with_reducible apply ba) | (with_reducible apply Below.drew) | (with_reducible exact below_dd _ _ _) | (with_reducible apply below_drewN))))).mono ?_
        rintro e w1 ⟨aoR, capR, bR, oR, nR, hnR, rfl, hsR, hb, hwR⟩
        subst hnR
        have hown1 := own_past HI.out.own (bt (by repeat (first | (with_reducible exact bz _) | (with_reducible apply ba) | (with_reducible apply Below.drew) | (with_reducible exact below_dd _ _ _) | (with_reducible apply below_drewN))) hb)
        have hne1 : 0 < (RT.flatMap resC).length → u7.ownBlock ≠ some bR := fun hp e => by
          have hlt7 := (HI.out.own.lt _ e)
          rcases hwR hp with ⟨e1, e2⟩ | e1
          · exact HI.out.ne (by rw [← e2]; exact hp) (by rw [e, e1])
          · first | omega | (simp at e1; omega)
        have HO1 := Lib.hid hown1
        have HNE := Lib.hid hne1
        have HSR := Lib.hid hsR
        have HB1 := Lib.hid (HI.out.bel.trans ((bt (by repeat (first | (with_reducible exact bz _) | (with_reducible apply ba) | (with_reducible apply Below.drew) | (with_reducible exact below_dd _ _ _) | (with_reducible apply below_drewN))) hb).mono hsz))
        have hsz1 := HB1.out.size
        clear hsR hb hwR hown1 hne1 g0 g1 g2 g3 g4
        go_wp2_with (at_builtin; refine wpList_append_lies _ rfl (.tmp 34) (.tmp 36) 29 rfl w.heap.size 39 j3 (.agg #[.int .u8 0, .int .u16 0]) 2 4 Try.underlying29 hj jz0 jz1 jz2 rfl (by decide) _ _ _ rfl ((HO1.out.alloc _).alloc _) ⟨w1.heap.size + 1, 0, none⟩ 1 1 [.int .u8 ra, .int .u16 rb] rfl rfl (new_cells _ _ _ _ (by simp)) (by simp [Value.oneCell']) (by decide) (by unfold maxLen; omega) (by omega) (by simp; omega) _ rfl ?_)
        intro gg cap3 wa hown3 hgrow3 hat3 hlt3
        have hR3 : RfInv w RT (k + 1) (OUT ++ [.int .u8 ra, .int .u16 rb]) aoR capR bR oR (.slice (some ⟨gg, 0, none⟩) (k + 1) cap3) wa := by
          refine ⟨SlAt.grown (HSR.out.below (ba (ba (bz _) _) _)) hgrow3 HNE.out, hown3, fun hp => ?_, below_own (by have := HB1.out; exact ba' (ba' this hsz1 _) (by simp; omega) _) ((HO1.out.alloc _).alloc _) hgrow3 (Nat.le_refl _) (by simp; omega)⟩
          have hbr := HSR.out.lt hp
          simp only [Value.ownBlock]
          intro e
          injection e with e
          rcases hat3 with e2 | e2
          · exact HNE.out hp (by rw [e2, e])
          · first | omega | (simp at e2; omega)
        have HR3 := Lib.hid hR3
        clear hR3 hown3 hgrow3 hat3 hlt3
        go_wp2_with fail
        go_roundw
        case rel =>
          refine ⟨k + 1, aoR, capR, bR, oR, by omega, stopAt_lt HX.out hks HKN.out, by go_num, by rw [HTS.out], ?_⟩
          rw [HTS.out, HOS.out, ← HAB.out]
          exact HR3
        case measure => simp [intOf]; omega
      · have hkn' : known x = false := by simpa using hkn
        have he := hfor hkn'
        rw [he] at HRS
        have hst : stopAt l = k := stopAt_eq HX.out hks hkn'
        have her : errAt l = 10 := by rw [errAt, hst, if_neg (by omega)]
        have HST := Lib.hid hst
        have HER := Lib.hid her
        unfold Go.Um.Op5.val at HRS
        clear hfor hkn hkn' he hst her
        go_wp2_with fail
        refine (HRS.out aoK capK bK oK _ (HI.out.s.below (by repeat (first | (with_reducible exact bz _) | (with_reducible apply ba) | (with_reducible apply Below.drew) | (with_reducible exact below_dd _ _ _) | (with_reducible apply below_drewN))))).mono ?_
        rintro e w1 ⟨aoR, capR, bR, oR, nR, hnR, rfl, hsR, hb, hwR⟩
        subst hnR
        have HSR := Lib.hid (hsR.below (ba (bz _) (.cells #[.int .u8 0, .int .u16 0] 39)))
        have HO1 := Lib.hid (own_past HI.out.own (bt (by repeat (first | (with_reducible exact bz _) | (with_reducible apply ba) | (with_reducible apply Below.drew) | (with_reducible exact below_dd _ _ _) | (with_reducible apply below_drewN))) (bt hb (ba (bz _) (.cells #[.int .u8 0, .int .u16 0] 39)))))
        have HS1 := Lib.hid (HI.out.s.below (bt (by repeat (first | (with_reducible exact bz _) | (with_reducible apply ba) | (with_reducible apply Below.drew) | (with_reducible exact below_dd _ _ _) | (with_reducible apply below_drewN))) (bt hb (ba (bz _) (.cells #[.int .u8 0, .int .u16 0] 39)))))
        have HB1 := Lib.hid (HI.out.bel.trans ((bt (by repeat (first | (with_reducible exact bz _) | (with_reducible apply ba) | (with_reducible apply Below.drew) | (with_reducible exact below_dd _ _ _) | (with_reducible apply below_drewN))) (bt hb (ba (bz _) (.cells #[.int .u8 0, .int .u16 0] 39)))).mono hsz))
        clear hsR hb hwR g0 g1 g2 g3 g4
        go_wp2
        go_ret3
        refine ⟨aoK, capK, bK, oK, TK.length, u7, ?_, ?_, ?_, ?_, ?_⟩
        · rw [HST.out, HTK.out]
        · rw [HER.out]; rfl
        · rw [HST.out, ← HTK.out]; exact HS1.out
        · rw [HST.out, ← HOUT.out]; exact HO1.out
        · exact HB1.out
    · have hk' : l.length = k := by omega
      have hst : stopAt l = k := by have := stopAt_le l; omega
      have her : errAt l = 0 := by rw [errAt, hst, if_pos hk'.symm]
      have HST := Lib.hid hst
      have HER := Lib.hid her
      have kk1 : ¬ ((k : Int) < (l.length : Int)) := by omega
      clear hk' hst her
      go_wp2
      go_ret3
      refine ⟨aoK, capK, bK, oK, (TN T l k).length, u7, ?_, ?_, ?_, ?_, ?_⟩
      · rw [HST.out]
      · rw [HER.out]; rfl
      · rw [HST.out]; exact hinv.out.s
      · rw [HST.out]; exact hinv.out.own
      · exact hinv.out.bel
end Go.Proofs.Ytoidbmgoofbcfaa
