/- The document's Take. -/
import Derived.Test.YtggbcailaeebfaaRof
import Derived.Deep.RegionLaw
import Derived.Deep.AppendLies
namespace Go.Proofs.Ytggbcailaeebfaa
open Go.RowKit Go.Um
set_option linter.unusedSimpArgs false
set_option linter.unusedVariables false
set_option maxHeartbeats 4000000
set_option maxRecDepth 100000
def RTPost (T : Nat → Prop) (q : Nat) (B : Bool) (E : Int) (M' : Nat → List (List Int)) (w : World) (e : Ending) (w' : World) : Prop :=
  e = .returned (.tuple #[.bool B, .int .i64 E]) ∧ RefAt (fun b => T b ∨ w.heap.size ≤ b) w' q M' ∧ Kept (fun b => b = q) w w'
theorem RTPost.stay {T : Nat → Prop} {q : Nat} {B : Bool} {E : Int} {M : Nat → List (List Int)} {w w' : World} (h : RefAt T w q M) (hq : Qt w w') : RTPost T q B E M w (.returned (.tuple #[.bool B, .int .i64 E])) w' := by
  refine ⟨rfl, (h.below hq.below).mono fun b _ hb => .inl hb, ?_⟩
  obtain ⟨n, rfl⟩ := hq
  exact (Kept.refl _ w).drewN n
theorem rtakeM_no {M : Nat → List (List Int)} {k : Nat} {l : List Int} (h : rtakeB M k l = false) : rtakeM M k l = M := by unfold rtakeM; rw [if_neg (by rw [h]; simp)]
theorem rtake_early (T : Nat → Prop) (q k : Nat) (M : Nat → List (List Int)) (l : List Int) (ao : Option Addr) (cap b o : Nat) (w : World) (h : RefAt T w q M) (hs : SlAt w 1 l.length (us l) ao cap b o) (hlen : l.length ≤ 100000) (hk : k ≤ 255)
    (hno : 8 ≤ k ∨ 32 < l.length ∨ ¬ l.Nodup) : Calls Try.prog 18 #[.pointer (some ⟨q, 0, none⟩), .int .u8 k, .slice ao l.length cap] w (RTPost T q (rtakeB M k l) (takeE k l) (rtakeM M k l) w) := by
  have ht := rtwice_any l ao cap b o w hs hlen
  have hb : rtakeB M k l = false := by
    unfold rtakeB
    rcases hno with h | h | h
    · rw [decide_eq_false (by omega : ¬ k < 8)]; rfl
    · rw [decide_eq_false (by omega : ¬ l.length ≤ 32)]; simp
    · rw [decide_eq_false h]; simp
  rw [rtakeM_no hb, hb]
  have hfin : ∀ w', Qt w w' → RTPost T q false (takeE k l) M w (.returned (.tuple #[.bool false, .int .i64 (takeE k l)])) w' := fun w' hq => RTPost.stay h hq
  obtain ⟨E, hE⟩ : ∃ E, E = takeE k l := ⟨_, rfl⟩
  rw [← hE] at hfin ⊢
  have HF := Lib.hid hfin
  by_cases h8 : 8 ≤ k
  · have t1 : decide ((7 : Int) < (k : Int)) = true := by simp; omega
    have t1' : (7 : Int) < (k : Int) := by omega
    have he : E = 2 := by rw [hE]; exact if_pos h8
    subst he
    clear ht hfin hno h hs hE hb
    go_enter Try.func18, Try.ntmps18
    go_wp2
    go_ret2
    exact HF.out _ (Qt.refl w)
  · have t1 : decide ((7 : Int) < (k : Int)) = false := by simp; omega
    have t1' : ¬ (7 : Int) < (k : Int) := by omega
    by_cases h32 : 32 < l.length
    · have t2 : decide ((32 : Int) < (l.length : Int)) = true := by simp; omega
      have t2' : (32 : Int) < (l.length : Int) := by omega
      have he : E = 3 := by rw [hE]; unfold takeE; rw [if_neg h8, if_pos h32]
      subst he
      clear ht hfin hno h hs hE hb
      go_enter Try.func18, Try.ntmps18
      go_wp2
      go_ret2
      exact HF.out _ (Qt.refl w)
    · have t2 : decide ((32 : Int) < (l.length : Int)) = false := by simp; omega
      have t2' : ¬ (32 : Int) < (l.length : Int) := by omega
      have he : E = 0 := by rw [hE]; unfold takeE; rw [if_neg h8, if_neg h32]
      have hn : ¬ l.Nodup := (hno.resolve_left h8).resolve_left h32
      rw [decide_eq_false hn] at ht
      subst he
      have HT := Lib.hid ht
      clear ht hfin hno h hs hE hb hn
      go_enter Try.func18, Try.ntmps18
      go_wp2_with fail
      refine HT.out.mono ?_
      rintro e w1 ⟨rfl, hq⟩
      have HQ := Lib.hid hq
      clear hq
      go_wp2
      go_ret2
      exact HF.out _ HQ.out
theorem info22 : (Try.prog.info? 22).map (fun i => (i.zero, i.size, i.bytes)) = some (some (.slice none 0 0), 1, 24) := by kernel_rfl
theorem rowsV_one {T : Nat → Prop} {w : World} {q : Nat} {vs : List Value} {M : List (List Int)} (h : RowsV T w q vs M) : ∀ u ∈ vs, u.oneCell' = true := by
  intro u hu
  obtain ⟨j, hj⟩ := List.getElem?_of_mem hu
  have hlt : j < M.length := by rw [← h.1]; exact (List.getElem?_eq_some_iff.1 hj).1
  obtain ⟨v, hv, ao, cap, b, o, rfl, _⟩ := h.2 j M[j] (List.getElem?_eq_getElem hlt)
  rw [hj] at hv
  cases hv
  rfl
theorem rowsV_snoc {T : Nat → Prop} {w : World} {q : Nat} {vs : List Value} {M : List (List Int)} {v : Value} {l : List Int} (h : RowsV T w q vs M) (hv : RowV T w q v l) : RowsV T w q (vs ++ [v]) (M ++ [l]) := by
  refine ⟨by simp [h.1], fun j r hr => ?_⟩
  by_cases hj : j < M.length
  · rw [List.getElem?_append_left hj] at hr
    obtain ⟨x, hx, hr'⟩ := h.2 j r hr
    exact ⟨x, by rw [List.getElem?_append_left (by rw [h.1]; exact hj)]; exact hx, hr'⟩
  · have hje : j = M.length := by
      have := (List.getElem?_eq_some_iff.1 hr).1
      simp at this
      omega
    subst hje
    simp at hr
    subst hr
    exact ⟨v, by rw [← h.1]; simp, hv⟩
theorem fit_snoc {rows : List (List Int)} {i : Nat} {r l : List Int} (h : rows[i]? = some r) : fitB (rows.take (i + 1)) l = (fitB (rows.take i) l && (bgn l r || bgn r l)) := by
  rw [take_snoc h]
  unfold fitB
  rw [List.all_append]
  simp
theorem fit_no {rows : List (List Int)} {i : Nat} {r l : List Int} (h : rows[i]? = some r) (hb : (bgn l r || bgn r l) = false) : fitB rows l = false := by
  unfold fitB
  rw [List.all_eq_false]
  exact ⟨r, List.mem_of_getElem? h, by simpa using hb⟩
theorem rtake_late (T : Nat → Prop) (q k : Nat) (M : Nat → List (List Int)) (l : List Int) (ao : Option Addr) (cap b o : Nat) (w : World) (h : RefAt T w q M) (hs : SlAt w 1 l.length (us l) ao cap b o) (h8 : k < 8) (h32 : l.length ≤ 32) (hd : l.Nodup) (hn : (M k).length ≤ 1000) (hr1 : ∀ r ∈ M k, r.length ≤ 1000) :
    Calls Try.prog 18 #[.pointer (some ⟨q, 0, none⟩), .int .u8 k, .slice ao l.length cap] w (RTPost T q (rtakeB M k l) (takeE k l) (rtakeM M k l) w) := by
  have ht := rtwice_any l ao cap b o w hs (by omega)
  rw [decide_eq_true hd] at ht
  obtain ⟨ao1, cap1, b1, o1, vs, c1, f1, hs1, hT1, hv⟩ := h.row k h8
  have hidx := hs1.idx (P := Try.prog) (t := 40) (e := 22) (by kernel_rfl) size22 (by decide)
  have hE : takeE k l = 0 := by unfold takeE; rw [if_neg (by omega), if_neg (by omega)]
  have hB : rtakeB M k l = fitB (M k) l := by unfold rtakeB; rw [decide_eq_true h8, decide_eq_true h32, decide_eq_true hd]; simp
  have hM : rtakeM M k l = if fitB (M k) l = true then setM M k (M k ++ [l]) else M := by unfold rtakeM; rw [hB]
  rw [hE, hB, hM]
  obtain ⟨i0, hi0, iz0, iz1, iz2⟩ := info_parts info37
  obtain ⟨j4, hj4, jz0, jz1, jz2⟩ := info_parts info22
  have hplt := h.lt
  obtain ⟨rows, hrows⟩ : ∃ rows, rows = M k := ⟨_, rfl⟩
  rw [← hrows] at hidx c1 hs1 hT1 hv hn hr1 ⊢
  obtain ⟨n, hnn⟩ : ∃ n, n = rows.length := ⟨_, rfl⟩
  rw [← hnn] at hidx c1 hs1 hT1 hn
  obtain ⟨M2, hM2⟩ : ∃ M2, M2 = (if fitB rows l = true then setM M k (rows ++ [l]) else M) := ⟨_, rfl⟩
  rw [← hM2]
  obtain ⟨B, hBB⟩ : ∃ B, B = fitB rows l := ⟨_, rfl⟩
  rw [← hBB]
  rw [← hBB] at hM2
  have HBB := Lib.hid hBB
  have HM2 := Lib.hid hM2
  clear hBB hM2
  obtain ⟨m, hm⟩ : ∃ m, m = l.length := ⟨_, rfl⟩
  have HM := Lib.hid hm
  have t1 : decide ((7 : Int) < (k : Int)) = false := by simp; omega
  have t1' : ¬ (7 : Int) < (k : Int) := by omega
  have t2 : decide ((32 : Int) < (m : Int)) = false := by simp; omega
  have t2' : ¬ (32 : Int) < (m : Int) := by omega
  have kb0 : (0 : Int) ≤ (k : Int) := by omega
  have kb1 : (k : Int) < 8 := by omega
  have HS1 := Lib.hid hs1
  have HS := Lib.hid hs
  have HV := Lib.hid hv
  have HN := Lib.hid hnn
  have H := Lib.hid h
  have HT1 := Lib.hid hT1
  have HR1 := Lib.hid hr1
  have HROWS := Lib.hid hrows
  have HT := Lib.hid ht
  rw [← hm] at HT HS h32 ⊢
  clear ht h hs hs1 hT1 hv hnn hrows hr1 hE hB hM hm
  go_enter Try.func18, Try.ntmps18
  go_wp2_with fail
  refine HT.out.mono ?_
  rintro e wa ⟨rfl, hq⟩
  have HQ := Lib.hid hq
  clear hq HT
  go_wp2_with fail
  go_loopw [8] (fun t8 wr => ∃ i : Nat, i ≤ n ∧ t8 = .int .i64 i ∧ Hid (fitB (rows.take i) l = true) ∧ Hid (Qt w wr)) (fun t8 _ => n - (intOf t8).toNat)
  case atStart => exact ⟨0, Nat.zero_le _, rfl, Lib.hid (by simp [fitB]), HQ⟩
  case round =>
    obtain ⟨i, hi, rfl, hfit, hqt⟩ := hrel
    have d1 := kc hqt.out.below _ _ _ c1
    have e1 := kf hqt.out.below _ _ hplt f1
    by_cases hlt : i < n
    · have i1 : (0 : Int) ≤ (i : Int) := by omega
      have i2 : (i : Int) < (n : Int) := by omega
      obtain ⟨r, hr⟩ : ∃ r, rows[i]? = some r := ⟨_, List.getElem?_eq_getElem (by rw [← HN.out]; exact hlt)⟩
      obtain ⟨v, hvi, hrow⟩ := HV.out.2 i r hr
      obtain ⟨ao2, cap2, b2, o2, rfl, hs2, ht2⟩ := id hrow
      have hrl := HR1.out r (List.mem_of_getElem? hr)
      have hbA := fun W (hW : Qt w W) => rbegins_any l r ao ao2 cap b o cap2 b2 o2 W (by rw [← HM.out]; exact HS.out.below hW.below) (hs2.below hW.below) (by rw [← HM.out]; omega)
      have hbB := fun W (hW : Qt w W) => rbegins_any r l ao2 ao cap2 b2 o2 cap b o W (hs2.below hW.below) (by rw [← HM.out]; exact HS.out.below hW.below) (by omega)
      have hst := fit_snoc (l := l) hr
      have hno := fit_no (l := l) hr
      rw [← HM.out] at hbA hbB
      obtain ⟨m2, hm2⟩ : ∃ m, m = r.length := ⟨_, rfl⟩
      obtain ⟨B1, hB1⟩ : ∃ B1, B1 = bgn l r := ⟨_, rfl⟩
      obtain ⟨B2, hB2⟩ : ∃ B2, B2 = bgn r l := ⟨_, rfl⟩
      rw [← hB1] at hbA hst hno
      rw [← hB2] at hbB hst hno
      rw [← hm2] at hvi hbA hbB hrl
      have c2 := (HS1.out.below hqt.out.below).cell i _ hvi
      have HA := Lib.hid hbA
      have HB := Lib.hid hbB
      have HST := Lib.hid hst
      have HNO := Lib.hid hno
      clear hr hvi hrow hs2 ht2 hbA hbB hst hno hm2 hB1 hB2
      cases B1 with
      | true =>
        go_wp2_with fail
        refine (HA.out wr hqt.out).mono ?_
        rintro e w1 ⟨rfl, hq1⟩
        have HQ1 := Lib.hid (hqt.out.trans hq1)
        clear hq1
        go_wp2_with fail
        go_roundw
        case rel => exact ⟨i + 1, by omega, by go_num, Lib.hid (by rw [HST.out, hfit.out]; rfl), HQ1⟩
        case measure => simp [intOf]; omega
      | false =>
        cases B2 with
        | true =>
          go_wp2_with fail
          refine (HA.out wr hqt.out).mono ?_
          rintro e w1 ⟨rfl, hq1⟩
          have HQ1 := Lib.hid (hqt.out.trans hq1)
          have d3 := kc HQ1.out.below _ _ _ c1
          have c3 : w1.cell? _ = _ := cell_past hq1.below c2
          clear hq1
          go_wp2_with fail
          refine (HB.out w1 HQ1.out).mono ?_
          rintro e w2 ⟨rfl, hq2⟩
          have HQ2 := Lib.hid (HQ1.out.trans hq2)
          clear hq2
          go_wp2_with fail
          go_roundw
          case rel => exact ⟨i + 1, by omega, by go_num, Lib.hid (by rw [HST.out, hfit.out]; rfl), HQ2⟩
          case measure => simp [intOf]; omega
        | false =>
          go_wp2_with fail
          refine (HA.out wr hqt.out).mono ?_
          rintro e w1 ⟨rfl, hq1⟩
          have HQ1 := Lib.hid (hqt.out.trans hq1)
          have d3 := kc HQ1.out.below _ _ _ c1
          have c3 : w1.cell? _ = _ := cell_past hq1.below c2
          clear hq1
          go_wp2_with fail
          refine (HB.out w1 HQ1.out).mono ?_
          rintro e w2 ⟨rfl, hq2⟩
          have HQ2 := Lib.hid (HQ1.out.trans hq2)
          clear hq2
          go_wp2
          go_ret2
          have h2 : B = false := HBB.out.trans (HNO.out rfl)
          have h3 : M2 = M := by rw [HM2.out, if_neg (by rw [h2]; simp)]
          rw [h2, h3]
          exact RTPost.stay H.out HQ2.out
    · have i2 : ¬ (i : Int) < (n : Int) := by omega
      have hin : i = n := by omega
      subst hin
      have hf2 : fitB rows l = true := by
        have := hfit.out
        rwa [HN.out, List.take_length] at this
      have hB2 : B = true := HBB.out.trans hf2
      have HM3 := Lib.hid (show M2 = setM M k (rows ++ [l]) by rw [HM2.out, if_pos hB2])
      subst hB2
      clear HM2 HBB
      have HB0 := Lib.hid hqt.out.below
      clear hfit hf2 hlt
      go_wp2_with (at_builtin; refine wpList_append_slat rfl (.tmp 55) (.tmp 56) 22 rfl w.heap.size 37 i0 (.int .u16 0) 1 2 Try.underlying22 hi0 iz0 iz1 iz2 rfl (by decide) (.slice none 0 0) 0 [] rfl (World.ownsRow_nil _ _ _ _) ao m cap b o (us l) rfl (HS.out.below HB0.out) us_one (by unfold maxLen; omega) (by omega) HB0.out.size ?_)
      intro v9 w9 hown9 hg9 _
      have hb9 : Below w.heap.size w w9 := below_own HB0.out (World.ownsRow_nil wr w.heap.size 37 1) hg9 (Nat.le_refl _) HB0.out.size

      obtain ⟨ao9, cap9, b9, o9, rfl, hs9, hbb9⟩ := SlAt.owned hown9
      have HB9 := Lib.hid hb9
      have HS9 := Lib.hid hs9
      have HBB9 := Lib.hid hbb9
      clear hown9 hg9 hb9 hs9 hbb9
      have d2 := kc HB9.out _ _ _ c1
      have hsr := HS1.out.below HB9.out
      have HSR := Lib.hid hsr
      have h1v := Lib.hid (rowsV_one HV.out)
      clear hsr
      go_wp2_with (at_builtin; refine wpList_append_slat rfl (.tmp 58) (.tmp 64) 40 rfl w9.heap.size 22 j4 (.slice none 0 0) 1 24 (by kernel_rfl) hj4 jz0 jz1 jz2 rfl (by decide) (.slice none 0 0) 0 [] rfl (World.ownsRow_nil _ _ _ _) ao1 i cap1 b1 o1 vs rfl HSR.out h1v.out (by unfold maxLen; omega) (by omega) (Nat.le_refl _) ?_)
      intro v10 w10 hown10 hg10 _
      have hb910 : Below w9.heap.size w9 w10 := below_own (bz w9) (World.ownsRow_nil w9 w9.heap.size 22 1) hg10 (Nat.le_refl _) (Nat.le_refl _)
      have hne : some q ≠ v10.ownBlock := by
        intro e
        rcases hown10.2 with ⟨hv, _⟩ | ⟨g, c, cur, hv, hb, _⟩
        · rw [hv] at e; cases e
        · rw [hv] at e
          simp only [Value.ownBlock, Option.some.injEq] at e
          have := HB9.out.size
          omega
      have HB10 := Lib.hid (bt HB9.out hb910)
      have HO10 := Lib.hid hown10
      have H910 := Lib.hid hb910
      clear hown10 hg10 hb910
      have d3 := kc HB10.out _ _ _ c1
      have e3 := kf HB10.out _ _ hplt f1
      have hq10 : q < w10.heap.size := by have := HB10.out.size; omega
      have h9le : w9.heap.size ≤ w10.heap.size := H910.out.size
      go_wp2_with fail
      go_region_law ((refine step_append_lies _ rfl (.tmp 68) (.tmp 70) 40 rfl w9.heap.size 22 j4 (.slice none 0 0) 1 24 (by kernel_rfl) hj4 jz0 jz1 jz2 rfl (by decide) v10 i vs (by simp [Act.eval, Act.put]) (HO10.out.alloc _).drew ⟨w10.heap.size, 0, none⟩ 1 1 [.slice ao9 m cap9] (by simp [Act.eval, Act.put]) rfl (new_cells w10 22 _ _ rfl) (by simp [Value.oneCell']) (by decide) (by unfold maxLen; omega) (by omega) (by simp; omega) _ rfl ?_; intro g cap11 w11 hown11 hg11 hat hlt11; have d4 : w11.cell? ⟨q, k, none⟩ = some (.slice ao1 i cap1) := hg11.cell (a := ⟨q, k, none⟩) (by simp [go_sem, hq10, d3]) hne; have e4 : w11.frozen? ⟨q, k, none⟩ = false := (hg11.frozen_far ⟨q, k, none⟩ (by simp; omega) hne).trans (by simp [go_sem, hq10, e3]); have h911 := Lib.hid (below_own (((H910.out.alloc H910.out.size (.cells #[.slice ao9 m cap9] 22))).drew) ((HO10.out.alloc (.cells #[.slice ao9 m cap9] 22)).drew) hg11 (Nat.le_refl _) (by simp; omega)); have HO11 := Lib.hid hown11; clear hown11 hg11 hat))
      all_goals go_wp2
      all_goals go_ret2
      have hb11 : Below w.heap.size w w11 := (HB9.out.trans (h911.out.mono HB9.out.size))
      obtain ⟨ao11, cp11, b11, o11, heq, hs11, hb11'⟩ := SlAt.owned HO11.out
      cases heq
      have hlen : (rows ++ [l]).length = i + 1 := by simp [HN.out]
      have hT9 : 0 < l.length → w.heap.size ≤ b9 := fun hp => HBB9.out (by rw [us_len]; omega)
      have h9le' : w.heap.size ≤ w9.heap.size := HB9.out.size
      have hrv : RowV (fun b => T b ∨ w.heap.size ≤ b) w11 q (.slice ao9 m cap9) l := ⟨ao9, cap9, b9, o9, by rw [HM.out], by rw [← HM.out]; exact HS9.out.below h911.out, fun hp => ⟨.inr (hT9 hp), fun e => by have := hT9 hp; omega⟩⟩
      have hrows2 := rowsV_snoc ((HV.out.below hb11).mono (T' := fun b => T b ∨ w.heap.size ≤ b) (fun b _ hb => .inl hb)) hrv
      have h5 := (H.out.below hb11).mono (T' := fun b => T b ∨ w.heap.size ≤ b) (fun b _ hb => .inl hb)
      have h6 := h5.put (x := rows ++ [l]) h8 (by rw [hlen]; exact hs11) (fun _ => by
        have hb := hb11' (by simp)
        exact ⟨.inr (by omega), fun e => by omega⟩) hrows2
      rw [hlen] at h6
      rw [HM3.out]
      exact ⟨rfl, h6, ((Kept.of_below hb11).mono (S' := fun b => b = q) (fun j hj h => absurd h (by omega))).setCell (p := ⟨q, k, none⟩) (fun _ => rfl) _⟩
theorem rtake_any (T : Nat → Prop) (q k : Nat) (M : Nat → List (List Int)) (l : List Int) (ao : Option Addr) (cap b o : Nat) (w : World) (h : RefAt T w q M) (hs : SlAt w 1 l.length (us l) ao cap b o) (hlen : l.length ≤ 1000) (hk : k ≤ 255) (hn : ∀ j, (M j).length ≤ 1000) (hr : ∀ j, j < 8 → ∀ r ∈ M j, r.length ≤ 1000) :
    Calls Try.prog 18 #[.pointer (some ⟨q, 0, none⟩), .int .u8 k, .slice ao l.length cap] w (RTPost T q (rtakeB M k l) (takeE k l) (rtakeM M k l) w) := by
  by_cases hno : 8 ≤ k ∨ 32 < l.length ∨ ¬ l.Nodup
  · exact rtake_early T q k M l ao cap b o w h hs (by omega) hk hno
  · exact rtake_late T q k M l ao cap b o w h hs (by omega) (by omega) (by
      by_cases hd : l.Nodup
      · exact hd
      · exact absurd (.inr (.inr hd)) hno) (hn k) (hr k (by omega))
end Go.Proofs.Ytggbcailaeebfaa
