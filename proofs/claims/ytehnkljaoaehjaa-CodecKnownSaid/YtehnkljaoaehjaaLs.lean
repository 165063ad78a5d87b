/- Lists that are read: the codec's and the document's. -/
import Derived.Test.YtehnkljaoaehjaaRr
import Derived.Test.YtehnkljaoaehjaaWr
namespace Go.Proofs.Ytehnkljaoaehjaa
open Go.RowKit Go.Um
set_option linter.unusedSimpArgs false
set_option linter.unusedVariables false
set_option maxHeartbeats 4000000
set_option maxRecDepth 100000

theorem grown_of_kept1 {w w' : World} {q : Nat} (h : Kept (fun i => i = q) w w') : w.grownBy w' (some q) := ⟨h.os, h.tape, h.output, h.size, fun k hk hn => h.block k hk (fun e => hn (by rw [e]))⟩
/-- how many numbers a list says it has -/
def many (s : ByteArray) (k : Nat) : Nat := numB (s.extract k (k + 1))
/-- the numbers from a place on -/
def vals (s : ByteArray) (k : Nat) : Nat → List Int
  | 0 => []
  | m + 1 => vals s k m ++ [((numB (s.extract (k + 2 * m) (k + 2 * m + 2)) : Nat) : Int)]
theorem vals_len (s : ByteArray) (k : Nat) : ∀ m, (vals s k m).length = m
  | 0 => rfl
  | m + 1 => by rw [vals, List.length_append, vals_len s k m]; rfl
/-- is a list there, whole? -/
def whole (s : ByteArray) (k : Nat) : Bool := decide (k + 1 ≤ s.size) && decide (k + 1 + 2 * many s k ≤ s.size)
def listV (s : ByteArray) (r : Rs) : List Int := if r.e = 0 ∧ whole s r.k = true then vals s (r.k + 1) (many s r.k) else []
def listS (s : ByteArray) (r : Rs) : Rs := if r.e = 0 then (if whole s r.k = true then ⟨r.k + 1 + 2 * many s r.k, 0⟩ else ⟨r.k, 5⟩) else r
theorem many_lt (s : ByteArray) (k : Nat) : many s k ≤ 255 := by
  unfold many numB
  have h1 := numL_lt (s.extract k (k + 1)).data.toList
  have h2 : (s.extract k (k + 1)).data.toList.length ≤ 1 := by rw [extr_data, List.length_take]; omega
  have h3 : 256 ^ (s.extract k (k + 1)).data.toList.length ≤ 256 ^ 1 := Nat.pow_le_pow_right (by decide) h2
  omega
theorem info53 : (Try.prog.info? 53).map (fun i => (i.zero, i.size, i.bytes)) = some (some (.int .u16 0), 1, 2) := by kernel_rfl
theorem size53 : (Try.prog.info? 53).map (·.size) = some 1 := by kernel_rfl
/-- what List leaves -/
def ListPost (p : Nat) (l : List Int) (Q : World → Prop) (w : World) (e : Ending) (w' : World) : Prop :=
  ∃ ao cap b o, e = .returned (.slice ao l.length cap) ∧ SlAt w' 1 l.length (l.map (Value.int .u16)) ao cap b o ∧ Q w' ∧ Kept (fun i => i = p) w w' ∧ (0 < l.length → w.heap.size ≤ b)
theorem slat_nil1 (w : World) : SlAt w 1 0 (([] : List Int).map (Value.int .u16)) none 0 0 0 := ⟨rfl, Nat.le_refl _, Nat.zero_le _, fun h => absurd h (by simp), fun h => absurd h (by simp), fun j u hu => by simp at hu⟩
theorem list_bad (p : Nat) (s : ByteArray) (r : Rs) (w : World) (h : RdAt w p s r) (he : r.e ≠ 0) :
    Calls Try.prog 25 #[.pointer (some ⟨p, 0, none⟩)] w (ListPost p (listV s r) (fun w' => RdAt w' p s (listS s r)) w) := by
  have e1 : listV s r = [] := by unfold listV; rw [if_neg (fun h => he h.1)]
  have e2 : listS s r = r := by unfold listS; rw [if_neg he]
  rw [e1, e2]
  have HR := Lib.hid h
  have h0 := h.e
  have t0 : (r.e == 0) = false := by simpa using he
  obtain ⟨er, her⟩ : ∃ x, x = r.e := ⟨_, rfl⟩
  rw [← her] at h0 t0
  clear e1 e2 he her h
  go_enter Try.func25, Try.ntmps25
  go_wp2_with fail
  refine (rwell p er _ h0).mono ?_
  rintro e w1 ⟨rfl, rfl⟩
  go_wp2
  go_ret
  exact ⟨none, 0, 0, 0, rfl, slat_nil1 _, HR.out, Kept.refl _ _, fun h => absurd h (by simp)⟩
theorem rdat_e {w : World} {p : Nat} {s : ByteArray} {k : Nat} {er : Int} (h : RdAt w p s ⟨k, er⟩) (x : Int) : RdAt (w.setCell ⟨p, 0, none⟩ (.int .i64 x)) p s ⟨k, x⟩ := by
  obtain ⟨c0, c1, c2, f0, f1, f2, hle⟩ := h
  exact ⟨by simp [go_sem, c0], by simp [go_sem, c1], by simp [go_sem, c2], by simp [go_sem, f0], by simp [go_sem, f1], by simp [go_sem, f2], hle⟩
theorem rdat_k {w : World} {p : Nat} {s : ByteArray} {k : Nat} {er : Int} (h : RdAt w p s ⟨k, er⟩) (x : Nat) (hx : x ≤ s.size) : RdAt (w.setCell ⟨p, 2, none⟩ (.int .i64 x)) p s ⟨x, er⟩ := by
  obtain ⟨c0, c1, c2, f0, f1, f2, hle⟩ := h
  exact ⟨by simp [go_sem, c0], by simp [go_sem, c1], by simp [go_sem, c2], by simp [go_sem, f0], by simp [go_sem, f1], by simp [go_sem, f2], hx⟩
theorem list_short (p : Nat) (s : ByteArray) (k : Nat) (w : World) (h : RdAt w p s ⟨k, 0⟩) (hs : s.size ≤ 1000000) (hn : s.size < k + 1) :
    Calls Try.prog 25 #[.pointer (some ⟨p, 0, none⟩)] w (ListPost p [] (fun w' => RdAt w' p s ⟨k, 5⟩) w) := by
  have hp := h.lt
  have hle := h.le
  have h2 := h.at_
  have h0 := h.e
  dsimp only at h2 h0 hle
  have HT := Lib.hid (fun W hW => ru8_any p s ⟨k, 0⟩ W hW hs)
  unfold TakePost at HT
  rw [(Rs.torn s ⟨k, 0⟩ 1 rfl hn).1, (Rs.torn s ⟨k, 0⟩ 1 rfl hn).2, show numB ⟨#[]⟩ = 0 from rfl] at HT
  go_enter Try.func25, Try.ntmps25
  go_wp2_with fail
  refine (rwell p 0 _ h0).mono ?_
  rintro e w1 ⟨rfl, rfl⟩
  go_wp2_with fail
  refine (HT.out _ h).mono ?_
  rintro e w1 ⟨rfl, hr, hk⟩
  have HR := Lib.hid hr
  have HK := Lib.hid hk
  have c0 := hr.e
  have c2 := hr.at_
  have f2 := hr.fat
  dsimp only at c0 c2
  clear hr hk h0 h2 h
  go_wp2_with fail
  refine (rwell p 5 _ c0).mono ?_
  rintro e w2 ⟨rfl, rfl⟩
  go_wp2_with fail
  refine wp_loop_rounds 1 ?_
  rw [rounds_succ]
  go_wp2_with fail
  refine (rwell p 5 _ c0).mono ?_
  rintro e w2 ⟨rfl, rfl⟩
  go_wp2
  go_ret
  exact ⟨none, 0, 0, 0, rfl, slat_nil1 _, rdat_k HR.out k hle, HK.out.setCell (fun _ => rfl) _, fun h => absurd h (by simp)⟩
theorem fine1 (s : ByteArray) (k : Nat) (hn : k + 1 ≤ s.size) : (⟨k, 0⟩ : Rs).next s 1 = ⟨k + 1, 0⟩ ∧ numB ((⟨k, 0⟩ : Rs).got s 1) = many s k := by
  rw [(Rs.fine s ⟨k, 0⟩ 1 rfl hn).1, (Rs.fine s ⟨k, 0⟩ 1 rfl hn).2]
  exact ⟨rfl, rfl⟩
theorem list_torn (p : Nat) (s : ByteArray) (k : Nat) (w : World) (h : RdAt w p s ⟨k, 0⟩) (hs : s.size ≤ 1000000) (hn : k + 1 ≤ s.size) (hn2 : s.size < k + 1 + 2 * many s k) :
    Calls Try.prog 25 #[.pointer (some ⟨p, 0, none⟩)] w (ListPost p [] (fun w' => RdAt w' p s ⟨k, 5⟩) w) := by
  have hp := h.lt
  have hle := h.le
  have h2 := h.at_
  have h0 := h.e
  dsimp only at h2 h0 hle
  have HT := Lib.hid (fun W hW => ru8_any p s ⟨k, 0⟩ W hW hs)
  unfold TakePost at HT
  rw [(fine1 s k hn).1, (fine1 s k hn).2] at HT
  obtain ⟨m, hm⟩ : ∃ m, m = many s k := ⟨_, rfl⟩
  have hm8 := many_lt s k
  rw [← hm] at HT hn2 hm8
  clear hm
  have e1 : IntKind.i64.wrap (2 * (m : Int)) = 2 * (m : Int) := IntWalk.i64_in _ (by omega)
  have t1 : decide ((s.size : Int) - ((k + 1 : Nat) : Int) < 2 * (m : Int)) = true := by rw [decide_eq_true_iff]; omega
  have t1' : decide ((s.size : Int) - ((k : Int) + 1) < 2 * (m : Int)) = true := by rw [decide_eq_true_iff]; omega
  have t2 : decide ((0 : Int) < (m : Int)) = true := by rw [decide_eq_true_iff]; omega
  go_enter Try.func25, Try.ntmps25
  go_wp2_with fail
  refine (rwell p 0 _ h0).mono ?_
  rintro e w1 ⟨rfl, rfl⟩
  go_wp2_with fail
  refine (HT.out _ h).mono ?_
  rintro e w1 ⟨rfl, hr, hk⟩
  have HR := Lib.hid hr
  have HK := Lib.hid hk
  have c0 := hr.e
  have c1 := hr.str
  have c2 := hr.at_
  have f0 := hr.fe
  have f2 := hr.fat
  dsimp only at c0 c2
  have hz := hr.lt
  clear hr hk h0 h2 h
  go_wp2_with fail
  refine (rwell p 0 _ c0).mono ?_
  rintro e w2 ⟨rfl, rfl⟩
  go_wp2_with fail
  refine (left_any p s (k + 1) _ c1 c2 hn hs).mono ?_
  rintro e w2 ⟨rfl, nn, rfl⟩
  go_wp2_with fail
  refine wp_loop_rounds 1 ?_
  rw [rounds_succ]
  go_wp2_with fail
  have HR5 := Lib.hid (rdat_e (HR.out.below (below_drewN (bz w1) nn)) 5)
  refine (rwell p 5 _ HR5.out.e).mono ?_
  rintro e w2 ⟨rfl, rfl⟩
  go_wp2_with fail
  refine (rwell p 5 _ HR5.out.e).mono ?_
  rintro e w2 ⟨rfl, rfl⟩
  go_wp2
  go_ret
  exact ⟨none, 0, 0, 0, rfl, slat_nil1 _, rdat_k HR5.out k hle, ((HK.out.drewN nn).setCell (fun _ => rfl) _).setCell (fun _ => rfl) _, fun h => absurd h (by simp)⟩
theorem got2 (s : ByteArray) (k : Nat) (h : k + 2 ≤ s.size) : (⟨k, 0⟩ : Rs).next s 2 = ⟨k + 2, 0⟩ ∧ numB ((⟨k, 0⟩ : Rs).got s 2) = numB (s.extract k (k + 2)) := by
  rw [(Rs.fine s ⟨k, 0⟩ 2 rfl h).1, (Rs.fine s ⟨k, 0⟩ 2 rfl h).2]
  exact ⟨rfl, rfl⟩
/-- at the head of a round of List -/
structure LsInv (w : World) (p : Nat) (s : ByteArray) (k i : Nat) (t5 : Value) (wr : World) : Prop where
  own : wr.ownsRow w.heap.size 53 1 t5 i ((vals s k i).map (Value.int .u16))
  r : RdAt wr p s ⟨k + 2 * i, 0⟩
  kp : Kept (fun i => i = p) w wr
theorem list_fine (p : Nat) (s : ByteArray) (k : Nat) (w : World) (h : RdAt w p s ⟨k, 0⟩) (hs : s.size ≤ 1000000) (hn : k + 1 ≤ s.size) (hn2 : k + 1 + 2 * many s k ≤ s.size) :
    Calls Try.prog 25 #[.pointer (some ⟨p, 0, none⟩)] w (ListPost p (vals s (k + 1) (many s k)) (fun w' => RdAt w' p s ⟨k + 1 + 2 * many s k, 0⟩) w) := by
  obtain ⟨j0, hj, jz0, jz1, jz2⟩ := info_parts info53
  have hp := h.lt
  have hle := h.le
  have h2 := h.at_
  have h0 := h.e
  dsimp only at h2 h0 hle
  have HT := Lib.hid (fun W hW => ru8_any p s ⟨k, 0⟩ W hW hs)
  unfold TakePost at HT
  rw [(fine1 s k hn).1, (fine1 s k hn).2] at HT
  have hm8 := many_lt s k
  obtain ⟨m, hm⟩ : ∃ m, m = many s k := ⟨_, rfl⟩
  rw [← hm] at HT hn2 hm8 ⊢
  clear hm
  have e1 : IntKind.i64.wrap (2 * (m : Int)) = 2 * (m : Int) := IntWalk.i64_in _ (by omega)
  have t1 : decide ((s.size : Int) - ((k + 1 : Nat) : Int) < 2 * (m : Int)) = false := by rw [decide_eq_false_iff_not]; omega
  have t1' : decide ((s.size : Int) - ((k : Int) + 1) < 2 * (m : Int)) = false := by rw [decide_eq_false_iff_not]; omega
  go_enter Try.func25, Try.ntmps25
  go_wp2_with fail
  refine (rwell p 0 _ h0).mono ?_
  rintro e w1 ⟨rfl, rfl⟩
  go_wp2_with fail
  refine (HT.out _ h).mono ?_
  rintro e w1 ⟨rfl, hr, hk⟩
  have HR := Lib.hid hr
  have HK := Lib.hid hk
  have c0 := hr.e
  have c1 := hr.str
  have c2 := hr.at_
  dsimp only at c0 c2
  have hz := hr.lt
  clear hr hk h0 h2 h
  go_wp2_with fail
  refine (rwell p 0 _ c0).mono ?_
  rintro e w2 ⟨rfl, rfl⟩
  go_wp2_with fail
  refine (left_any p s (k + 1) _ c1 c2 hn hs).mono ?_
  rintro e w2 ⟨rfl, nn, rfl⟩
  have HI0 : Hid (LsInv w p s (k + 1) 0 (.slice none 0 0) (w1.drewN nn)) := Lib.hid ⟨World.ownsRow_nil _ _ _ _, HR.out.below (below_drewN (bz w1) nn), HK.out.drewN nn⟩
  clear c0 c1 c2 t1 t1' e1 HR HK HT
  go_wp2_with fail
  go_loopw [5, 6] (fun t5 t6 wr => ∃ i : Nat, i ≤ m ∧ t6 = .int .i64 i ∧ Hid (LsInv w p s (k + 1) i t5 wr)) (fun _ t6 _ => m - (intOf t6).toNat)
  case atStart => exact ⟨0, Nat.zero_le _, rfl, HI0.out⟩
  case round =>
    obtain ⟨i, hi, rfl, hinv⟩ := hrel
    have c0 := hinv.out.r.e
    dsimp only at c0
    have hsz := hinv.out.kp.size
    by_cases hlt : i < m
    · have i2 : (i : Int) < (m : Int) := by omega
      have hg := got2 s (k + 1 + 2 * i) (by omega)
      have HU := Lib.hid (fun W hW => ru16_any p s ⟨k + 1 + 2 * i, 0⟩ W hW hs)
      unfold TakePost at HU
      rw [hg.1, hg.2] at HU
      have hvs : vals s (k + 1) (i + 1) = vals s (k + 1) i ++ [((numB (s.extract (k + 1 + 2 * i) (k + 1 + 2 * i + 2)) : Nat) : Int)] := rfl
      obtain ⟨X, hX⟩ : ∃ X : Nat, X = numB (s.extract (k + 1 + 2 * i) (k + 1 + 2 * i + 2)) := ⟨_, rfl⟩
      rw [← hX] at HU hvs
      have HVS := Lib.hid hvs
      have HI := Lib.hid hinv.out
      clear hg hvs hX hinv
      go_wp2_with fail
      refine (rwell p 0 _ c0).mono ?_
      rintro e w2 ⟨rfl, rfl⟩
      go_wp2_with fail
      refine (HU.out _ HI.out.r).mono ?_
      rintro e w2 ⟨rfl, hr2, hk2⟩
      have HO2 := Lib.hid (HI.out.own.kept (grown_of_kept1 hk2) (by
        cases ho : u5.ownBlock with
        | none => exact .inl rfl
        | some g => exact .inr (fun e => by injection e with e; have := (HI.out.own.lt g ho).1; omega)))
      have HR2 := Lib.hid hr2
      have HK2 := Lib.hid (HI.out.kp.trans hk2 (fun i _ e => e))
      have hs2 := hk2.size
      clear hr2 hk2 c0
      go_wp2_with (at_builtin; refine wpList_append_lies _ rfl (.tmp 49) (.tmp 52) 35 rfl w.heap.size 53 j0 (.int .u16 0) 1 2 Try.underlying35 hj jz0 jz1 jz2 rfl (by decide) _ _ _ rfl (HO2.out.alloc _) ⟨w2.heap.size, 0, none⟩ 1 1 [.int .u16 X] rfl rfl (new_cells _ _ _ _ (by simp)) (by simp [Value.oneCell']) (by decide) (by unfold maxLen; omega) (by omega) (by simp; omega) _ rfl ?_)
      intro gg cap2 wa hown2 hgrow2 hat hlt2
      have hne : some p ≠ u5.ownBlock := fun e => by have := (HO2.out.lt _ e.symm).1; omega
      have HI2 : Hid (LsInv w p s (k + 1) (i + 1) (.slice (some ⟨gg, 0, none⟩) (i + 1) cap2) wa) := by
        refine Lib.hid ⟨?_, ?_, ?_⟩
        · rw [HVS.out, List.map_append]; exact hown2
        · have h3 := HR2.out.below (ba (bz _) (.cells #[.int .u16 X] 53))
          have h4 : k + 1 + 2 * (i + 1) = k + 1 + 2 * i + 2 := by omega
          rw [h4]
          exact ⟨hgrow2.cell (a := ⟨p, 0, none⟩) h3.e hne, hgrow2.cell (a := ⟨p, 1, none⟩) h3.str hne, hgrow2.cell (a := ⟨p, 2, none⟩) h3.at_ hne, (hgrow2.frozen_far ⟨p, 0, none⟩ h3.lt hne).trans h3.fe, (hgrow2.frozen_far ⟨p, 1, none⟩ h3.lt hne).trans h3.fs, (hgrow2.frozen_far ⟨p, 2, none⟩ h3.lt hne).trans h3.fat, h3.le⟩
        · exact (HK2.out.alloc _).grown hgrow2 (fun g e hg => by have := (HO2.out.lt g e).1; omega)
      clear hown2 hgrow2 hat hlt2 hne
      go_wp2_with fail
      go_roundw
      case rel => exact ⟨i + 1, by omega, by go_num, HI2⟩
      case measure => simp [intOf]; omega
    · have him : i = m := by omega
      subst him
      have kk1 : ¬ ((i : Int) < (i : Int)) := by omega
      obtain ⟨ao, cap, b, o, hv, hsl, hbb⟩ := SlAt.owned hinv.out.own
      rw [hv]
      have HI := Lib.hid hinv.out
      have HSL := Lib.hid hsl
      have HBB := Lib.hid hbb
      clear hv hsl hinv hbb
      go_wp2_with fail
      refine (rwell p 0 _ c0).mono ?_
      rintro e w2 ⟨rfl, rfl⟩
      go_wp2
      go_ret
      exact ⟨ao, cap, b, o, by rw [vals_len]; rfl, by rw [vals_len]; exact HSL.out, HI.out.r, HI.out.kp, fun h => HBB.out (by simpa using h)⟩
theorem list_any (p : Nat) (s : ByteArray) (r : Rs) (w : World) (h : RdAt w p s r) (hs : s.size ≤ 1000000) :
    Calls Try.prog 25 #[.pointer (some ⟨p, 0, none⟩)] w (ListPost p (listV s r) (fun w' => RdAt w' p s (listS s r)) w) := by
  by_cases he : r.e = 0
  · obtain ⟨k, er⟩ := r
    dsimp only at he
    subst he
    by_cases h1 : k + 1 ≤ s.size
    · by_cases h2 : k + 1 + 2 * many s k ≤ s.size
      · have e1 : listV s ⟨k, 0⟩ = vals s (k + 1) (many s k) := by unfold listV whole; simp [h1, h2]
        have e2 : listS s ⟨k, 0⟩ = ⟨k + 1 + 2 * many s k, 0⟩ := by unfold listS whole; simp [h1, h2]
        rw [e1, e2]
        exact list_fine p s k w h hs h1 h2
      · have e1 : listV s ⟨k, 0⟩ = [] := by unfold listV whole; simp [h2]
        have e2 : listS s ⟨k, 0⟩ = ⟨k, 5⟩ := by unfold listS whole; simp [h2]
        rw [e1, e2]
        exact list_torn p s k w h hs h1 (by omega)
    · have e1 : listV s ⟨k, 0⟩ = [] := by unfold listV whole; simp [h1]
      have e2 : listS s ⟨k, 0⟩ = ⟨k, 5⟩ := by unfold listS whole; simp [h1]
      rw [e1, e2]
      exact list_short p s k w h hs (by omega)
  · exact list_bad p s r w h he
end Go.Proofs.Ytehnkljaoaehjaa
