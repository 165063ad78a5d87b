/- The document's lists: List of its reader, Same. -/
import Derived.Test.YtehnkljaoaehjaaLs
namespace Go.Proofs.Ytehnkljaoaehjaa
open Go.RowKit Go.Um
set_option linter.unusedSimpArgs false
set_option linter.unusedVariables false
set_option maxHeartbeats 4000000
set_option maxRecDepth 100000

theorem reflist_bad (q : Nat) (s : ByteArray) (r : Rs) (w : World) (h : RfAt w q s r) (he : r.e ≠ 0) :
    Calls Try.prog 35 #[.pointer (some ⟨q, 0, none⟩)] w (ListPost q (listV s r) (fun w' => RfAt w' q s (listS s r)) w) := by
  have e1 : listV s r = [] := by unfold listV; rw [if_neg (fun h => he h.1)]
  have e2 : listS s r = r := by unfold listS; rw [if_neg he]
  rw [e1, e2]
  have HR := Lib.hid h
  have h0 := h.e
  have t0 : (r.e != 0) = true := by simpa using he
  obtain ⟨er, her⟩ : ∃ x, x = r.e := ⟨_, rfl⟩
  rw [← her] at h0 t0
  clear e1 e2 he her h
  go_enter Try.func35, Try.ntmps35
  go_wp2
  go_ret
  exact ⟨none, 0, 0, 0, rfl, slat_nil1 _, HR.out, Kept.refl _ _, fun h => absurd h (by simp)⟩
theorem rfat_e {w : World} {q : Nat} {s : ByteArray} {k : Nat} {er : Int} (h : RfAt w q s ⟨k, er⟩) (x : Int) : RfAt (w.setCell ⟨q, 2, none⟩ (.int .i64 x)) q s ⟨k, x⟩ := by
  obtain ⟨c0, c1, c2, f0, f1, f2, hle⟩ := h
  exact ⟨by simp [go_sem, c0], by simp [go_sem, c1], by simp [go_sem, c2], by simp [go_sem, f0], by simp [go_sem, f1], by simp [go_sem, f2], hle⟩
theorem first_byte (s : ByteArray) (k : Nat) (h : k + 1 ≤ s.size) : ∃ B : UInt8, (s.extract k s.size).data.toList[0]? = some B ∧ many s k = B.toNat := by
  have h1 : (s.extract k s.size).data.toList.length = s.size - k := by rw [len_list, extr_size]
  have h3 : (s.extract k (k + 1)).data.toList = (s.extract k s.size).data.toList.take 1 := by
    rw [extr_data, extr_data, List.take_take]; congr 1; omega
  unfold many numB
  rw [h3]
  generalize (s.extract k s.size).data.toList = L at h1 ⊢
  match L, h1 with
  | [], h => simp at h; omega
  | a :: l, _ => exact ⟨a, rfl, by simp [numL]⟩
theorem reflist_short (q : Nat) (s : ByteArray) (k : Nat) (w : World) (h : RfAt w q s ⟨k, 0⟩) (hs : s.size ≤ 1000000) (hn : s.size < k + 1) :
    Calls Try.prog 35 #[.pointer (some ⟨q, 0, none⟩)] w (ListPost q [] (fun w' => RfAt w' q s ⟨k, 5⟩) w) := by
  have hle := h.le
  have c0 := h.str
  have c2 := h.e
  have f2 := h.fe
  have hz := h.lt
  dsimp only at hle c0 c2
  have hsz := extr_size s k
  obtain ⟨X, hX⟩ : ∃ X, X = s.extract k s.size := ⟨_, rfl⟩
  rw [← hX] at c0 hsz
  have t1 : decide ((X.size : Int) < 1) = true := by rw [decide_eq_true_iff]; omega
  have t1' : X.size = 0 := by omega
  have HR := Lib.hid h
  clear hX hsz h
  go_enter Try.func35, Try.ntmps35
  go_wp2_with fail
  all_goals (try go_quiet (fail))
  all_goals go_wp2
  all_goals go_ret
  all_goals exact ⟨none, 0, 0, 0, rfl, slat_nil1 _, by first | exact rfat_e HR.out 5 | exact rfat_e (HR.out.below (below_drewN (bz w) _)) 5, by first | exact (Kept.refl (fun i => i = q) w).setCell (fun _ => rfl) _ | exact ((Kept.refl (fun i => i = q) w).drewN _).setCell (fun _ => rfl) _, fun h => absurd h (by simp)⟩
theorem reflist_torn (q : Nat) (s : ByteArray) (k : Nat) (w : World) (h : RfAt w q s ⟨k, 0⟩) (hs : s.size ≤ 1000000) (hn : k + 1 ≤ s.size) (hn2 : s.size < k + 1 + 2 * many s k) :
    Calls Try.prog 35 #[.pointer (some ⟨q, 0, none⟩)] w (ListPost q [] (fun w' => RfAt w' q s ⟨k, 5⟩) w) := by
  have hle := h.le
  have c0 := h.str
  have c2 := h.e
  have f2 := h.fe
  have hz := h.lt
  dsimp only at hle c0 c2
  have hsz := extr_size s k
  obtain ⟨B, hB, hmb⟩ := first_byte s k hn
  have hB8 := B.toNat_lt
  obtain ⟨X, hX⟩ : ∃ X, X = s.extract k s.size := ⟨_, rfl⟩
  rw [← hX] at c0 hsz hB
  rw [hmb] at hn2
  have hix : ∀ W, (Instr.index 9 (.string X) (.int .i64 0)).run Try.prog W = .ok (.int .u8 B.toNat) W := fun W => index_str X 0 B hB W
  have t1 : decide ((X.size : Int) < 1) = false := by rw [decide_eq_false_iff_not]; omega
  have t1' : ¬ X.size = 0 := by omega
  have t2 : decide ((X.size : Int) < 1 + 2 * (B.toNat : Int)) = true := by rw [decide_eq_true_iff]; omega
  have e1 : IntKind.i64.wrap (2 * (B.toNat : Int)) = 2 * (B.toNat : Int) := IntWalk.i64_in _ (by omega)
  have e2 : IntKind.i64.wrap (1 + 2 * (B.toNat : Int)) = 1 + 2 * (B.toNat : Int) := IntWalk.i64_in _ (by omega)
  have HR := Lib.hid h
  clear hX hsz h hB hmb
  go_enter Try.func35, Try.ntmps35
  go_wp2_with fail
  all_goals (try go_quiet (fail))
  all_goals go_wp2
  all_goals go_ret
  all_goals exact ⟨none, 0, 0, 0, rfl, slat_nil1 _, by first | exact rfat_e HR.out 5 | exact rfat_e (HR.out.below (below_drewN (bz w) _)) 5, by first | exact (Kept.refl (fun i => i = q) w).setCell (fun _ => rfl) _ | exact ((Kept.refl (fun i => i = q) w).drewN _).setCell (fun _ => rfl) _, fun h => absurd h (by simp)⟩
/-- at the head of a round -/
structure LrInv (w : World) (q : Nat) (s : ByteArray) (k i : Nat) (t4 : Value) (wr : World) : Prop where
  own : wr.ownsRow w.heap.size 53 1 t4 i ((vals s k i).map (Value.int .u16))
  r : RfAt wr q s ⟨k + 2 * i, 0⟩
  kp : Kept (fun i => i = q) w wr
theorem reflist_fine (q : Nat) (s : ByteArray) (k : Nat) (w : World) (h : RfAt w q s ⟨k, 0⟩) (hs : s.size ≤ 1000000) (hn : k + 1 ≤ s.size) (hn2 : k + 1 + 2 * many s k ≤ s.size) :
    Calls Try.prog 35 #[.pointer (some ⟨q, 0, none⟩)] w (ListPost q (vals s (k + 1) (many s k)) (fun w' => RfAt w' q s ⟨k + 1 + 2 * many s k, 0⟩) w) := by
  obtain ⟨j0, hj, jz0, jz1, jz2⟩ := info_parts info53
  have hle := h.le
  have c0 := h.str
  have c2 := h.e
  have hz := h.lt
  dsimp only at hle c0 c2
  have hsz := extr_size s k
  obtain ⟨B, hB, hmb⟩ := first_byte s k hn
  have hB8 := B.toNat_lt
  obtain ⟨X, hX⟩ : ∃ X, X = s.extract k s.size := ⟨_, rfl⟩
  rw [← hX] at c0 hsz hB
  have hm8 := many_lt s k
  have HN := Lib.hid (fun W hW => refnum_any q s ⟨k, 0⟩ 1 W hW hs (by omega))
  unfold RefNumPost at HN
  rw [(fine1 s k hn).1, (fine1 s k hn).2] at HN
  rw [hmb] at hn2 HN ⊢
  obtain ⟨m, hm⟩ : ∃ m, m = B.toNat := ⟨_, rfl⟩
  have hix : ∀ W, (Instr.index 9 (.string X) (.int .i64 0)).run Try.prog W = .ok (.int .u8 B.toNat) W := fun W => index_str X 0 B hB W
  rw [← hm] at hn2 HN hix hB8 ⊢
  have t1 : decide ((X.size : Int) < 1) = false := by rw [decide_eq_false_iff_not]; omega
  have t1' : ¬ X.size = 0 := by omega
  have t2 : decide ((X.size : Int) < 1 + 2 * (m : Int)) = false := by rw [decide_eq_false_iff_not]; omega
  have e1 : IntKind.i64.wrap (2 * (m : Int)) = 2 * (m : Int) := IntWalk.i64_in _ (by omega)
  have e2 : IntKind.i64.wrap (1 + 2 * (m : Int)) = 1 + 2 * (m : Int) := IntWalk.i64_in _ (by omega)
  have HR := Lib.hid h
  clear hX hsz h hB hmb hm hm8
  go_enter Try.func35, Try.ntmps35
  go_wp2_with fail
  go_quiet (fail)
  go_wp2_with fail
  refine (HN.out _ (HR.out.below (below_drewN (bz w) nq))).mono ?_
  rintro e w1 ⟨rfl, hr, hk⟩
  have HI0 : Hid (LrInv w q s (k + 1) 0 (.slice none 0 0) w1) := Lib.hid ⟨World.ownsRow_nil _ _ _ _, hr, ((Kept.refl (fun i => i = q) w).drewN nq).trans hk (fun i _ e => e)⟩
  clear hr hk t1 t1' t2 e1 e2 hix c0 c2 HN HR
  go_wp2_with fail
  go_loopw [4, 5] (fun t4 t5 wr => ∃ i : Nat, i ≤ m ∧ t5 = .int .i64 i ∧ Hid (LrInv w q s (k + 1) i t4 wr)) (fun _ t5 _ => m - (intOf t5).toNat)
  case atStart => exact ⟨0, Nat.zero_le _, rfl, HI0.out⟩
  case round =>
    obtain ⟨i, hi, rfl, hinv⟩ := hrel
    have hsz := hinv.out.kp.size
    by_cases hlt : i < m
    · have i2 : (i : Int) < (m : Int) := by omega
      have hg := got2 s (k + 1 + 2 * i) (by omega)
      have HU := Lib.hid (fun W hW => refnum_any q s ⟨k + 1 + 2 * i, 0⟩ 2 W hW hs (by omega))
      unfold RefNumPost at HU
      rw [hg.1, hg.2] at HU
      have hvs : vals s (k + 1) (i + 1) = vals s (k + 1) i ++ [((numB (s.extract (k + 1 + 2 * i) (k + 1 + 2 * i + 2)) : Nat) : Int)] := rfl
      have hx16 : numB (s.extract (k + 1 + 2 * i) (k + 1 + 2 * i + 2)) < 65536 := by rw [← hg.2]; exact Rs.num_lt s ⟨k + 1 + 2 * i, 0⟩ 2
      obtain ⟨X2, hX⟩ : ∃ X : Nat, X = numB (s.extract (k + 1 + 2 * i) (k + 1 + 2 * i + 2)) := ⟨_, rfl⟩
      rw [← hX] at HU hvs hx16
      have HVS := Lib.hid hvs
      have HI := Lib.hid hinv.out
      have e5 : (X2 : Int) % 65536 = (X2 : Int) := by omega
      clear hg hvs hX hinv
      go_wp2_with fail
      refine (HU.out _ HI.out.r).mono ?_
      rintro e w2 ⟨rfl, hr2, hk2⟩
      have HO2 := Lib.hid (HI.out.own.kept (grown_of_kept1 hk2) (by
        cases ho : u4.ownBlock with
        | none => exact .inl rfl
        | some g => exact .inr (fun e => by injection e with e; have := (HI.out.own.lt g ho).1; omega)))
      have HR2 := Lib.hid hr2
      have HK2 := Lib.hid (HI.out.kp.trans hk2 (fun i _ e => e))
      have hs2 := hk2.size
      clear hr2 hk2
      go_wp2_with (at_builtin; refine wpList_append_lies _ rfl (.tmp 47) (.tmp 50) 35 rfl w.heap.size 53 j0 (.int .u16 0) 1 2 Try.underlying35 hj jz0 jz1 jz2 rfl (by decide) _ _ _ rfl (HO2.out.alloc _) ⟨w2.heap.size, 0, none⟩ 1 1 [.int .u16 X2] rfl rfl (new_cells _ _ _ _ (by simp)) (by simp [Value.oneCell']) (by decide) (by unfold maxLen; omega) (by omega) (by simp; omega) _ rfl ?_)
      intro gg cap2 wa hown2 hgrow2 hat hlt2
      have hne : some q ≠ u4.ownBlock := fun e => by have := (HO2.out.lt _ e.symm).1; omega
      have HI2 : Hid (LrInv w q s (k + 1) (i + 1) (.slice (some ⟨gg, 0, none⟩) (i + 1) cap2) wa) := by
        refine Lib.hid ⟨?_, ?_, ?_⟩
        · rw [HVS.out, List.map_append]; exact hown2
        · have h3 := HR2.out.below (ba (bz _) (.cells #[.int .u16 X2] 53))
          have h4 : k + 1 + 2 * (i + 1) = k + 1 + 2 * i + 2 := by omega
          rw [h4]
          exact ⟨hgrow2.cell (a := ⟨q, 0, none⟩) h3.str hne, hgrow2.cell (a := ⟨q, 1, none⟩) h3.past hne, hgrow2.cell (a := ⟨q, 2, none⟩) h3.e hne, (hgrow2.frozen_far ⟨q, 0, none⟩ h3.lt hne).trans h3.fs, (hgrow2.frozen_far ⟨q, 1, none⟩ h3.lt hne).trans h3.fp, (hgrow2.frozen_far ⟨q, 2, none⟩ h3.lt hne).trans h3.fe, h3.le⟩
        · exact (HK2.out.alloc _).grown hgrow2 (fun g e hg => by have := (HO2.out.lt g e).1; omega)
      clear hown2 hgrow2 hat hlt2 hne
      go_wp2_with fail
      go_roundw
      case rel => exact ⟨i + 1, by omega, by go_num, HI2⟩
      case measure => simp [intOf]; omega
    · have him : i = m := by omega
      subst him
      have kk1 : ¬ ((i : Int) < (i : Int)) := by omega
      obtain ⟨ao, cap, b, o, hv, hsl, hbb⟩ := SlAt.owned hinv.out.own
      rw [hv]
      have HI := Lib.hid hinv.out
      have HSL := Lib.hid hsl
      have HBB := Lib.hid hbb
      clear hv hsl hinv hbb
      go_wp2
      go_ret
      exact ⟨ao, cap, b, o, by rw [vals_len]; rfl, by rw [vals_len]; exact HSL.out, HI.out.r, HI.out.kp, fun h => HBB.out (by simpa using h)⟩
theorem reflist_any (q : Nat) (s : ByteArray) (r : Rs) (w : World) (h : RfAt w q s r) (hs : s.size ≤ 1000000) :
    Calls Try.prog 35 #[.pointer (some ⟨q, 0, none⟩)] w (ListPost q (listV s r) (fun w' => RfAt w' q s (listS s r)) w) := by
  by_cases he : r.e = 0
  · obtain ⟨k, er⟩ := r
    dsimp only at he
    subst he
    by_cases h1 : k + 1 ≤ s.size
    · by_cases h2 : k + 1 + 2 * many s k ≤ s.size
      · have e1 : listV s ⟨k, 0⟩ = vals s (k + 1) (many s k) := by unfold listV whole; simp [h1, h2]
        have e2 : listS s ⟨k, 0⟩ = ⟨k + 1 + 2 * many s k, 0⟩ := by unfold listS whole; simp [h1, h2]
        rw [e1, e2]
        exact reflist_fine q s k w h hs h1 h2
      · have e1 : listV s ⟨k, 0⟩ = [] := by unfold listV whole; simp [h2]
        have e2 : listS s ⟨k, 0⟩ = ⟨k, 5⟩ := by unfold listS whole; simp [h2]
        rw [e1, e2]
        exact reflist_torn q s k w h hs h1 (by omega)
    · have e1 : listV s ⟨k, 0⟩ = [] := by unfold listV whole; simp [h1]
      have e2 : listS s ⟨k, 0⟩ = ⟨k, 5⟩ := by unfold listS whole; simp [h1]
      rw [e1, e2]
      exact reflist_short q s k w h hs (by omega)
  · exact reflist_bad q s r w h he
theorem samel_any (xs : List Int) (n : Nat) (hn : n = xs.length) (ao ao' : Option Addr) (cap b o cap' b' o' : Nat) (w : World) (h : SlAt w 1 n (xs.map (Value.int .u16)) ao cap b o) (h' : SlAt w 1 n (xs.map (Value.int .u16)) ao' cap' b' o') (hlen : n ≤ 100000) :
    Calls Try.prog 34 #[.slice ao n cap, .slice ao' n cap'] w fun e w' => e = .returned (.bool true) ∧ Below w.heap.size w w' := by
  have hidx := h.idx (P := Try.prog) (t := 35) Try.underlying35 size53 (by decide)
  have hidx' := h'.idx (P := Try.prog) (t := 35) Try.underlying35 size53 (by decide)
  have HL := Lib.hid hn
  clear hn
  go_enter Try.func34, Try.ntmps34
  go_wp2_with fail
  go_loopw [5] (fun t5 wr => ∃ k : Nat, k ≤ n ∧ t5 = .int .i64 k ∧ Hid (Below w.heap.size w wr)) (fun t5 _ => n - (intOf t5).toNat)
  case atStart => exact ⟨0, Nat.zero_le _, rfl, bz w⟩
  case round =>
    obtain ⟨k, hk, rfl, hb⟩ := hrel
    by_cases hlt : k < n
    · have hkl : k < xs.length := by rw [← HL.out]; exact hlt
      obtain ⟨x, hx⟩ : ∃ x, xs[k]? = some x := ⟨_, List.getElem?_eq_getElem hkl⟩
      have g0 := (h.below hb.out).cell k (.int .u16 x) (by simp [hx])
      have g1 := (h'.below hb.out).cell k (.int .u16 x) (by simp [hx])
      have i1 : (0 : Int) ≤ (k : Int) := by omega
      have i2 : (k : Int) < (n : Int) := by omega
      clear hx hkl
      go_wp2_with fail
      go_quiet (fail)
      go_wp2_with fail
      go_roundw
      case rel => exact ⟨k + 1, by omega, by go_num, below_drewN hb.out _⟩
      case measure => simp [intOf]; omega
    · have kk1 : ¬ ((k : Int) < (n : Int)) := by omega
      go_wp2
      go_ret
      exact ⟨rfl, hb.out⟩
end Go.Proofs.Ytehnkljaoaehjaa
