/- The document's table: without, Remove, Settle. Printed by gen_twi.py. -/
import Derived.Test.YtjmanajbdkbkdaaTrc
import Derived.Test.YtjmanajbdkbkdaaTx
namespace Go.Proofs.Ytjmanajbdkbkdaa
open Go.RowKit Go.Um
set_option linter.unusedSimpArgs false
set_option linter.unusedVariables false
set_option maxHeartbeats 4000000
set_option maxRecDepth 100000
def kp (B : Bool) (id s : Int) (x : Rw) : Bool := if B = true then !(x.st == s) else !(x.id == id)
theorem filt_snoc {L : List Rw} {i : Nat} {x : Rw} (h : L[i]? = some x) (p : Rw → Bool) : (L.take (i + 1)).filter p = (L.take i).filter p ++ if p x then [x] else [] := by
  rw [take_snoc h, List.filter_append]
  congr 1
  simp only [List.filter_cons, List.filter_nil]
def WPost (F : List Rw) (w : World) (e : Ending) (w' : World) : Prop := ∃ v', e = .returned v' ∧ w'.ownsRow w.heap.size 54 12 v' F.length (F.flatMap Rw.cells) ∧ Below w.heap.size w w'
theorem without_st {base : Nat} {w : World} {q : Nat} {v : Value} {L : List Rw} {nx : Int} (id s : Int) (h : RTab base w q v L nx) (hlen : L.length ≤ 1000) :
    Calls Try.prog 47 #[.pointer (some ⟨q, 0, none⟩), .int .u16 id, .int .u8 s, .bool true] w (WPost (L.filter (kp true id s)) w) := by
  obtain ⟨ao, cap, b, o, rfl, hs⟩ := h.slat
  obtain ⟨i0, hi, iz0, iz1, iz2⟩ := info_parts info54
  have c0 := h.c0
  have hidx := hs.idx (P := Try.prog) (t := 58) (e := 54) (by kernel_rfl) size54 (by decide)
  obtain ⟨n, hn⟩ : ∃ n, n = L.length := ⟨_, rfl⟩
  rw [← hn] at hidx hlen c0
  have HS := Lib.hid (fun W (hb : Below w.heap.size w W) => And.intro (hs.below hb) (cell_past hb c0))
  have HN := Lib.hid hn
  clear h hs hn c0
  go_enter Try.func47, Try.ntmps47
  go_wp2_with fail
  go_loopw [9, 10] (fun t9 t10 wr => ∃ (i m : Nat), i ≤ n ∧ t10 = .int .i64 i ∧ m ≤ i ∧ m = ((L.take i).filter (kp true id s)).length ∧ wr.ownsRow w.heap.size 54 12 t9 m (((L.take i).filter (kp true id s)).flatMap Rw.cells) ∧ Hid (Below w.heap.size w wr)) (fun _ t10 _ => n - (intOf t10).toNat)
  case atStart => exact ⟨0, 0, Nat.zero_le _, rfl, Nat.le_refl _, rfl, World.ownsRow_nil _ _ _ _, Lib.hid (bz w)⟩
  case round =>
    obtain ⟨i, m, hi0, rfl, hmi, hm, hown, hbel⟩ := hrel
    obtain ⟨hsr, c0⟩ := HS.out _ hbel.out
    obtain ⟨ao9, cap9, b9, o9, rfl, -, -⟩ := SlAt.owned hown
    have HM := Lib.hid hm
    clear hm
    by_cases hlt : i < n
    · have i1 : (0 : Int) ≤ (i : Int) := by omega
      have i2 : (i : Int) < (n : Int) := by omega
      have i3 : decide ((i : Int) < (n : Int)) = true := decide_eq_true i2
      obtain ⟨x, hx⟩ : ∃ x, L[i]? = some x := ⟨_, List.getElem?_eq_getElem (by rw [← HN.out]; exact hlt)⟩
      obtain ⟨g0, g1, g2, g3, g4, g5, g6, g7, g8, g9, g10, g11⟩ := row_at hsr hx
      have HF := Lib.hid (filt_snoc hx (kp true id s))
      have hsz := Lib.hid hbel.out.size
      clear hx hsr
      by_cases he : x.st = s
      · have t1 : (x.st == s) = true := by simpa using he
        have t2 : (x.st != s) = false := by simpa using he
        have hk : kp true id s x = false := by unfold kp; rw [t1]; rfl
        have HK := Lib.hid hk
        clear he hk
        go_wp2_with fail
        go_roundw
        case rel =>
          refine ⟨i + 1, m, by omega, by go_num, by omega, ?_, ?_, hbel⟩
          · rw [HF.out, HK.out, if_neg (by decide), List.append_nil]; exact HM.out
          · rw [HF.out, HK.out, if_neg (by decide), List.append_nil]; exact hown
        case measure => simp [intOf]; omega
      · have t1 : (x.st == s) = false := by simpa using he
        have t2 : (x.st != s) = true := by simpa using he
        have hk : kp true id s x = true := by unfold kp; rw [t1]; rfl
        have HK := Lib.hid hk
        clear he hk
        go_wp2_with (at_builtin; refine wpList_append_own _ rfl (.tmp 49) (.tmp 57) 58 rfl w.heap.size 54 i0 Rw.zero.val 12 40 Try.underlying58 hi iz0 iz1 iz2 rfl (by decide) _ _ _ rfl (hown.alloc _) ⟨wr.heap.size, 0, none⟩ 1 1 x.cells rfl rfl (new_cells _ _ _ _ (by simp)) (Rw.one _) (by unfold maxLen; omega) (by omega) (by have := hsz.out; simp; omega) ?_)
        intro v' w2 hown2 hgrow2 _
        have HB2 : Hid (Below w.heap.size w w2) := Lib.hid (below_own (hbel.out.alloc hsz.out _) (hown.alloc _) hgrow2 (Nat.le_refl _) (by have := hsz.out; simp; omega))
        go_wp2_with fail
        go_roundw
        case rel =>
          refine ⟨i + 1, m + 1, by omega, by go_num, by omega, ?_, ?_, HB2⟩
          · rw [HF.out, HK.out, if_pos rfl, List.length_append, ← HM.out]; rfl
          · rw [HF.out, HK.out, if_pos rfl, List.flatMap_append]
            simpa using hown2
        case measure => simp [intOf]; omega
    · have i2 : ¬ (i : Int) < (n : Int) := by omega
      have i3 : decide ((i : Int) < (n : Int)) = false := decide_eq_false i2
      have HI := Lib.hid (show i = n by omega)
      go_wp2
      go_ret
      have h1 := HM.out
      have h2 := hown
      rw [HI.out, HN.out, List.take_length] at h1 h2
      rw [h1] at h2 ⊢
      exact ⟨_, rfl, h2, hbel.out⟩
theorem without_id {base : Nat} {w : World} {q : Nat} {v : Value} {L : List Rw} {nx : Int} (id s : Int) (h : RTab base w q v L nx) (hlen : L.length ≤ 1000) :
    Calls Try.prog 47 #[.pointer (some ⟨q, 0, none⟩), .int .u16 id, .int .u8 s, .bool false] w (WPost (L.filter (kp false id s)) w) := by
  obtain ⟨ao, cap, b, o, rfl, hs⟩ := h.slat
  obtain ⟨i0, hi, iz0, iz1, iz2⟩ := info_parts info54
  have c0 := h.c0
  have hidx := hs.idx (P := Try.prog) (t := 58) (e := 54) (by kernel_rfl) size54 (by decide)
  obtain ⟨n, hn⟩ : ∃ n, n = L.length := ⟨_, rfl⟩
  rw [← hn] at hidx hlen c0
  have HS := Lib.hid (fun W (hb : Below w.heap.size w W) => And.intro (hs.below hb) (cell_past hb c0))
  have HN := Lib.hid hn
  clear h hs hn c0
  go_enter Try.func47, Try.ntmps47
  go_wp2_with fail
  go_loopw [9, 10] (fun t9 t10 wr => ∃ (i m : Nat), i ≤ n ∧ t10 = .int .i64 i ∧ m ≤ i ∧ m = ((L.take i).filter (kp false id s)).length ∧ wr.ownsRow w.heap.size 54 12 t9 m (((L.take i).filter (kp false id s)).flatMap Rw.cells) ∧ Hid (Below w.heap.size w wr)) (fun _ t10 _ => n - (intOf t10).toNat)
  case atStart => exact ⟨0, 0, Nat.zero_le _, rfl, Nat.le_refl _, rfl, World.ownsRow_nil _ _ _ _, Lib.hid (bz w)⟩
  case round =>
    obtain ⟨i, m, hi0, rfl, hmi, hm, hown, hbel⟩ := hrel
    obtain ⟨hsr, c0⟩ := HS.out _ hbel.out
    obtain ⟨ao9, cap9, b9, o9, rfl, -, -⟩ := SlAt.owned hown
    have HM := Lib.hid hm
    clear hm
    by_cases hlt : i < n
    · have i1 : (0 : Int) ≤ (i : Int) := by omega
      have i2 : (i : Int) < (n : Int) := by omega
      have i3 : decide ((i : Int) < (n : Int)) = true := decide_eq_true i2
      obtain ⟨x, hx⟩ : ∃ x, L[i]? = some x := ⟨_, List.getElem?_eq_getElem (by rw [← HN.out]; exact hlt)⟩
      obtain ⟨g0, g1, g2, g3, g4, g5, g6, g7, g8, g9, g10, g11⟩ := row_at hsr hx
      have HF := Lib.hid (filt_snoc hx (kp false id s))
      have hsz := Lib.hid hbel.out.size
      clear hx hsr
      by_cases he : x.id = id
      · have t1 : (x.id == id) = true := by simpa using he
        have t2 : (x.id != id) = false := by simpa using he
        have hk : kp false id s x = false := by unfold kp; rw [t1]; rfl
        have HK := Lib.hid hk
        clear he hk
        go_wp2_with fail
        go_roundw
        case rel =>
          refine ⟨i + 1, m, by omega, by go_num, by omega, ?_, ?_, hbel⟩
          · rw [HF.out, HK.out, if_neg (by decide), List.append_nil]; exact HM.out
          · rw [HF.out, HK.out, if_neg (by decide), List.append_nil]; exact hown
        case measure => simp [intOf]; omega
      · have t1 : (x.id == id) = false := by simpa using he
        have t2 : (x.id != id) = true := by simpa using he
        have hk : kp false id s x = true := by unfold kp; rw [t1]; rfl
        have HK := Lib.hid hk
        clear he hk
        go_wp2_with (at_builtin; refine wpList_append_own _ rfl (.tmp 49) (.tmp 57) 58 rfl w.heap.size 54 i0 Rw.zero.val 12 40 Try.underlying58 hi iz0 iz1 iz2 rfl (by decide) _ _ _ rfl (hown.alloc _) ⟨wr.heap.size, 0, none⟩ 1 1 x.cells rfl rfl (new_cells _ _ _ _ (by simp)) (Rw.one _) (by unfold maxLen; omega) (by omega) (by have := hsz.out; simp; omega) ?_)
        intro v' w2 hown2 hgrow2 _
        have HB2 : Hid (Below w.heap.size w w2) := Lib.hid (below_own (hbel.out.alloc hsz.out _) (hown.alloc _) hgrow2 (Nat.le_refl _) (by have := hsz.out; simp; omega))
        go_wp2_with fail
        go_roundw
        case rel =>
          refine ⟨i + 1, m + 1, by omega, by go_num, by omega, ?_, ?_, HB2⟩
          · rw [HF.out, HK.out, if_pos rfl, List.length_append, ← HM.out]; rfl
          · rw [HF.out, HK.out, if_pos rfl, List.flatMap_append]
            simpa using hown2
        case measure => simp [intOf]; omega
    · have i2 : ¬ (i : Int) < (n : Int) := by omega
      have i3 : decide ((i : Int) < (n : Int)) = false := decide_eq_false i2
      have HI := Lib.hid (show i = n by omega)
      go_wp2
      go_ret
      have h1 := HM.out
      have h2 := hown
      rw [HI.out, HN.out, List.take_length] at h1 h2
      rw [h1] at h2 ⊢
      exact ⟨_, rfl, h2, hbel.out⟩
/-- the rows are put in their place -/
theorem rput {base : Nat} {w W : World} {q : Nat} {v v' : Value} {L F : List Rw} {nx : Int} (h : RTab base w q v L nx) (hbase : base ≤ w.heap.size) (hb : Below w.heap.size w W) (hown : W.ownsRow w.heap.size 54 12 v' F.length (F.flatMap Rw.cells)) :
    RTab base (W.setCell ⟨q, 0, none⟩ v') q v' F nx ∧ Kept (Own q v) w (W.setCell ⟨q, 0, none⟩ v') ∧ Fr w v v' := by
  have hW := h.below hb
  have hq := h.lt
  have hne : v'.ownBlock ≠ some q := fun e => by have := (own_lt hown e).1; omega
  refine ⟨⟨World.cell?_setCell_same _ _ _ hW.c0, ?_, ?_, ?_, own_setCell (own_base hown hbase) hne _, hne⟩, ?_, ?_⟩
  · rw [World.frozen?_setCell]; exact hW.f0
  · rw [World.cell?_setCell_other _ _ _ _ (by simp)]; exact hW.c1
  · rw [World.frozen?_setCell]; exact hW.f1
  · exact ((Kept.of_below hb).mono (S' := Own q v) (fun i hi h => absurd h (by omega))).setCell (p := ⟨q, 0, none⟩) (fun _ => .inl rfl) _
  · rcases hown.2 with ⟨rfl, _⟩ | ⟨g, cap, cur, rfl, hg, _⟩
    · intro b hb; cases hb
    · intro b hb; cases hb; exact .inr hg
theorem ixF_lt {L : List Rw} {id : Int} : ixF L id < 0 ↔ (L.filter (fun x => !(x.id == id))).length = L.length := by
  constructor
  · intro h
    rcases ixF_cases L id with hi | ⟨i, x, hi, _⟩
    · rw [List.filter_eq_self.2]
      intro x hx
      have := ixF_ne hi x hx
      simpa using this
    · omega
  · intro h
    have h2 := List.length_filter_eq_length_iff.1 h
    rw [ixF_none (fun y hy => by have := h2 y hy; simpa using this)]
    decide
theorem rremove_any {base : Nat} {w : World} {q : Nat} {v : Value} {L : List Rw} {nx : Int} (id : Int) (h : RTab base w q v L nx) (hlen : L.length ≤ 1000) (hbase : base ≤ w.heap.size) :
    Calls Try.prog 40 #[.pointer (some ⟨q, 0, none⟩), .int .u16 id] w (RPost base q v (if (L.filter (fun x => !(x.id == id))).length = L.length then 7 else 0) (L.filter (fun x => !(x.id == id))) nx w) := by
  have HA := Lib.hid (rat_any id h hlen)
  have HH := Lib.hid h
  have HWI := Lib.hid (without_id id 0 h hlen)
  rw [show (L.filter (kp false id 0)) = L.filter (fun x => !(x.id == id)) from rfl] at HWI
  have hc0 := h.c0
  have hf0 := h.f0
  by_cases hi : ixF L id < 0
  · have hq := ixF_lt.1 hi
    rw [if_pos hq, List.filter_eq_self.2 (List.length_filter_eq_length_iff.1 hq)]
    obtain ⟨ix, hix⟩ : ∃ x, x = ixF L id := ⟨_, rfl⟩
    rw [← hix] at HA hi
    have d1 : decide (ix < 0) = true := decide_eq_true hi
    clear h hq hix hi HWI hc0 hf0
    go_enter Try.func40, Try.ntmps40
    go_wp2_with fail
    refine HA.out.mono ?_
    rintro e w1 ⟨rfl, rfl⟩
    go_wp2
    go_ret
    exact RPost.stay HH.out (bz w)
  · rw [if_neg (fun hq => hi (ixF_lt.2 hq))]
    obtain ⟨ix, hix⟩ : ∃ x, x = ixF L id := ⟨_, rfl⟩
    rw [← hix] at HA hi
    have d1 : decide (ix < 0) = false := decide_eq_false hi
    have HLT := Lib.hid h.lt
    clear h hix hi
    go_enter Try.func40, Try.ntmps40
    go_wp2_with fail
    refine HA.out.mono ?_
    rintro e w1 ⟨rfl, rfl⟩
    go_wp2_with fail
    refine HWI.out.mono ?_
    rintro e w2 ⟨v2, rfl, hown, hb⟩
    obtain ⟨ao2, cap2, b2, o2, rfl, _, _⟩ := SlAt.owned hown
    have d0 := cell_past hb hc0
    have e0 := kf hb _ 0 HLT.out hf0
    have HO := Lib.hid hown
    have HB := Lib.hid hb
    clear hown hb
    go_wp2
    go_ret
    obtain ⟨h1, h2, h3⟩ := rput HH.out hbase HB.out HO.out
    exact ⟨rfl, _, h1, h2, h3⟩
theorem rsettle_any {base : Nat} {w : World} {q : Nat} {v : Value} {L : List Rw} {nx : Int} (h : RTab base w q v L nx) (hlen : L.length ≤ 1000) (hbase : base ≤ w.heap.size) :
    Calls Try.prog 41 #[.pointer (some ⟨q, 0, none⟩)] w (RPost base q v ((L.length : Int) - (L.filter (fun x => !(x.st == 1))).length) (L.filter (fun x => !(x.st == 1))) nx w) := by
  have HA := Lib.hid (rcount_any 1 h hlen)
  rw [show ((L.length : Int) - (L.filter (fun x => !(x.st == 1))).length) = (cntR L 1 : Nat) by have := settled L; omega]
  have HH := Lib.hid h
  have HWI := Lib.hid (without_st 0 1 h hlen)
  rw [show (L.filter (kp true 0 1)) = L.filter (fun x => !(x.st == 1)) from rfl] at HWI
  have hc0 := h.c0
  have hf0 := h.f0
  have HLT := Lib.hid h.lt
  obtain ⟨c, hc⟩ : ∃ c : Int, c = (cntR L 1 : Nat) := ⟨_, rfl⟩
  rw [← hc] at HA ⊢
  clear h hc
  go_enter Try.func41, Try.ntmps41
  go_wp2_with fail
  refine HA.out.mono ?_
  rintro e w1 ⟨rfl, rfl⟩
  go_wp2_with fail
  refine HWI.out.mono ?_
  rintro e w2 ⟨v2, rfl, hown, hb⟩
  obtain ⟨ao2, cap2, b2, o2, rfl, _, _⟩ := SlAt.owned hown
  have d0 := cell_past hb hc0
  have e0 := kf hb _ 0 HLT.out hf0
  have HO := Lib.hid hown
  have HB := Lib.hid hb
  clear hown hb
  go_wp2
  go_ret
  obtain ⟨h1, h2, h3⟩ := rput HH.out hbase HB.out HO.out
  exact ⟨rfl, _, h1, h2, h3⟩
end Go.Proofs.Ytjmanajbdkbkdaa
