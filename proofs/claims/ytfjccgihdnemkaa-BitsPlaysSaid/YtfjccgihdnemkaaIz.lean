/- umpirelaw15's is: are these the numbers of a set? Printed from Iz.tmpl. -/
import Derived.Test.YtfjccgihdnemkaaCn
import Derived.Test.YtfjccgihdnemkaaRb
import Derived.Deep.RegionHeld3
namespace Go.Proofs.Ytfjccgihdnemkaa
open Go.RowKit Go.Um Go.Shelf
attribute [local go_sem] Oper.semAt_some
set_option linter.unusedSimpArgs false
set_option linter.unusedVariables false
set_option maxHeartbeats 4000000
set_option maxRecDepth 100000
theorem cset {W : World} {p q : Addr} {u v : Value} (hne : q.block ≠ p.block) (h : W.cell? q = some v) : (W.setCell p u).cell? q = some v :=
  (World.cell?_of_block (w := W) (Below.heap_setCell W p u q.block hne)).trans h
theorem upto_all {N : Nat} (h : ∀ n, 65536 ≤ n → N.testBit n = false) (t : Nat) : ∃ r, allN N = upto N t ++ r := by
  unfold allN
  by_cases ht : t ≤ 65536
  · obtain ⟨r, hr⟩ := upto_prefix N t (65536 - t)
    rw [show t + (65536 - t) = 65536 by omega] at hr
    exact ⟨r, hr⟩
  · have := upto_more (N := N) (t := 65536) h (t - 65536)
    rw [show 65536 + (t - 65536) = t by omega] at this
    exact ⟨[], by rw [this]; simp⟩
theorem is_any {v u : Value} {N : Nat} {L : List Nat} {w : World} (h : SetAt w v N) (hl : LisAt w u L) (hmax : L.length ≤ 100000) (B : Bool) (hB : B = true ↔ L = allN N) :
    Calls Try.prog 18 #[v, u] w fun e w' => e = .returned (.bool B) ∧ Below w.heap.size w w' := by
  obtain ⟨m, ao, cap, b, o, rfl, hs, hneed, hm⟩ := id h
  obtain ⟨aoL, capL, bL, oL, rfl, hsL⟩ := id hl
  have HV := Lib.hid h
  have HS := Lib.hid hs
  have HN := Lib.hid hneed
  have HSL := Lib.hid hsL
  have hbw : 0 < m → b < w.heap.size := fun h0 => hs.lt (by rw [u64s_len, words_len]; exact h0)
  have HBW := Lib.hid hbw
  have hidx := hsL.idx (P := Try.prog) (t := 22) Try.underlying22 size3i (by decide)
  have HAll := Lib.hid (allN_eq hneed hm)
  have HBB := Lib.hid hB
  obtain ⟨nL, hnL⟩ : ∃ n, n = L.length := ⟨_, rfl⟩
  rw [← hnL] at hidx hmax ⊢
  have HNL := Lib.hid hnL
  have hbl : 0 < nL → bL < w.heap.size := fun h0 => hsL.lt (by rw [i64s_len, ← hnL]; exact h0)
  have HBL := Lib.hid hbl
  clear hs hneed hbw hB hsL h hl hnL hbl
  refine (callsIn_wide (n := 4)).1 ?_
  refine callsIn_of_wp_marks Try.func18 rfl trivial ?_ rfl
  simp only [Try.ntmps18, List.size_toArray, List.length_cons, List.length_nil, Nat.reduceAdd, Nat.reduceSub, Array.replicate_succ, Array.replicate_zero, List.push_toArray, List.append_toArray, List.nil_append, List.cons_append]
  have hnil : ∀ (c : Array Value) (w : World), (binOp .eql 32 (.func (.func 31) #[] c) .nilFunc).run Try.prog w = .ok (.bool false) w := fun _ _ => by first | rfl | simp [go_sem, binOp]
  gi_wp2_with (refine ⟨trivial, ?_⟩; gi_at_call 12; refine (all_in Fence.wide _ trivial rfl _ _ _ _).mono ?_; rintro e w' ⟨rfl, rfl⟩)
  clear hnil
  have c0 := cell_new_l w (.slice ao m cap) 27
  have c1 := cell_new_l (w.alloc (.cells #[.slice ao m cap] 27)) (.slice aoL nL capL) 22
  have c2 := cell_new_l ((w.alloc (.cells #[.slice ao m cap] 27)).alloc (.cells #[.slice aoL nL capL] 22)) (.bool false) 4
  have c3 := cell_new_l (((w.alloc (.cells #[.slice ao m cap] 27)).alloc (.cells #[.slice aoL nL capL] 22)).alloc (.cells #[.bool false] 4)) (.slice ao m cap) 27
  have c4 := cell_new_l ((((w.alloc (.cells #[.slice ao m cap] 27)).alloc (.cells #[.slice aoL nL capL] 22)).alloc (.cells #[.bool false] 4)).alloc (.cells #[.slice ao m cap] 27)) (.int .i64 0) 3
  simp only [World.size_alloc] at c1 c2 c3 c4
  have hB0 : Below w.heap.size w (((((w.alloc (.cells #[.slice ao m cap] 27)).alloc (.cells #[.slice aoL nL capL] 22)).alloc (.cells #[.bool false] 4)).alloc (.cells #[.slice ao m cap] 27)).alloc (.cells #[.int .i64 0] 3)) := ((((((Below.refl _ w).alloc (Nat.le_refl _) _).alloc (by simp) _).alloc (by simp; omega) _).alloc (by simp; omega) _).alloc (by simp; omega) _)
  refine wpIn_rangeFunc_ownF rfl (by omega) (gf := 31) (lb := #[.pointer (some ⟨w.heap.size + 1 + 1 + 1, 0, none⟩)]) rfl trivial (enters_of Try.func31 (by kernel_rfl) rfl)
    (all_stops Fence.wide _ trivial rfl (by omega) (w.heap.size + 1 + 1 + 1) w.heap.size N m ao cap b o _ (by simp) (by simp; omega) HBW.out HN.out hm (cell_alloc_l _ c3.1) (HS.out.below hB0)) belowK_t (belowK_b (by simp; omega)) (Below.refl _ _) (fun _ => rfl)
    (fun pre W => ((vals N pre = L.take pre.length ∧ pre.length ≤ nL) ∧ W.cell? ⟨w.heap.size, 0, none⟩ = some (.slice ao m cap) ∧ W.cell? ⟨w.heap.size + 1, 0, none⟩ = some (.slice aoL nL capL) ∧ (W.cell? ⟨w.heap.size + 1 + 1, 0, none⟩ = some (.bool false) ∧ W.frozen? ⟨w.heap.size + 1 + 1, 0, none⟩ = false) ∧ W.cell? ⟨w.heap.size + 1 + 1 + 1 + 1, 0, none⟩ = some (.int .i64 (pre.length : Int)) ∧ W.frozen? ⟨w.heap.size + 1 + 1 + 1 + 1, 0, none⟩ = false) ∧ Below w.heap.size w W)
    (fun c pre W => (c = .ret ∧ (∀ r : List Nat, ¬ L = vals N pre ++ r) ∧ W.cell? ⟨w.heap.size + 1 + 1, 0, none⟩ = some (.bool false)) ∧ Below w.heap.size w W)
    (OwnFrom.and (Own.from (fun s A B row hs hg hr => ⟨hs.1, cell_kept hs.2.1 hg hr, cell_kept hs.2.2.1 hg hr, ⟨cell_kept hs.2.2.2.1.1 hg hr, (frozen_kept hs.2.2.2.1.1 hg hr).trans hs.2.2.2.1.2⟩, cell_kept hs.2.2.2.2.1 hg hr, (frozen_kept hs.2.2.2.2.1 hg hr).trans hs.2.2.2.2.2⟩) _) (ownFrom_below (Nat.le_refl _) (by simp; omega)))
    (fun c => OwnFrom.and (Own.from (fun s A B row hs hg hr => ⟨hs.1, hs.2.1, cell_kept hs.2.2 hg hr⟩) _) (ownFrom_below (Nat.le_refl _) (by simp; omega)))
    ⟨⟨⟨rfl, Nat.zero_le _⟩, cell_alloc_l _ (cell_alloc_l _ (cell_alloc_l _ (cell_alloc_l _ c0.1))), cell_alloc_l _ (cell_alloc_l _ (cell_alloc_l _ c1.1)), ⟨cell_alloc_l _ (cell_alloc_l _ c2.1), frozen_alloc_l _ (cell_alloc_l _ c2.1) (frozen_alloc_l _ c2.1 c2.2)⟩, c4.1, c4.2⟩, hB0⟩
    (fun x => { tmps := #[.agg #[.slice ao m cap], .slice aoL nL capL, .pointer (some ⟨w.heap.size, 0, none⟩), .pointer (some ⟨w.heap.size + 1, 0, none⟩), .pointer (some ⟨w.heap.size + 1 + 1, 0, none⟩), .func (.func 31) #[] #[.pointer (some ⟨w.heap.size + 1 + 1 + 1, 0, none⟩)], .pointer (some ⟨w.heap.size + 1 + 1 + 1 + 1, 0, none⟩), .int .i64 (x.1 : Int), undef, .agg #[.slice ao m cap], .func (.func 31) #[] #[.pointer (some ⟨w.heap.size + 1 + 1 + 1, 0, none⟩)], .func (.func 31) #[] #[.pointer (some ⟨w.heap.size + 1 + 1 + 1, 0, none⟩)], .bool false, .func (.func 31) #[] #[.pointer (some ⟨w.heap.size + 1 + 1 + 1, 0, none⟩)], .int .i64 (x.1 : Int), undef, undef, undef, undef, undef, undef, undef, undef, undef, undef, undef, undef, undef, undef, undef, undef, undef, undef, undef, undef, undef, undef, undef, undef, undef, undef, undef, undef, undef, undef, undef, undef, undef, undef, undef, undef], defers := [] }) ?assign ?body ?done ?stop
  case assign =>
    intro l x W K hK
    gi_wp2
    exact hK
  case body =>
    rintro l pre x W ⟨⟨⟨hpre, hle⟩, hc0, hc1, ⟨hc2, hf2⟩, hc4, hf4⟩, hB⟩ hlen
    obtain ⟨k, hk⟩ : ∃ k, k = pre.length := ⟨_, rfl⟩
    rw [← hk] at hc4 hle hpre
    obtain ⟨X, hX⟩ : ∃ X, X = x.1 := ⟨_, rfl⟩
    rw [← hX]
    have HP := Lib.hid hpre
    have HK := Lib.hid hk
    have HXX := Lib.hid hX
    clear hpre hk hX
    have k0 : (0 : Int) ≤ (k : Int) := by omega
    by_cases hlt : k < nL
    · have k1 : ¬ (nL : Int) ≤ (k : Int) := by omega
      have k2 : (k : Int) < (nL : Int) := by omega
      obtain ⟨z, hz⟩ : ∃ z, L[k]? = some z := ⟨_, List.getElem?_eq_getElem (by rw [← HNL.out]; exact hlt)⟩
      have g0 := (hB.cell (p := ⟨bL, oL + k, none⟩) (HBL.out (by omega))).trans (HSL.out.cell k _ (i64s_at hz))
      have HZ := Lib.hid hz
      clear hz
      by_cases e : z = X
      · have e1 : (z : Int) = (X : Int) := by omega
        have HE := Lib.hid e
        clear e
        have HT1 : Hid ((pre ++ [x]).length = k + 1) := Lib.hid (by rw [HK.out]; simp)
        have HT2 : Hid (vals N (pre ++ [x]) = L.take (k + 1)) := Lib.hid (by rw [vals_snoc, HP.out, ← HXX.out, ← HE.out, List.take_add_one, HZ.out]; rfl)
        gi_wp2
        exact ⟨KeepsOthers.setCell _ _ _, (Below.refl w.heap.size W).setCell (p := ⟨w.heap.size + 1 + 1 + 1 + 1, 0, none⟩) (by simp <;> omega) _, ⟨⟨by rw [HT1.out]; exact HT2.out, by rw [HT1.out]; omega⟩, cset (by simp <;> omega) hc0, cset (by simp <;> omega) hc1, ⟨cset (by simp <;> omega) hc2, by rw [World.frozen?_setCell]; exact hf2⟩, by rw [HT1.out]; simpa using World.cell?_setCell_same' _ _ _ (by rw [hc4]; rfl), by rw [World.frozen?_setCell]; exact hf4⟩, hB.setCell (p := ⟨w.heap.size + 1 + 1 + 1 + 1, 0, none⟩) (by simp <;> omega) _⟩
      · have e1 : ¬ (z : Int) = (X : Int) := by omega
        have HE := Lib.hid e
        clear e
        have HNO : Hid (∀ r : List Nat, ¬ L = vals N (pre ++ [x]) ++ r) := Lib.hid (fun r h => by
          rw [vals_snoc, HP.out, ← HXX.out] at h
          have hk : (L.take k).length = k := by rw [List.length_take, ← HNL.out]; omega
          have h2 : L[k]? = (L.take k ++ [X] ++ r)[k]? := by rw [← h]
          rw [HZ.out, List.append_assoc, List.getElem?_append_right (by rw [hk]; exact Nat.le_refl _), hk, Nat.sub_self] at h2
          exact HE.out (by simpa using h2))
        gi_wp2
        exact ⟨KeepsOthers.setCell _ _ _, ⟨rfl, HNO.out, World.cell?_setCell_same' _ _ _ (by rw [hc2]; rfl)⟩, hB.setCell (p := ⟨w.heap.size + 1 + 1, 0, none⟩) (by simp; omega) _⟩
    · have k1 : (nL : Int) ≤ (k : Int) := by omega
      have HNO : Hid (∀ r : List Nat, ¬ L = vals N (pre ++ [x]) ++ r) := Lib.hid (fun r h => by
        rw [vals_snoc, HP.out, ← HXX.out] at h
        have h2 := congrArg List.length h
        simp only [List.length_append, List.length_take, List.length_singleton] at h2
        have := HNL.out
        omega)
      gi_wp2
      exact ⟨KeepsOthers.setCell _ _ _, ⟨rfl, HNO.out, World.cell?_setCell_same' _ _ _ (by rw [hc2]; rfl)⟩, hB.setCell (p := ⟨w.heap.size + 1 + 1, 0, none⟩) (by simp; omega) _⟩
  case done =>
    rintro D ys W hD hys ⟨⟨⟨hpre, hle⟩, hc0, hc1, ⟨hc2, hf2⟩, hc4, hf4⟩, hB⟩ hK
    obtain ⟨k, hk⟩ : ∃ k, k = ys.length := ⟨_, rfl⟩
    rw [← hk] at hc4 hle hpre
    have hall : allN N = L.take k := by rw [← HAll.out, ← hys, hpre]
    have HA := Lib.hid hall
    clear hall hpre hys hk
    by_cases hkn : k = nL
    · subst hkn
      have hL : L = allN N := by rw [HA.out, HNL.out, List.take_length]
      have hBt : B = true := HBB.out.2 hL
      subst hBt
      by_cases hz : k = 0
      · have z0 : ¬ (0 : Int) < (k : Int) := by omega
        have HL2 := Lib.hid hL
        have HE0 : Hid (leastN L = -1) := Lib.hid (by
          have : L = [] := List.eq_nil_of_length_eq_zero (by rw [← HNL.out]; exact hz)
          rw [this]; rfl)
        clear hL
        have HCT : Hid (∀ W', Below W.heap.size W W' → Calls Try.prog 15 #[.agg #[.slice ao m cap]] W' fun e w' => e = .returned (.int .i64 (k : Int)) ∧ Below W'.heap.size W' w') := Lib.hid (fun W' hW' => by
          have := count_any (HV.out.below (bt hB hW'))
          rwa [← HL2.out, ← HNL.out] at this)
        have HLS : Hid (∀ W', Below W.heap.size W W' → Calls Try.prog 29 #[.agg #[.slice ao m cap]] W' fun e w' => e = .returned (.int .i64 (-1)) ∧ Below W'.heap.size W' w') := Lib.hid (fun W' hW' => by
          have := least_any (HV.out.below (bt hB hW'))
          rwa [← HL2.out, HE0.out] at this)
        gi_wp2
        refine wpIn_wide.2 ?_
        have HBB2 := Lib.hid hB
        have HKK := Lib.hid hK
        have HDD := Lib.hid hD
        clear hB hK hD
        go_region_held3 (fun w' => w'.cell? ⟨w.heap.size, 0, none⟩ = some (.slice ao m cap) ∧ w'.cell? ⟨w.heap.size + 1, 0, none⟩ = some (.slice aoL k capL) ∧ w'.cell? ⟨w.heap.size + 1 + 1 + 1 + 1, 0, none⟩ = some (.int .i64 (k : Int))) (first | exact ⟨hc0, hc1, hc4⟩ | exact ⟨cset (by simp <;> omega) hc0, cset (by simp <;> omega) hc1, cset (by simp <;> omega) hc4⟩) ((first | (go_at_call 15; refine (HCT.out _ (by repeat (first | (with_reducible exact bz _) | (with_reducible apply Below.drew)))).mono ?_; clear HCT; rintro e w3 ⟨rfl, hb3⟩; replace hf2 := (hb3.frozen (World.block_lt_of_cell? _ _ hc2)).trans hf2; replace hc0 := cell_past_ hb3 hc0; replace hc1 := cell_past_ hb3 hc1; replace hc2 := cell_past_ hb3 hc2; replace hc4 := cell_past_ hb3 hc4) | (go_at_call 29; refine (HLS.out _ (by repeat (first | (with_reducible exact bz _) | (with_reducible exact bt (Below.drew (bz _)) hb3) | (with_reducible apply Below.drew)))).mono ?_; rintro e w4 ⟨rfl, hb4⟩; replace hf2 := (hb4.frozen (World.block_lt_of_cell? _ _ hc2)).trans hf2; replace hc0 := cell_past_ hb4 hc0; replace hc1 := cell_past_ hb4 hc1; replace hc2 := cell_past_ hb4 hc2; replace hc4 := cell_past_ hb4 hc4)))
        have hB4 := bt HBB2.out (bt (bt (bz W).drew hb3) hb4)
        have hK4 := (((KeepsOthers.drew W).trans (keeps_of_below hb3)).trans ((keeps_of_below hb4).trans (KeepsOthers.setCell w4 ⟨w.heap.size + 1 + 1, 0, none⟩ (.bool true)))).same D _ HKK.out rfl
        gi_wp2
        refine ⟨by simp, .inl ⟨_, _, rfl, run_takeDeferred hK4, ?_⟩⟩
        have hc5 := cell_kept (World.cell?_setCell_same' w4 ⟨w.heap.size + 1 + 1, 0, none⟩ (.bool true) (by rw [hc2]; rfl)) (grownBy_putObj' _ D (.deferred none)) (fun r e => by cases e; exact ⟨_, hK4, rfl⟩)
        refine ⟨.bool true, ?_, rfl, (hB4.setCell (p := ⟨w.heap.size + 1 + 1, 0, none⟩) (by simp <;> omega) _).trans (belowK_b (w := w) (Nat.le_refl _) _ D _ _ (by have hD := HDD.out; simp at hD; omega) hK4 rfl rfl)⟩
        simp [results, Try.f18, go_sem, hc5]
      · have z0 : (0 : Int) < (k : Int) := by omega
        obtain ⟨z, hz0⟩ : ∃ z, L[0]? = some z := ⟨_, List.getElem?_eq_getElem (by rw [← HNL.out]; omega)⟩
        have g0 := (hB.cell (p := ⟨bL, oL + 0, none⟩) (HBL.out (by omega))).trans (HSL.out.cell 0 _ (i64s_at hz0))
        rw [Nat.add_zero] at g0
        have HL2 := Lib.hid hL
        have HE0 : Hid (leastN L = (z : Int)) := Lib.hid (by
          cases L with
          | nil => simp at hz0
          | cons a r => simp at hz0; subst hz0; rfl)
        clear hL hz0
        have HCT : Hid (∀ W', Below W.heap.size W W' → Calls Try.prog 15 #[.agg #[.slice ao m cap]] W' fun e w' => e = .returned (.int .i64 (k : Int)) ∧ Below W'.heap.size W' w') := Lib.hid (fun W' hW' => by
          have := count_any (HV.out.below (bt hB hW'))
          rwa [← HL2.out, ← HNL.out] at this)
        have HLS : Hid (∀ W', Below W.heap.size W W' → Calls Try.prog 29 #[.agg #[.slice ao m cap]] W' fun e w' => e = .returned (.int .i64 (z : Int)) ∧ Below W'.heap.size W' w') := Lib.hid (fun W' hW' => by
          have := least_any (HV.out.below (bt hB hW'))
          rwa [← HL2.out, HE0.out] at this)
        gi_wp2
        refine wpIn_wide.2 ?_
        have HBB2 := Lib.hid hB
        have HKK := Lib.hid hK
        have HDD := Lib.hid hD
        clear hB hK hD
        go_region_held3 (fun w' => w'.cell? ⟨w.heap.size, 0, none⟩ = some (.slice ao m cap) ∧ w'.cell? ⟨w.heap.size + 1, 0, none⟩ = some (.slice aoL k capL) ∧ w'.cell? ⟨w.heap.size + 1 + 1 + 1 + 1, 0, none⟩ = some (.int .i64 (k : Int))) (first | exact ⟨hc0, hc1, hc4⟩ | exact ⟨cset (by simp <;> omega) hc0, cset (by simp <;> omega) hc1, cset (by simp <;> omega) hc4⟩) ((first | (go_at_call 15; refine (HCT.out _ (by repeat (first | (with_reducible exact bz _) | (with_reducible apply Below.drew)))).mono ?_; clear HCT; rintro e w3 ⟨rfl, hb3⟩; replace hf2 := (hb3.frozen (World.block_lt_of_cell? _ _ hc2)).trans hf2; replace hc0 := cell_past_ hb3 hc0; replace hc1 := cell_past_ hb3 hc1; replace hc2 := cell_past_ hb3 hc2; replace hc4 := cell_past_ hb3 hc4) | (go_at_call 29; refine (HLS.out _ (by repeat (first | (with_reducible exact bz _) | (with_reducible exact bt (Below.drew (bz _)) hb3) | (with_reducible apply Below.drew)))).mono ?_; rintro e w4 ⟨rfl, hb4⟩; replace hf2 := (hb4.frozen (World.block_lt_of_cell? _ _ hc2)).trans hf2; replace hc0 := cell_past_ hb4 hc0; replace hc1 := cell_past_ hb4 hc1; replace hc2 := cell_past_ hb4 hc2; replace hc4 := cell_past_ hb4 hc4)))
        have hB4 := bt HBB2.out (bt (bt (bz W).drew hb3) hb4)
        have hK4 := (((KeepsOthers.drew W).trans (keeps_of_below hb3)).trans ((keeps_of_below hb4).trans (KeepsOthers.setCell w4 ⟨w.heap.size + 1 + 1, 0, none⟩ (.bool true)))).same D _ HKK.out rfl
        gi_wp2
        refine ⟨by simp, .inl ⟨_, _, rfl, run_takeDeferred hK4, ?_⟩⟩
        have hc5 := cell_kept (World.cell?_setCell_same' w4 ⟨w.heap.size + 1 + 1, 0, none⟩ (.bool true) (by rw [hc2]; rfl)) (grownBy_putObj' _ D (.deferred none)) (fun r e => by cases e; exact ⟨_, hK4, rfl⟩)
        refine ⟨.bool true, ?_, rfl, (hB4.setCell (p := ⟨w.heap.size + 1 + 1, 0, none⟩) (by simp <;> omega) _).trans (belowK_b (w := w) (Nat.le_refl _) _ D _ _ (by have hD := HDD.out; simp at hD; omega) hK4 rfl rfl)⟩
        simp [results, Try.f18, go_sem, hc5]
    · have hLn : ¬ L = allN N := fun e => by
        have h2 := congrArg List.length e
        rw [HA.out, List.length_take, ← HNL.out] at h2
        omega
      have hBf : B = false := by
        cases B
        · rfl
        · exact absurd (HBB.out.1 rfl) hLn
      subst hBf
      have z0 : (0 : Int) < (nL : Int) := by omega
      have kn : ¬ (k : Int) = (nL : Int) := by omega
      have kn2 : ((k : Int) == (nL : Int)) = false := by simpa using kn
      obtain ⟨z, hz0⟩ : ∃ z, L[0]? = some z := ⟨_, List.getElem?_eq_getElem (by rw [← HNL.out]; omega)⟩
      have g0 := (hB.cell (p := ⟨bL, oL + 0, none⟩) (HBL.out (by omega))).trans (HSL.out.cell 0 _ (i64s_at hz0))
      rw [Nat.add_zero] at g0
      clear hLn hz0
      gi_wp2
      refine wpIn_wide.2 ?_
      have HBB2 := Lib.hid hB
      have HKK := Lib.hid hK
      have HDD := Lib.hid hD
      clear hB hK hD
      go_region
      have hK4 := ((KeepsOthers.setCell W ⟨w.heap.size + 1 + 1, 0, none⟩ (.bool false)).trans (KeepsOthers.drew _)).same D _ HKK.out rfl
      gi_wp2
      refine ⟨by simp, .inl ⟨_, _, rfl, run_takeDeferred hK4, ?_⟩⟩
      have hc5 := cell_kept (show (W.setCell ⟨w.heap.size + 1 + 1, 0, none⟩ (.bool false)).drew.cell? ⟨w.heap.size + 1 + 1, 0, none⟩ = some (.bool false) from World.cell?_setCell_same' W ⟨w.heap.size + 1 + 1, 0, none⟩ (.bool false) (by rw [hc2]; rfl)) (grownBy_putObj' _ D (.deferred none)) (fun r e => by cases e; exact ⟨_, hK4, rfl⟩)
      refine ⟨.bool false, ?_, rfl, (HBB2.out.setCell (p := ⟨w.heap.size + 1 + 1, 0, none⟩) (by simp <;> omega) _).drew.trans (belowK_b (w := w) (Nat.le_refl _) _ D _ _ (by have hD := HDD.out; simp at hD; omega) hK4 rfl rfl)⟩
      simp [results, Try.f18, go_sem, hc5]
  case stop =>
    rintro D c pre W hD hpre ⟨⟨rfl, hno, hcr⟩, hB⟩ hK
    have hBf : B = false := by
      cases B
      · rfl
      · exfalso
        obtain ⟨t, ht⟩ := hpre
        obtain ⟨r, hr⟩ := upto_all (fun n hn => testBit_ge HN.out.lt (by omega)) t
        exact hno r (by rw [HBB.out.1 rfl, ht]; exact hr)
    subst hBf
    gi_wp2
    refine ⟨by simp, .inl ⟨_, _, rfl, run_takeDeferred hK, ?_⟩⟩
    have hc5 := cell_kept hcr (grownBy_putObj' _ D (.deferred none)) (fun r e => by cases e; exact ⟨_, hK, rfl⟩)
    refine ⟨.bool false, ?_, rfl, hB.trans (belowK_b (w := w) (Nat.le_refl _) W D _ _ (by simp at hD; omega) hK rfl rfl)⟩
    simp [results, Try.f18, go_sem, hc5]
end Go.Proofs.Ytfjccgihdnemkaa
