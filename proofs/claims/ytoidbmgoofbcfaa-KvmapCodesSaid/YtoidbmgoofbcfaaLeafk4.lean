/- The steps of the map at key 4: printed by gen_leafk.py. -/
import Derived.Test.YtoidbmgoofbcfaaLeafb
namespace Go.Proofs.Ytoidbmgoofbcfaa
open Go.RowKit Go.Um
set_option linter.unusedSimpArgs false
set_option linter.unusedVariables false
set_option maxHeartbeats 4000000

theorem get_4 (p : Nat) (s : KV) (f o a b : Int) (w : World) (hs : s.ok) (h : KvAt w p s) : Calls Try.prog 45 #[.pointer (some ⟨p, 0, none⟩), .agg #[.int .u8 f, .int .u8 o, .int .u8 4, .int .u16 a, .int .u16 b]] w fun e w' => e = .returned (.agg #[.int .u8 (if s.has 4 then 1 else 2), .int .u16 (if s.has 4 then s.get 4 else 0)]) ∧ Below w.heap.size w w' := by
  have hc := fun W => has_4 s W hs
  unfold KV.val at hc
  obtain ⟨q, hq⟩ : ∃ q, q = s.has 4 := ⟨_, rfl⟩
  rw [← hq] at hc ⊢
  clear hq
  have HC := Lib.hid hc
  clear hc
  have hp := h.lt
  have HH := Lib.hid h
  obtain ⟨c0, c1, c2, c3, c4, c5, c6, c7, c8, f0, f1, f2, f3, f4, f5, f6, f7, f8⟩ := h
  clear hs
  cases q
  · go_enter Try.func45, Try.ntmps45
    go_wp2_with fail
    have q2 : ((w.alloc (.cells #[.int .u8 f, .int .u8 o, .int .u8 4, .int .u16 a, .int .u16 b] 44)).alloc (.cells #[.int .u8 0, .int .u16 0] 39)).cell? ⟨w.heap.size, 2, none⟩ = some (.int .u8 4) := by simp [go_sem]
    have d0 := kc (ba (ba (bz w) (.cells #[.int .u8 f, .int .u8 o, .int .u8 4, .int .u16 a, .int .u16 b] 44)) (.cells #[.int .u8 0, .int .u16 0] 39)) _ _ _ c0
    have d1 := kc (ba (ba (bz w) (.cells #[.int .u8 f, .int .u8 o, .int .u8 4, .int .u16 a, .int .u16 b] 44)) (.cells #[.int .u8 0, .int .u16 0] 39)) _ _ _ c1
    have d2 := kc (ba (ba (bz w) (.cells #[.int .u8 f, .int .u8 o, .int .u8 4, .int .u16 a, .int .u16 b] 44)) (.cells #[.int .u8 0, .int .u16 0] 39)) _ _ _ c2
    have d3 := kc (ba (ba (bz w) (.cells #[.int .u8 f, .int .u8 o, .int .u8 4, .int .u16 a, .int .u16 b] 44)) (.cells #[.int .u8 0, .int .u16 0] 39)) _ _ _ c3
    have d4 := kc (ba (ba (bz w) (.cells #[.int .u8 f, .int .u8 o, .int .u8 4, .int .u16 a, .int .u16 b] 44)) (.cells #[.int .u8 0, .int .u16 0] 39)) _ _ _ c4
    have d5 := kc (ba (ba (bz w) (.cells #[.int .u8 f, .int .u8 o, .int .u8 4, .int .u16 a, .int .u16 b] 44)) (.cells #[.int .u8 0, .int .u16 0] 39)) _ _ _ c5
    have d6 := kc (ba (ba (bz w) (.cells #[.int .u8 f, .int .u8 o, .int .u8 4, .int .u16 a, .int .u16 b] 44)) (.cells #[.int .u8 0, .int .u16 0] 39)) _ _ _ c6
    have d7 := kc (ba (ba (bz w) (.cells #[.int .u8 f, .int .u8 o, .int .u8 4, .int .u16 a, .int .u16 b] 44)) (.cells #[.int .u8 0, .int .u16 0] 39)) _ _ _ c7
    have d8 := kc (ba (ba (bz w) (.cells #[.int .u8 f, .int .u8 o, .int .u8 4, .int .u16 a, .int .u16 b] 44)) (.cells #[.int .u8 0, .int .u16 0] 39)) _ _ _ c8
    go_region_held3 (fun w' => w'.cell? ⟨p, 0, none⟩ = some (.int .u8 s.h) ∧ w'.cell? ⟨p, 1, none⟩ = some (.int .u16 s.v0) ∧ w'.cell? ⟨p, 2, none⟩ = some (.int .u16 s.v1) ∧ w'.cell? ⟨p, 3, none⟩ = some (.int .u16 s.v2) ∧ w'.cell? ⟨p, 4, none⟩ = some (.int .u16 s.v3) ∧ w'.cell? ⟨p, 5, none⟩ = some (.int .u16 s.v4) ∧ w'.cell? ⟨p, 6, none⟩ = some (.int .u16 s.v5) ∧ w'.cell? ⟨p, 7, none⟩ = some (.int .u16 s.v6) ∧ w'.cell? ⟨p, 8, none⟩ = some (.int .u16 s.v7) ∧ w'.cell? ⟨w.heap.size, 2, none⟩ = some (.int .u8 4)) (refine ⟨?_, ?_, ?_, ?_, ?_, ?_, ?_, ?_, ?_, ?_⟩ <;> (repeat (first | (with_reducible assumption) | (with_reducible apply keep_alloc) | (with_reducible apply keep_drew)))) ((go_at_call 30; refine (HC.out _).mono ?_; rintro e w2 ⟨rfl, hb⟩; have x0 := cell_past hb (show World.cell? _ ⟨p, 0, none⟩ = _ from d0); have x1 := cell_past hb (show World.cell? _ ⟨p, 1, none⟩ = _ from d1); have x2 := cell_past hb (show World.cell? _ ⟨p, 2, none⟩ = _ from d2); have x3 := cell_past hb (show World.cell? _ ⟨p, 3, none⟩ = _ from d3); have x4 := cell_past hb (show World.cell? _ ⟨p, 4, none⟩ = _ from d4); have x5 := cell_past hb (show World.cell? _ ⟨p, 5, none⟩ = _ from d5); have x6 := cell_past hb (show World.cell? _ ⟨p, 6, none⟩ = _ from d6); have x7 := cell_past hb (show World.cell? _ ⟨p, 7, none⟩ = _ from d7); have x8 := cell_past hb (show World.cell? _ ⟨p, 8, none⟩ = _ from d8); have g00 := kf hb p 0 (by simp; omega) (by simp [go_sem, f0, hp]); have g11 := kf hb p 1 (by simp; omega) (by simp [go_sem, f1, hp]); have g22 := kf hb p 2 (by simp; omega) (by simp [go_sem, f2, hp]); have g33 := kf hb p 3 (by simp; omega) (by simp [go_sem, f3, hp]); have g44 := kf hb p 4 (by simp; omega) (by simp [go_sem, f4, hp]); have g55 := kf hb p 5 (by simp; omega) (by simp [go_sem, f5, hp]); have g66 := kf hb p 6 (by simp; omega) (by simp [go_sem, f6, hp]); have g77 := kf hb p 7 (by simp; omega) (by simp [go_sem, f7, hp]); have g88 := kf hb p 8 (by simp; omega) (by simp [go_sem, f8, hp]); have y2 := cell_past hb (show World.cell? _ ⟨w.heap.size, 2, none⟩ = _ from q2); have r0 := kc hb (w.heap.size + 1) 0 (.int .u8 0) (by simp [go_sem]); have r1 := kc hb (w.heap.size + 1) 1 (.int .u16 0) (by simp [go_sem]); have g0 := kf hb (w.heap.size + 1) 0 (by simp) (by simp [go_sem]); have g1 := kf hb (w.heap.size + 1) 1 (by simp) (by simp [go_sem]); have hz : w.heap.size + 1 < w2.heap.size := (by have := hb.size; simp at this; omega); have hbb : Below w.heap.size w w2 := Below.trans (by repeat (first | (with_reducible exact bz w) | (with_reducible apply ba) | (with_reducible apply Below.drew))) (hb.mono (by simp; omega)); replace hb := Lib.hid hb; have HB := Lib.hid hbb; clear hbb))
    all_goals
      go_wp2
      refine bodyPost_ret (by simp [results, Try.results45, go_sem, r0, r1, hz] <;> rfl) rfl ⟨rfl, ?_⟩
      exact (by repeat (first | (with_reducible exact HB.out) | (with_reducible refine bs ?_ (by simp) _) | (with_reducible apply Below.drew) | (with_reducible refine ba ?_ _)))
  · go_enter Try.func45, Try.ntmps45
    go_wp2_with fail
    have q2 : ((w.alloc (.cells #[.int .u8 f, .int .u8 o, .int .u8 4, .int .u16 a, .int .u16 b] 44)).alloc (.cells #[.int .u8 0, .int .u16 0] 39)).cell? ⟨w.heap.size, 2, none⟩ = some (.int .u8 4) := by simp [go_sem]
    have d0 := kc (ba (ba (bz w) (.cells #[.int .u8 f, .int .u8 o, .int .u8 4, .int .u16 a, .int .u16 b] 44)) (.cells #[.int .u8 0, .int .u16 0] 39)) _ _ _ c0
    have d1 := kc (ba (ba (bz w) (.cells #[.int .u8 f, .int .u8 o, .int .u8 4, .int .u16 a, .int .u16 b] 44)) (.cells #[.int .u8 0, .int .u16 0] 39)) _ _ _ c1
    have d2 := kc (ba (ba (bz w) (.cells #[.int .u8 f, .int .u8 o, .int .u8 4, .int .u16 a, .int .u16 b] 44)) (.cells #[.int .u8 0, .int .u16 0] 39)) _ _ _ c2
    have d3 := kc (ba (ba (bz w) (.cells #[.int .u8 f, .int .u8 o, .int .u8 4, .int .u16 a, .int .u16 b] 44)) (.cells #[.int .u8 0, .int .u16 0] 39)) _ _ _ c3
    have d4 := kc (ba (ba (bz w) (.cells #[.int .u8 f, .int .u8 o, .int .u8 4, .int .u16 a, .int .u16 b] 44)) (.cells #[.int .u8 0, .int .u16 0] 39)) _ _ _ c4
    have d5 := kc (ba (ba (bz w) (.cells #[.int .u8 f, .int .u8 o, .int .u8 4, .int .u16 a, .int .u16 b] 44)) (.cells #[.int .u8 0, .int .u16 0] 39)) _ _ _ c5
    have d6 := kc (ba (ba (bz w) (.cells #[.int .u8 f, .int .u8 o, .int .u8 4, .int .u16 a, .int .u16 b] 44)) (.cells #[.int .u8 0, .int .u16 0] 39)) _ _ _ c6
    have d7 := kc (ba (ba (bz w) (.cells #[.int .u8 f, .int .u8 o, .int .u8 4, .int .u16 a, .int .u16 b] 44)) (.cells #[.int .u8 0, .int .u16 0] 39)) _ _ _ c7
    have d8 := kc (ba (ba (bz w) (.cells #[.int .u8 f, .int .u8 o, .int .u8 4, .int .u16 a, .int .u16 b] 44)) (.cells #[.int .u8 0, .int .u16 0] 39)) _ _ _ c8
    go_region_held3 (fun w' => w'.cell? ⟨p, 0, none⟩ = some (.int .u8 s.h) ∧ w'.cell? ⟨p, 1, none⟩ = some (.int .u16 s.v0) ∧ w'.cell? ⟨p, 2, none⟩ = some (.int .u16 s.v1) ∧ w'.cell? ⟨p, 3, none⟩ = some (.int .u16 s.v2) ∧ w'.cell? ⟨p, 4, none⟩ = some (.int .u16 s.v3) ∧ w'.cell? ⟨p, 5, none⟩ = some (.int .u16 s.v4) ∧ w'.cell? ⟨p, 6, none⟩ = some (.int .u16 s.v5) ∧ w'.cell? ⟨p, 7, none⟩ = some (.int .u16 s.v6) ∧ w'.cell? ⟨p, 8, none⟩ = some (.int .u16 s.v7) ∧ w'.cell? ⟨w.heap.size, 2, none⟩ = some (.int .u8 4)) (refine ⟨?_, ?_, ?_, ?_, ?_, ?_, ?_, ?_, ?_, ?_⟩ <;> (repeat (first | (with_reducible assumption) | (with_reducible apply keep_alloc) | (with_reducible apply keep_drew)))) ((go_at_call 30; refine (HC.out _).mono ?_; rintro e w2 ⟨rfl, hb⟩; have x0 := cell_past hb (show World.cell? _ ⟨p, 0, none⟩ = _ from d0); have x1 := cell_past hb (show World.cell? _ ⟨p, 1, none⟩ = _ from d1); have x2 := cell_past hb (show World.cell? _ ⟨p, 2, none⟩ = _ from d2); have x3 := cell_past hb (show World.cell? _ ⟨p, 3, none⟩ = _ from d3); have x4 := cell_past hb (show World.cell? _ ⟨p, 4, none⟩ = _ from d4); have x5 := cell_past hb (show World.cell? _ ⟨p, 5, none⟩ = _ from d5); have x6 := cell_past hb (show World.cell? _ ⟨p, 6, none⟩ = _ from d6); have x7 := cell_past hb (show World.cell? _ ⟨p, 7, none⟩ = _ from d7); have x8 := cell_past hb (show World.cell? _ ⟨p, 8, none⟩ = _ from d8); have g00 := kf hb p 0 (by simp; omega) (by simp [go_sem, f0, hp]); have g11 := kf hb p 1 (by simp; omega) (by simp [go_sem, f1, hp]); have g22 := kf hb p 2 (by simp; omega) (by simp [go_sem, f2, hp]); have g33 := kf hb p 3 (by simp; omega) (by simp [go_sem, f3, hp]); have g44 := kf hb p 4 (by simp; omega) (by simp [go_sem, f4, hp]); have g55 := kf hb p 5 (by simp; omega) (by simp [go_sem, f5, hp]); have g66 := kf hb p 6 (by simp; omega) (by simp [go_sem, f6, hp]); have g77 := kf hb p 7 (by simp; omega) (by simp [go_sem, f7, hp]); have g88 := kf hb p 8 (by simp; omega) (by simp [go_sem, f8, hp]); have y2 := cell_past hb (show World.cell? _ ⟨w.heap.size, 2, none⟩ = _ from q2); have r0 := kc hb (w.heap.size + 1) 0 (.int .u8 0) (by simp [go_sem]); have r1 := kc hb (w.heap.size + 1) 1 (.int .u16 0) (by simp [go_sem]); have g0 := kf hb (w.heap.size + 1) 0 (by simp) (by simp [go_sem]); have g1 := kf hb (w.heap.size + 1) 1 (by simp) (by simp [go_sem]); have hz : w.heap.size + 1 < w2.heap.size := (by have := hb.size; simp at this; omega); have hbb : Below w.heap.size w w2 := Below.trans (by repeat (first | (with_reducible exact bz w) | (with_reducible apply ba) | (with_reducible apply Below.drew))) (hb.mono (by simp; omega)); replace hb := Lib.hid hb; have HB := Lib.hid hbb; clear hbb))
    all_goals
      go_wp2_with fail
      go_region
      go_wp2
      refine bodyPost_ret (by simp [results, Try.results45, go_sem, r0, r1, hz] <;> rfl) rfl ⟨rfl, ?_⟩
      exact (by repeat (first | (with_reducible exact HB.out) | (with_reducible refine bs ?_ (by simp) _) | (with_reducible apply Below.drew) | (with_reducible refine ba ?_ _)))
theorem put_4 (p : Nat) (s : KV) (f o a b : Int) (w : World) (hs : s.ok) (h : KvAt w p s) : Calls Try.prog 46 #[.pointer (some ⟨p, 0, none⟩), .agg #[.int .u8 f, .int .u8 o, .int .u8 4, .int .u16 a, .int .u16 b]] w fun e w' => e = .returned (.agg #[.int .u8 0, .int .u16 0]) ∧ KvAt w' p (s.lay 4 a) ∧ Kept (fun i => i = p) w w' := by
  have hp := h.lt
  have HL := Lib.hid (lay_4 p s a ((w.alloc (.cells #[.int .u8 f, .int .u8 o, .int .u8 4, .int .u16 a, .int .u16 b] 44)).alloc (.cells #[.int .u8 0, .int .u16 0] 39)) hs (h.below (ba (ba (bz w) _) _)))
  clear h hs
  go_enter Try.func46, Try.ntmps46
  go_wp2_with fail
  refine HL.out.mono ?_
  rintro e w2 ⟨rfl, h2, hk⟩
  have hne : ¬ w.heap.size + 1 = p := by omega
  have r0 : w2.cell? ⟨w.heap.size + 1, 0, none⟩ = some (.int .u8 0) := hk.cell (by simp [go_sem]) hne
  have r1 : w2.cell? ⟨w.heap.size + 1, 1, none⟩ = some (.int .u16 0) := hk.cell (by simp [go_sem]) hne
  have g0 : w2.frozen? ⟨w.heap.size + 1, 0, none⟩ = false := (hk.frozen (by simp) hne).trans (by simp [go_sem])
  have g1 : w2.frozen? ⟨w.heap.size + 1, 1, none⟩ = false := (hk.frozen (by simp) hne).trans (by simp [go_sem])
  have hz : w.heap.size + 1 < w2.heap.size := (by have := hk.size; simp at this; omega)
  have H2 := Lib.hid h2
  have HK := Lib.hid (((Kept.refl (fun i => i = p) w).alloc (.cells #[.int .u8 f, .int .u8 o, .int .u8 4, .int .u16 a, .int .u16 b] 44)).alloc (.cells #[.int .u8 0, .int .u16 0] 39) |>.trans hk (fun i _ e => e))
  clear h2 hk HL
  go_wp2
  refine bodyPost_ret (by simp [results, Try.results46, go_sem, r0, r1, hz] <;> rfl) rfl ⟨rfl, ?_, ?_⟩
  · exact (H2.out.kept (S := fun i => i = w.heap.size + 1) (Kept.setCell (S := fun i => i = w.heap.size + 1) (Kept.setCell (S := fun i => i = w.heap.size + 1) (Kept.refl _ w2) (fun _ => rfl) _) (fun _ => rfl) _) (by omega))
  · exact (HK.out.setCell (fun h => absurd h (by simp)) _).setCell (fun h => absurd h (by simp)) _
theorem del_4 (p : Nat) (s : KV) (f o a b : Int) (w : World) (hs : s.ok) (h : KvAt w p s) : Calls Try.prog 47 #[.pointer (some ⟨p, 0, none⟩), .agg #[.int .u8 f, .int .u8 o, .int .u8 4, .int .u16 a, .int .u16 b]] w fun e w' => e = .returned (.agg #[.int .u8 (if s.has 4 then 3 else 4), .int .u16 0]) ∧ KvAt w' p (s.del 4) ∧ Kept (fun i => i = p) w w' := by
  have hc := fun W => has_4 s W hs
  unfold KV.val at hc
  have hbt := (bits_ok hs.h 4 (by decide)).2.1
  simp at hbt
  obtain ⟨q, hq⟩ : ∃ q, q = s.has 4 := ⟨_, rfl⟩
  rw [← hq] at hc ⊢
  clear hq
  have HC := Lib.hid hc
  clear hc
  have hp := h.lt
  have HH := Lib.hid h
  obtain ⟨c0, c1, c2, c3, c4, c5, c6, c7, c8, f0, f1, f2, f3, f4, f5, f6, f7, f8⟩ := h
  clear hs
  have sd := fun W => said_any q W
  obtain ⟨z, hzz⟩ : ∃ z : Int, z = if q = true then 3 else 4 := ⟨_, rfl⟩
  simp only [← hzz] at sd ⊢
  have SD := Lib.hid sd
  clear sd hzz
  go_enter Try.func47, Try.ntmps47
  go_wp2_with fail
  have q2 : ((w.alloc (.cells #[.int .u8 f, .int .u8 o, .int .u8 4, .int .u16 a, .int .u16 b] 44)).alloc (.cells #[.int .u8 0, .int .u16 0] 39)).cell? ⟨w.heap.size, 2, none⟩ = some (.int .u8 4) := by simp [go_sem]
  have d0 := kc (ba (ba (bz w) (.cells #[.int .u8 f, .int .u8 o, .int .u8 4, .int .u16 a, .int .u16 b] 44)) (.cells #[.int .u8 0, .int .u16 0] 39)) _ _ _ c0
  have d1 := kc (ba (ba (bz w) (.cells #[.int .u8 f, .int .u8 o, .int .u8 4, .int .u16 a, .int .u16 b] 44)) (.cells #[.int .u8 0, .int .u16 0] 39)) _ _ _ c1
  have d2 := kc (ba (ba (bz w) (.cells #[.int .u8 f, .int .u8 o, .int .u8 4, .int .u16 a, .int .u16 b] 44)) (.cells #[.int .u8 0, .int .u16 0] 39)) _ _ _ c2
  have d3 := kc (ba (ba (bz w) (.cells #[.int .u8 f, .int .u8 o, .int .u8 4, .int .u16 a, .int .u16 b] 44)) (.cells #[.int .u8 0, .int .u16 0] 39)) _ _ _ c3
  have d4 := kc (ba (ba (bz w) (.cells #[.int .u8 f, .int .u8 o, .int .u8 4, .int .u16 a, .int .u16 b] 44)) (.cells #[.int .u8 0, .int .u16 0] 39)) _ _ _ c4
  have d5 := kc (ba (ba (bz w) (.cells #[.int .u8 f, .int .u8 o, .int .u8 4, .int .u16 a, .int .u16 b] 44)) (.cells #[.int .u8 0, .int .u16 0] 39)) _ _ _ c5
  have d6 := kc (ba (ba (bz w) (.cells #[.int .u8 f, .int .u8 o, .int .u8 4, .int .u16 a, .int .u16 b] 44)) (.cells #[.int .u8 0, .int .u16 0] 39)) _ _ _ c6
  have d7 := kc (ba (ba (bz w) (.cells #[.int .u8 f, .int .u8 o, .int .u8 4, .int .u16 a, .int .u16 b] 44)) (.cells #[.int .u8 0, .int .u16 0] 39)) _ _ _ c7
  have d8 := kc (ba (ba (bz w) (.cells #[.int .u8 f, .int .u8 o, .int .u8 4, .int .u16 a, .int .u16 b] 44)) (.cells #[.int .u8 0, .int .u16 0] 39)) _ _ _ c8
  go_region_held3 (fun w' => w'.cell? ⟨p, 0, none⟩ = some (.int .u8 s.h) ∧ w'.cell? ⟨p, 1, none⟩ = some (.int .u16 s.v0) ∧ w'.cell? ⟨p, 2, none⟩ = some (.int .u16 s.v1) ∧ w'.cell? ⟨p, 3, none⟩ = some (.int .u16 s.v2) ∧ w'.cell? ⟨p, 4, none⟩ = some (.int .u16 s.v3) ∧ w'.cell? ⟨p, 5, none⟩ = some (.int .u16 s.v4) ∧ w'.cell? ⟨p, 6, none⟩ = some (.int .u16 s.v5) ∧ w'.cell? ⟨p, 7, none⟩ = some (.int .u16 s.v6) ∧ w'.cell? ⟨p, 8, none⟩ = some (.int .u16 s.v7) ∧ w'.cell? ⟨w.heap.size, 2, none⟩ = some (.int .u8 4)) (refine ⟨?_, ?_, ?_, ?_, ?_, ?_, ?_, ?_, ?_, ?_⟩ <;> (repeat (first | (with_reducible assumption) | (with_reducible apply keep_alloc) | (with_reducible apply keep_drew)))) ((go_at_call 30; refine (HC.out _).mono ?_; rintro e w2 ⟨rfl, hb⟩; have x0 := cell_past hb (show World.cell? _ ⟨p, 0, none⟩ = _ from d0); have x1 := cell_past hb (show World.cell? _ ⟨p, 1, none⟩ = _ from d1); have x2 := cell_past hb (show World.cell? _ ⟨p, 2, none⟩ = _ from d2); have x3 := cell_past hb (show World.cell? _ ⟨p, 3, none⟩ = _ from d3); have x4 := cell_past hb (show World.cell? _ ⟨p, 4, none⟩ = _ from d4); have x5 := cell_past hb (show World.cell? _ ⟨p, 5, none⟩ = _ from d5); have x6 := cell_past hb (show World.cell? _ ⟨p, 6, none⟩ = _ from d6); have x7 := cell_past hb (show World.cell? _ ⟨p, 7, none⟩ = _ from d7); have x8 := cell_past hb (show World.cell? _ ⟨p, 8, none⟩ = _ from d8); have g00 := kf hb p 0 (by simp; omega) (by simp [go_sem, f0, hp]); have g11 := kf hb p 1 (by simp; omega) (by simp [go_sem, f1, hp]); have g22 := kf hb p 2 (by simp; omega) (by simp [go_sem, f2, hp]); have g33 := kf hb p 3 (by simp; omega) (by simp [go_sem, f3, hp]); have g44 := kf hb p 4 (by simp; omega) (by simp [go_sem, f4, hp]); have g55 := kf hb p 5 (by simp; omega) (by simp [go_sem, f5, hp]); have g66 := kf hb p 6 (by simp; omega) (by simp [go_sem, f6, hp]); have g77 := kf hb p 7 (by simp; omega) (by simp [go_sem, f7, hp]); have g88 := kf hb p 8 (by simp; omega) (by simp [go_sem, f8, hp]); have y2 := cell_past hb (show World.cell? _ ⟨w.heap.size, 2, none⟩ = _ from q2); have r0 := kc hb (w.heap.size + 1) 0 (.int .u8 0) (by simp [go_sem]); have r1 := kc hb (w.heap.size + 1) 1 (.int .u16 0) (by simp [go_sem]); have g0 := kf hb (w.heap.size + 1) 0 (by simp) (by simp [go_sem]); have g1 := kf hb (w.heap.size + 1) 1 (by simp) (by simp [go_sem]); have hz : w.heap.size + 1 < w2.heap.size := (by have := hb.size; simp at this; omega); have hbb : Below w.heap.size w w2 := Below.trans (by repeat (first | (with_reducible exact bz w) | (with_reducible apply ba) | (with_reducible apply Below.drew))) (hb.mono (by simp; omega)); replace hb := Lib.hid hb; have HB := Lib.hid hbb; clear hbb))
  all_goals
    have HK := Lib.hid (kept1 HB.out hp)
    go_wp2_with fail
    go_region
    go_wp2_with fail
    go_region
    go_wp2_with fail
    refine (SD.out _).mono ?_
    rintro e w3 ⟨rfl, hb3⟩
    have h3 : KvAt w3 p (s.del 4) := by
      refine KvAt.below ?_ hb3
      exact ⟨by simp [go_sem, x0, KV.del, KV.put, hp, hz], by simp [go_sem, x1, KV.del, KV.put, hp, hz], by simp [go_sem, x2, KV.del, KV.put, hp, hz], by simp [go_sem, x3, KV.del, KV.put, hp, hz], by simp [go_sem, x4, KV.del, KV.put, hp, hz], by simp [go_sem, x5, KV.del, KV.put, hp, hz], by simp [go_sem, x6, KV.del, KV.put, hp, hz], by simp [go_sem, x7, KV.del, KV.put, hp, hz], by simp [go_sem, x8, KV.del, KV.put, hp, hz], by simp [go_sem, g00, hp, hz], by simp [go_sem, g11, hp, hz], by simp [go_sem, g22, hp, hz], by simp [go_sem, g33, hp, hz], by simp [go_sem, g44, hp, hz], by simp [go_sem, g55, hp, hz], by simp [go_sem, g66, hp, hz], by simp [go_sem, g77, hp, hz], by simp [go_sem, g88, hp, hz]⟩
    have hk3 : Kept (fun i => i = p) w w3 := by
      refine Kept.trans ?_ (Kept.of_below hb3) (fun i hi h => absurd h (by first | omega | (simp; omega)))
      repeat (first | (with_reducible exact HK.out) | (with_reducible refine Kept.setCell (S := fun i => i = p) ?_ (fun _ => rfl) _) | (with_reducible apply Kept.drewN) | (with_reducible apply Kept.drew))
    have s0 := kc hb3 (w.heap.size + 1) 0 (.int .u8 0) (by simp [go_sem, r0, hz, hp])
    have s1 := kc hb3 (w.heap.size + 1) 1 (.int .u16 0) (by simp [go_sem, r1, hz, hp])
    have k0 := kf hb3 (w.heap.size + 1) 0 (by first | exact hz | (simp; omega)) (by simp [go_sem, g0, hz, hp])
    have k1 := kf hb3 (w.heap.size + 1) 1 (by first | exact hz | (simp; omega)) (by simp [go_sem, g1, hz, hp])
    have hz3 : w.heap.size + 1 < w3.heap.size := (by have := hb3.size; first | omega | (simp at this; omega))
    have hne : ¬ p = w.heap.size + 1 := by omega
    have H3 := Lib.hid h3
    have HK3 := Lib.hid hk3
    clear h3 hk3 hb3
    go_wp2
    refine bodyPost_ret (by simp [results, Try.results47, go_sem, s0, s1, hz3] <;> rfl) rfl ⟨rfl, ?_, ?_⟩
    · exact (H3.out.kept (S := fun i => i = w.heap.size + 1) (Kept.setCell (S := fun i => i = w.heap.size + 1) (Kept.setCell (S := fun i => i = w.heap.size + 1) (Kept.refl _ w3) (fun _ => rfl) _) (fun _ => rfl) _) hne)
    · exact (HK3.out.setCell (fun h => absurd h (by simp)) _).setCell (fun h => absurd h (by simp)) _
theorem swap_4 (p : Nat) (s : KV) (f o a b : Int) (w : World) (hs : s.ok) (h : KvAt w p s) : Calls Try.prog 48 #[.pointer (some ⟨p, 0, none⟩), .agg #[.int .u8 f, .int .u8 o, .int .u8 4, .int .u16 a, .int .u16 b]] w fun e w' => e = .returned (.agg #[.int .u8 (if (s.has 4 && s.get 4 == a) then 3 else 4), .int .u16 0]) ∧ KvAt w' p (if (s.has 4 && s.get 4 == a) then s.lay 4 b else s) ∧ Kept (fun i => i = p) w w' := by
  have HS := Lib.hid hs
  have hc := fun W => has_4 s W hs
  unfold KV.val at hc
  obtain ⟨q, hq⟩ : ∃ q, q = s.has 4 := ⟨_, rfl⟩
  rw [← hq] at hc ⊢
  clear hq
  have HC := Lib.hid hc
  clear hc
  have hp := h.lt
  have HH := Lib.hid h
  obtain ⟨c0, c1, c2, c3, c4, c5, c6, c7, c8, f0, f1, f2, f3, f4, f5, f6, f7, f8⟩ := h
  clear hs
  obtain ⟨y, hy⟩ : ∃ y, y = (s.v4 == a) := ⟨_, rfl⟩
  rw [show s.get 4 = s.v4 from rfl, ← hy]
  replace hy := hy.symm
  cases q
  · clear hy
    go_enter Try.func48, Try.ntmps48
    go_wp2_with fail
    have q2 : ((w.alloc (.cells #[.int .u8 f, .int .u8 o, .int .u8 4, .int .u16 a, .int .u16 b] 44)).alloc (.cells #[.int .u8 0, .int .u16 0] 39)).cell? ⟨w.heap.size, 2, none⟩ = some (.int .u8 4) := by simp [go_sem]
    have q3 : ((w.alloc (.cells #[.int .u8 f, .int .u8 o, .int .u8 4, .int .u16 a, .int .u16 b] 44)).alloc (.cells #[.int .u8 0, .int .u16 0] 39)).cell? ⟨w.heap.size, 3, none⟩ = some (.int .u16 a) := by simp [go_sem]
    have q4 : ((w.alloc (.cells #[.int .u8 f, .int .u8 o, .int .u8 4, .int .u16 a, .int .u16 b] 44)).alloc (.cells #[.int .u8 0, .int .u16 0] 39)).cell? ⟨w.heap.size, 4, none⟩ = some (.int .u16 b) := by simp [go_sem]
    have d0 := kc (ba (ba (bz w) (.cells #[.int .u8 f, .int .u8 o, .int .u8 4, .int .u16 a, .int .u16 b] 44)) (.cells #[.int .u8 0, .int .u16 0] 39)) _ _ _ c0
    have d1 := kc (ba (ba (bz w) (.cells #[.int .u8 f, .int .u8 o, .int .u8 4, .int .u16 a, .int .u16 b] 44)) (.cells #[.int .u8 0, .int .u16 0] 39)) _ _ _ c1
    have d2 := kc (ba (ba (bz w) (.cells #[.int .u8 f, .int .u8 o, .int .u8 4, .int .u16 a, .int .u16 b] 44)) (.cells #[.int .u8 0, .int .u16 0] 39)) _ _ _ c2
    have d3 := kc (ba (ba (bz w) (.cells #[.int .u8 f, .int .u8 o, .int .u8 4, .int .u16 a, .int .u16 b] 44)) (.cells #[.int .u8 0, .int .u16 0] 39)) _ _ _ c3
    have d4 := kc (ba (ba (bz w) (.cells #[.int .u8 f, .int .u8 o, .int .u8 4, .int .u16 a, .int .u16 b] 44)) (.cells #[.int .u8 0, .int .u16 0] 39)) _ _ _ c4
    have d5 := kc (ba (ba (bz w) (.cells #[.int .u8 f, .int .u8 o, .int .u8 4, .int .u16 a, .int .u16 b] 44)) (.cells #[.int .u8 0, .int .u16 0] 39)) _ _ _ c5
    have d6 := kc (ba (ba (bz w) (.cells #[.int .u8 f, .int .u8 o, .int .u8 4, .int .u16 a, .int .u16 b] 44)) (.cells #[.int .u8 0, .int .u16 0] 39)) _ _ _ c6
    have d7 := kc (ba (ba (bz w) (.cells #[.int .u8 f, .int .u8 o, .int .u8 4, .int .u16 a, .int .u16 b] 44)) (.cells #[.int .u8 0, .int .u16 0] 39)) _ _ _ c7
    have d8 := kc (ba (ba (bz w) (.cells #[.int .u8 f, .int .u8 o, .int .u8 4, .int .u16 a, .int .u16 b] 44)) (.cells #[.int .u8 0, .int .u16 0] 39)) _ _ _ c8
    refine wp_region_held_drew (S := (fun w' => w'.cell? ⟨p, 0, none⟩ = some (.int .u8 s.h) ∧ w'.cell? ⟨p, 1, none⟩ = some (.int .u16 s.v0) ∧ w'.cell? ⟨p, 2, none⟩ = some (.int .u16 s.v1) ∧ w'.cell? ⟨p, 3, none⟩ = some (.int .u16 s.v2) ∧ w'.cell? ⟨p, 4, none⟩ = some (.int .u16 s.v3) ∧ w'.cell? ⟨p, 5, none⟩ = some (.int .u16 s.v4) ∧ w'.cell? ⟨p, 6, none⟩ = some (.int .u16 s.v5) ∧ w'.cell? ⟨p, 7, none⟩ = some (.int .u16 s.v6) ∧ w'.cell? ⟨p, 8, none⟩ = some (.int .u16 s.v7) ∧ w'.cell? ⟨w.heap.size, 2, none⟩ = some (.int .u8 4) ∧ w'.cell? ⟨w.heap.size, 3, none⟩ = some (.int .u16 a) ∧ w'.cell? ⟨w.heap.size, 4, none⟩ = some (.int .u16 b))) (by kernel_rfl) (by refine ⟨?_, ?_, ?_, ?_, ?_, ?_, ?_, ?_, ?_, ?_, ?_, ?_⟩ <;> (repeat (first | (with_reducible assumption) | (with_reducible apply keep_alloc) | (with_reducible apply keep_drew)))) (fun hHeld => ?_)
    refine wpAnyH_take (i := 0) (v := ?zv0) rfl (by kernel_rfl) (by kernel_rfl) (by kernel_rfl) (fun _ _ _ h => h) (Or.inl ⟨by rfl, ?zy0⟩) (by assumption) ?zr0
    case zy0 => (intro w hSw; (try dsimp only at hSw); go_simp; try with_reducible rfl)
    try simp only [Act.put, List.setIfInBounds_toArray, List.set_cons_zero, List.set_cons_succ]
    refine wpAnyH_take (i := 1) (v := ?zv1) rfl (by kernel_rfl) (by kernel_rfl) (by kernel_rfl) (fun _ _ _ h => h) (Or.inl ⟨by rfl, ?zy1⟩) (by assumption) ?zr1
    case zy1 => (intro w hSw; (try dsimp only at hSw); go_simp; try with_reducible rfl)
    try simp only [Act.put, List.setIfInBounds_toArray, List.set_cons_zero, List.set_cons_succ]
    refine wpAnyH_take (i := 2) (v := ?zv2) rfl (by kernel_rfl) (by kernel_rfl) (by kernel_rfl) (fun _ _ _ h => h) (Or.inl ⟨by rfl, ?zy2⟩) (by assumption) ?zr2
    case zy2 => (intro w hSw; (try dsimp only at hSw); go_simp; try with_reducible rfl)
    try simp only [Act.put, List.setIfInBounds_toArray, List.set_cons_zero, List.set_cons_succ]
    refine wpAnyH_take (i := 3) (v := ?zv3) rfl (by kernel_rfl) (by kernel_rfl) (by kernel_rfl) (fun _ _ _ h => h) (Or.inl ⟨by rfl, ?zy3⟩) (by assumption) ?zr3
    case zy3 => (intro w hSw; (try dsimp only at hSw); go_simp; try with_reducible rfl)
    try simp only [Act.put, List.setIfInBounds_toArray, List.set_cons_zero, List.set_cons_succ]
    refine wpAnyH_take (i := 4) (v := ?zv4) rfl (by kernel_rfl) (by kernel_rfl) (by kernel_rfl) (fun _ _ _ h => h) (Or.inl ⟨by rfl, ?zy4⟩) (by assumption) ?zr4
    case zy4 => (intro w hSw; (try dsimp only at hSw); go_simp; try with_reducible rfl)
    try simp only [Act.put, List.setIfInBounds_toArray, List.set_cons_zero, List.set_cons_succ]
    refine wpAnyH_ready (rs := [5]) (by kernel_rfl) (by simp) ?_
    refine AllReadyH.cons rfl (fun K hK => ?_) AllReadyH.nil
    go_simp
    refine (HC.out _).mono ?_
    rintro e w2 ⟨rfl, hb⟩; have x0 := cell_past hb (show World.cell? _ ⟨p, 0, none⟩ = _ from d0); have x1 := cell_past hb (show World.cell? _ ⟨p, 1, none⟩ = _ from d1); have x2 := cell_past hb (show World.cell? _ ⟨p, 2, none⟩ = _ from d2); have x3 := cell_past hb (show World.cell? _ ⟨p, 3, none⟩ = _ from d3); have x4 := cell_past hb (show World.cell? _ ⟨p, 4, none⟩ = _ from d4); have x5 := cell_past hb (show World.cell? _ ⟨p, 5, none⟩ = _ from d5); have x6 := cell_past hb (show World.cell? _ ⟨p, 6, none⟩ = _ from d6); have x7 := cell_past hb (show World.cell? _ ⟨p, 7, none⟩ = _ from d7); have x8 := cell_past hb (show World.cell? _ ⟨p, 8, none⟩ = _ from d8); have g00 := kf hb p 0 (by simp; omega) (by simp [go_sem, f0, hp]); have g11 := kf hb p 1 (by simp; omega) (by simp [go_sem, f1, hp]); have g22 := kf hb p 2 (by simp; omega) (by simp [go_sem, f2, hp]); have g33 := kf hb p 3 (by simp; omega) (by simp [go_sem, f3, hp]); have g44 := kf hb p 4 (by simp; omega) (by simp [go_sem, f4, hp]); have g55 := kf hb p 5 (by simp; omega) (by simp [go_sem, f5, hp]); have g66 := kf hb p 6 (by simp; omega) (by simp [go_sem, f6, hp]); have g77 := kf hb p 7 (by simp; omega) (by simp [go_sem, f7, hp]); have g88 := kf hb p 8 (by simp; omega) (by simp [go_sem, f8, hp]); have y2 := cell_past hb (show World.cell? _ ⟨w.heap.size, 2, none⟩ = _ from q2); have y3 := cell_past hb (show World.cell? _ ⟨w.heap.size, 3, none⟩ = _ from q3); have y4 := cell_past hb (show World.cell? _ ⟨w.heap.size, 4, none⟩ = _ from q4); have r0 := kc hb (w.heap.size + 1) 0 (.int .u8 0) (by simp [go_sem]); have r1 := kc hb (w.heap.size + 1) 1 (.int .u16 0) (by simp [go_sem]); have g0 := kf hb (w.heap.size + 1) 0 (by simp) (by simp [go_sem]); have g1 := kf hb (w.heap.size + 1) 1 (by simp) (by simp [go_sem]); have hz : w.heap.size + 1 < w2.heap.size := (by have := hb.size; simp at this; omega); have hbb : Below w.heap.size w w2 := Below.trans (by repeat (first | (with_reducible exact bz w) | (with_reducible apply ba) | (with_reducible apply Below.drew))) (hb.mono (by simp; omega)); replace hb := Lib.hid hb; have HB := Lib.hid hbb; clear hbb
    go_wp2_with fail
    refine hK.out _ _ (by refine ⟨?_, ?_, ?_, ?_, ?_, ?_, ?_, ?_, ?_, ?_, ?_, ?_⟩ <;> (repeat (first | (with_reducible assumption) | (with_reducible apply keep_alloc) | (with_reducible apply keep_drew)))) (fun hHeld2 => ?_)
    clear hK K hHeld
    try simp only [Act.put, List.setIfInBounds_toArray, List.set_cons_zero, List.set_cons_succ]
    refine wpAnyH_take (i := 6) (v := ?zv6) rfl (by kernel_rfl) (by kernel_rfl) (by kernel_rfl) (fun _ _ _ h => h) (Or.inl ⟨by rfl, ?zy6⟩) (by assumption) ?zr6
    case zy6 => (intro w hSw; (try dsimp only at hSw); go_simp; try with_reducible rfl)
    try simp only [Act.put, List.setIfInBounds_toArray, List.set_cons_zero, List.set_cons_succ]
    refine wpAnyH_take (i := 7) (v := undef) rfl (by kernel_rfl) (by kernel_rfl) (by kernel_rfl) (fun _ _ _ h => h) (Or.inr ⟨by first | kernel_rfl | rfl, rfl⟩) (by assumption) ?zr7
    try simp only [Act.put, List.setIfInBounds_toArray, List.set_cons_zero, List.set_cons_succ]
    refine wpAnyH_take (i := 8) (v := undef) rfl (by kernel_rfl) (by kernel_rfl) (by kernel_rfl) (fun _ _ _ h => h) (Or.inr ⟨by first | kernel_rfl | rfl, rfl⟩) (by assumption) ?zr8
    try simp only [Act.put, List.setIfInBounds_toArray, List.set_cons_zero, List.set_cons_succ]
    refine wpAnyH_take (i := 9) (v := undef) rfl (by kernel_rfl) (by kernel_rfl) (by kernel_rfl) (fun _ _ _ h => h) (Or.inr ⟨by first | kernel_rfl | rfl, rfl⟩) (by assumption) ?zr9
    try simp only [Act.put, List.setIfInBounds_toArray, List.set_cons_zero, List.set_cons_succ]
    refine wpAnyH_take (i := 10) (v := undef) rfl (by kernel_rfl) (by kernel_rfl) (by kernel_rfl) (fun _ _ _ h => h) (Or.inr ⟨by first | kernel_rfl | rfl, rfl⟩) (by assumption) ?zr10
    try simp only [Act.put, List.setIfInBounds_toArray, List.set_cons_zero, List.set_cons_succ]
    refine wpAnyH_take (i := 11) (v := undef) rfl (by kernel_rfl) (by kernel_rfl) (by kernel_rfl) (fun _ _ _ h => h) (Or.inr ⟨by first | kernel_rfl | rfl, rfl⟩) (by assumption) ?zr11
    try simp only [Act.put, List.setIfInBounds_toArray, List.set_cons_zero, List.set_cons_succ]
    refine wpAnyH_take (i := 12) (v := undef) rfl (by kernel_rfl) (by kernel_rfl) (by kernel_rfl) (fun _ _ _ h => h) (Or.inr ⟨by first | kernel_rfl | rfl, rfl⟩) (by assumption) ?zr12
    try simp only [Act.put, List.setIfInBounds_toArray, List.set_cons_zero, List.set_cons_succ]
    refine wpAnyH_take (i := 13) (v := undef) rfl (by kernel_rfl) (by kernel_rfl) (by kernel_rfl) (fun _ _ _ h => h) (Or.inr ⟨by first | kernel_rfl | rfl, rfl⟩) (by assumption) ?zr13
    try simp only [Act.put, List.setIfInBounds_toArray, List.set_cons_zero, List.set_cons_succ]
    refine wpAnyH_take (i := 14) (v := undef) rfl (by kernel_rfl) (by kernel_rfl) (by kernel_rfl) (fun _ _ _ h => h) (Or.inr ⟨by first | kernel_rfl | rfl, rfl⟩) (by assumption) ?zr14
    try simp only [Act.put, List.setIfInBounds_toArray, List.set_cons_zero, List.set_cons_succ]
    refine wpAnyH_take (i := 15) (v := undef) rfl (by kernel_rfl) (by kernel_rfl) (by kernel_rfl) (fun _ _ _ h => h) (Or.inr ⟨by first | kernel_rfl | rfl, rfl⟩) (by assumption) ?zr15
    try simp only [Act.put, List.setIfInBounds_toArray, List.set_cons_zero, List.set_cons_succ]
    refine wpAnyH_take (i := 16) (v := undef) rfl (by kernel_rfl) (by kernel_rfl) (by kernel_rfl) (fun _ _ _ h => h) (Or.inr ⟨by first | kernel_rfl | rfl, rfl⟩) (by assumption) ?zr16
    try simp only [Act.put, List.setIfInBounds_toArray, List.set_cons_zero, List.set_cons_succ]
    refine wpAnyH_take (i := 17) (v := ?zv17) rfl (by kernel_rfl) (by kernel_rfl) (by kernel_rfl) (fun _ _ _ h => h) (Or.inl ⟨by rfl, ?zy17⟩) (by assumption) ?zr17
    case zy17 => (intro w hSw; (try dsimp only at hSw); go_simp; try with_reducible rfl)
    try simp only [Act.put, List.setIfInBounds_toArray, List.set_cons_zero, List.set_cons_succ]
    refine wpAnyH_take (i := 18) (v := ?zv18) rfl (by kernel_rfl) (by kernel_rfl) (by kernel_rfl) (fun _ _ _ h => h) (Or.inl ⟨by rfl, ?zy18⟩) (by assumption) ?zr18
    case zy18 => (intro w hSw; (try dsimp only at hSw); go_simp; try with_reducible rfl)
    try simp only [Act.put, List.setIfInBounds_toArray, List.set_cons_zero, List.set_cons_succ]
    refine wpAnyH_done (by kernel_rfl) ?_ _
    all_goals
      have HK := Lib.hid (kept1 HB.out hp)
      go_wp2_with fail
      refine (said_any false _).mono ?_
      rintro e w3 ⟨rfl, hb3⟩
      have h3 : KvAt w3 p (s) := by
        refine KvAt.below ?_ hb3
        exact ⟨x0, x1, x2, x3, x4, x5, x6, x7, x8, g00, g11, g22, g33, g44, g55, g66, g77, g88⟩
      have hk3 : Kept (fun i => i = p) w w3 := by
        refine Kept.trans ?_ (Kept.of_below hb3) (fun i hi h => absurd h (by first | omega | (simp; omega)))
        repeat (first | (with_reducible exact HK.out) | (with_reducible refine Kept.setCell (S := fun i => i = p) ?_ (fun _ => rfl) _) | (with_reducible apply Kept.drewN) | (with_reducible apply Kept.drew))
      have s0 := kc hb3 (w.heap.size + 1) 0 (.int .u8 0) (by simp [go_sem, r0, hz, hp])
      have s1 := kc hb3 (w.heap.size + 1) 1 (.int .u16 0) (by simp [go_sem, r1, hz, hp])
      have k0 := kf hb3 (w.heap.size + 1) 0 (by first | exact hz | (simp; omega)) (by simp [go_sem, g0, hz, hp])
      have k1 := kf hb3 (w.heap.size + 1) 1 (by first | exact hz | (simp; omega)) (by simp [go_sem, g1, hz, hp])
      have hz3 : w.heap.size + 1 < w3.heap.size := (by have := hb3.size; first | omega | (simp at this; omega))
      have hne : ¬ p = w.heap.size + 1 := by omega
      have H3 := Lib.hid h3
      have HK3 := Lib.hid hk3
      clear h3 hk3 hb3
      go_wp2
      refine bodyPost_ret (by simp [results, Try.results48, go_sem, s0, s1, hz3] <;> rfl) rfl ⟨rfl, ?_, ?_⟩
      · exact (H3.out.kept (S := fun i => i = w.heap.size + 1) (Kept.setCell (S := fun i => i = w.heap.size + 1) (Kept.setCell (S := fun i => i = w.heap.size + 1) (Kept.refl _ w3) (fun _ => rfl) _) (fun _ => rfl) _) hne)
      · exact (HK3.out.setCell (fun h => absurd h (by simp)) _).setCell (fun h => absurd h (by simp)) _
  · cases y
    · go_enter Try.func48, Try.ntmps48
      go_wp2_with fail
      have q2 : ((w.alloc (.cells #[.int .u8 f, .int .u8 o, .int .u8 4, .int .u16 a, .int .u16 b] 44)).alloc (.cells #[.int .u8 0, .int .u16 0] 39)).cell? ⟨w.heap.size, 2, none⟩ = some (.int .u8 4) := by simp [go_sem]
      have q3 : ((w.alloc (.cells #[.int .u8 f, .int .u8 o, .int .u8 4, .int .u16 a, .int .u16 b] 44)).alloc (.cells #[.int .u8 0, .int .u16 0] 39)).cell? ⟨w.heap.size, 3, none⟩ = some (.int .u16 a) := by simp [go_sem]
      have q4 : ((w.alloc (.cells #[.int .u8 f, .int .u8 o, .int .u8 4, .int .u16 a, .int .u16 b] 44)).alloc (.cells #[.int .u8 0, .int .u16 0] 39)).cell? ⟨w.heap.size, 4, none⟩ = some (.int .u16 b) := by simp [go_sem]
      have d0 := kc (ba (ba (bz w) (.cells #[.int .u8 f, .int .u8 o, .int .u8 4, .int .u16 a, .int .u16 b] 44)) (.cells #[.int .u8 0, .int .u16 0] 39)) _ _ _ c0
      have d1 := kc (ba (ba (bz w) (.cells #[.int .u8 f, .int .u8 o, .int .u8 4, .int .u16 a, .int .u16 b] 44)) (.cells #[.int .u8 0, .int .u16 0] 39)) _ _ _ c1
      have d2 := kc (ba (ba (bz w) (.cells #[.int .u8 f, .int .u8 o, .int .u8 4, .int .u16 a, .int .u16 b] 44)) (.cells #[.int .u8 0, .int .u16 0] 39)) _ _ _ c2
      have d3 := kc (ba (ba (bz w) (.cells #[.int .u8 f, .int .u8 o, .int .u8 4, .int .u16 a, .int .u16 b] 44)) (.cells #[.int .u8 0, .int .u16 0] 39)) _ _ _ c3
      have d4 := kc (ba (ba (bz w) (.cells #[.int .u8 f, .int .u8 o, .int .u8 4, .int .u16 a, .int .u16 b] 44)) (.cells #[.int .u8 0, .int .u16 0] 39)) _ _ _ c4
      have d5 := kc (ba (ba (bz w) (.cells #[.int .u8 f, .int .u8 o, .int .u8 4, .int .u16 a, .int .u16 b] 44)) (.cells #[.int .u8 0, .int .u16 0] 39)) _ _ _ c5
      have d6 := kc (ba (ba (bz w) (.cells #[.int .u8 f, .int .u8 o, .int .u8 4, .int .u16 a, .int .u16 b] 44)) (.cells #[.int .u8 0, .int .u16 0] 39)) _ _ _ c6
      have d7 := kc (ba (ba (bz w) (.cells #[.int .u8 f, .int .u8 o, .int .u8 4, .int .u16 a, .int .u16 b] 44)) (.cells #[.int .u8 0, .int .u16 0] 39)) _ _ _ c7
      have d8 := kc (ba (ba (bz w) (.cells #[.int .u8 f, .int .u8 o, .int .u8 4, .int .u16 a, .int .u16 b] 44)) (.cells #[.int .u8 0, .int .u16 0] 39)) _ _ _ c8
      go_region_held3 (fun w' => w'.cell? ⟨p, 0, none⟩ = some (.int .u8 s.h) ∧ w'.cell? ⟨p, 1, none⟩ = some (.int .u16 s.v0) ∧ w'.cell? ⟨p, 2, none⟩ = some (.int .u16 s.v1) ∧ w'.cell? ⟨p, 3, none⟩ = some (.int .u16 s.v2) ∧ w'.cell? ⟨p, 4, none⟩ = some (.int .u16 s.v3) ∧ w'.cell? ⟨p, 5, none⟩ = some (.int .u16 s.v4) ∧ w'.cell? ⟨p, 6, none⟩ = some (.int .u16 s.v5) ∧ w'.cell? ⟨p, 7, none⟩ = some (.int .u16 s.v6) ∧ w'.cell? ⟨p, 8, none⟩ = some (.int .u16 s.v7) ∧ w'.cell? ⟨w.heap.size, 2, none⟩ = some (.int .u8 4) ∧ w'.cell? ⟨w.heap.size, 3, none⟩ = some (.int .u16 a) ∧ w'.cell? ⟨w.heap.size, 4, none⟩ = some (.int .u16 b)) (refine ⟨?_, ?_, ?_, ?_, ?_, ?_, ?_, ?_, ?_, ?_, ?_, ?_⟩ <;> (repeat (first | (with_reducible assumption) | (with_reducible apply keep_alloc) | (with_reducible apply keep_drew)))) ((go_at_call 30; refine (HC.out _).mono ?_; rintro e w2 ⟨rfl, hb⟩; have x0 := cell_past hb (show World.cell? _ ⟨p, 0, none⟩ = _ from d0); have x1 := cell_past hb (show World.cell? _ ⟨p, 1, none⟩ = _ from d1); have x2 := cell_past hb (show World.cell? _ ⟨p, 2, none⟩ = _ from d2); have x3 := cell_past hb (show World.cell? _ ⟨p, 3, none⟩ = _ from d3); have x4 := cell_past hb (show World.cell? _ ⟨p, 4, none⟩ = _ from d4); have x5 := cell_past hb (show World.cell? _ ⟨p, 5, none⟩ = _ from d5); have x6 := cell_past hb (show World.cell? _ ⟨p, 6, none⟩ = _ from d6); have x7 := cell_past hb (show World.cell? _ ⟨p, 7, none⟩ = _ from d7); have x8 := cell_past hb (show World.cell? _ ⟨p, 8, none⟩ = _ from d8); have g00 := kf hb p 0 (by simp; omega) (by simp [go_sem, f0, hp]); have g11 := kf hb p 1 (by simp; omega) (by simp [go_sem, f1, hp]); have g22 := kf hb p 2 (by simp; omega) (by simp [go_sem, f2, hp]); have g33 := kf hb p 3 (by simp; omega) (by simp [go_sem, f3, hp]); have g44 := kf hb p 4 (by simp; omega) (by simp [go_sem, f4, hp]); have g55 := kf hb p 5 (by simp; omega) (by simp [go_sem, f5, hp]); have g66 := kf hb p 6 (by simp; omega) (by simp [go_sem, f6, hp]); have g77 := kf hb p 7 (by simp; omega) (by simp [go_sem, f7, hp]); have g88 := kf hb p 8 (by simp; omega) (by simp [go_sem, f8, hp]); have y2 := cell_past hb (show World.cell? _ ⟨w.heap.size, 2, none⟩ = _ from q2); have y3 := cell_past hb (show World.cell? _ ⟨w.heap.size, 3, none⟩ = _ from q3); have y4 := cell_past hb (show World.cell? _ ⟨w.heap.size, 4, none⟩ = _ from q4); have r0 := kc hb (w.heap.size + 1) 0 (.int .u8 0) (by simp [go_sem]); have r1 := kc hb (w.heap.size + 1) 1 (.int .u16 0) (by simp [go_sem]); have g0 := kf hb (w.heap.size + 1) 0 (by simp) (by simp [go_sem]); have g1 := kf hb (w.heap.size + 1) 1 (by simp) (by simp [go_sem]); have hz : w.heap.size + 1 < w2.heap.size := (by have := hb.size; simp at this; omega); have hbb : Below w.heap.size w w2 := Below.trans (by repeat (first | (with_reducible exact bz w) | (with_reducible apply ba) | (with_reducible apply Below.drew))) (hb.mono (by simp; omega)); replace hb := Lib.hid hb; have HB := Lib.hid hbb; clear hbb))
      all_goals
        have HK := Lib.hid (kept1 HB.out hp)
        go_wp2_with fail
        refine (said_any false _).mono ?_
        rintro e w3 ⟨rfl, hb3⟩
        have h3 : KvAt w3 p (s) := by
          refine KvAt.below ?_ hb3
          exact ⟨x0, x1, x2, x3, x4, x5, x6, x7, x8, g00, g11, g22, g33, g44, g55, g66, g77, g88⟩
        have hk3 : Kept (fun i => i = p) w w3 := by
          refine Kept.trans ?_ (Kept.of_below hb3) (fun i hi h => absurd h (by first | omega | (simp; omega)))
          repeat (first | (with_reducible exact HK.out) | (with_reducible refine Kept.setCell (S := fun i => i = p) ?_ (fun _ => rfl) _) | (with_reducible apply Kept.drewN) | (with_reducible apply Kept.drew))
        have s0 := kc hb3 (w.heap.size + 1) 0 (.int .u8 0) (by simp [go_sem, r0, hz, hp])
        have s1 := kc hb3 (w.heap.size + 1) 1 (.int .u16 0) (by simp [go_sem, r1, hz, hp])
        have k0 := kf hb3 (w.heap.size + 1) 0 (by first | exact hz | (simp; omega)) (by simp [go_sem, g0, hz, hp])
        have k1 := kf hb3 (w.heap.size + 1) 1 (by first | exact hz | (simp; omega)) (by simp [go_sem, g1, hz, hp])
        have hz3 : w.heap.size + 1 < w3.heap.size := (by have := hb3.size; first | omega | (simp at this; omega))
        have hne : ¬ p = w.heap.size + 1 := by omega
        have H3 := Lib.hid h3
        have HK3 := Lib.hid hk3
        clear h3 hk3 hb3
        go_wp2
        refine bodyPost_ret (by simp [results, Try.results48, go_sem, s0, s1, hz3] <;> rfl) rfl ⟨rfl, ?_, ?_⟩
        · exact (H3.out.kept (S := fun i => i = w.heap.size + 1) (Kept.setCell (S := fun i => i = w.heap.size + 1) (Kept.setCell (S := fun i => i = w.heap.size + 1) (Kept.refl _ w3) (fun _ => rfl) _) (fun _ => rfl) _) hne)
        · exact (HK3.out.setCell (fun h => absurd h (by simp)) _).setCell (fun h => absurd h (by simp)) _
    · go_enter Try.func48, Try.ntmps48
      go_wp2_with fail
      have q2 : ((w.alloc (.cells #[.int .u8 f, .int .u8 o, .int .u8 4, .int .u16 a, .int .u16 b] 44)).alloc (.cells #[.int .u8 0, .int .u16 0] 39)).cell? ⟨w.heap.size, 2, none⟩ = some (.int .u8 4) := by simp [go_sem]
      have q3 : ((w.alloc (.cells #[.int .u8 f, .int .u8 o, .int .u8 4, .int .u16 a, .int .u16 b] 44)).alloc (.cells #[.int .u8 0, .int .u16 0] 39)).cell? ⟨w.heap.size, 3, none⟩ = some (.int .u16 a) := by simp [go_sem]
      have q4 : ((w.alloc (.cells #[.int .u8 f, .int .u8 o, .int .u8 4, .int .u16 a, .int .u16 b] 44)).alloc (.cells #[.int .u8 0, .int .u16 0] 39)).cell? ⟨w.heap.size, 4, none⟩ = some (.int .u16 b) := by simp [go_sem]
      have d0 := kc (ba (ba (bz w) (.cells #[.int .u8 f, .int .u8 o, .int .u8 4, .int .u16 a, .int .u16 b] 44)) (.cells #[.int .u8 0, .int .u16 0] 39)) _ _ _ c0
      have d1 := kc (ba (ba (bz w) (.cells #[.int .u8 f, .int .u8 o, .int .u8 4, .int .u16 a, .int .u16 b] 44)) (.cells #[.int .u8 0, .int .u16 0] 39)) _ _ _ c1
      have d2 := kc (ba (ba (bz w) (.cells #[.int .u8 f, .int .u8 o, .int .u8 4, .int .u16 a, .int .u16 b] 44)) (.cells #[.int .u8 0, .int .u16 0] 39)) _ _ _ c2
      have d3 := kc (ba (ba (bz w) (.cells #[.int .u8 f, .int .u8 o, .int .u8 4, .int .u16 a, .int .u16 b] 44)) (.cells #[.int .u8 0, .int .u16 0] 39)) _ _ _ c3
      have d4 := kc (ba (ba (bz w) (.cells #[.int .u8 f, .int .u8 o, .int .u8 4, .int .u16 a, .int .u16 b] 44)) (.cells #[.int .u8 0, .int .u16 0] 39)) _ _ _ c4
      have d5 := kc (ba (ba (bz w) (.cells #[.int .u8 f, .int .u8 o, .int .u8 4, .int .u16 a, .int .u16 b] 44)) (.cells #[.int .u8 0, .int .u16 0] 39)) _ _ _ c5
      have d6 := kc (ba (ba (bz w) (.cells #[.int .u8 f, .int .u8 o, .int .u8 4, .int .u16 a, .int .u16 b] 44)) (.cells #[.int .u8 0, .int .u16 0] 39)) _ _ _ c6
      have d7 := kc (ba (ba (bz w) (.cells #[.int .u8 f, .int .u8 o, .int .u8 4, .int .u16 a, .int .u16 b] 44)) (.cells #[.int .u8 0, .int .u16 0] 39)) _ _ _ c7
      have d8 := kc (ba (ba (bz w) (.cells #[.int .u8 f, .int .u8 o, .int .u8 4, .int .u16 a, .int .u16 b] 44)) (.cells #[.int .u8 0, .int .u16 0] 39)) _ _ _ c8
      go_region_held3 (fun w' => w'.cell? ⟨p, 0, none⟩ = some (.int .u8 s.h) ∧ w'.cell? ⟨p, 1, none⟩ = some (.int .u16 s.v0) ∧ w'.cell? ⟨p, 2, none⟩ = some (.int .u16 s.v1) ∧ w'.cell? ⟨p, 3, none⟩ = some (.int .u16 s.v2) ∧ w'.cell? ⟨p, 4, none⟩ = some (.int .u16 s.v3) ∧ w'.cell? ⟨p, 5, none⟩ = some (.int .u16 s.v4) ∧ w'.cell? ⟨p, 6, none⟩ = some (.int .u16 s.v5) ∧ w'.cell? ⟨p, 7, none⟩ = some (.int .u16 s.v6) ∧ w'.cell? ⟨p, 8, none⟩ = some (.int .u16 s.v7) ∧ w'.cell? ⟨w.heap.size, 2, none⟩ = some (.int .u8 4) ∧ w'.cell? ⟨w.heap.size, 3, none⟩ = some (.int .u16 a) ∧ w'.cell? ⟨w.heap.size, 4, none⟩ = some (.int .u16 b)) (refine ⟨?_, ?_, ?_, ?_, ?_, ?_, ?_, ?_, ?_, ?_, ?_, ?_⟩ <;> (repeat (first | (with_reducible assumption) | (with_reducible apply keep_alloc) | (with_reducible apply keep_drew)))) ((go_at_call 30; refine (HC.out _).mono ?_; rintro e w2 ⟨rfl, hb⟩; have x0 := cell_past hb (show World.cell? _ ⟨p, 0, none⟩ = _ from d0); have x1 := cell_past hb (show World.cell? _ ⟨p, 1, none⟩ = _ from d1); have x2 := cell_past hb (show World.cell? _ ⟨p, 2, none⟩ = _ from d2); have x3 := cell_past hb (show World.cell? _ ⟨p, 3, none⟩ = _ from d3); have x4 := cell_past hb (show World.cell? _ ⟨p, 4, none⟩ = _ from d4); have x5 := cell_past hb (show World.cell? _ ⟨p, 5, none⟩ = _ from d5); have x6 := cell_past hb (show World.cell? _ ⟨p, 6, none⟩ = _ from d6); have x7 := cell_past hb (show World.cell? _ ⟨p, 7, none⟩ = _ from d7); have x8 := cell_past hb (show World.cell? _ ⟨p, 8, none⟩ = _ from d8); have g00 := kf hb p 0 (by simp; omega) (by simp [go_sem, f0, hp]); have g11 := kf hb p 1 (by simp; omega) (by simp [go_sem, f1, hp]); have g22 := kf hb p 2 (by simp; omega) (by simp [go_sem, f2, hp]); have g33 := kf hb p 3 (by simp; omega) (by simp [go_sem, f3, hp]); have g44 := kf hb p 4 (by simp; omega) (by simp [go_sem, f4, hp]); have g55 := kf hb p 5 (by simp; omega) (by simp [go_sem, f5, hp]); have g66 := kf hb p 6 (by simp; omega) (by simp [go_sem, f6, hp]); have g77 := kf hb p 7 (by simp; omega) (by simp [go_sem, f7, hp]); have g88 := kf hb p 8 (by simp; omega) (by simp [go_sem, f8, hp]); have y2 := cell_past hb (show World.cell? _ ⟨w.heap.size, 2, none⟩ = _ from q2); have y3 := cell_past hb (show World.cell? _ ⟨w.heap.size, 3, none⟩ = _ from q3); have y4 := cell_past hb (show World.cell? _ ⟨w.heap.size, 4, none⟩ = _ from q4); have r0 := kc hb (w.heap.size + 1) 0 (.int .u8 0) (by simp [go_sem]); have r1 := kc hb (w.heap.size + 1) 1 (.int .u16 0) (by simp [go_sem]); have g0 := kf hb (w.heap.size + 1) 0 (by simp) (by simp [go_sem]); have g1 := kf hb (w.heap.size + 1) 1 (by simp) (by simp [go_sem]); have hz : w.heap.size + 1 < w2.heap.size := (by have := hb.size; simp at this; omega); have hbb : Below w.heap.size w w2 := Below.trans (by repeat (first | (with_reducible exact bz w) | (with_reducible apply ba) | (with_reducible apply Below.drew))) (hb.mono (by simp; omega)); replace hb := Lib.hid hb; have HB := Lib.hid hbb; clear hbb))
      all_goals
        have HK := Lib.hid (kept1 HB.out hp)
        go_wp2_with fail
        have HX : Hid (KvAt w2 p s) := Lib.hid ⟨x0, x1, x2, x3, x4, x5, x6, x7, x8, g00, g11, g22, g33, g44, g55, g66, g77, g88⟩
        clear x0 x1 x2 x3 x4 x5 x6 x7 x8 g00 g11 g22 g33 g44 g55 g66 g77 g88
        refine (lay_4 p s b w2 HS.out HX.out).mono ?_
        rintro e w4 ⟨rfl, h4, hk4⟩
        have hne4 : ¬ w.heap.size + 1 = p := by omega
        replace r0 : w4.cell? ⟨w.heap.size + 1, 0, none⟩ = some (.int .u8 0) := hk4.cell r0 hne4
        replace r1 : w4.cell? ⟨w.heap.size + 1, 1, none⟩ = some (.int .u16 0) := hk4.cell r1 hne4
        replace g0 : w4.frozen? ⟨w.heap.size + 1, 0, none⟩ = false := (hk4.frozen hz hne4).trans g0
        replace g1 : w4.frozen? ⟨w.heap.size + 1, 1, none⟩ = false := (hk4.frozen hz hne4).trans g1
        replace hz : w.heap.size + 1 < w4.heap.size := by have := hk4.size; omega
        replace HK := Lib.hid (HK.out.trans hk4 (fun i _ e => e))
        have H4 := Lib.hid h4
        clear h4 hk4 hb HB HX
        go_wp2_with fail
        refine (said_any true _).mono ?_
        rintro e w3 ⟨rfl, hb3⟩
        have h3 : KvAt w3 p (s.lay 4 b) := by
          refine KvAt.below ?_ hb3
          exact H4.out
        have hk3 : Kept (fun i => i = p) w w3 := by
          refine Kept.trans ?_ (Kept.of_below hb3) (fun i hi h => absurd h (by first | omega | (simp; omega)))
          repeat (first | (with_reducible exact HK.out) | (with_reducible refine Kept.setCell (S := fun i => i = p) ?_ (fun _ => rfl) _) | (with_reducible apply Kept.drewN) | (with_reducible apply Kept.drew))
        have s0 := kc hb3 (w.heap.size + 1) 0 (.int .u8 0) (by simp [go_sem, r0, hz, hp])
        have s1 := kc hb3 (w.heap.size + 1) 1 (.int .u16 0) (by simp [go_sem, r1, hz, hp])
        have k0 := kf hb3 (w.heap.size + 1) 0 (by first | exact hz | (simp; omega)) (by simp [go_sem, g0, hz, hp])
        have k1 := kf hb3 (w.heap.size + 1) 1 (by first | exact hz | (simp; omega)) (by simp [go_sem, g1, hz, hp])
        have hz3 : w.heap.size + 1 < w3.heap.size := (by have := hb3.size; first | omega | (simp at this; omega))
        have hne : ¬ p = w.heap.size + 1 := by omega
        have H3 := Lib.hid h3
        have HK3 := Lib.hid hk3
        clear h3 hk3 hb3
        go_wp2
        refine bodyPost_ret (by simp [results, Try.results48, go_sem, s0, s1, hz3] <;> rfl) rfl ⟨rfl, ?_, ?_⟩
        · exact (H3.out.kept (S := fun i => i = w.heap.size + 1) (Kept.setCell (S := fun i => i = w.heap.size + 1) (Kept.setCell (S := fun i => i = w.heap.size + 1) (Kept.refl _ w3) (fun _ => rfl) _) (fun _ => rfl) _) hne)
        · exact (HK3.out.setCell (fun h => absurd h (by simp)) _).setCell (fun h => absurd h (by simp)) _
end Go.Proofs.Ytoidbmgoofbcfaa
