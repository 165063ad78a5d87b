/- The queue: Run. -/
import Derived.Test.YtfaoakahmllpjaaDoorRrun
namespace Go.Proofs.YtfaoakahmllpjaaDoor
open Go.RowKit Go.Um
set_option maxHeartbeats 1000000

/-- at the head of a round of Run: the state is boxed at the call's first block -/
structure PInv (S : Nat → Prop) (w : World) (q : List Int) (n : Nat) (out : List Value) (t7 v : Value) (wr : World) : Prop where
  st : Far (fun b => (S b ∨ w.heap.size + 2 ≤ b) ∧ (b < w.heap.size ∨ w.heap.size + 2 ≤ b) ∧ t7.ownBlock ≠ some b) wr q v
  own : wr.ownsRow (w.heap.size + 2) 31 2 t7 n out
  bel : Below w.heap.size w wr
  c0 : wr.cell? ⟨w.heap.size, 0, none⟩ = some v
  f0 : wr.frozen? ⟨w.heap.size, 0, none⟩ = false
  c1 : wr.cell? ⟨w.heap.size + 1, 0, none⟩ = some (.slice none 0 0)
  f1 : wr.frozen? ⟨w.heap.size + 1, 0, none⟩ = false
  z : w.heap.size + 1 < wr.heap.size

theorem Far.grown {S : Nat → Prop} {w w' : World} {row : Option Nat} {q : List Int} {v : Value} (h : Far S w q v) (hg : w.grownBy w' row) (hk : ∀ b, S b → row ≠ some b) : Far S w' q v := by
  obtain ⟨ao, cap, b, o, rfl, hs, k⟩ := h
  refine ⟨ao, cap, b, o, rfl, ⟨hs.len, hs.le, hs.max, hs.addr, fun hp => Nat.lt_of_lt_of_le (hs.lt hp) hg.size, fun j u hu => ?_⟩, k⟩
  have hp : 0 < (us q).length := by have := (List.getElem?_eq_some_iff.1 hu).1; omega
  exact hg.cell (hs.cell j u hu) (fun e => hk b (k (by rw [us_len] at hp; omega)) e.symm)

/-- a round's end -/
theorem PInv.next {S : Nat → Prop} {w wr W w2 : World} {q q' : List Int} {k g cap : Nat} {out out' : List Value} {t7 v v1 : Value} (hI : PInv S w q k out t7 v wr)
    (hf : Far (fun b => ((S b ∨ w.heap.size + 2 ≤ b) ∧ (b < w.heap.size ∨ w.heap.size + 2 ≤ b) ∧ t7.ownBlock ≠ some b) ∨ wr.heap.size ≤ b) W q' v1) (hb : Below wr.heap.size wr W)
    (hg : W.grownBy w2 t7.ownBlock) (hown : w2.ownsRow (w.heap.size + 2) 31 2 (.slice (some ⟨g, 0, none⟩) (k + 1) cap) (k + 1) out') (hat : t7.ownBlock = some g ∨ W.heap.size ≤ g) :
    PInv S w q' (k + 1) out' (.slice (some ⟨g, 0, none⟩) (k + 1) cap) v1 (w2.setCell ⟨w.heap.size, 0, none⟩ v1) := by
  have hz := hI.z
  have hlo := hI.own.lt
  have hzW : wr.heap.size ≤ W.heap.size := hb.size
  have hB : Below w.heap.size w W := hI.bel.trans (hb.mono (by omega))
  have n0 : some w.heap.size ≠ t7.ownBlock := fun e => by have := (hlo _ e.symm).1; omega
  have n1 : some (w.heap.size + 1) ≠ t7.ownBlock := fun e => by have := (hlo _ e.symm).1; omega
  have a0 : w2.cell? ⟨w.heap.size, 0, none⟩ = some v := hg.cell (a := ⟨w.heap.size, 0, none⟩) (cell_past hb hI.c0) n0
  have a1 : w2.cell? ⟨w.heap.size + 1, 0, none⟩ = some (.slice none 0 0) := hg.cell (a := ⟨w.heap.size + 1, 0, none⟩) (cell_past hb hI.c1) n1
  have b0 : w2.frozen? ⟨w.heap.size, 0, none⟩ = false := (hg.frozen_far ⟨w.heap.size, 0, none⟩ (by show w.heap.size < _; omega) n0).trans (kf hb _ _ (by omega) hI.f0)
  have b1 : w2.frozen? ⟨w.heap.size + 1, 0, none⟩ = false := (hg.frozen_far ⟨w.heap.size + 1, 0, none⟩ (by show w.heap.size + 1 < _; omega) n1).trans (kf hb _ _ (by omega) hI.f1)
  have hz2 : w.heap.size + 1 < w2.heap.size := by have := hg.size; omega
  have hgl := (hown.lt g rfl).1
  refine ⟨?_, own_setCell hown (by simp [Value.ownBlock]; omega) _, bs (hB.grown hg hB.size (fun k hk => by have := (hlo k hk).1; omega)) (Nat.le_refl _) _, ?_, ?_, ?_, ?_, by simpa [World.setCell] using hz2⟩
  · have h1 : Far (fun b => (S b ∨ w.heap.size + 2 ≤ b) ∧ (b < w.heap.size ∨ w.heap.size + 2 ≤ b) ∧ t7.ownBlock ≠ some b ∧ b < W.heap.size) W q' v1 := by
      refine hf.mono fun b hlt hb => ?_
      rcases hb with hb | hb
      · exact ⟨hb.1, hb.2.1, hb.2.2, hlt⟩
      · exact ⟨.inr (by omega), .inr (by omega), fun e => by have := (hlo b e).2; omega, hlt⟩
    have h2 := (h1.grown hg (fun b hb => hb.2.2.1)).setCell (p := ⟨w.heap.size, 0, none⟩) (fun hb => by have h3 := hb.2.1; dsimp only at h3; omega) v1
    refine h2.mono fun b _ hb => ⟨hb.1, hb.2.1, ?_⟩
    intro e
    obtain rfl : g = b := by simpa [Value.ownBlock] using e
    rcases hat with h | h
    · exact hb.2.2.1 h
    · exact absurd hb.2.2.2 (by omega)
  · exact World.cell?_setCell_same w2 ⟨w.heap.size, 0, none⟩ v1 a0
  · rw [World.frozen?_setCell]; exact b0
  · rw [World.cell?_setCell_other _ _ _ _ (by simp)]; exact a1
  · rw [World.frozen?_setCell]; exact b1

theorem prun_any (S : Nat → Prop) (s : List Int) (v : Value) (l : List Op5) (ao : Option Addr) (cap b o : Nat) (w : World) (hv : Far S w s v) (h : SlAt w 5 l.length (l.flatMap Op5.cells) ao cap b o) (hok : ∀ x ∈ l, x.ok) (hlen : l.length ≤ 200) (hsl : s.length ≤ 200) (hk : Kinds w) :
    Calls Tryd.prog 17 #[.agg #[v], .slice ao l.length cap] w (RunPost S s l w) := by
  obtain ⟨i0, hi, hz0, hz1, hz2⟩ := info_parts info31
  have hidx := h.idx (P := Tryd.prog) (t := 41) Tryd.underlying41 size25 (by decide)
  have HV := Lib.hid hv
  have Hok := Lib.hid hok
  have Hk := Lib.hid hk
  clear hv hok hk
  go_enter Tryd.func17, Tryd.ntmps17
  go_wp2
  go_loopw [7, 15] (fun t7 t15 wr => ∃ (k : Nat) (v' : Value), k ≤ l.length ∧ k ≤ stopAt l ∧ t15 = .int .i64 k ∧ PInv S w (stN s l k) k ((outN s l k).flatMap resC) t7 v' wr)
    (fun _ t15 _ => l.length - (intOf t15).toNat)
  case atStart =>
    refine ⟨0, v, Nat.zero_le _, Nat.zero_le _, rfl, ⟨?_, World.ownsRow_nil _ _ _ _, by repeat (first | exact bz w | apply ba), by simp [go_sem], by simp [go_sem], by simp [go_sem], by simp [go_sem], by simp⟩⟩
    exact ((HV.out.mono (fun b hb hs => ⟨.inl hs, .inl hb, by simp [Value.ownBlock]⟩)).alloc _).alloc _
  case round =>
    obtain ⟨k, v', hk, hks, rfl, hinv⟩ := hrel
    have hbel := hinv.bel
    have c0 := hinv.c0
    have f0 := hinv.f0
    have c1 := hinv.c1
    have f1 := hinv.f1
    have z := hinv.z
    have z0 : w.heap.size < wr.heap.size := by omega
    by_cases hlt : k < l.length
    · have hwr := h.below' hbel h.lt
      obtain ⟨x, hx⟩ : ∃ x, l[k]? = some x := ⟨_, List.getElem?_eq_getElem hlt⟩
      obtain ⟨g0, g1, g2, g3, g4⟩ := op_at hwr hx
      have hxo : x.ok := Hok.out x (List.mem_of_getElem? hx)
      have hql : (stN s l k).length ≤ 100000 := by have := stN_len s l k; omega
      obtain ⟨q, hq⟩ : ∃ q, q = stN s l k := ⟨_, rfl⟩
      rw [← hq] at hinv hql
      have Hq := Lib.hid hq
      have Hx := Lib.hid hx
      have Hi := Lib.hid hinv
      have hown := hinv.own
      have hlo := hown.lt
      have HR := fun W hb => step_any _ q v' x hxo W (hinv.st.below hb) hql ((Hk.out.below hbel).below hb)
      have HRR := Lib.hid HR
      unfold opV at HRR
      clear hq hx hinv HR hwr hql hxo
      by_cases hkn : good x = true
      · have he : errOf x = 0 := by simp [errOf, hkn]
        rw [he] at HRR
        have Hkn := Lib.hid hkn
        clear hkn he
        go_wp2_with fail
        refine (HRR.out _ (ba (bz wr) _)).mono ?_
        rintro e w1 ⟨v1, rfl, hf1, hb1⟩
        have hB1 := bt (ba (bz wr) _) hb1
        have hown1 := own_past hown hB1
        have hbel1 := hbel.trans (hB1.mono hbel.size)
        have hs1 : w.heap.size ≤ w1.heap.size := hbel1.size
        have hs2 : wr.heap.size < w1.heap.size := by have := hb1.size; simp at this; omega
        have d0 := cell_past hB1 c0
        have d1 := cell_past hB1 c1
        have e0 := kf hB1 w.heap.size 0 (by omega) f0
        have e1 := kf hB1 (w.heap.size + 1) 0 (by omega) f1
        have z1 : w.heap.size + 1 < w1.heap.size := by omega
        have Hf1 := Lib.hid hf1
        obtain ⟨ao2, cap2, b2, o2, rfl, hs2', hf2⟩ := hf1
        clear hs2' hf2
        have Hlo := Lib.hid hlo
        have Hb1 := Lib.hid hB1
        have hn1 : some w1.heap.size ≠ u7.ownBlock := fun e => by have := (hlo _ e.symm).2; omega
        have hn2 : some (w1.heap.size + 1) ≠ u7.ownBlock := fun e => by have := (hlo _ e.symm).2; omega
        have hn3 : u7.ownBlock ≠ some w.heap.size := fun e => by have := (hlo _ e).1; omega
        have hn4 : some w.heap.size ≠ u7.ownBlock := fun e => by have := (hlo _ e.symm).1; omega
        have hn5 : some (w.heap.size + 1) ≠ u7.ownBlock := fun e => by have := (hlo _ e.symm).1; omega
        have j1 : w.heap.size < w1.heap.size := by omega
        have j2 : w.heap.size < w1.heap.size + 1 := by omega
        have j3 : w.heap.size < w1.heap.size + 1 + 1 := by omega
        have j4 : w.heap.size + 1 < w1.heap.size + 1 := by omega
        have j5 : w.heap.size + 1 < w1.heap.size + 1 + 1 := by omega
        have j6 : w.heap.size < w1.heap.size + 1 + 1 + 1 := by omega
        clear hlo hb1 hB1
        go_wp2_with fail
        go_region_held3 (fun w' => w'.cell? ⟨w1.heap.size, 0, none⟩ = some (.slice ao2 (nxt q x).length cap2) ∧ w'.cell? ⟨w1.heap.size + 1, 0, none⟩ = some (.int .u8 (ans q x).1) ∧ w'.cell? ⟨w1.heap.size + 1, 1, none⟩ = some (.int .u16 (ans q x).2))
          (refine ⟨?_, ?_, ?_⟩ <;> (repeat (first | (with_reducible assumption) | ((with_reducible refine new_at ?_ ?_); (focus (first | rfl | (simp; done))); (focus rfl)) | (with_reducible apply keep_alloc) | (with_reducible apply keep_drew) | (with_reducible refine keep_set ?_ ?_) | (intro e; dsimp only at e; omega))))
          ((refine step_append_lies _ rfl (.tmp 32) (.tmp 34) 42 rfl (w.heap.size + 2) 31 i0 (.agg #[.int .u8 0, .int .u16 0]) 2 4 Tryd.underlying42 hi hz0 hz1 hz2 rfl (by decide) u7 k ((outN s l k).flatMap resC) (by simp [Act.eval, Act.put]) (by repeat (first | (with_reducible exact hown1) | (with_reducible apply World.ownsRow.alloc) | (with_reducible apply World.ownsRow.drew) | (with_reducible apply own_setCell _ hn3))) ⟨w1.heap.size + 1 + 1, 0, none⟩ 1 1 [.int .u8 (ans q x).1, .int .u16 (ans q x).2] (by simp [Act.eval, Act.put]) rfl (new_cells _ _ _ _ (by simp)) (by simp [Value.oneCell']) (by decide) (by unfold maxLen; omega) (by omega) (by simp; omega) (w1.heap.size + 1 + 1 + 1) (by simp) ?_; intro g cap3 w2 hown2 hgrow2 hat hlt2; have s0 : w2.cell? ⟨w1.heap.size, 0, none⟩ = some (.slice ao2 (nxt q x).length cap2) := hgrow2.cell (a := ⟨w1.heap.size, 0, none⟩) (by (repeat (first | (with_reducible assumption) | ((with_reducible refine new_at ?_ ?_); (focus (first | rfl | (simp; done))); (focus rfl)) | (with_reducible apply keep_alloc) | (with_reducible apply keep_drew) | (with_reducible refine keep_set ?_ ?_) | (intro e; dsimp only at e; omega)))) hn1; have s1 : w2.cell? ⟨w1.heap.size + 1, 0, none⟩ = some (.int .u8 (ans q x).1) := hgrow2.cell (a := ⟨w1.heap.size + 1, 0, none⟩) (by (repeat (first | (with_reducible assumption) | ((with_reducible refine new_at ?_ ?_); (focus (first | rfl | (simp; done))); (focus rfl)) | (with_reducible apply keep_alloc) | (with_reducible apply keep_drew) | (with_reducible refine keep_set ?_ ?_) | (intro e; dsimp only at e; omega)))) hn2; have s2 : w2.cell? ⟨w1.heap.size + 1, 1, none⟩ = some (.int .u16 (ans q x).2) := hgrow2.cell (a := ⟨w1.heap.size + 1, 1, none⟩) (by (repeat (first | (with_reducible assumption) | ((with_reducible refine new_at ?_ ?_); (focus (first | rfl | (simp; done))); (focus rfl)) | (with_reducible apply keep_alloc) | (with_reducible apply keep_drew) | (with_reducible refine keep_set ?_ ?_) | (intro e; dsimp only at e; omega)))) hn2; have t0 := hgrow2.cell_far ⟨w.heap.size, 0, none⟩ (by simp; omega) hn4; have t1 := hgrow2.frozen_far ⟨w.heap.size, 0, none⟩ (by simp; omega) hn4; have p0 := hgrow2.cell_far ⟨w.heap.size + 1, 0, none⟩ (by simp; omega) hn5; have p1 := hgrow2.frozen_far ⟨w.heap.size + 1, 0, none⟩ (by simp; omega) hn5; have y1 : w1.heap.size + 1 < w2.heap.size := (by have := hgrow2.size; simp at this; omega); have Hg := Lib.hid hgrow2; have Ho := Lib.hid hown2; have Ha := Lib.hid hat; clear hgrow2 hown2 hat; simp [go_sem, d0, d1, e0, e1, z1, j1, j2, j3, j4, j5, j6] at t0 t1 p0 p1))
        all_goals go_wp2_with fail
        have hP := PInv.next (W := ((((w1.alloc (.cells #[.slice ao2 (nxt q x).length cap2] 28)).alloc (.cells #[.int .u8 (ans q x).1, .int .u16 (ans q x).2] 31)).alloc (.cells #[.int .u8 (ans q x).1, .int .u16 (ans q x).2] 31)).drew)) Hi.out (((((Hf1.out.mono (fun b _ hb => hb.imp id (fun h => Nat.le_trans (by simp) h))).alloc _).alloc _).alloc _).drew) (((ba (ba (ba Hb1.out _) _) _)).drew) Hg.out Ho.out (Ha.out.imp id (fun h => by simp [h]))
        have HP := Lib.hid hP
        clear hP
        go_roundw
        case rel =>
          refine ⟨k + 1, .slice ao2 (nxt q x).length cap2, by omega, stopAt_lt Hx.out hks Hkn.out, by go_num, ?_⟩
          rw [stN_succ Hx.out, outN_succ Hx.out, ← Hq.out]
          simpa [resC] using HP.out
        case measure => simp [intOf]; omega
      · have hkn' : good x = false := by simpa using hkn
        have he : errOf x = 10 := by simp [errOf, hkn']
        rw [he, nxt_bad hkn'] at HRR
        have Hkn := Lib.hid hkn'
        clear hkn hkn' he
        go_wp2_with fail
        refine (HRR.out _ (ba (bz wr) _)).mono ?_
        rintro e w1 ⟨v1, rfl, hf1, hb1⟩
        have hB1 := bt (ba (bz wr) _) hb1
        have hs2 : wr.heap.size < w1.heap.size := by have := hb1.size; simp at this; omega
        have d0 := cell_past hB1 c0
        have d1 := cell_past hB1 c1
        have e1 := kf hB1 (w.heap.size + 1) 0 (by omega) f1
        have z1 : w.heap.size + 1 < w1.heap.size := by omega
        have j1 : w.heap.size < w1.heap.size := by omega
        have j2 : w.heap.size < w1.heap.size + 1 := by omega
        have j4 : w.heap.size + 1 < w1.heap.size + 1 := by omega
        have Hb1 := Lib.hid hB1
        obtain ⟨ao2, cap2, b2, o2, rfl, hs2', hf2⟩ := hf1
        clear hs2' hf2 hb1 hB1
        have hst := Hi.out.st
        obtain ⟨ao3, cap3, b3, o3, rfl, hs3', hf3⟩ := hst
        clear hs3' hf3
        go_wp2
        have hst' : stopAt l = k := stopAt_eq Hx.out hks Hkn.out
        have e0 : errAt l = 10 := by rw [errAt, hst', if_neg (by omega)]
        have hlo := hown.lt
        refine bodyPost_ret (by simp [results, Tryd.results17, go_sem, d1, z1, j4] <;> rfl) rfl ⟨.slice ao3 q.length cap3, u7, by rw [e0], ?_, ?_, ?_⟩
        · rw [hst', ← Hq.out]
          refine ((((Hi.out.st.below Hb1.out).setCell (p := ⟨w.heap.size + 1, 0, none⟩) (fun hb => ?_) _).mono (fun b _ hb => ?_)).alloc _).alloc _
          · have h3 := hb.2.1; dsimp only at h3; omega
          · exact hb.1.imp id (fun h => by omega)
        · rw [hst']
          refine ((own_base (own_setCell (own_past hown Hb1.out) (fun e => ?_) _) (by omega)).alloc _).alloc _
          have := (hlo _ e).1; dsimp only at this; omega
        · exact ba (ba (bs (hbel.trans (Hb1.out.mono hbel.size)) (by simp) _) _) _
    · have hk' : l.length = k := by omega
      have hst' : stopAt l = k := by have := stopAt_le l; omega
      have HK := Lib.hid hk'
      have Hst := Lib.hid hst'
      have Hi := Lib.hid hinv
      have hst := hinv.st
      obtain ⟨ao3, cap3, b3, o3, rfl, hs3', hf3⟩ := hst
      clear hs3' hf3
      clear hk' hst' hinv
      go_wp2
      have e0 : errAt l = 0 := by rw [errAt, Hst.out, if_pos HK.out.symm]
      have hlo := Hi.out.own.lt
      refine bodyPost_ret (by simp [results, Tryd.results17, go_sem, c1, z] <;> rfl) rfl ⟨.slice ao3 (stN s l k).length cap3, u7, by rw [e0], ?_, ?_, ?_⟩
      · rw [Hst.out]
        refine ((Hi.out.st.setCell (p := ⟨w.heap.size + 1, 0, none⟩) (fun hb => ?_) _).mono (fun b _ hb => ?_))
        · have h3 := hb.2.1; dsimp only at h3; omega
        · exact hb.1.imp id (fun h => by omega)
      · rw [Hst.out]
        refine (own_base (own_setCell Hi.out.own (fun e => ?_) _) (by omega))
        have := (hlo _ e).1; dsimp only at this; omega
      · exact bs hbel (by simp) _
end Go.Proofs.YtfaoakahmllpjaaDoor
