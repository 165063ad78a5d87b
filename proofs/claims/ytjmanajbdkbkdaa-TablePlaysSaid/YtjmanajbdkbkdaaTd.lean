/- The table: Invoke. -/
import Derived.Test.YtjmanajbdkbkdaaTc
namespace Go.Proofs.Ytjmanajbdkbkdaa
open Go.RowKit Go.Um
set_option linter.unusedSimpArgs false
set_option linter.unusedVariables false
set_option maxHeartbeats 4000000
set_option maxRecDepth 100000
/-- what a table may turn: its own blocks -/
def Own (p : Nat) (v : Value) (b : Nat) : Prop := b = p ∨ v.ownBlock = some b
/-- the row stays where it was, or lies anew -/
def Fresh (w : World) (v v' : Value) : Prop := v'.ownBlock = v.ownBlock ∨ ∃ g, v'.ownBlock = some g ∧ w.heap.size ≤ g
def TPost (base : Nat) (p : Nat) (v : Value) (E : Int) (L' : List Rw) (nx' : Int) (w : World) (e : Ending) (w' : World) : Prop :=
  e = .returned (.int .i64 E) ∧ ∃ v', TabAt base w' p v' L' nx' ∧ Kept (Own p v) w w' ∧ Fresh w v v'
theorem TPost.stay {base : Nat} {w w' : World} {p : Nat} {v : Value} {L : List Rw} {nx E : Int} (h : TabAt base w p v L nx) (hb : Below w.heap.size w w') : TPost base p v E L nx w (.returned (.int .i64 E)) w' :=
  ⟨rfl, v, h.below hb, (Kept.of_below hb).mono (fun i hi h => absurd h (by omega)), .inl rfl⟩
def invE (nx : Int) (L : List Rw) (id a : Int) : Int := if moE nx a ≠ 0 then moE nx a else if 0 ≤ ixF L id then 8 else 0
def invL (nx : Int) (L : List Rw) (x : Rw) : List Rw := if invE nx L x.id x.fr = 0 then L ++ [x] else L
def invN (nx : Int) (L : List Rw) (x : Rw) : Int := if invE nx L x.id x.fr = 0 then x.fr + 1 else nx
/-- a row that is open -/
def newR (cl id f ob ke a b t : Int) : Rw := ⟨cl, id, f, ob, ke, a, b, 0, 0, 0, t, 4611686018427387904⟩
theorem moE_cases (nx a : Int) : moE nx a = 2 ∨ (moE nx a = 0 ∧ nx ≤ a ∧ a ≤ 2305843009213693952) := by
  unfold moE
  split
  · exact .inl rfl
  · exact .inr ⟨rfl, by omega, by omega⟩
theorem put_end {base : Nat} {w W w3 : World} {p g n cap3 H : Nat} {v : Value} {L : List Rw} {x : Rw} {nx t : Int} (hT : TabAt base w p v L nx) (hbase : base ≤ w.heap.size) (hn : n = L.length) (hW : Below w.heap.size w W) (hg : W.grownBy w3 v.ownBlock)
    (hown : w3.ownsRow base 41 12 (.slice (some ⟨g, 0, none⟩) (n + 1) cap3) (n + 1) (L.flatMap Rw.cells ++ x.cells)) (hat : v.ownBlock = some g ∨ g = H) (hH : w.heap.size ≤ H) :
    TPost base p v 0 (L ++ [x]) t w (.returned (.int .i64 0)) ((w3.setCell ⟨p, 0, none⟩ (.slice (some ⟨g, 0, none⟩) (n + 1) cap3)).setCell ⟨p, 1, none⟩ (.int .i64 t)) := by
  have hp := hT.lt
  have hpW : p < W.heap.size := Nat.lt_of_lt_of_le hp hW.size
  have hTW := hT.below hW
  have hne : some p ≠ v.ownBlock := fun e => hT.ne e.symm
  have hgp : g ≠ p := by
    rcases hat with h | h
    · intro e; rw [e] at h; exact hT.ne h
    · omega
  have k0 : w3.cell? ⟨p, 0, none⟩ = some v := (hg.cell_far ⟨p, 0, none⟩ hpW hne).trans hTW.c0
  have k1 : w3.cell? ⟨p, 1, none⟩ = some (.int .i64 nx) := (hg.cell_far ⟨p, 1, none⟩ hpW hne).trans hTW.c1
  have k2 : w3.cell? ⟨p, 2, none⟩ = some (.bool true) := (hg.cell_far ⟨p, 2, none⟩ hpW hne).trans hTW.c2
  have j0 : w3.frozen? ⟨p, 0, none⟩ = false := (hg.frozen_far ⟨p, 0, none⟩ hpW hne).trans hTW.f0
  have j1 : w3.frozen? ⟨p, 1, none⟩ = false := (hg.frozen_far ⟨p, 1, none⟩ hpW hne).trans hTW.f1
  refine ⟨rfl, .slice (some ⟨g, 0, none⟩) (n + 1) cap3, ⟨?_, ?_, ?_, ?_, ?_, ?_, ?_⟩, ?_, ?_⟩
  · rw [World.cell?_setCell_other _ _ _ _ (by simp)]; exact World.cell?_setCell_same _ _ _ k0
  · rw [World.frozen?_setCell, World.frozen?_setCell]; exact j0
  · have k1' : (w3.setCell ⟨p, 0, none⟩ (.slice (some ⟨g, 0, none⟩) (n + 1) cap3)).cell? ⟨p, 1, none⟩ = some (.int .i64 nx) := by rw [World.cell?_setCell_other _ _ _ _ (by simp)]; exact k1
    exact World.cell?_setCell_same _ _ _ k1'
  · rw [World.frozen?_setCell, World.frozen?_setCell]; exact j1
  · rw [World.cell?_setCell_other _ _ _ _ (by simp), World.cell?_setCell_other _ _ _ _ (by simp)]; exact k2
  · rw [List.length_append, List.flatMap_append, ← hn]
    simp only [List.length_cons, List.length_nil, List.flatMap_cons, List.flatMap_nil, List.append_nil, Nat.zero_add]
    exact own_setCell (own_setCell hown (by simp only [Value.ownBlock]; intro e; exact hgp (Option.some.inj e)) _) (by simp only [Value.ownBlock]; intro e; exact hgp (Option.some.inj e)) _
  · simp only [Value.ownBlock]; intro e; exact hgp (Option.some.inj e)
  · have h1 : Kept (Own p v) w W := (Kept.of_below hW).mono (fun i hi h => absurd h (by omega))
    exact ((h1.grown hg (fun k e _ => .inr e)).setCell (p := ⟨p, 0, none⟩) (fun _ => .inl rfl) _).setCell (p := ⟨p, 1, none⟩) (fun _ => .inl rfl) _
  · rcases hat with h | h
    · exact .inl (by rw [h]; rfl)
    · exact .inr ⟨g, rfl, by omega⟩
theorem invoke_any {base : Nat} {w : World} {p : Nat} {v : Value} {L : List Rw} {nx : Int} (cl id f ob ke a b t : Int) (h : TabAt base w p v L nx) (hlen : L.length ≤ 1000) (hbase : base ≤ w.heap.size) (hnx : 0 ≤ nx) :
    Calls Try.prog 11 #[.pointer (some ⟨p, 0, none⟩), .int .u8 cl, .int .u16 id, .agg #[.int .u8 f, .int .u8 ob, .int .u8 ke, .int .u16 a, .int .u16 b], .int .i64 t] w
      (TPost base p v (invE nx L id t) (invL nx L (newR cl id f ob ke a b t)) (invN nx L (newR cl id f ob ke a b t)) w) := by
  have HM := Lib.hid (fun W (hb : Below w.heap.size w W) => moment_any t (h.below hb))
  have HW := Lib.hid (fun W (hb : Below w.heap.size w W) => where_any id (h.below hb) (by omega))
  rcases moE_cases nx t with hm | ⟨hm, hb1, hb2⟩
  · rw [hm] at HM
    have e1 : invE nx L id t = 2 := by unfold invE; rw [hm, if_pos (by decide)]
    have e2 : invL nx L (newR cl id f ob ke a b t) = L := by unfold invL; rw [if_neg (by show ¬ invE nx L id t = 0; rw [e1]; decide)]
    have e3 : invN nx L (newR cl id f ob ke a b t) = nx := by unfold invN; rw [if_neg (by show ¬ invE nx L id t = 0; rw [e1]; decide)]
    rw [e1, e2, e3]
    have HH := Lib.hid h
    clear h hm e1 e2 e3 HW
    go_enter Try.func11, Try.ntmps11
    go_wp2_with fail
    refine (HM.out _ (ba (bz w) _)).mono ?_
    rintro e w1 ⟨rfl, rfl⟩
    go_wp2
    go_ret
    exact TPost.stay HH.out (ba (bz w) _)
  · rw [hm] at HM
    obtain ⟨ix, hix⟩ : ∃ x, x = ixF L id := ⟨_, rfl⟩
    rw [← hix] at HW
    by_cases h0 : 0 ≤ ix
    · have e1 : invE nx L id t = 8 := by unfold invE; rw [hm, if_neg (by decide), if_pos (by rw [← hix]; exact h0)]
      have e2 : invL nx L (newR cl id f ob ke a b t) = L := by unfold invL; rw [if_neg (by show ¬ invE nx L id t = 0; rw [e1]; decide)]
      have e3 : invN nx L (newR cl id f ob ke a b t) = nx := by unfold invN; rw [if_neg (by show ¬ invE nx L id t = 0; rw [e1]; decide)]
      rw [e1, e2, e3]
      have HH := Lib.hid h
      have d1 : decide (0 ≤ ix) = true := decide_eq_true h0
      clear h hm e1 e2 e3 hix
      go_enter Try.func11, Try.ntmps11
      go_wp2_with fail
      refine (HM.out _ (ba (bz w) _)).mono ?_
      rintro e w1 ⟨rfl, rfl⟩
      go_wp2_with fail
      refine (HW.out _ (ba (bz w) _)).mono ?_
      rintro e w2 ⟨rfl, hb2⟩
      have HB2 := Lib.hid (bt (ba (bz w) _) hb2)
      clear hb2
      go_wp2
      go_ret
      exact TPost.stay HH.out HB2.out
    · have e1 : invE nx L id t = 0 := by unfold invE; rw [hm, if_neg (by decide), if_neg (by rw [← hix]; exact h0)]
      have e2 : invL nx L (newR cl id f ob ke a b t) = L ++ [newR cl id f ob ke a b t] := by unfold invL; rw [if_pos (by show invE nx L id t = 0; exact e1)]
      have e3 : invN nx L (newR cl id f ob ke a b t) = t + 1 := by unfold invN; rw [if_pos (by show invE nx L id t = 0; exact e1)]; rfl
      rw [e1, e2, e3]
      have d1 : decide (0 ≤ ix) = false := decide_eq_false h0
      have hw1 : IntKind.i64.wrap (t + 1) = t + 1 := IntWalk.i64_in _ (by omega)
      obtain ⟨j0, hj, jz0, jz1, jz2⟩ := info_parts info41
      have hpl := h.lt
      obtain ⟨x, hx⟩ : ∃ x, x = newR cl id f ob ke a b t := ⟨_, rfl⟩
      rw [← hx]
      have HX := Lib.hid hx
      have HH := Lib.hid h
      obtain ⟨ao, cap, b0, o, hv, -⟩ := h.slat
      subst hv
      obtain ⟨n, hn⟩ : ∃ n, n = L.length := ⟨_, rfl⟩
      have HN := Lib.hid hn
      rw [← hn] at HH hlen
      clear h hm e1 e2 e3 hix hx hn
      rw [← HN.out]
      go_enter Try.func11, Try.ntmps11
      go_wp2_with fail
      refine (HM.out _ (ba (bz w) _)).mono ?_
      rintro e w1 ⟨rfl, rfl⟩
      go_wp2_with fail
      refine (HW.out _ (ba (bz w) _)).mono ?_
      rintro e w2 ⟨rfl, hb2⟩
      have HB2 := Lib.hid (bt (ba (bz w) _) hb2)
      have q0 := cell_past hb2 (show (w.alloc (.cells #[.int .u8 f, .int .u8 ob, .int .u8 ke, .int .u16 a, .int .u16 b] 29)).cell? ⟨w.heap.size, 0, none⟩ = some (.int .u8 f) by simp [go_sem])
      have q1 := cell_past hb2 (show (w.alloc (.cells #[.int .u8 f, .int .u8 ob, .int .u8 ke, .int .u16 a, .int .u16 b] 29)).cell? ⟨w.heap.size, 1, none⟩ = some (.int .u8 ob) by simp [go_sem])
      have q2 := cell_past hb2 (show (w.alloc (.cells #[.int .u8 f, .int .u8 ob, .int .u8 ke, .int .u16 a, .int .u16 b] 29)).cell? ⟨w.heap.size, 2, none⟩ = some (.int .u8 ke) by simp [go_sem])
      have q3 := cell_past hb2 (show (w.alloc (.cells #[.int .u8 f, .int .u8 ob, .int .u8 ke, .int .u16 a, .int .u16 b] 29)).cell? ⟨w.heap.size, 3, none⟩ = some (.int .u16 a) by simp [go_sem])
      have q4 := cell_past hb2 (show (w.alloc (.cells #[.int .u8 f, .int .u8 ob, .int .u8 ke, .int .u16 a, .int .u16 b] 29)).cell? ⟨w.heap.size, 4, none⟩ = some (.int .u16 b) by simp [go_sem])
      have HT := Lib.hid (HH.out.below HB2.out)
      have hz2 : w.heap.size < w2.heap.size := World.block_lt_of_cell? _ _ q0
      have c0 := HT.out.c0
      have c1 := HT.out.c1
      have f0 := HT.out.f0
      have f1 := HT.out.f1
      have hown : w2.ownsRow base 41 12 (.slice ao n cap) n (L.flatMap Rw.cells) := by have := HT.out.own; rwa [← HN.out] at this
      have hne : (Value.slice ao n cap).ownBlock ≠ some p := HT.out.ne
      have c2 := HT.out.c2
      have hpl2 : p < w2.heap.size := by omega
      have hnew : some w.heap.size ≠ (Value.slice ao n cap).ownBlock := fun e => by
        have := (own_lt HH.out.own e.symm).2
        omega
      clear hb2 HM HW
      go_wp2_with fail
      go_region_law ((refine step_append_lies _ rfl (.tmp 26) (.tmp 32) 38 rfl base 41 j0 Rw.zero.val 12 40 Try.underlying38 hj jz0 jz1 jz2 rfl (by decide) (.slice ao n cap) n (L.flatMap Rw.cells) (by simp [Act.eval, Act.put]) (by repeat (first | (with_reducible exact hown) | (with_reducible apply World.ownsRow.alloc) | (with_reducible apply World.ownsRow.drew))) ⟨w2.heap.size, 0, none⟩ 1 1 (newR cl id f ob ke a b t).cells (by simp [Act.eval, Act.put]) rfl (new_cells _ _ _ _ (by simp)) (Rw.one _) (by decide) (by unfold maxLen; omega) (by omega) (by simp; omega) _ rfl ?_; intro g cap3 w3 hown3 hgrow3 hat3 hlt3; have c0' : w3.cell? ⟨p, 0, none⟩ = some (.slice ao n cap) := hgrow3.cell (a := ⟨p, 0, none⟩) (by (repeat (first | (with_reducible assumption) | (with_reducible apply keep_alloc) | (with_reducible apply keep_drew)))) (Ne.symm hne); have c1' : w3.cell? ⟨p, 1, none⟩ = some (.int .i64 nx) := hgrow3.cell (a := ⟨p, 1, none⟩) (by (repeat (first | (with_reducible assumption) | (with_reducible apply keep_alloc) | (with_reducible apply keep_drew)))) (Ne.symm hne); have c2' : w3.cell? ⟨p, 2, none⟩ = some (.bool true) := hgrow3.cell (a := ⟨p, 2, none⟩) (by (repeat (first | (with_reducible assumption) | (with_reducible apply keep_alloc) | (with_reducible apply keep_drew)))) (Ne.symm hne); have q0' : w3.cell? ⟨w.heap.size, 0, none⟩ = some (.int .u8 f) := hgrow3.cell (a := ⟨w.heap.size, 0, none⟩) (by (repeat (first | (with_reducible assumption) | (with_reducible apply keep_alloc) | (with_reducible apply keep_drew)))) hnew; have q1' : w3.cell? ⟨w.heap.size, 1, none⟩ = some (.int .u8 ob) := hgrow3.cell (a := ⟨w.heap.size, 1, none⟩) (by (repeat (first | (with_reducible assumption) | (with_reducible apply keep_alloc) | (with_reducible apply keep_drew)))) hnew; have q2' : w3.cell? ⟨w.heap.size, 2, none⟩ = some (.int .u8 ke) := hgrow3.cell (a := ⟨w.heap.size, 2, none⟩) (by (repeat (first | (with_reducible assumption) | (with_reducible apply keep_alloc) | (with_reducible apply keep_drew)))) hnew; have q3' : w3.cell? ⟨w.heap.size, 3, none⟩ = some (.int .u16 a) := hgrow3.cell (a := ⟨w.heap.size, 3, none⟩) (by (repeat (first | (with_reducible assumption) | (with_reducible apply keep_alloc) | (with_reducible apply keep_drew)))) hnew; have q4' : w3.cell? ⟨w.heap.size, 4, none⟩ = some (.int .u16 b) := hgrow3.cell (a := ⟨w.heap.size, 4, none⟩) (by (repeat (first | (with_reducible assumption) | (with_reducible apply keep_alloc) | (with_reducible apply keep_drew)))) hnew; have f0' : w3.frozen? ⟨p, 0, none⟩ = false := (hgrow3.frozen_far ⟨p, 0, none⟩ (by simp; omega) (Ne.symm hne)).trans (by simp [go_sem, hpl2, f0]); have f1' : w3.frozen? ⟨p, 1, none⟩ = false := (hgrow3.frozen_far ⟨p, 1, none⟩ (by simp; omega) (Ne.symm hne)).trans (by simp [go_sem, hpl2, f1]); have HO3 := Lib.hid hown3; have HG3 := Lib.hid hgrow3; have HA3 := Lib.hid hat3; clear hown3 hgrow3 hat3))
      all_goals go_wp2
      all_goals go_ret
      all_goals rw [HX.out]
      all_goals exact put_end HH.out hbase HN.out (by repeat (first | (with_reducible exact HB2.out) | (with_reducible apply ba) | (with_reducible apply Below.drew))) HG3.out HO3.out HA3.out (by have := HB2.out.size; simp; omega)
end Go.Proofs.Ytjmanajbdkbkdaa
