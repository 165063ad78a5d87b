/- bits.Set's Down: contract. Printed from Dn.tmpl. -/
import Derived.Test.YtfjccgihdnemkaaIz
import Derived.Test.YtfjccgihdnemkaaCt
import Derived.Test.YtfjccgihdnemkaaFkp
import Derived.Test.YtfjccgihdnemkaaLisn
import Derived.Test.YtfjccgihdnemkaaStt
namespace Go.Proofs.Ytfjccgihdnemkaa
open Go.RowKit Go.Um Go.Shelf
attribute [local go_sem] Oper.semAt_some
set_option linter.unusedSimpArgs false
set_option linter.unusedVariables false
set_option maxHeartbeats 4000000
set_option maxRecDepth 100000
theorem wpListIn_make_full {F : Fence} {n : Nat} {P : Program} (w : World) {ops : Array Oper} {rest : List Oper} {o : Oper} {a : Act} {Q : Exit → Act → World → Prop}
    (hg : o.guard = none) (l c : Operand) (t : TypeId) (hop : o.op = Op.makeSlice t l c)
    (base : Nat) (e : TypeId) (i : TypeInfo) (z : Value) (size : Nat) (h1 : P.underlying t = some (.slice e)) (h2 : P.info? e = some i) (h3 : i.zero = some z) (h4 : i.size = size)
    (kl kc : IntKind) (L C : Int) (k : Nat) (hl : a.eval l = .int kl L) (hc : a.eval c = .int kc C) (hL : L = (k : Int)) (hC : C = (k : Int)) (b2 : i.bytes * k ≤ 281474976710656) (b3 : k ≤ maxLen) (b4 : base ≤ w.heap.size)
    (hK : ∀ w', w'.ownsRow base e size (.slice (some ⟨w.heap.size, 0, none⟩) k k) k (madeCells z.cells (k * size)).toList → w.grownBy w' none → wpListIn F n P ops Q rest (a.put o.dst (.slice (some ⟨w.heap.size, 0, none⟩) k k)) w') :
    wpListIn F n P ops Q (o :: rest) a w := by
  refine wpListIn_plain hg fun K hK' => ?_
  obtain ⟨w', hrun, r1, r2⟩ := run_make_full (P := P) w base t e i z size h1 h2 h3 h4 kl kc k b2 b3 b4
  subst hL
  subst hC
  unfold Oper.wpIn
  refine ⟨?_, ?_⟩
  · simp [Oper.about, hop]
  · rw [Oper.semAt_plain F _ _ (by rw [hop]; intro c hc'; cases hc')]
    simp [execOp, hop, hl, hc, hrun, Result.andThen]
    exact hK' _ _ (hK w' r1 r2)
/-- the words, cell by cell -/
def RowAt (W : World) (g D m : Nat) : Prop := ∀ j, j < m → W.cell? ⟨g, j, none⟩ = some (.int .u64 (wordN D j : Nat)) ∧ W.frozen? ⟨g, j, none⟩ = false
theorem RowAt.kept {A B : World} {row : Option Nat} {g D m : Nat} (h : RowAt A g D m) (hg : A.grownBy B row) (hr : ∀ r, row = some r → ∃ o : Obj, A.heap[r]? = some o ∧ o.isCells = false) : RowAt B g D m :=
  fun j hj => ⟨cell_kept (h j hj).1 hg hr, (frozen_kept (h j hj).1 hg hr).trans (h j hj).2⟩
theorem RowAt.slat {W : World} {g D m : Nat} (h : RowAt W g D m) (hm : m ≤ 1024) : SlAt W 1 m (u64s (words D m)) (some ⟨g, 0, none⟩) m g 0 :=
  ⟨by rw [u64s_len, words_len, Nat.mul_one], Nat.le_refl _, by unfold maxLen; omega, fun _ => rfl, fun hp => World.block_lt_of_cell? _ _ (h 0 (by rw [u64s_len, words_len] at hp; exact hp)).1, fun j u hu => by
    have hj : j < m := by have := (List.getElem?_eq_some_iff.1 hu).1; rw [u64s_len, words_len] at this; exact this
    rw [u64s_at (words_at D m j hj)] at hu
    cases hu
    rw [Nat.zero_add]; exact (h j hj).1⟩
theorem SetAt.kept {A B : World} {row : Option Nat} {v : Value} {N : Nat} (h : SetAt A v N) (hg : A.grownBy B row) (hr : ∀ r, row = some r → ∃ o : Obj, A.heap[r]? = some o ∧ o.isCells = false) : SetAt B v N := by
  obtain ⟨m, ao, cap, b, o, hv, hs, hn, hm⟩ := h
  exact ⟨m, ao, cap, b, o, hv, ⟨hs.len, hs.le, hs.max, hs.addr, fun hp => Nat.lt_of_lt_of_le (hs.lt hp) hg.size, fun j u hu => cell_kept (hs.cell j u hu) hg hr⟩, hn, hm⟩
theorem div_bit (N b n : Nat) : (N / 2 ^ b).testBit n = N.testBit (b + n) := testBit_div N b n
theorem or_div (D x b : Nat) : (D ||| 2 ^ x) / 2 ^ b = if b ≤ x then D / 2 ^ b ||| 2 ^ (x - b) else D / 2 ^ b := by
  apply Nat.eq_of_testBit_eq
  intro i
  rw [div_bit, Nat.testBit_or, Nat.testBit_two_pow]
  split
  · rename_i h
    rw [Nat.testBit_or, div_bit, Nat.testBit_two_pow]
    have : (x = b + i) ↔ (x - b = i) := by omega
    simp [this]
  · rename_i h
    have : ¬ x = b + i := by omega
    simp [this, div_bit]
theorem orL_upto {N t : Nat} (h : N < 2 ^ t) : orL (upto N t) = N := by
  apply Nat.eq_of_testBit_eq
  intro i
  rw [orL_bit]
  by_cases hb : N.testBit i = true
  · have hi : i < t := by
      refine Classical.byContradiction fun hi => ?_
      rw [testBit_ge h (by omega)] at hb
      cases hb
    rw [decide_eq_true (mem_upto hi hb), hb]
  · have hm : ¬ i ∈ upto N t := fun hm => hb (by unfold upto at hm; exact (List.mem_filter.1 hm).2)
    rw [decide_eq_false hm]
    simpa using hb
theorem down_any {v : Value} {N : Nat} {by0 : Int} {w : World} (h : SetAt w v N) : Calls Try.prog 10 #[v, .int .i64 by0] w (SetPost (N / 2 ^ by0.toNat) w) := by
  obtain ⟨m, ao, cap, b, o, rfl, hs, hneed, hm⟩ := h
  have HS := Lib.hid hs
  have HN := Lib.hid hneed
  have hbw : 0 < m → b < w.heap.size := fun h0 => hs.lt (by rw [u64s_len, words_len]; exact h0)
  have HBW := Lib.hid hbw
  clear hs hneed hbw
  obtain ⟨j0, hj, jz0, jz1, jz2⟩ := info_parts info61
  obtain ⟨B, hB⟩ : ∃ B : Nat, B = by0.toNat := ⟨_, rfl⟩
  rw [← hB]
  have hmx : ∀ w, (Builtin.max_ #[3, 3] 3 #[.int .i64 0, .int .i64 by0]).run Try.prog w = .ok (.int .i64 (B : Int)) w := fun w => by rw [hB]; simp [go_sem]; split <;> omega
  have HBB := Lib.hid hB
  clear hB
  refine (callsIn_wide (n := 4)).1 ?_
  refine callsIn_of_wp_marks Try.func10 rfl trivial ?_ rfl
  simp only [Try.ntmps10, List.size_toArray, List.length_cons, List.length_nil, Nat.reduceAdd, Nat.reduceSub, Array.replicate_succ, Array.replicate_zero, List.push_toArray, List.append_toArray, List.nil_append, List.cons_append]
  gi_wp2_with (first | (gi_at_make; refine wpListIn_make_full _ rfl _ _ 25 rfl w.heap.size 61 j0 (.int .u64 0) 1 Try.underlying25 hj jz0 jz1 .i64 .i64 m m m rfl rfl rfl rfl (by rw [jz2]; omega) (by unfold maxLen; omega) (by simp; omega) ?_; intro w6 hown6 hgrow6; have hc0 : w6.cell? ⟨w.heap.size, 0, none⟩ = some (.slice ao m cap) := cell_kept (by simp [go_sem]) hgrow6 (fun r e => by cases e); have hc1 : w6.cell? ⟨w.heap.size + 1, 0, none⟩ = some (.int .i64 (B : Int)) := cell_kept (by simp [go_sem]) hgrow6 (fun r e => by cases e); have hc2 : w6.cell? ⟨w.heap.size + 1 + 1, 0, none⟩ = some (.slice none 0 0) := cell_kept (by simp [go_sem]) hgrow6 (fun r e => by cases e); have hf2 : w6.frozen? ⟨w.heap.size + 1 + 1, 0, none⟩ = false := (frozen_kept (v := .slice none 0 0) (by simp [go_sem]) hgrow6 (fun r e => by cases e)).trans (by simp [go_sem]); have hd0 := cell_alloc_l (.cells #[Value.slice (some ⟨w.heap.size + 1 + 1 + 1, 0, none⟩) m m] 25) hc0; have HOWN6 := Lib.hid hown6; have HGR6 := Lib.hid hgrow6; clear hown6 hgrow6) | (refine ⟨trivial, ?_⟩; gi_at_call 12; refine (all_in Fence.wide _ trivial rfl _ _ _ _).mono ?_; rintro e w' ⟨rfl, rfl⟩))
  obtain ⟨g, hg⟩ : ∃ g, g = w.heap.size + 1 + 1 + 1 := ⟨_, rfl⟩
  have hrow6 : RowAt w6 g 0 m := fun j hj => by
    have h := HOWN6.out
    rw [made_one _ rfl m] at h
    simp only [World.size_alloc] at h
    rw [← hg] at h
    refine ⟨(h.cellAt j (by omega)).trans ?_, h.frozenAt j⟩
    rw [List.getElem?_replicate, if_pos hj]
    simp [wordN]
  have hb6 : Below w.heap.size w w6 := by
    have h1 : Below w.heap.size w (((w.alloc (.cells #[.slice ao m cap] 27)).alloc (.cells #[.int .i64 (B : Int)] 3)).alloc (.cells #[.slice none 0 0] 27)) := (((Below.refl _ w).alloc (Nat.le_refl _) _).alloc (by simp) _).alloc (by simp; omega) _
    exact h1.grown HGR6.out (by simp; omega) (fun k e => by cases e)
  have hs6 : w.heap.size + 3 < w6.heap.size ∨ m = 0 ∨ True := .inr (.inr trivial)
  clear hs6
  have hsz6 : g ≤ w6.heap.size := by have := HGR6.out.size; simp at this; omega
  rw [← hg]
  rw [← hg] at hd0
  have c5 := cell_new_l w6 (.slice (some ⟨g, 0, none⟩) m m) 25
  have c6 := cell_new_l (w6.alloc (.cells #[.slice (some ⟨g, 0, none⟩) m m] 25)) (.slice ao m cap) 27
  simp only [World.size_alloc] at c6
  obtain ⟨w7, hw7⟩ : ∃ w7, w7 = w6.alloc (.cells #[.slice (some ⟨g, 0, none⟩) m m] 25) := ⟨_, rfl⟩
  obtain ⟨p6, hp6⟩ : ∃ p, p = w6.heap.size := ⟨_, rfl⟩
  have hb7 : Below w.heap.size w w7 := by rw [hw7]; exact hb6.alloc (by omega) _
  have hs7 : w7.heap.size = p6 + 1 := by rw [hw7, hp6]; simp
  have hrow7 : RowAt w7 g 0 m := by rw [hw7]; exact hrow6.kept (World.grownBy_alloc w6 _ none) (fun r e => by cases e)
  have hd1 : w7.cell? ⟨w.heap.size + 1, 0, none⟩ = some (.int .i64 (B : Int)) := by rw [hw7]; exact cell_alloc_l _ hc1
  have hd2 : w7.cell? ⟨w.heap.size + 1 + 1, 0, none⟩ = some (.slice none 0 0) := by rw [hw7]; exact cell_alloc_l _ hc2
  have he2 : w7.frozen? ⟨w.heap.size + 1 + 1, 0, none⟩ = false := by rw [hw7]; exact frozen_alloc_l _ hc2 hf2
  rw [← hw7, ← hp6] at c6
  rw [← hp6] at c5
  have hd5 : w7.cell? ⟨p6, 0, none⟩ = some (.slice (some ⟨g, 0, none⟩) m m) := by rw [hw7]; exact c5.1
  rw [← hw7] at hd0 ⊢
  rw [← hp6]
  have hgp : w.heap.size + 1 + 1 + 1 ≤ p6 := by omega
  have HGP : Hid (0 < m → g < p6) := Lib.hid (fun h0 => by rw [hp6]; exact World.block_lt_of_cell? _ _ (hrow6 0 h0).1)
  have HG := Lib.hid hg
  clear hg hmx c5 hc0 hc1 hc2 hf2 hrow6 hb6 HOWN6 HGR6 hw7 hp6 hd0
  refine wpIn_rangeFunc_ownF rfl (by omega) (gf := 31) (lb := #[.pointer (some ⟨p6 + 1, 0, none⟩)]) rfl trivial (enters_of Try.func31 (by kernel_rfl) rfl)
    (all_stops Fence.wide _ trivial rfl (by omega) (p6 + 1) w.heap.size N m ao cap b o _ (by simp; omega) (by simp; omega) HBW.out HN.out hm c6.1 (HS.out.below (hb7.alloc (by omega) _))) belowK_t (belowK_b (by simp; omega)) (Below.refl _ _) (fun _ => rfl)
    (fun pre W => (W.cell? ⟨w.heap.size + 1, 0, none⟩ = some (.int .i64 (B : Int)) ∧ (W.cell? ⟨w.heap.size + 1 + 1, 0, none⟩ = some (.slice none 0 0) ∧ W.frozen? ⟨w.heap.size + 1 + 1, 0, none⟩ = false) ∧ W.cell? ⟨p6, 0, none⟩ = some (.slice (some ⟨g, 0, none⟩) m m) ∧ RowAt W g (orL (vals N pre) / 2 ^ B) m) ∧ Below w.heap.size w W)
    (fun _ _ _ => False)
    (OwnFrom.and (Own.from (fun s A B row hs hg hr => ⟨cell_kept hs.1 hg hr, ⟨cell_kept hs.2.1.1 hg hr, (frozen_kept hs.2.1.1 hg hr).trans hs.2.1.2⟩, cell_kept hs.2.2.1 hg hr, hs.2.2.2.kept hg hr⟩) _) (ownFrom_below (Nat.le_refl _) (by simp; omega)))
    (fun _ _ _ _ _ hs _ _ => hs)
    ⟨⟨cell_alloc_l _ hd1, ⟨cell_alloc_l _ hd2, frozen_alloc_l _ hd2 he2⟩, cell_alloc_l _ hd5, by have := hrow7.kept (World.grownBy_alloc w7 (.cells #[.slice ao m cap] 27) none) (fun r e => by cases e); simpa [vals, orL] using this⟩, hb7.alloc (by omega) _⟩
    (fun x => { tmps := #[.agg #[.slice ao m cap], .int .i64 by0, .pointer (some ⟨w.heap.size, 0, none⟩), .pointer (some ⟨w.heap.size + 1, 0, none⟩), .pointer (some ⟨w.heap.size + 1 + 1, 0, none⟩), .pointer (some ⟨p6, 0, none⟩), .int .i64 (x.1 : Int), .int .i64 by0, .int .i64 (B : Int), .pointer (some ⟨w.heap.size, 0, none⟩), .slice ao m cap, .int .i64 m, .slice (some ⟨g, 0, none⟩) m m, .agg #[.slice ao m cap], .func (.func 31) #[] #[.pointer (some ⟨p6 + 1, 0, none⟩)], .int .i64 (x.1 : Int), undef, undef, undef, undef, undef, undef, undef, undef, undef, undef, undef, undef, undef, undef, undef, undef, undef, undef, undef], defers := [] }) ?assign ?body ?done ?stop
  case assign =>
    intro l x W K hK
    gi_wp2
    exact hK
  case body =>
    rintro l pre x W ⟨⟨hc1, ⟨hc2, hf2⟩, hc5, hrow⟩, hB⟩ hlen
    have hx64 : x.1 < 64 * m := by
      refine Classical.byContradiction fun hi => ?_
      have := testBit_ge HN.out.lt (n := x.1) (by omega)
      rw [x.2] at this
      cases this
    obtain ⟨X, hX⟩ : ∃ X, X = x.1 := ⟨_, rfl⟩
    rw [← hX] at hx64 ⊢
    have hD : orL (vals N (pre ++ [x])) / 2 ^ B = if B ≤ X then orL (vals N pre) / 2 ^ B ||| 2 ^ (X - B) else orL (vals N pre) / 2 ^ B := by rw [vals_snoc, orL_snoc, or_div, ← hX]
    obtain ⟨D', hD'⟩ : ∃ D, D = orL (vals N (pre ++ [x])) / 2 ^ B := ⟨_, rfl⟩
    rw [← hD'] at hD
    have HD' := Lib.hid hD'
    obtain ⟨D, hDD⟩ : ∃ D, D = orL (vals N pre) / 2 ^ B := ⟨_, rfl⟩
    rw [← hDD] at hD hrow
    clear hX hD' hDD
    by_cases hge : B ≤ X
    · rw [if_pos hge] at hD
      have k1 : (B : Int) ≤ (X : Int) := by omega
      obtain ⟨E, hE⟩ : ∃ E, E = X - B := ⟨_, rfl⟩
      have e1 : (X : Int) - (B : Int) = (E : Int) := by omega
      obtain ⟨q, hq⟩ : ∃ q, q = E / 64 := ⟨_, rfl⟩
      obtain ⟨r, hr⟩ : ∃ r, r = E % 64 := ⟨_, rfl⟩
      have hr64 : r < 64 := by omega
      have hqm : q < m := by omega
      have E0 : (0 : Int) ≤ (E : Int) := by omega
      have q0 : (0 : Int) ≤ (q : Int) := by omega
      have q1 : (q : Int) < (m : Int) := by omega
      have r0 : ¬ (r : Int) < 0 := by omega
      have d1 : (E : Int) / 64 = (q : Int) := by omega
      have d2 : (E : Int) % 64 = (r : Int) := by omega
      have d3 : (E : Int).tdiv 64 = (q : Int) := by rw [Int.tdiv_eq_ediv_of_nonneg E0]; exact d1
      have d4 : (E : Int).tmod 64 = (r : Int) := by rw [Int.tmod_eq_emod_of_nonneg E0]; exact d2
      have d5 : IntKind.i64.wrap (q : Int) = (q : Int) := IntWalk.i64_in _ (by omega)
      have d6 : IntKind.i64.wrap (r : Int) = (r : Int) := IntWalk.i64_in _ (by omega)
      have d7 : IntKind.i64.wrap (E : Int) = (E : Int) := IntWalk.i64_in _ (by omega)
      have hlt64 := wordN_lt D q
      obtain ⟨R2, hR2⟩ : ∃ R, R = 2 ^ r := ⟨_, rfl⟩
      have hR64 : R2 < 2 ^ 64 := by rw [hR2]; exact Nat.pow_lt_pow_right (by decide) hr64
      have d8 : IntKind.u64.wrap (2 ^ r) = (R2 : Int) := by
        have := pow64
        rw [show ((2 : Int) ^ r) = ((2 ^ r : Nat) : Int) by simp, ← hR2]
        exact wrapu64_in (by omega)
      have hgq := hrow q hqm
      obtain ⟨Y, hY⟩ : ∃ Y, Y = wordN D q := ⟨_, rfl⟩
      rw [← hY] at hgq hlt64
      obtain ⟨gq, fq⟩ := hgq
      obtain ⟨Z, hZ⟩ : ∃ Z, Z = Y ||| R2 := ⟨_, rfl⟩
      have d9 : bits BinOp.or IntKind.u64 (Y : Int) (R2 : Int) = (Z : Int) := by rw [hZ]; exact bits_or64 _ _ hlt64 hR64
      have HNEW : Hid (∀ j, wordN D' j = if j = q then Z else wordN D j) := Lib.hid (fun j => by
        rw [hD, ← hE, word_or, ← hq, ← hr, ← hR2]
        by_cases e : j = q
        · subst e; simp [hZ, hY]
        · simp [e])
      have HROW := Lib.hid hrow
      clear hD hE hq hr hR2 hR64 hlt64 hY hZ hrow hge
      have gq' : W.drew.cell? ⟨g, q, none⟩ = some (.int .u64 Y) := gq
      have fq' : W.drew.frozen? ⟨g, q, none⟩ = false := fq
      have hc1' : W.drew.cell? ⟨w.heap.size + 1, 0, none⟩ = some (.int .i64 (B : Int)) := hc1
      have hc5' : W.drew.cell? ⟨p6, 0, none⟩ = some (.slice (some ⟨g, 0, none⟩) m m) := hc5
      gi_wp2
      refine wpIn_region_still_tail 14 (by kernel_rfl) (by kernel_rfl) (by rfl) ?_
      simp only [List.take_succ_cons, List.take_zero, List.drop_succ_cons, List.drop_zero]
      repeat still_step
      try refine wpStill_nil ?_
      change wpListIn _ _ _ _ _ _ _ W.drew
      have hB' : Below w.heap.size w W.drew := hB.drew
      have hrow' : Hid (RowAt W.drew g D m) := Lib.hid (fun j hj => HROW.out j hj)
      have hk' : KeepsOthers W W.drew := KeepsOthers.drew W
      have hbb : Below w.heap.size W W.drew := (Below.refl _ W).drew
      have hc2' : W.drew.cell? ⟨w.heap.size + 1 + 1, 0, none⟩ = some (.slice none 0 0) := hc2
      have hf2' : W.drew.frozen? ⟨w.heap.size + 1 + 1, 0, none⟩ = false := hf2
      generalize W.drew = W4 at *
      clear gq fq hc1 hc2 hc5 hf2 d1 d2 d3 d4 d5 d6 d7 d8 d9
      gi_wp2
      have hG := HG.out
      have hGP := HGP.out (by omega)
      refine ⟨hk'.trans (KeepsOthers.setCell _ _ _), hbb.setCell (p := ⟨g, q, none⟩) (by simp <;> omega) _, ⟨cset (by simp <;> omega) hc1', ⟨cset (by simp <;> omega) hc2', by rw [World.frozen?_setCell]; exact hf2'⟩, cset (by simp <;> omega) hc5', fun j hj => ?_⟩, hB'.setCell (p := ⟨g, q, none⟩) (by simp <;> omega) _⟩
      rw [← HD'.out, HNEW.out j]
      by_cases e : j = q
      · subst e
        exact ⟨by rw [if_pos rfl]; exact World.cell?_setCell_same' _ _ _ (by rw [gq']; rfl), by rw [World.frozen?_setCell]; exact fq'⟩
      · rw [if_neg e]
        refine ⟨?_, by rw [World.frozen?_setCell]; exact (hrow'.out j hj).2⟩
        exact (World.cell?_setCell_other (w := W4) (a := ⟨g, q, none⟩) (b := ⟨g, j, none⟩) (v := .int .u64 (Z : Int)) (by simp only [ne_eq, Addr.mk.injEq]; intro h; exact e h.2.1.symm)).trans (hrow'.out j hj).1
    · rw [if_neg hge] at hD
      have k1 : ¬ (B : Int) ≤ (X : Int) := by omega
      subst hD
      have HROW := Lib.hid hrow
      clear hrow
      gi_wp2
      refine ⟨KeepsOthers.refl _, Below.refl _ _, ⟨hc1, ⟨hc2, hf2⟩, hc5, ?_⟩, hB⟩
      rw [← HD'.out]; exact HROW.out
  case done =>
    rintro D ys W hD hys ⟨⟨hc1, ⟨hc2, hf2⟩, hc5, hrow⟩, hB⟩ hK
    rw [hys, orL_upto HN.out.lt] at hrow
    have HC := Lib.hid (fun W' (hW' : Below W.heap.size W W') => cut_any (N / 2 ^ B) m (some ⟨g, 0, none⟩) m g 0 W' ((hrow.slat hm).below hW') (Nat.lt_of_le_of_lt (Nat.div_le_self _ _) HN.out.lt) hm)
    have HBB2 := Lib.hid hB
    have HKK := Lib.hid hK
    have HDD := Lib.hid hD
    clear hrow hB hK hD hys
    gi_wp2_with fail
    refine ⟨trivial, ?_⟩
    refine (callsIn_wide.2 (HC.out _ (bz W))).mono ?_
    rintro e w1 ⟨v, rfl, hset, hb1⟩
    have HSET := Lib.hid hset
    obtain ⟨m1, ao1, cap1, b1, o1, rfl, hs1, hn1, hm1⟩ := hset
    replace hf2 := (hb1.frozen (World.block_lt_of_cell? _ _ hc2)).trans hf2
    replace hc2 := cell_past_ hb1 hc2
    have HB1 := Lib.hid (bt HBB2.out hb1)
    have HK1 := Lib.hid ((keeps_of_below hb1).same D _ HKK.out rfl)
    clear hs1 hn1 hb1
    gi_wp2
    have hK4 := (KeepsOthers.setCell w1 ⟨w.heap.size + 1 + 1, 0, none⟩ (.slice ao1 m1 cap1)).same D _ HK1.out rfl
    refine ⟨by simp, .inl ⟨_, _, rfl, run_takeDeferred hK4, ?_⟩⟩
    have hc5 := cell_kept (World.cell?_setCell_same' w1 ⟨w.heap.size + 1 + 1, 0, none⟩ (.slice ao1 m1 cap1) (by rw [hc2]; rfl)) (grownBy_putObj' _ D (.deferred none)) (fun r e => by cases e; exact ⟨_, hK4, rfl⟩)
    have hlt := World.block_lt_of_cell? _ _ hc2
    have hsame := set_other HSET.out hc2 (fun x => by simp) (.slice ao1 m1 cap1)
    have hDw : (w1.setCell ⟨w.heap.size + 1 + 1, 0, none⟩ (.slice ao1 m1 cap1)).heap.size = w1.heap.size := by simp
    refine ⟨.agg #[.slice ao1 m1 cap1], ?_, _, rfl, ?_, (HB1.out.setCell (p := ⟨w.heap.size + 1 + 1, 0, none⟩) (by simp <;> omega) _).trans (belowK_b (w := w) (Nat.le_refl _) _ D _ _ (by have hD := HDD.out; simp at hD; omega) hK4 rfl rfl)⟩
    · simp [results, Try.f10, go_sem, hc5]
    · exact hsame.kept (grownBy_putObj' _ D (.deferred none)) (fun r e => by cases e; exact ⟨_, hK4, rfl⟩)
  case stop =>
    rintro D c pre W _ _ h _
    exact h.elim
end Go.Proofs.Ytfjccgihdnemkaa
