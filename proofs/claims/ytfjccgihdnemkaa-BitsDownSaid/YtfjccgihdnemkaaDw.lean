/- umpirelaw15's BitsDown: the walk. Printed from Dw.tmpl. -/
import Derived.Test.YtfjccgihdnemkaaAw
import Derived.Test.YtfjccgihdnemkaaGp
import Derived.Test.YtfjccgihdnemkaaTake
namespace Go.Proofs.Ytfjccgihdnemkaa
open Go.RowKit Go.Um Go.Shelf
attribute [local go_sem] Oper.semAt_some
set_option linter.unusedSimpArgs false
set_option linter.unusedVariables false
set_option maxHeartbeats 4000000
set_option maxRecDepth 100000
theorem upto_down (N x : Nat) : ∀ k, ((upto N (x + k)).filter fun n => decide (x ≤ n)).map (· - x) = upto (N / 2 ^ x) k
  | 0 => by
    rw [Nat.add_zero, List.filter_eq_nil_iff.2]
    · rfl
    · intro n hn
      unfold upto at hn
      have := List.mem_range.1 (List.mem_filter.1 hn).1
      simp; omega
  | k + 1 => by
    rw [show x + (k + 1) = (x + k) + 1 by omega, upto_succ, upto_succ, List.filter_append, List.map_append, upto_down N x k, div_bit]
    cases N.testBit (x + k) <;> simp
theorem allN_down {N : Nat} (h : ∀ n, 65536 ≤ n → N.testBit n = false) (x : Nat) : (allN (N / 2 ^ x)).length = ((allN N).filter fun n => decide (x ≤ n)).length := by
  have h1 := upto_down N x 65536
  have h2 := upto_more (N := N) (t := 65536) h x
  rw [show x + 65536 = 65536 + x by omega, h2] at h1
  unfold allN
  rw [← h1, List.length_map]
theorem SetAt.bits {w : World} {v : Value} {N : Nat} (h : SetAt w v N) : ∀ n, 65536 ≤ n → N.testBit n = false := by
  obtain ⟨m, ao, cap, b, o, hv, hs, hn, hm⟩ := h
  exact fun n hn2 => testBit_ge hn.lt (by omega)
theorem SetAt.drewS {w : World} {v : Value} {N : Nat} (h : SetAt w v N) : SetAt w.drew v N := h.below (bz w).drew
theorem down_nat {v : Value} {N x : Nat} {w : World} (h : SetAt w v N) : Calls Try.prog 10 #[v, .int .i64 (x : Int)] w (SetPost (N / 2 ^ x) w) := by
  have := down_any (by0 := (x : Int)) h
  rwa [Int.toNat_natCast] at this
theorem obdown_any (xs : List Int) (n : Nat) (hn : n = xs.length) (ao : Option Addr) (cap b o : Nat) (a0 b0 : Int) (w : World) (hsl : SlAt w 1 n (xs.map (Value.int .i64)) ao cap b o) (hle : ¬ (200 : Int) < (n : Int)) (ha0 : 0 ≤ a0 ∧ a0 < 4294967296) (hb0 : 0 ≤ b0 ∧ b0 < 4294967296) :
    Calls Try.prog 3 #[.slice ao n cap, .int .u32 a0, .int .u32 b0] w fun e w' => e = .returned (.bool true) ∧ Below w.heap.size w w' := by
  obtain ⟨x, hx⟩ : ∃ x : Nat, a0 % 70001 = (x : Int) := ⟨(a0 % 70001).toNat, by omega⟩
  obtain ⟨y, hy⟩ : ∃ y : Nat, b0 % 70001 = (y : Int) := ⟨(b0 % 70001).toNat, by omega⟩
  have hx1 : x ≤ 70000 := by omega
  have hy1 : y ≤ 70000 := by omega
  have a1 : a0.tmod 70001 = (x : Int) := by rw [Int.tmod_eq_emod_of_nonneg ha0.1]; exact hx
  have b1 : b0.tmod 70001 = (y : Int) := by rw [Int.tmod_eq_emod_of_nonneg hb0.1]; exact hy
  have cx : IntKind.i64.wrap (x : Int) = (x : Int) := IntWalk.i64_in _ (by omega)
  have cy : IntKind.i64.wrap (y : Int) = (y : Int) := IntWalk.i64_in _ (by omega)
  have dx : IntKind.u32.wrap (x : Int) = (x : Int) := by simp only [IntKind.wrap, IntKind.signed, IntKind.bits, Bool.false_and, Bool.false_eq_true, if_false]; omega
  have dy : IntKind.u32.wrap (y : Int) = (y : Int) := by simp only [IntKind.wrap, IntKind.signed, IntKind.bits, Bool.false_and, Bool.false_eq_true, if_false]; omega
  have HO := Lib.hid (fun W (hW : Below w.heap.size w W) => of_any xs n hn ao cap b o W (hsl.below hW) (by omega))
  obtain ⟨N, hN⟩ : ∃ N, N = ofN xs := ⟨_, rfl⟩
  rw [← hN] at HO
  clear hN hsl hn
  have hnil : ∀ (c : Array Value) (w : World), (binOp .eql 32 (.func (.func 31) #[] c) .nilFunc).run Try.prog w = .ok (.bool false) w := fun _ _ => by first | rfl | simp [go_sem, binOp]
  refine (callsIn_wide (n := 4)).1 ?_
  refine callsIn_of_wp_marks Try.func3 rfl trivial ?_ rfl
  simp only [Try.ntmps3, List.size_toArray, List.length_cons, List.length_nil, Nat.reduceAdd, Nat.reduceSub, Array.replicate_succ, Array.replicate_zero, List.push_toArray, List.append_toArray, List.nil_append, List.cons_append]
  gi_wp2_with fail
  refine ⟨trivial, ?_⟩
  refine (callsIn_wide.2 (HO.out _ (ba (ba (bz w) _) _))).mono ?_
  rintro e w1 ⟨v, rfl, hset, hb⟩
  have HB1 : Hid (Below w.heap.size w w1) := Lib.hid ((ba (ba (bz w) _) _).trans (hb.mono (by simp; omega)))
  have hc6 : w1.cell? ⟨w.heap.size, 0, none⟩ = some (.bool false) := cell_past_ hb (cell_alloc_l _ (cell_new_l w (.bool false) 4).1)
  have hf6 : w1.frozen? ⟨w.heap.size, 0, none⟩ = false := by
    have h1 := cell_alloc_l (.cells #[Value.int .i64 (x : Int)] 3) (cell_new_l w (.bool false) 4).1
    exact (hb.frozen (World.block_lt_of_cell? _ _ h1)).trans (frozen_alloc_l _ (cell_new_l w (.bool false) 4).1 (cell_new_l w (.bool false) 4).2)
  have hc7 : w1.cell? ⟨w.heap.size + 1, 0, none⟩ = some (.int .i64 (x : Int)) := by
    have h1 := (cell_new_l (w.alloc (.cells #[Value.bool false] 4)) (.int .i64 (x : Int)) 3).1
    rw [World.size_alloc] at h1
    exact cell_past_ hb h1
  have HS1 := Lib.hid hset
  obtain ⟨m, ao1, cap1, b1', o1, rfl, _, _, hm⟩ := hset
  have hsz : w.heap.size + 2 ≤ w1.heap.size := by have := hb.size; simp at this; omega
  clear HO hb a1 b1 cx cy dx dy hx hy ha0 hb0 hle
  gi_wp2_with fail
  obtain ⟨p9, hp9⟩ : ∃ p, p = w1.heap.size := ⟨_, rfl⟩
  obtain ⟨w2, hw2⟩ : ∃ w2, w2 = w1.alloc (.cells #[Value.slice ao1 m cap1] 27) := ⟨_, rfl⟩
  have hd6 : w2.cell? ⟨w.heap.size, 0, none⟩ = some (.bool false) := by rw [hw2]; exact cell_alloc_l _ hc6
  have he6 : w2.frozen? ⟨w.heap.size, 0, none⟩ = false := by rw [hw2]; exact frozen_alloc_l _ hc6 hf6
  have hd7 : w2.cell? ⟨w.heap.size + 1, 0, none⟩ = some (.int .i64 (x : Int)) := by rw [hw2]; exact cell_alloc_l _ hc7
  have hd9 : w2.cell? ⟨p9, 0, none⟩ = some (.slice ao1 m cap1) := by rw [hw2, hp9]; exact (cell_new_l w1 (.slice ao1 m cap1) 27).1
  have hs2 : SetAt w2 (.agg #[.slice ao1 m cap1]) N := by rw [hw2]; exact HS1.out.below (ba (bz w1) _)
  have hb2 : Below w.heap.size w w2 := by rw [hw2]; exact HB1.out.alloc HB1.out.size _
  have hsz2 : w2.heap.size = p9 + 1 := by rw [hw2, hp9]; simp
  rw [← hw2, ← hp9]
  rw [← hp9] at hsz
  clear hw2 hp9 hc6 hf6 hc7 HS1 HB1
  refine wpIn_wide.2 ?_
  have tok1 : True := trivial
  have tok2 : True := trivial
  have tok3 : True := trivial
  have tok4 : True := trivial
  have tok5 : True := trivial
  have hsum : (x : Int) + (y : Int) = ((x + y : Nat) : Int) := by omega
  have hwr : IntKind.i64.wrap ((x + y : Nat) : Int) = ((x + y : Nat) : Int) := IntWalk.i64_in _ (by omega)
  have hwr2 : IntKind.i64.wrap ((x : Int) + (y : Int)) = ((x + y : Nat) : Int) := by rw [hsum]; exact hwr
  have HS2 := Lib.hid hs2.drewS
  obtain ⟨xy, hxy⟩ : ∃ xy, xy = x + y := ⟨_, rfl⟩
  rw [← hxy] at hsum hwr hwr2
  have HXY := Lib.hid hxy
  have HB2 := Lib.hid hb2
  clear hs2 hb2 hxy
  go_region_held3 (fun w' => w'.cell? ⟨w.heap.size + 1, 0, none⟩ = some (.int .i64 (x : Int)) ∧ w'.cell? ⟨p9, 0, none⟩ = some (.slice ao1 m cap1)) (exact ⟨hd7, hd9⟩) ((first | (have _t := tok1; go_at_call 10; refine (down_nat (x := x) HS2.out).mono ?_; clear tok1; rintro e w3 ⟨v3, rfl, hset3, hb3⟩; have hb2d := HB2.out.drew; have HB3 := Lib.hid (bt hb2d hb3); have HS3 := Lib.hid (HS2.out.below hb3); have HT3 := Lib.hid hset3; replace he6 := (hb3.frozen (World.block_lt_of_cell? _ _ hd6)).trans he6; replace hd6 := cell_past_ hb3 hd6; replace hd7 := cell_past_ hb3 hd7; replace hd9 := cell_past_ hb3 hd9; clear HS2 hset3) | (have _t := tok2; go_at_call 10; refine (down_nat (x := y) HT3.out).mono ?_; clear tok2; rintro e w4 ⟨v4, rfl, hset4, hb4⟩; have HB4 := Lib.hid (bt HB3.out hb4); have HS4 := Lib.hid (HS3.out.below hb4); have HT4 := Lib.hid hset4; replace he6 := (hb4.frozen (World.block_lt_of_cell? _ _ hd6)).trans he6; replace hd6 := cell_past_ hb4 hd6; replace hd7 := cell_past_ hb4 hd7; replace hd9 := cell_past_ hb4 hd9; clear HS3 hset4) | (have _t := tok3; go_at_call 11; refine (key_any _ _ _ HT4.out).mono ?_; clear tok3; rintro e w5 ⟨s5, rfl, hk5, hb5⟩; have HB5 := Lib.hid (bt HB4.out hb5); have HS5 := Lib.hid (HS4.out.below hb5); have HK5 := Lib.hid hk5; replace he6 := (hb5.frozen (World.block_lt_of_cell? _ _ hd6)).trans he6; replace hd6 := cell_past_ hb5 hd6; replace hd7 := cell_past_ hb5 hd7; replace hd9 := cell_past_ hb5 hd9; clear HS4 hk5) | (have _t := tok4; go_at_call 10; refine (down_nat (x := xy) HS5.out).mono ?_; clear tok4; rintro e w6 ⟨v6, rfl, hset6, hb6⟩; have HB6 := Lib.hid (bt HB5.out hb6); have HS6 := Lib.hid (HS5.out.below hb6); have HT6 := Lib.hid hset6; replace he6 := (hb6.frozen (World.block_lt_of_cell? _ _ hd6)).trans he6; replace hd6 := cell_past_ hb6 hd6; replace hd7 := cell_past_ hb6 hd7; replace hd9 := cell_past_ hb6 hd9; clear HS5 hset6) | (have _t := tok5; go_at_call 11; refine (key_any _ _ _ HT6.out).mono ?_; clear tok5; rintro e w7 ⟨s7, rfl, hk7, hb7⟩; have HB7 := Lib.hid (bt HB6.out hb7); have HS7 := Lib.hid (HS6.out.below hb7); replace he6 := (hb7.frozen (World.block_lt_of_cell? _ _ hd6)).trans he6; replace hd6 := cell_past_ hb7 hd6; replace hd7 := cell_past_ hb7 hd7; replace hd9 := cell_past_ hb7 hd9; clear HS6; have hss : s5 = s7 := HK5.out.unique (by rw [Nat.div_div_eq_div_mul, ← Nat.pow_add, ← HXY.out]; exact hk7); subst hss; clear hk7)))
  have hg9 := cell_alloc_l (.cells #[Value.int .i64 0] 3) hd9
  gi_wp2_with (refine ⟨trivial, ?_⟩; gi_at_call 12; refine (all_in Fence.wide _ trivial rfl _ _ _ _).mono ?_; rintro e w' ⟨rfl, rfl⟩)
  obtain ⟨p10, hp10⟩ : ∃ p, p = w7.heap.size := ⟨_, rfl⟩
  have hp9 : p9 < p10 := by rw [hp10]; exact World.block_lt_of_cell? _ _ hd9
  rw [← hp10]
  have c10 := cell_new_l w7 (.int .i64 0) 3
  have c11 := cell_new_l (w7.alloc (.cells #[.int .i64 0] 3)) (.slice ao1 m cap1) 27
  rw [World.size_alloc] at c11
  rw [← hp10] at c10 c11
  have hbits := HS7.out.bits
  have HBIT := Lib.hid hbits
  obtain ⟨m', ao', cap', bS, oS, hv, hsS, hneed, hmS⟩ := HS7.out
  simp only [Value.agg.injEq, Array.mk.injEq, List.cons.injEq, and_true, Value.slice.injEq] at hv
  obtain ⟨rfl, rfl, rfl⟩ := hv
  have HAll := Lib.hid (allN_eq hneed hmS)
  have hbS : 0 < m → bS < p10 := fun h0 => by rw [hp10]; exact hsS.lt (by rw [u64s_len, words_len]; exact h0)
  have hB0 : Below p10 w7 ((w7.alloc (.cells #[.int .i64 0] 3)).alloc (.cells #[.slice ao1 m cap1] 27)) := by rw [hp10]; exact ba (ba (bz w7) _) _
  have HP10 := Lib.hid hp10
  clear hp10 hbits hg9 hnil hb3 hb4 hb5 hb6 hb7 hb2d HB2 HB3 HB4 HB5 HB6
  refine wpIn_rangeFunc_ownF rfl (by omega) (gf := 31) (lb := #[.pointer (some ⟨p10 + 1, 0, none⟩)]) rfl trivial (enters_of Try.func31 (by kernel_rfl) rfl)
    (all_stops Fence.wide _ trivial rfl (by omega) (p10 + 1) p10 N m ao1 cap1 bS oS _ (by simp [← HP10.out]) (by simp [← HP10.out] <;> omega) hbS hneed hmS c11.1 (hsS.below (by have := hB0; rwa [HP10.out] at this))) belowK_t (belowK_b (by simp [← HP10.out] <;> omega)) (Below.refl _ _) (fun _ => rfl)
    (fun pre W => (W.cell? ⟨p10, 0, none⟩ = some (.int .i64 ((((vals N pre).filter fun k => decide (x ≤ k)).length : Nat) : Int)) ∧ W.frozen? ⟨p10, 0, none⟩ = false) ∧ Below p10 w7 W)
    (fun _ _ _ => False)
    (OwnFrom.and (Own.from (fun s A B row hs hg hr => ⟨cell_kept hs.1 hg hr, (frozen_kept hs.1 hg hr).trans hs.2⟩) _) (ownFrom_below (by rw [HP10.out]; exact Nat.le_refl _) (by simp [← HP10.out] <;> omega)))
    (fun _ _ _ _ _ hs _ _ => hs)
    ⟨⟨cell_alloc_l _ c10.1, frozen_alloc_l _ c10.1 c10.2⟩, hB0⟩
    (fun z => { tmps := #[.slice ao n cap, .int .u32 a0, .int .u32 b0, undef, undef, undef, .pointer (some ⟨w.heap.size, 0, none⟩), .pointer (some ⟨w.heap.size + 1, 0, none⟩), .int .i64 (y : Int), .pointer (some ⟨p9, 0, none⟩), .pointer (some ⟨p10, 0, none⟩), .func (.func 31) #[] #[.pointer (some ⟨p10 + 1, 0, none⟩)], .int .i64 (z.1 : Int), undef, undef, .slice ao n cap, .int .i64 (n : Int), .bool false, undef, .int .u32 a0, .int .u32 (x : Int), .int .i64 (x : Int), .int .u32 b0, .int .u32 (y : Int), .int .i64 (y : Int), .slice ao n cap, .agg #[.slice ao1 m cap1], .agg #[.slice ao1 m cap1], .int .i64 (x : Int), v3, .int .i64 (y : Int), v4, .string s5, .agg #[.slice ao1 m cap1], .int .i64 (x : Int), .int .i64 (y : Int), .int .i64 (xy : Int), v6, .string s5, .bool false, .agg #[.slice ao1 m cap1], .func (.func 31) #[] #[.pointer (some ⟨p10 + 1, 0, none⟩)], .func (.func 31) #[] #[.pointer (some ⟨p10 + 1, 0, none⟩)], .bool false, .func (.func 31) #[] #[.pointer (some ⟨p10 + 1, 0, none⟩)], .int .i64 (z.1 : Int), undef, undef, undef, undef, undef, undef, undef, undef, undef, undef, undef, undef, undef, undef, undef, undef, undef, undef, undef, undef, undef, undef, undef, undef, undef, undef, undef, undef, undef, undef, undef, undef, undef, undef, undef, undef, undef, undef, undef, undef, undef, undef, undef, undef, undef, undef], defers := [] }) ?assign ?body ?done ?stop
  case assign =>
    intro l z W K hK
    gi_wp2
    exact hK
  case body =>
    rintro l pre z W ⟨⟨hc, hf⟩, hB⟩ hlen
    have hE6 := HP10.out
    have g7 := (hB.cell (p := ⟨w.heap.size + 1, 0, none⟩) (by show w.heap.size + 1 < p10; omega)).trans hd7
    have g9 := (hB.cell (p := ⟨p9, 0, none⟩) hp9).trans hd9
    have HSW := Lib.hid (HS7.out.below (by have := hB; rwa [hE6] at this))
    have hcl : ((vals N pre).filter fun k => decide (x ≤ k)).length ≤ pre.length := by have := List.length_filter_le (fun k => decide (x ≤ k)) (vals N pre); rwa [vals_len] at this
    obtain ⟨X, hX⟩ : ∃ X, X = z.1 := ⟨_, rfl⟩
    have hbX : N.testBit X = true := by rw [hX]; exact z.2
    have hnext : ((vals N (pre ++ [z])).filter fun k => decide (x ≤ k)).length = ((vals N pre).filter fun k => decide (x ≤ k)).length + (if x ≤ X then 1 else 0) := by
      rw [vals_snoc, List.filter_append, List.length_append, ← hX]
      by_cases h : x ≤ X <;> simp [h]
    rw [← hX]
    obtain ⟨C, hC⟩ : ∃ C, C = ((vals N pre).filter fun k => decide (x ≤ k)).length := ⟨_, rfl⟩
    rw [← hC] at hc hcl hnext
    have HC := Lib.hid hC
    have hXlt : X < 65536 := by
      refine Classical.byContradiction fun h => ?_
      rw [HBIT.out X (by omega)] at hbX
      cases hbX
    clear hX hC hE6
    by_cases hge : x ≤ X
    · rw [if_pos hge] at hnext
      have k1 : (x : Int) ≤ (X : Int) := by omega
      obtain ⟨E, hE⟩ : ∃ E, E = X - x := ⟨_, rfl⟩
      have e1 : (X : Int) - (x : Int) = (E : Int) := by omega
      have e2 : IntKind.i64.wrap (E : Int) = (E : Int) := IntWalk.i64_in _ (by omega)
      have e3 : IntKind.i64.wrap ((X : Int) - (x : Int)) = (E : Int) := by rw [e1]; exact e2
      obtain ⟨C1, hC1⟩ : ∃ C1, C1 = C + 1 := ⟨_, rfl⟩
      rw [← hC1] at hnext
      have c1 : (C : Int) + 1 = (C1 : Int) := by omega
      have c2 : IntKind.i64.wrap (C1 : Int) = (C1 : Int) := IntWalk.i64_in _ (by omega)
      have HH : Hid (∀ v W, SetAt W v (N / 2 ^ x) → Calls Try.prog 13 #[v, .int .i64 (E : Int)] W fun e w' => e = .returned (.bool true) ∧ Below W.heap.size W w') := Lib.hid (fun v W hW => by
        have h1 := has_in v _ E W hW (by omega)
        have h2 : (N / 2 ^ x).testBit E = true := by rw [div_bit, hE, show x + (X - x) = X by omega, hbX]
        rw [h2] at h1
        exact h1)
      have HN2 := Lib.hid hnext
      clear hE hC1 hnext hbX hcl
      gi_wp2
      obtain ⟨W1, hW1⟩ : ∃ W1, W1 = W.setCell ⟨p10, 0, none⟩ (.int .i64 (C1 : Int)) := ⟨_, rfl⟩
      rw [← hW1]
      replace g7 : W1.cell? ⟨w.heap.size + 1, 0, none⟩ = some (.int .i64 (x : Int)) := by rw [hW1]; exact cset (by show w.heap.size + 1 ≠ p10; omega) g7
      replace g9 : W1.cell? ⟨p9, 0, none⟩ = some (.slice ao1 m cap1) := by rw [hW1]; exact cset (by show p9 ≠ p10; omega) g9
      have hcW0 : W1.cell? ⟨p10, 0, none⟩ = some (.int .i64 (C1 : Int)) := by rw [hW1]; exact World.cell?_setCell_same' _ _ _ (by rw [hc]; rfl)
      have hfW : W1.frozen? ⟨p10, 0, none⟩ = false := by rw [hW1, World.frozen?_setCell]; exact hf
      have HKW : Hid (KeepsOthers W W1.drew) := by rw [hW1]; exact Lib.hid ((KeepsOthers.setCell _ _ _).trans (KeepsOthers.drew _))
      have HPW : Hid (Below p10 W W1.drew) := by rw [hW1]; exact Lib.hid (((Below.refl p10 W).setCell (p := ⟨p10, 0, none⟩) (Nat.le_refl _) _).drew)
      have HSW1 : Hid (SetAt W1.drew (.agg #[.slice ao1 m cap1]) N) := by rw [hW1]; exact Lib.hid (set_other HSW.out hc (fun x => by simp) _).drewS
      have HBW := Lib.hid hB
      have hpl : p10 ≤ W1.drew.heap.size := by have := World.block_lt_of_cell? _ _ hcW0; simp at this; simp; omega
      have hcW : W1.drew.cell? ⟨p10, 0, none⟩ = some (.int .i64 (C1 : Int)) := hcW0
      replace hfW : W1.drew.frozen? ⟨p10, 0, none⟩ = false := hfW
      replace hcW0 := hcW
      clear hc hf hB HSW hW1
      refine wpIn_region_held_round (S := (fun w' => w'.cell? ⟨w.heap.size + 1, 0, none⟩ = some (.int .i64 (x : Int)) ∧ w'.cell? ⟨p9, 0, none⟩ = some (.slice ao1 m cap1))) (by kernel_rfl) (by kernel_rfl) (by rintro ⟨aL, wL, hL⟩; exact hL) ⟨g7, g9⟩ (fun hHeld => ?_)
      refine takeD (i := 0) (v := ?zva0) (some 51) rfl rfl (by kernel_rfl) (by kernel_rfl) (by kernel_rfl) (fun _ _ _ h => h) (Or.inl ⟨by rfl, ?zya0⟩) (by assumption) ?zra0
      case zya0 => (intro w hSw; (try dsimp only at hSw); go_simp; try with_reducible rfl)
      try simp only [Act.put, List.setIfInBounds_toArray, List.set_cons_zero, List.set_cons_succ]
      refine takeD (i := 1) (v := ?zva1) (some 52) rfl rfl (by kernel_rfl) (by kernel_rfl) (by kernel_rfl) (fun _ _ _ h => h) (Or.inl ⟨by rfl, ?zya1⟩) (by assumption) ?zra1
      case zya1 => (intro w hSw; (try dsimp only at hSw); go_simp; try with_reducible rfl)
      try simp only [Act.put, List.setIfInBounds_toArray, List.set_cons_zero, List.set_cons_succ]
      refine takeD (i := 3) (v := ?zva3) (some 54) rfl rfl (by kernel_rfl) (by kernel_rfl) (by kernel_rfl) (fun _ _ _ h => h) (Or.inl ⟨by rfl, ?zya3⟩) (by assumption) ?zra3
      case zya3 => (intro w hSw; (try dsimp only at hSw); go_simp; try with_reducible rfl)
      try simp only [Act.put, List.setIfInBounds_toArray, List.set_cons_zero, List.set_cons_succ]
      refine takeD (i := 4) (v := ?zva4) (some 55) rfl rfl (by kernel_rfl) (by kernel_rfl) (by kernel_rfl) (fun _ _ _ h => h) (Or.inl ⟨by rfl, ?zya4⟩) (by assumption) ?zra4
      case zya4 => (intro w hSw; (try dsimp only at hSw); go_simp; try with_reducible rfl)
      try simp only [Act.put, List.setIfInBounds_toArray, List.set_cons_zero, List.set_cons_succ]
      refine takeD (i := 5) (v := ?zva5) (some 56) rfl rfl (by kernel_rfl) (by kernel_rfl) (by kernel_rfl) (fun _ _ _ h => h) (Or.inl ⟨by rfl, ?zya5⟩) (by assumption) ?zra5
      case zya5 => (intro w hSw; (try dsimp only at hSw); go_simp; try with_reducible rfl)
      try simp only [Act.put, List.setIfInBounds_toArray, List.set_cons_zero, List.set_cons_succ]
      refine wpAnyH_ready (rs := [2]) (by kernel_rfl) (by simp) ?_
      refine AllReadyH.cons rfl (fun K hK => ?_) AllReadyH.nil
      go_simp
      refine (down_nat (x := x) HSW1.out).mono ?_
      rintro e w8 ⟨v8, rfl, hset8, hb8⟩
      have HT8 := Lib.hid hset8
      replace g7 := cell_past_ hb8 g7
      replace g9 := cell_past_ hb8 g9
      replace hcW := cell_past_ hb8 hcW
      replace hfW := (hb8.frozen (World.block_lt_of_cell? _ _ hcW0)).trans hfW
      clear hset8
      go_wp2_with fail
      refine hK.out _ _ (by exact ⟨g7, g9⟩) (fun hHeld2 => ?_)
      clear hK K
      clear hHeld
      have hHeld := hHeld2
      clear hHeld2
      try simp only [Act.put, List.setIfInBounds_toArray, List.set_cons_zero, List.set_cons_succ]
      refine wpAnyH_ready (rs := [6]) (by kernel_rfl) (by simp) ?_
      refine AllReadyH.cons rfl (fun K hK => ?_) AllReadyH.nil
      go_simp
      refine (HH.out v8 w8 HT8.out).mono ?_
      rintro e w9 ⟨rfl, hb9⟩
      replace hfW := (hb9.frozen (World.block_lt_of_cell? _ _ hcW)).trans hfW
      replace g7 := cell_past_ hb9 g7
      replace g9 := cell_past_ hb9 g9
      replace hcW := cell_past_ hb9 hcW
      go_wp2_with fail
      refine hK.out _ _ (by exact ⟨g7, g9⟩) (fun hHeld2 => ?_)
      clear hK K
      clear hHeld
      have hHeld := hHeld2
      clear hHeld2
      try simp only [Act.put, List.setIfInBounds_toArray, List.set_cons_zero, List.set_cons_succ]
      refine takeD (i := 7) (v := ?zva7) (some 58) rfl rfl (by kernel_rfl) (by kernel_rfl) (by kernel_rfl) (fun _ _ _ h => h) (Or.inl ⟨by rfl, ?zya7⟩) (by assumption) ?zra7
      case zya7 => (intro w hSw; (try dsimp only at hSw); go_simp; try with_reducible rfl)
      try simp only [Act.put, List.setIfInBounds_toArray, List.set_cons_zero, List.set_cons_succ]
      refine wpAnyH_done (by kernel_rfl) ?_ _
      gi_wp2
      have hb89 := bt hb8 hb9
      exact ⟨HKW.out.trans (keeps_of_below hb89), HPW.out.trans (hb89.mono hpl), ⟨by rw [HN2.out]; exact hcW, hfW⟩, HBW.out.trans (HPW.out.trans (hb89.mono hpl))⟩
    · rw [if_neg hge, Nat.add_zero] at hnext
      have k1 : ¬ (x : Int) ≤ (X : Int) := by omega
      have HN2 := Lib.hid hnext
      clear hnext
      gi_wp2
      refine ⟨KeepsOthers.refl _, Below.refl _ _, ⟨by rw [HN2.out]; exact hc, hf⟩, hB⟩
  case done =>
    rintro D ys W hD hys ⟨⟨hc, hf⟩, hB⟩ hK
    rw [hys, HAll.out, ← allN_down HBIT.out x] at hc
    obtain ⟨CN, hCN⟩ : ∃ C, C = (allN (N / 2 ^ x)).length := ⟨_, rfl⟩
    rw [← hCN] at hc
    have HCN := Lib.hid hCN
    have hE6 := HP10.out
    have g6 := (hB.cell (p := ⟨w.heap.size, 0, none⟩) (by show w.heap.size < p10; omega)).trans hd6
    have f6 := (hB.frozen (p := ⟨w.heap.size, 0, none⟩) (by show w.heap.size < p10; omega)).trans he6
    have g7 := (hB.cell (p := ⟨w.heap.size + 1, 0, none⟩) (by show w.heap.size + 1 < p10; omega)).trans hd7
    have g9 := (hB.cell (p := ⟨p9, 0, none⟩) hp9).trans hd9
    have HSW := Lib.hid (HS7.out.below (by have := hB; rwa [hE6] at this))
    have HBW := Lib.hid (HB7.out.trans (hB.mono (by omega)))
    have hmx : max (0 : Int) (x : Int) = (x : Int) := by omega
    have HGAP := Lib.hid (gap_any _ _ (x : Int) W HSW.out)
    unfold GapPost at HGAP
    rw [hmx] at HGAP
    have HKK := Lib.hid hK
    have HDD := Lib.hid hD
    clear hCN hE6 hmx hB hys hf hd6 he6 hd7 hd9 hK hD
    gi_wp2_with fail
    refine ⟨trivial, ?_⟩
    refine (callsIn_wide.2 HGAP.out).mono ?_
    rintro e w8 ⟨g, rfl, hg1, hg2, hg3, hb8⟩
    obtain ⟨G, rfl⟩ := Int.eq_ofNat_of_zero_le (show 0 ≤ g by omega)
    have HS8 := Lib.hid (HSW.out.below hb8)
    have HB8 := Lib.hid (bt HBW.out hb8)
    have HK8 := Lib.hid ((keeps_of_below hb8).same D _ HKK.out rfl)
    replace f6 := (hb8.frozen (World.block_lt_of_cell? _ _ g6)).trans f6
    replace g6 := cell_past_ hb8 g6
    replace g7 := cell_past_ hb8 g7
    replace g9 := cell_past_ hb8 g9
    replace hc := cell_past_ hb8 hc
    have hG1 : x ≤ G := by omega
    have HG2 := Lib.hid hg2
    have HG3 := Lib.hid hg3
    clear hb8 HGAP HSW HBW HKK hg1 hg2 hg3
    gi_wp2_with fail
    gi_loopw [14] (fun t14 wr => ∃ k : Nat, t14 = .int .i64 (k : Int) ∧ x ≤ k ∧ k ≤ G ∧ (wr.cell? ⟨w.heap.size, 0, none⟩ = some (.bool false) ∧ wr.frozen? ⟨w.heap.size, 0, none⟩ = false) ∧ wr.cell? ⟨w.heap.size + 1, 0, none⟩ = some (.int .i64 (x : Int)) ∧ wr.cell? ⟨p9, 0, none⟩ = some (.slice ao1 m cap1) ∧ wr.cell? ⟨p10, 0, none⟩ = some (.int .i64 (CN : Int)) ∧ Hid (Below w8.heap.size w8 wr)) (fun t14 _ => G - (intOf t14).toNat)
    case atStart => exact ⟨x, rfl, Nat.le_refl _, hG1, ⟨g6, f6⟩, g7, g9, hc, Lib.hid (bz _)⟩
    case round =>
      obtain ⟨k, rfl, hk1, hk2, ⟨r6, q6⟩, r7, r9, rc, HR⟩ := hrel
      clear g6 f6 g7 g9 hc
      by_cases hlt : k < G
      · have k1 : (k : Int) < (G : Int) := by omega
        have hh : hasB N (k : Int) = true := HG3.out k (by omega) k1
        have HH := Lib.hid (has_any _ N (k : Int) wr (HS8.out.below HR.out))
        rw [hh] at HH
        clear hh
        gi_wp2_with fail
        refine ⟨trivial, ?_⟩
        refine (callsIn_wide.2 HH.out).mono ?_
        rintro e wn ⟨rfl, hbn⟩
        replace q6 := (hbn.frozen (World.block_lt_of_cell? _ _ r6)).trans q6
        replace r6 := cell_past_ hbn r6
        replace r7 := cell_past_ hbn r7
        replace r9 := cell_past_ hbn r9
        replace rc := cell_past_ hbn rc
        have HRn := Lib.hid (bt HR.out hbn)
        have kw : IntKind.i64.wrap ((k : Int) + 1) = ((k + 1 : Nat) : Int) := by rw [show (k : Int) + 1 = ((k + 1 : Nat) : Int) by omega]; exact IntWalk.i64_in _ (by have := hasB_in (HG3.out k (by omega) k1); omega)
        clear hbn HR HH
        gi_wp2_with fail
        go_roundw
        case rel => exact ⟨k + 1, by go_num, by omega, by omega, ⟨r6, q6⟩, r7, r9, rc, HRn⟩
        case measure => simp [intOf]; omega
      · have k1 : ¬ (k : Int) < (G : Int) := by omega
        obtain rfl : k = G := by omega
        have HSR := Lib.hid (HS8.out.below HR.out).drewS
        have HBR := Lib.hid (bt HB8.out HR.out).drew
        have HKR := Lib.hid (((keeps_of_below HR.out).same D _ HK8.out rfl))
        have hge : (x : Int) ≤ (k : Int) := by omega
        have tok1 : True := trivial
        have tok2 : True := trivial
        have tok3 : True := trivial
        have tok4 : True := trivial
        clear HR HS8 HB8 HK8
        gi_wp2_with fail
        refine wpIn_wide.2 ?_
        go_region_held3 (fun w' => w'.cell? ⟨w.heap.size + 1, 0, none⟩ = some (.int .i64 (x : Int)) ∧ w'.cell? ⟨p9, 0, none⟩ = some (.slice ao1 m cap1) ∧ w'.cell? ⟨p10, 0, none⟩ = some (.int .i64 (CN : Int))) (first | exact ⟨r7, r9, rc⟩ | exact ⟨cset (by simp <;> omega) r7, cset (by simp <;> omega) r9, cset (by simp <;> omega) rc⟩) ((first | (have _t := tok1; go_at_call 10; refine (down_nat (x := x) HSR.out).mono ?_; clear tok1; rintro e wa ⟨va, rfl, hseta, hba⟩; have HBA := Lib.hid (bt HBR.out hba); have HSA := Lib.hid (HSR.out.below hba); have HTA := Lib.hid hseta; replace q6 := (hba.frozen (World.block_lt_of_cell? _ _ (show _ = some (Value.bool false) from r6))).trans (show _ = false from q6); replace r6 := cell_past_ hba r6; replace r7 := cell_past_ hba r7; replace r9 := cell_past_ hba r9; replace rc := cell_past_ hba rc; clear hseta) | (have _t := tok2; go_at_call 15; have hcc := count_any HTA.out; rw [← HCN.out] at hcc; refine hcc.mono ?_; clear tok2 hcc; rintro e wb ⟨rfl, hbb⟩; have HBB := Lib.hid (bt HBA.out hbb); have HSB := Lib.hid (HSA.out.below hbb); replace q6 := (hbb.frozen (World.block_lt_of_cell? _ _ r6)).trans q6; replace r6 := cell_past_ hbb r6; replace r7 := cell_past_ hbb r7; replace r9 := cell_past_ hbb r9; replace rc := cell_past_ hbb rc) | (have _t := tok3; go_at_call 13; have hcc := has_any _ N (k : Int) wb HSB.out; rw [HG2.out] at hcc; refine hcc.mono ?_; clear tok3 hcc; rintro e wc ⟨rfl, hbc⟩; have HBC := Lib.hid (bt HBB.out hbc); replace q6 := (hbc.frozen (World.block_lt_of_cell? _ _ r6)).trans q6; replace r6 := cell_past_ hbc r6; replace r7 := cell_past_ hbc r7; replace r9 := cell_past_ hbc r9; replace rc := cell_past_ hbc rc) | (have _t := tok4; go_at_call 8; refine (awake_any _).mono ?_; clear tok4; rintro e wd ⟨rfl, hbd⟩; have HBD := Lib.hid (bt HBC.out hbd); replace q6 := (hbd.frozen (World.block_lt_of_cell? _ _ r6)).trans q6; replace r6 := cell_past_ hbd r6; replace r7 := cell_past_ hbd r7; replace r9 := cell_past_ hbd r9; replace rc := cell_past_ hbd rc)))
        have hK4 := ((((KeepsOthers.drew wr).trans (keeps_of_below hba)).trans ((keeps_of_below hbb).trans (keeps_of_below hbc))).trans ((keeps_of_below hbd).trans (KeepsOthers.setCell wd ⟨w.heap.size, 0, none⟩ (.bool true)))).same D _ HKR.out rfl
        have hB4 := HBD.out
        gi_wp2
        refine ⟨by simp, .inl ⟨_, _, rfl, run_takeDeferred hK4, ?_⟩⟩
        have hc5 := cell_kept (World.cell?_setCell_same' wd ⟨w.heap.size, 0, none⟩ (.bool true) (by rw [r6]; rfl)) (grownBy_putObj' _ D (.deferred none)) (fun r e => by cases e; exact ⟨_, hK4, rfl⟩)
        have hD := HDD.out
        have hE6 := HP10.out
        have hs7 := HB7.out.size
        refine ⟨.bool true, ?_, rfl, (hB4.setCell (p := ⟨w.heap.size, 0, none⟩) (Nat.le_refl _) _).trans (belowK_b (w := w) (Nat.le_refl _) _ D _ _ (by simp at hD; omega) hK4 rfl rfl)⟩
        simp [results, Try.f3, go_sem, hc5]
  case stop =>
    rintro D c pre W _ _ h _
    exact h.elim
theorem obdown_big (n : Nat) (ao : Option Addr) (cap : Nat) (a0 b0 : Int) (w : World) (hle : (200 : Int) < (n : Int)) :
    Calls Try.prog 3 #[.slice ao n cap, .int .u32 a0, .int .u32 b0] w fun e w' => e = .returned (.bool true) ∧ Below w.heap.size w w' := by
  have HA := Lib.hid (awake_any (w.alloc (.cells #[.bool false] 4)))
  go_enter Try.func3, Try.ntmps3
  go_wp2_with fail
  refine HA.out.mono ?_
  rintro e w1 ⟨rfl, hb⟩
  have x0 := kc hb w.heap.size 0 (.bool false) (by simp [go_sem])
  have f0 := kf hb w.heap.size 0 (by simp) (by simp [go_sem])
  have HB1 := Lib.hid ((ba (bz w) (.cells #[.bool false] 4)).trans (hb.mono (by simp)))
  clear hb
  go_wp2
  exact bodyPost_ret (v := .bool true) (by simp [results, Try.results3, go_sem, x0]) rfl ⟨rfl, bs HB1.out (p := ⟨w.heap.size, 0, none⟩) (Nat.le_refl _) _⟩
theorem obdown (xs : List Int) (ao : Option Addr) (cap b o : Nat) (a0 b0 : Int) (w : World) (hsl : SlAt w 1 xs.length (xs.map (Value.int .i64)) ao cap b o) (ha0 : 0 ≤ a0 ∧ a0 < 4294967296) (hb0 : 0 ≤ b0 ∧ b0 < 4294967296) :
    Calls Try.prog 3 #[.slice ao xs.length cap, .int .u32 a0, .int .u32 b0] w fun e w' => e = .returned (.bool true) ∧ Below w.heap.size w w' := by
  by_cases h : (200 : Int) < (xs.length : Int)
  · exact obdown_big _ ao cap a0 b0 w h
  · exact obdown_any xs _ rfl ao cap b o a0 b0 w hsl h ha0 hb0
theorem in32_of {n : Int} (h : (Lit.int .u32 n).wf = true) : 0 ≤ n ∧ n < 4294967296 := by
  have : 0 ≤ n ∧ n ≤ 4294967295 := by simpa [Lit.wf, IntKind.min, IntKind.max, IntKind.signed, IntKind.bits] using h
  omega
end Go.Proofs.Ytfjccgihdnemkaa
