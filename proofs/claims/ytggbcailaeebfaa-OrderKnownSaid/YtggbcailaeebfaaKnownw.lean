/- umpirelaw26's OrderKnown: the walk. Printed by gen_kn26.py. -/
import Derived.Test.YtggbcailaeebfaaPlaces
namespace Go.Proofs.Ytggbcailaeebfaa
open Go.RowKit Go.Um Go.Shelf
attribute [local go_sem] Oper.semAt_some
set_option linter.unusedSimpArgs false
set_option linter.unusedVariables false
set_option maxHeartbeats 8000000
set_option maxRecDepth 100000
theorem wpListIn_make_full {F : Fence} {n : Nat} {P : Program} (w : World) {ops : Array Oper} {rest : List Oper} {o : Oper} {a : Act} {Q : Exit → Act → World → Prop}
    (hg : o.guard = none) (l c : Operand) (t : TypeId) (hop : o.op = Op.makeSlice t l c)
    (base : Nat) (e : TypeId) (i : TypeInfo) (z : Value) (size : Nat) (h1 : P.underlying t = some (.slice e)) (h2 : P.info? e = some i) (h3 : i.zero = some z) (h4 : i.size = size)
    (kl kc : IntKind) (L C : Int) (k : Nat) (hl : a.eval l = .int kl L) (hc : a.eval c = .int kc C) (hL : L = (k : Int)) (hC : C = (k : Int)) (b2 : i.bytes * k ≤ 281474976710656) (b3 : k ≤ maxLen) (b4 : base ≤ w.heap.size)
    (hK : ∀ w', w'.ownsRow base e size (.slice (some ⟨w.heap.size, 0, none⟩) k k) k (madeCells z.cells (k * size)).toList → w.grownBy w' none → wpListIn F n P ops Q rest (a.put o.dst (.slice (some ⟨w.heap.size, 0, none⟩) k k)) w') :
    wpListIn F n P ops Q (o :: rest) a w := by
  refine wpListIn_plain hg fun K hK' => ?_
  obtain ⟨w', hrun, r1, r2⟩ := run_make_full (P := P) w base t e i z size h1 h2 h3 h4 kl kc k b2 b3 b4
  subst hL
  subst hC
  unfold Oper.wpIn
  refine ⟨?_, ?_⟩
  · simp [Oper.about, hop]
  · rw [Oper.semAt_plain F _ _ (by rw [hop]; intro c hc'; cases hc')]
    simp [execOp, hop, hl, hc, hrun, Result.andThen]
    exact hK' _ _ (hK w' r1 r2)
theorem made_one (v : Value) (hv : v.cells = #[v]) (n : Nat) : (madeCells v.cells (n * 1)).toList = List.replicate n v := by
  rw [hv]
  apply List.ext_getElem
  · simp [madeCells]
  · intro i h1 h2
    simp [madeCells, Nat.mod_one]
theorem keeps_of_below {W W' : World} (h : Below W.heap.size W W') : KeepsOthers W W' := ⟨h.size, fun k o hk _ => by
  rw [h.block k (Array.getElem?_eq_some_iff.1 hk).1]; exact hk⟩
theorem OwnPost.len0 {w w' : World} {e : Ending} (h : OwnPost [] w e w') : ∃ ao cap, e = .returned (.slice ao 0 cap) ∧ Below w.heap.size w w' := by
  obtain ⟨v, rfl, hown, hb⟩ := h
  obtain ⟨ao, cap, b, o, rfl, hs, _⟩ := SlAt.owned hown
  exact ⟨ao, cap, rfl, hb⟩
theorem oknown_any (w : World) : Calls Try.prog 8 #[] w fun e w' => e = .returned (.bool true) ∧ Below w.heap.size w w' := by
  obtain ⟨j0, hj, jz0, jz1, jz2⟩ := info_parts info37
  have hneq : ∀ (c : Array Value) (w : World), (binOp .neq 56 (.func (.func 34) #[] c) .nilFunc).run Try.prog w = .ok (.bool true) w := fun _ _ => by first | rfl | simp [go_sem, binOp]
  refine (callsIn_wide (n := 4)).1 ?_
  refine callsIn_of_wp_marks Try.func8 rfl trivial ?_ rfl
  simp only [Try.ntmps8, List.size_toArray, List.length_cons, List.length_nil, Nat.reduceAdd, Nat.reduceSub, Array.replicate_succ, Array.replicate_zero, List.push_toArray, List.append_toArray, List.nil_append, List.cons_append]
  gi_wp2_with fail
  refine ⟨trivial, ?_⟩
  refine (callsIn_wide.2 (new_any _)).mono ?_
  rintro e w1 ⟨rfl, ho, hb1, hz⟩
  obtain ⟨p, hp⟩ : ∃ p, p = (w.alloc (.cells #[Value.bool false] 4)).heap.size := ⟨_, rfl⟩
  rw [← hp] at ho ⊢
  have hpn : w.heap.size < p := by rw [hp]; simp
  have x0 : w1.cell? ⟨w.heap.size, 0, none⟩ = some (.bool false) := cell_past hb1 (by simp [go_sem])
  have f0 : w1.frozen? ⟨w.heap.size, 0, none⟩ = false := kf hb1 _ _ (by simp) (by simp [go_sem])
  have HB : Hid (Below w.heap.size w w1) := Lib.hid ((ba (bz w) (.cells #[Value.bool false] 4)).trans (hb1.mono (by simp)))
  have HO := Lib.hid ho
  clear ho hb1 hz hp
  gi_wp2_with fail
  refine ⟨trivial, ?_⟩
  refine (callsIn_wide.2 (works_any w1)).mono ?_
  rintro e w2 ⟨rfl, hb⟩
  replace f0 := (kf hb _ _ (World.block_lt_of_cell? _ _ x0) f0)
  replace x0 := cell_past hb x0
  replace HO := Lib.hid (HO.out.below hb)
  replace HB := Lib.hid (bt HB.out hb)
  clear hb
  gi_wp2_with fail
  have ht := takes_any _ p (fun _ => []) ([] : List Int) _ _ _ _ _ HO.out (slat_none w2) (by decide)
  rw [show (takeB (fun _ => []) 2 [] && takeE 2 [] == 0) = true from by decide, show takeL (fun _ => []) 2 [] = (fun _ => []) from if_neg (by decide)] at ht
  have HT := Lib.hid ht
  clear ht
  refine ⟨trivial, ?_⟩
  refine (callsIn_wide.2 HT.out).mono ?_
  rintro e w3 ⟨rfl, ho, hk⟩
  replace f0 := (hk.frozen (World.block_lt_of_cell? _ _ x0) (by show ¬ w.heap.size = p; omega)).trans f0
  replace x0 := hk.cell x0 (by show ¬ w.heap.size = p; omega)
  replace HB := Lib.hid (kept_new HB.out hk (fun i hi e => by omega))
  replace HO := Lib.hid ho
  clear ho hk HT
  gi_wp2_with fail
  replace f0 := (kf (ba (bz _) (.cells (us [1, 2, 3]).toArray 37)) _ _ (World.block_lt_of_cell? _ _ x0) f0)
  replace x0 := cell_past (ba (bz _) (.cells (us [1, 2, 3]).toArray 37)) x0
  replace HO := Lib.hid (HO.out.below (ba (bz _) (.cells (us [1, 2, 3]).toArray 37)))
  replace HB := Lib.hid (HB.out.alloc HB.out.size (.cells (us [1, 2, 3]).toArray 37))
  have ht := takes_any _ p (fun _ => []) ([1, 2, 3] : List Int) _ _ _ _ _ HO.out (SlAt.new w3 37 1 3 (us [1, 2, 3]) _ rfl rfl (by decide)) (by decide)
  rw [show (takeB (fun _ => []) 2 [1, 2, 3] && takeE 2 [1, 2, 3] == 0) = true from by decide, show takeL (fun _ => []) 2 [1, 2, 3] = (setL (fun _ => []) 2 [1, 2, 3]) from if_pos (by decide)] at ht
  have HT := Lib.hid ht
  clear ht
  refine ⟨trivial, ?_⟩
  refine (callsIn_wide.2 HT.out).mono ?_
  rintro e w4 ⟨rfl, ho, hk⟩
  replace f0 := (hk.frozen (World.block_lt_of_cell? _ _ x0) (by show ¬ w.heap.size = p; omega)).trans f0
  replace x0 := hk.cell x0 (by show ¬ w.heap.size = p; omega)
  replace HB := Lib.hid (kept_new HB.out hk (fun i hi e => by omega))
  replace HO := Lib.hid ho
  clear ho hk HT
  gi_wp2_with fail
  have ht := leaves_any _ p (setL (fun _ => []) 2 [1, 2, 3]) ([] : List Int) _ _ _ _ _ HO.out (slat_none w4) (by decide)
  rw [show (!takeB (setL (fun _ => []) 2 [1, 2, 3]) 2 [] && takeE 2 [] == 0) = false from by decide, show takeL (setL (fun _ => []) 2 [1, 2, 3]) 2 [] = (setL (fun _ => []) 2 [1, 2, 3]) from if_neg (by decide)] at ht
  have HT := Lib.hid ht
  clear ht
  refine ⟨trivial, ?_⟩
  refine (callsIn_wide.2 HT.out).mono ?_
  rintro e w5 ⟨rfl, ho, hk⟩
  replace f0 := (hk.frozen (World.block_lt_of_cell? _ _ x0) (by show ¬ w.heap.size = p; omega)).trans f0
  replace x0 := hk.cell x0 (by show ¬ w.heap.size = p; omega)
  replace HB := Lib.hid (kept_new HB.out hk (fun i hi e => by omega))
  replace HO := Lib.hid ho
  clear ho hk HT
  gi_wp2_with fail
  replace f0 := (kf (ba (bz _) (.cells (us [4, 4]).toArray 37)) _ _ (World.block_lt_of_cell? _ _ x0) f0)
  replace x0 := cell_past (ba (bz _) (.cells (us [4, 4]).toArray 37)) x0
  replace HO := Lib.hid (HO.out.below (ba (bz _) (.cells (us [4, 4]).toArray 37)))
  replace HB := Lib.hid (HB.out.alloc HB.out.size (.cells (us [4, 4]).toArray 37))
  have ht := leaves_any _ p (setL (fun _ => []) 2 [1, 2, 3]) ([4, 4] : List Int) _ _ _ _ _ HO.out (SlAt.new w5 37 1 2 (us [4, 4]) _ rfl rfl (by decide)) (by decide)
  rw [show (!takeB (setL (fun _ => []) 2 [1, 2, 3]) 2 [4, 4] && takeE 2 [4, 4] == 0) = true from by decide, show takeL (setL (fun _ => []) 2 [1, 2, 3]) 2 [4, 4] = (setL (fun _ => []) 2 [1, 2, 3]) from if_neg (by decide)] at ht
  have HT := Lib.hid ht
  clear ht
  refine ⟨trivial, ?_⟩
  refine (callsIn_wide.2 HT.out).mono ?_
  rintro e w6 ⟨rfl, ho, hk⟩
  replace f0 := (hk.frozen (World.block_lt_of_cell? _ _ x0) (by show ¬ w.heap.size = p; omega)).trans f0
  replace x0 := hk.cell x0 (by show ¬ w.heap.size = p; omega)
  replace HB := Lib.hid (kept_new HB.out hk (fun i hi e => by omega))
  replace HO := Lib.hid ho
  clear ho hk HT
  gi_wp2_with fail
  replace f0 := (kf (ba (bz _) (.cells (us [1, 2, 3, 1]).toArray 37)) _ _ (World.block_lt_of_cell? _ _ x0) f0)
  replace x0 := cell_past (ba (bz _) (.cells (us [1, 2, 3, 1]).toArray 37)) x0
  replace HO := Lib.hid (HO.out.below (ba (bz _) (.cells (us [1, 2, 3, 1]).toArray 37)))
  replace HB := Lib.hid (HB.out.alloc HB.out.size (.cells (us [1, 2, 3, 1]).toArray 37))
  have ht := leaves_any _ p (setL (fun _ => []) 2 [1, 2, 3]) ([1, 2, 3, 1] : List Int) _ _ _ _ _ HO.out (SlAt.new w6 37 1 4 (us [1, 2, 3, 1]) _ rfl rfl (by decide)) (by decide)
  rw [show (!takeB (setL (fun _ => []) 2 [1, 2, 3]) 2 [1, 2, 3, 1] && takeE 2 [1, 2, 3, 1] == 0) = true from by decide, show takeL (setL (fun _ => []) 2 [1, 2, 3]) 2 [1, 2, 3, 1] = (setL (fun _ => []) 2 [1, 2, 3]) from if_neg (by decide)] at ht
  have HT := Lib.hid ht
  clear ht
  refine ⟨trivial, ?_⟩
  refine (callsIn_wide.2 HT.out).mono ?_
  rintro e w7 ⟨rfl, ho, hk⟩
  replace f0 := (hk.frozen (World.block_lt_of_cell? _ _ x0) (by show ¬ w.heap.size = p; omega)).trans f0
  replace x0 := hk.cell x0 (by show ¬ w.heap.size = p; omega)
  replace HB := Lib.hid (kept_new HB.out hk (fun i hi e => by omega))
  replace HO := Lib.hid ho
  clear ho hk HT
  gi_wp2_with fail
  replace f0 := (kf (ba (bz _) (.cells (us [5]).toArray 37)) _ _ (World.block_lt_of_cell? _ _ x0) f0)
  replace x0 := cell_past (ba (bz _) (.cells (us [5]).toArray 37)) x0
  replace HO := Lib.hid (HO.out.below (ba (bz _) (.cells (us [5]).toArray 37)))
  replace HB := Lib.hid (HB.out.alloc HB.out.size (.cells (us [5]).toArray 37))
  have ht := leaves_any _ p (setL (fun _ => []) 2 [1, 2, 3]) ([5] : List Int) _ _ _ _ _ HO.out (SlAt.new w7 37 1 1 (us [5]) _ rfl rfl (by decide)) (by decide)
  rw [show (!takeB (setL (fun _ => []) 2 [1, 2, 3]) 2 [5] && takeE 2 [5] == 0) = true from by decide, show takeL (setL (fun _ => []) 2 [1, 2, 3]) 2 [5] = (setL (fun _ => []) 2 [1, 2, 3]) from if_neg (by decide)] at ht
  have HT := Lib.hid ht
  clear ht
  refine ⟨trivial, ?_⟩
  refine (callsIn_wide.2 HT.out).mono ?_
  rintro e w8 ⟨rfl, ho, hk⟩
  replace f0 := (hk.frozen (World.block_lt_of_cell? _ _ x0) (by show ¬ w.heap.size = p; omega)).trans f0
  replace x0 := hk.cell x0 (by show ¬ w.heap.size = p; omega)
  replace HB := Lib.hid (kept_new HB.out hk (fun i hi e => by omega))
  replace HO := Lib.hid ho
  clear ho hk HT
  gi_wp2_with fail
  replace f0 := (kf (ba (bz _) (.cells (us [1, 2, 3]).toArray 37)) _ _ (World.block_lt_of_cell? _ _ x0) f0)
  replace x0 := cell_past (ba (bz _) (.cells (us [1, 2, 3]).toArray 37)) x0
  replace HO := Lib.hid (HO.out.below (ba (bz _) (.cells (us [1, 2, 3]).toArray 37)))
  replace HB := Lib.hid (HB.out.alloc HB.out.size (.cells (us [1, 2, 3]).toArray 37))
  have ht := takes_any _ p (setL (fun _ => []) 2 [1, 2, 3]) ([1, 2, 3] : List Int) _ _ _ _ _ HO.out (SlAt.new w8 37 1 3 (us [1, 2, 3]) _ rfl rfl (by decide)) (by decide)
  rw [show (takeB (setL (fun _ => []) 2 [1, 2, 3]) 2 [1, 2, 3] && takeE 2 [1, 2, 3] == 0) = true from by decide, show takeL (setL (fun _ => []) 2 [1, 2, 3]) 2 [1, 2, 3] = (setL (fun _ => []) 2 [1, 2, 3]) from if_neg (by decide)] at ht
  have HT := Lib.hid ht
  clear ht
  refine ⟨trivial, ?_⟩
  refine (callsIn_wide.2 HT.out).mono ?_
  rintro e w9 ⟨rfl, ho, hk⟩
  replace f0 := (hk.frozen (World.block_lt_of_cell? _ _ x0) (by show ¬ w.heap.size = p; omega)).trans f0
  replace x0 := hk.cell x0 (by show ¬ w.heap.size = p; omega)
  replace HB := Lib.hid (kept_new HB.out hk (fun i hi e => by omega))
  replace HO := Lib.hid ho
  clear ho hk HT
  gi_wp2_with fail
  have ht := place_any _ p 2 (setL (fun _ => []) 2 [1, 2, 3]) 3 w9 HO.out (by decide)
  rw [show max (ix (keyL (setL (fun _ => []) 2 [1, 2, 3]) 2) 3) 0 = 2 from by decide, show decide ((3 : Int) ∈ keyL (setL (fun _ => []) 2 [1, 2, 3]) 2) = true from by decide] at ht
  have HT := Lib.hid ht
  clear ht
  refine ⟨trivial, ?_⟩
  refine (callsIn_wide.2 HT.out).mono ?_
  rintro e w0 ⟨rfl, rfl⟩
  clear HT
  gi_wp2_with fail
  have ht := place_any _ p 2 (setL (fun _ => []) 2 [1, 2, 3]) 9 w9 HO.out (by decide)
  rw [show max (ix (keyL (setL (fun _ => []) 2 [1, 2, 3]) 2) 9) 0 = 0 from by decide, show decide ((9 : Int) ∈ keyL (setL (fun _ => []) 2 [1, 2, 3]) 2) = false from by decide] at ht
  have HT := Lib.hid ht
  clear ht
  refine ⟨trivial, ?_⟩
  refine (callsIn_wide.2 HT.out).mono ?_
  rintro e w0 ⟨rfl, rfl⟩
  clear HT
  gi_wp2_with fail
  have ht := at_in _ p 2 (setL (fun _ => []) 2 [1, 2, 3]) 1 2 w9 HO.out (by decide) (by decide)
  have HT := Lib.hid ht
  clear ht
  refine ⟨trivial, ?_⟩
  refine (callsIn_wide.2 HT.out).mono ?_
  rintro e w0 ⟨rfl, rfl⟩
  clear HT
  gi_wp2_with fail
  have ht := at_out _ p 2 (setL (fun _ => []) 2 [1, 2, 3]) 3 w9 HO.out (by decide) (.inr ⟨by decide, by decide⟩)
  have HT := Lib.hid ht
  clear ht
  refine ⟨trivial, ?_⟩
  refine (callsIn_wide.2 HT.out).mono ?_
  rintro e w0 ⟨rfl, rfl⟩
  clear HT
  gi_wp2_with fail
  have ht := take_any _ p 8 (setL (fun _ => []) 2 [1, 2, 3]) [] _ _ _ _ _ HO.out (slat_none w9) (by decide) (by decide)
  unfold TakePost TPost at ht
  rw [show takeB (setL (fun _ => []) 2 [1, 2, 3]) 8 [] = false from by decide, show takeE 8 [] = 2 from by decide, show takeL (setL (fun _ => []) 2 [1, 2, 3]) 8 [] = (setL (fun _ => []) 2 [1, 2, 3]) from if_neg (by decide)] at ht
  have HT := Lib.hid ht
  clear ht
  refine ⟨trivial, ?_⟩
  refine (callsIn_wide.2 HT.out).mono ?_
  rintro e w10 ⟨rfl, ho, hk⟩
  replace f0 := (hk.frozen (World.block_lt_of_cell? _ _ x0) (by show ¬ w.heap.size = p; omega)).trans f0
  replace x0 := hk.cell x0 (by show ¬ w.heap.size = p; omega)
  replace HB := Lib.hid (kept_new HB.out hk (fun i hi e => by omega))
  replace HO := Lib.hid ho
  clear ho hk HT
  gi_wp2_with (first | (gi_at_make; refine wpListIn_make_full _ rfl _ _ 22 rfl w10.heap.size 37 j0 (.int .u16 0) 1 Try.underlying22 hj jz0 jz1 .i64 .i64 33 33 33 rfl rfl rfl rfl (by rw [jz2]; decide) (by decide) (Nat.le_refl _) ?_; intro wm hown hgrow; rw [made_one _ rfl 33] at hown; have HOWN := Lib.hid hown; have HGR := Lib.hid (below_own (bz w10) (World.ownsRow_nil w10 w10.heap.size 37 1) (show w10.grownBy wm (Value.slice none 0 0).ownBlock from hgrow) (Nat.le_refl _) (Nat.le_refl _)); clear hown hgrow))
  obtain ⟨aoM, capM, bM, oM, hvM, hsM, _⟩ := SlAt.owned HOWN.out
  have hb := HGR.out
  replace f0 := (kf hb _ _ (World.block_lt_of_cell? _ _ x0) f0)
  replace x0 := cell_past hb x0
  replace HO := Lib.hid (HO.out.below hb)
  replace HB := Lib.hid (bt HB.out hb)
  clear hb
  have hsM2 : SlAt wm 1 (List.replicate 33 (0 : Int)).length (us (List.replicate 33 (0 : Int))) aoM capM bM oM := hsM
  cases hvM
  have HSM := Lib.hid hsM2
  clear hsM hsM2 HOWN HGR
  have ht := take_any _ p 0 (setL (fun _ => []) 2 [1, 2, 3]) (List.replicate 33 (0 : Int)) _ _ _ _ _ HO.out HSM.out (by decide) (by decide)
  unfold TakePost TPost at ht
  rw [show takeB (setL (fun _ => []) 2 [1, 2, 3]) 0 (List.replicate 33 (0 : Int)) = false from by decide, show takeE 0 (List.replicate 33 (0 : Int)) = 3 from by decide, show takeL (setL (fun _ => []) 2 [1, 2, 3]) 0 (List.replicate 33 (0 : Int)) = (setL (fun _ => []) 2 [1, 2, 3]) from if_neg (by decide)] at ht
  have HT := Lib.hid ht
  clear ht
  refine ⟨trivial, ?_⟩
  refine (callsIn_wide.2 HT.out).mono ?_
  rintro e w11 ⟨rfl, ho, hk⟩
  replace f0 := (hk.frozen (World.block_lt_of_cell? _ _ x0) (by show ¬ w.heap.size = p; omega)).trans f0
  replace x0 := hk.cell x0 (by show ¬ w.heap.size = p; omega)
  replace HB := Lib.hid (kept_new HB.out hk (fun i hi e => by omega))
  replace HO := Lib.hid ho
  clear ho hk HT
  gi_wp2_with fail
  have ht := of_any _ p 3 (setL (fun _ => []) 2 [1, 2, 3]) w11 HO.out (by decide)
  rw [show keyL (setL (fun _ => []) 2 [1, 2, 3]) 3 = [] from by decide] at ht
  have HT := Lib.hid ht
  clear ht
  refine ⟨trivial, ?_⟩
  refine (callsIn_wide.2 HT.out).mono ?_
  rintro e w12 hpost
  obtain ⟨aoX11, capX11, rfl, hb⟩ := hpost.len0
  replace f0 := (kf hb _ _ (World.block_lt_of_cell? _ _ x0) f0)
  replace x0 := cell_past hb x0
  replace HO := Lib.hid (HO.out.below hb)
  replace HB := Lib.hid (bt HB.out hb)
  clear hb HT hpost
  gi_wp2_with fail
  have ht := of_any _ p 9 (setL (fun _ => []) 2 [1, 2, 3]) w12 HO.out (by decide)
  rw [show keyL (setL (fun _ => []) 2 [1, 2, 3]) 9 = [] from by decide] at ht
  have HT := Lib.hid ht
  clear ht
  refine ⟨trivial, ?_⟩
  refine (callsIn_wide.2 HT.out).mono ?_
  rintro e w13 hpost
  obtain ⟨aoX12, capX12, rfl, hb⟩ := hpost.len0
  replace f0 := (kf hb _ _ (World.block_lt_of_cell? _ _ x0) f0)
  replace x0 := cell_past hb x0
  replace HO := Lib.hid (HO.out.below hb)
  replace HB := Lib.hid (bt HB.out hb)
  clear hb HT hpost
  gi_wp2_with fail
  obtain ⟨q, hq⟩ : ∃ q, q = w13.heap.size := ⟨_, rfl⟩
  have HZ : Hid (ZeroAt (w13.alloc (.cells #[Value.bool false, Value.slice none 0 0, Value.slice none 0 0, Value.slice none 0 0, Value.slice none 0 0, Value.slice none 0 0, Value.slice none 0 0, Value.slice none 0 0, Value.slice none 0 0] 54)) q) := Lib.hid (by unfold ZeroAt; rw [hq]; simp [go_sem])
  have hqp : p ≠ q := by rw [hq]; exact Nat.ne_of_lt HO.out.lt
  have hqw : w.heap.size ≠ q := by rw [hq]; exact Nat.ne_of_lt (World.block_lt_of_cell? _ _ x0)
  have hqs : q < (w13.alloc (.cells #[Value.bool false, Value.slice none 0 0, Value.slice none 0 0, Value.slice none 0 0, Value.slice none 0 0, Value.slice none 0 0, Value.slice none 0 0, Value.slice none 0 0, Value.slice none 0 0] 54)).heap.size := by rw [hq]; simp
  replace f0 := (kf (ba (bz _) (.cells #[Value.bool false, Value.slice none 0 0, Value.slice none 0 0, Value.slice none 0 0, Value.slice none 0 0, Value.slice none 0 0, Value.slice none 0 0, Value.slice none 0 0, Value.slice none 0 0] 54)) _ _ (World.block_lt_of_cell? _ _ x0) f0)
  replace x0 := cell_past (ba (bz _) (.cells #[Value.bool false, Value.slice none 0 0, Value.slice none 0 0, Value.slice none 0 0, Value.slice none 0 0, Value.slice none 0 0, Value.slice none 0 0, Value.slice none 0 0, Value.slice none 0 0] 54)) x0
  replace HO := Lib.hid (HO.out.below (ba (bz _) (.cells #[Value.bool false, Value.slice none 0 0, Value.slice none 0 0, Value.slice none 0 0, Value.slice none 0 0, Value.slice none 0 0, Value.slice none 0 0, Value.slice none 0 0, Value.slice none 0 0] 54)))
  replace HB := Lib.hid (HB.out.alloc HB.out.size (.cells #[Value.bool false, Value.slice none 0 0, Value.slice none 0 0, Value.slice none 0 0, Value.slice none 0 0, Value.slice none 0 0, Value.slice none 0 0, Value.slice none 0 0, Value.slice none 0 0] 54))
  rw [← hq]
  generalize w13.alloc (.cells #[Value.bool false, Value.slice none 0 0, Value.slice none 0 0, Value.slice none 0 0, Value.slice none 0 0, Value.slice none 0 0, Value.slice none 0 0, Value.slice none 0 0, Value.slice none 0 0] 54) = wz at *
  clear hq
  have HT := Lib.hid (take_nil 0 (.slice none 0 0) wz)
  refine ⟨trivial, ?_⟩
  refine (callsIn_wide.2 HT.out).mono ?_
  rintro e w0 ⟨rfl, rfl⟩
  clear HT
  gi_wp2_with fail
  have HT := Lib.hid (take_zero q 0 (.slice none 0 0) wz HZ.out)
  refine ⟨trivial, ?_⟩
  refine (callsIn_wide.2 HT.out).mono ?_
  rintro e w0 ⟨rfl, rfl⟩
  clear HT
  gi_wp2_with fail
  have HT := Lib.hid (at_nil 0 0 wz (by decide))
  refine ⟨trivial, ?_⟩
  refine (callsIn_wide.2 HT.out).mono ?_
  rintro e w0 ⟨rfl, rfl⟩
  clear HT
  gi_wp2_with (refine ⟨trivial, ?_⟩; gi_at_call 24; refine (pairs_in Fence.wide _ trivial rfl _ _ _).mono ?_; rintro e w' ⟨rfl, rfl⟩)
  obtain ⟨B1, hB1⟩ : ∃ B, B = wz.heap.size := ⟨_, rfl⟩
  have hzB : q < B1 := by rw [hB1]; exact World.block_lt_of_cell? _ _ HZ.out
  have hwB : w.heap.size ≤ B1 := by rw [hB1]; exact HB.out.size
  have c1 : ((wz.alloc (.cells #[.pointer (some ⟨q, 0, none⟩)] 27)).alloc (.cells #[.int .u8 0] 5)).cell? ⟨B1, 0, none⟩ = some (.pointer (some ⟨q, 0, none⟩)) := by rw [hB1]; simp [go_sem]
  have c2 : ((wz.alloc (.cells #[.pointer (some ⟨q, 0, none⟩)] 27)).alloc (.cells #[.int .u8 0] 5)).cell? ⟨B1 + 1, 0, none⟩ = some (.int .u8 0) := by rw [hB1]; simp [go_sem]
  have hsl : ((wz.alloc (.cells #[.pointer (some ⟨q, 0, none⟩)] 27)).alloc (.cells #[.int .u8 0] 5)).heap.size = B1 + 2 := by rw [hB1]; simp
  have hbl := ba (ba (bz wz) (.cells #[.pointer (some ⟨q, 0, none⟩)] 27)) (.cells #[.int .u8 0] 5)
  replace f0 := kf hbl _ _ (World.block_lt_of_cell? _ _ x0) f0
  replace x0 := cell_past hbl x0
  replace HZ := Lib.hid (show ZeroAt _ q from cell_past hbl HZ.out)
  replace HB := Lib.hid (bt HB.out hbl)
  rw [← hB1]
  generalize ((wz.alloc (.cells #[.pointer (some ⟨q, 0, none⟩)] 27)).alloc (.cells #[.int .u8 0] 5)) = wl at *
  clear hbl hB1 HO hneq hqs hqp
  have HQW := Lib.hid hqw
  clear hqw
  refine wpIn_rangeFunc_ownF rfl (by omega) (gf := 34) (lb := #[.pointer (some ⟨B1, 0, none⟩), .pointer (some ⟨B1 + 1, 0, none⟩)]) rfl trivial (enters_of Try.func34 (by kernel_rfl) rfl)
    (pairs0_stops B1 q w.heap.size wl (by omega) (by omega) c1 c2 HZ.out) belowK_t (belowK_b (by omega)) (Below.refl _ _) (fun x => x.elim)
    (fun (pre : List Empty) W => ((W.cell? ⟨w.heap.size, 0, none⟩ = some (.bool false) ∧ W.frozen? ⟨w.heap.size, 0, none⟩ = false) ∧ ZeroAt W q) ∧ Below w.heap.size w W)
    (fun _ _ _ => False)
    (OwnFrom.and (Own.from (fun s A B row hs hg hr => ⟨⟨cell_kept hs.1.1 hg hr, (frozen_kept hs.1.1 hg hr).trans hs.1.2⟩, cell_kept hs.2 hg hr⟩) _) (ownFrom_below (Nat.le_refl _) (by omega)))
    (fun _ _ _ _ _ hs _ _ => hs)
    ⟨⟨⟨x0, f0⟩, HZ.out⟩, HB.out⟩ (fun x => x.elim) ?assign ?body ?done ?stop
  case assign => intro l x; exact x.elim
  case body => rintro l pre x; exact x.elim
  case done =>
    clear x0 f0 c1 c2 HZ HB
    rintro D ys W hD _ ⟨⟨⟨x0, f0⟩, hz⟩, hB⟩ hK
    have HDD := Lib.hid hD
    have HB := Lib.hid hB
    have HZ := Lib.hid hz
    have HK := Lib.hid hK
    clear hD hB hz hK
    gi_wp2_with fail
    refine ⟨trivial, ?_⟩
    refine (callsIn_wide.2 (of_zero q 0 W HZ.out)).mono ?_
    rintro e wa hpost
    obtain ⟨aoY, capY, rfl, hb⟩ := hpost.len0
    replace f0 := kf hb _ _ (World.block_lt_of_cell? _ _ x0) f0
    replace x0 := cell_past hb x0
    replace HZ := Lib.hid (show ZeroAt _ q from cell_past hb HZ.out)
    replace HB := Lib.hid (bt HB.out hb)
    replace HK := Lib.hid ((keeps_of_below hb).same D _ HK.out rfl)
    clear hb hpost
    gi_wp2_with fail
    refine ⟨trivial, ?_⟩
    refine (callsIn_wide.2 (copy_nil wa)).mono ?_
    rintro e w0 ⟨rfl, rfl⟩
    gi_wp2_with fail
    refine ⟨trivial, ?_⟩
    refine (callsIn_wide.2 (copy_zero q wa HZ.out)).mono ?_
    rintro e w0 ⟨rfl, rfl⟩
    gi_wp2_with fail
    refine ⟨trivial, ?_⟩
    refine (callsIn_wide.2 (works_any wa)).mono ?_
    rintro e wb ⟨rfl, hb⟩
    replace f0 := kf hb _ _ (World.block_lt_of_cell? _ _ x0) f0
    replace x0 := cell_past hb x0
    replace HB := Lib.hid (bt HB.out hb)
    replace HK := Lib.hid ((keeps_of_below hb).same D _ HK.out rfl)
    clear hb HZ
    gi_wp2
    have hK4 := (KeepsOthers.setCell wb ⟨w.heap.size, 0, none⟩ (.bool true)).same D _ HK.out rfl
    refine ⟨by simp, .inl ⟨_, _, rfl, run_takeDeferred hK4, ?_⟩⟩
    have hc5 := cell_kept (World.cell?_setCell_same' wb ⟨w.heap.size, 0, none⟩ (.bool true) (by rw [x0]; rfl)) (grownBy_putObj' _ D (.deferred none)) (fun r e => by cases e; exact ⟨_, hK4, rfl⟩)
    have hD := HDD.out
    refine ⟨.bool true, ?_, rfl, (HB.out.setCell (p := ⟨w.heap.size, 0, none⟩) (Nat.le_refl _) _).trans (belowK_b (w := w) (Nat.le_refl _) _ D _ _ (by omega) hK4 rfl rfl)⟩
    simp [results, Try.f8, go_sem, hc5]
  case stop =>
    rintro D c pre W _ _ h _
    exact h.elim
end Go.Proofs.Ytggbcailaeebfaa
