/- A key's order, told by all calls: shown. -/
import Derived.Test.YtggbcailaeebfaaRtk
import Derived.Test.YtggbcailaeebfaaTake
namespace Go.Proofs.Ytggbcailaeebfaa
open Go.RowKit Go.Um Go.Shelf
attribute [local go_sem] Oper.semAt_some
set_option linter.unusedSimpArgs false
set_option linter.unusedVariables false
set_option maxHeartbeats 4000000
set_option maxRecDepth 100000
theorem keyL_len {S : Nat → Prop} {w : World} {p : Nat} {L : Nat → List Int} (h : OrdAt S w p L) (k : Nat) : (keyL L k).length ≤ 32 := by
  unfold keyL
  split
  · rename_i hk
    obtain ⟨_, _, _, _, _, _, _, _, h5⟩ := h.row k hk
    exact h5
  · simp
theorem wp_calm {P : Program} {c : Code} {K : Act → World → Prop} {Q : Exit → Act → World → Prop} {a : Act} {w : World} (h : Code.wp P c (Exit.then K (fun _ _ _ => False)) a w) : Code.wp P c (Exit.then K Q) a w :=
  wp_mono h (fun e a w h => by cases e <;> first | exact h | exact h.elim)
theorem eqlF (a b : Addr) (w : World) : (binOp .eql 56 (.func (.func 34) #[] #[.pointer (some a), .pointer (some b)]) .nilFunc).run Try.prog w = .ok (.bool false) w := by kernel_rfl
theorem pxs_range {l : List Int} {pre : List (Px l)} {x : Px l} {t : Nat} (h : pxs (pre ++ [x]) = List.range t) : pxs pre = List.range pre.length ∧ x.1 = pre.length := by
  rw [pxs_snoc] at h
  have h1 := congrArg List.length h
  simp [pxs] at h1
  subst h1
  rw [List.range_succ] at h
  have h2 := List.append_inj' h rfl
  exact ⟨h2.1, by simpa using h2.2⟩
theorem slat_grown {A B : World} {row : Option Nat} {size n cap b o : Nat} {cs : List Value} {ao : Option Addr} (h : SlAt A size n cs ao cap b o) (hg : A.grownBy B row) (hr : ∀ r, row = some r → ∃ o : Obj, A.heap[r]? = some o ∧ o.isCells = false) : SlAt B size n cs ao cap b o :=
  ⟨h.len, h.le, h.max, h.addr, fun hp => Nat.lt_of_lt_of_le (h.lt hp) hg.size, fun j u hu => cell_kept (h.cell j u hu) hg hr⟩
theorem ix_in {l : List Int} {v : Int} (h : v ∈ l) : ix l v = ((l.idxOf v : Nat) : Int) := if_pos h
theorem shown_in (S T : Nat → Prop) (p q k : Nat) (L : Nat → List Int) (M : Nat → List (List Int)) (v : Int) (w : World) (h : OrdAt S w p L) (hR : RefAt T w q M) (hrel : Rel L M) (hk : k ≤ 255) (hn : ∀ j, (M j).length ≤ 1000) (hv : v ∈ keyL L k) :
    Calls Try.prog 19 #[.pointer (some ⟨p, 0, none⟩), .pointer (some ⟨q, 0, none⟩), .int .u8 k, .int .u16 v] w fun e w' => e = .returned (.bool true) ∧ Below w.heap.size w w' := by
  have h0 := h.mono (S' := fun b => b < w.heap.size) (fun b hb _ => hb)
  have hpw := h.lt
  have h32 := keyL_len h k
  have cOf := fun W (hb : Below w.heap.size w W) => rof_any T q k M L W (hR.below hb) hk hn hrel
  have cPl := fun W (hb : Below w.heap.size w W) => place_any _ p k L v W (h0.below hb) hk
  have cRp := fun W (hb : Below w.heap.size w W) => rplace_any T q k M L v W (hR.below hb) hk hn hrel h32
  have cCl := fun W (hb : Below w.heap.size w W) => of_any _ p k L W (h0.below hb) hk
  have cIn := fun W (hb : Below w.heap.size w W) j x hx => at_in _ p k L j x W (h0.below hb) hk hx
  have cOut := fun W (hb : Below w.heap.size w W) i hx => at_out _ p k L i W (h0.below hb) hk hx
  obtain ⟨X, hX⟩ : ∃ X : Nat, X = (keyL L k).idxOf v := ⟨_, rfl⟩
  have hix : ix (keyL L k) v = (X : Int) := by rw [hX]; exact ix_in hv
  rw [hix, decide_eq_true hv, show max (X : Int) 0 = (X : Int) by omega] at cPl
  rw [hix] at cRp
  have xb : ((X : Nat) : Int) ≤ 32 := by have := (ix_bd (keyL L k) v).2; omega
  have xb0 : (0 : Int) ≤ (X : Int) := by omega
  obtain ⟨l, hl⟩ : ∃ l, l = keyL L k := ⟨_, rfl⟩
  rw [← hl] at cOf cCl cIn cOut h32
  have HOF := Lib.hid cOf
  have HPL := Lib.hid cPl
  have HRP := Lib.hid cRp
  have HCL := Lib.hid cCl
  have HIN := Lib.hid cIn
  have HOUT := Lib.hid cOut
  have HL := Lib.hid hl
  have H0 := Lib.hid h0
  obtain ⟨m, hm⟩ : ∃ m, m = l.length := ⟨_, rfl⟩
  have HM := Lib.hid hm
  rw [← hm] at h32
  clear h h0 hR hrel hn hv cOf cPl cRp cCl cIn cOut hl hm hix
  clear hX
  refine (callsIn_wide (n := 4)).1 ?_
  refine callsIn_of_wp_marks Try.func19 rfl trivial ?_ rfl
  simp only [Try.ntmps19, List.size_toArray, List.length_cons, List.length_nil, Nat.reduceAdd, Nat.reduceSub, Array.replicate_succ, Array.replicate_zero, List.push_toArray, List.append_toArray, List.nil_append, List.cons_append]
  refine wpIn_wide.2 ?_
  go_wp2_with fail
  refine (HOF.out _ (ba (bz w) _)).mono ?_
  rintro e w1 ⟨v1, rfl, ⟨ao, cap, b, o, rfl, hs, _⟩, rfl⟩
  have HS := Lib.hid hs
  clear hs
  rw [← HM.out] at HS ⊢
  go_wp2_with fail
  obtain ⟨p9, hp9⟩ : ∃ p, p = w.heap.size + 1 := ⟨_, rfl⟩
  obtain ⟨wZ, hwZ⟩ : ∃ wZ, wZ = (w.alloc (.cells #[.bool false] 4)).alloc (.cells #[.slice ao m cap] 22) := ⟨_, rfl⟩
  have r0 : wZ.cell? ⟨w.heap.size, 0, none⟩ = some (.bool false) := by rw [hwZ]; simp [go_sem]
  have f0 : wZ.frozen? ⟨w.heap.size, 0, none⟩ = false := by rw [hwZ]; simp [go_sem]
  have r1 : wZ.cell? ⟨p9, 0, none⟩ = some (.slice ao m cap) := by rw [hwZ, hp9]; simp [go_sem]
  have hz2 : wZ.heap.size = w.heap.size + 2 := by rw [hwZ]; simp
  have HB2 := Lib.hid (show Below w.heap.size w wZ by rw [hwZ]; exact ba (ba (bz w) _) _)
  have HS2 := Lib.hid (show SlAt wZ 1 m (us l) ao cap b o by rw [hwZ]; exact HS.out.below (ba (bz _) _))
  rw [← hwZ, ← hp9]
  have HP9 := Lib.hid hp9
  clear hwZ HS HOF hp9
  refine (HPL.out _ HB2.out).mono ?_
  rintro e wX ⟨rfl, rfl⟩
  clear HPL
  go_wp2_with fail
  refine (HRP.out _ HB2.out).mono ?_
  rintro e wX ⟨rfl, hq⟩
  obtain ⟨nq, rfl⟩ := hq
  clear HRP
  generalize hw2' : wZ.drewN nq = w2 at *
  replace r0 : w2.cell? ⟨w.heap.size, 0, none⟩ = some (.bool false) := by rw [← hw2']; exact cell_past (below_drewN (bz wZ) nq) r0
  replace f0 : w2.frozen? ⟨w.heap.size, 0, none⟩ = false := by rw [← hw2']; exact kf (below_drewN (bz wZ) nq) _ _ (by omega) f0
  replace r1 : w2.cell? ⟨p9, 0, none⟩ = some (.slice ao m cap) := by rw [← hw2']; exact cell_past (below_drewN (bz wZ) nq) r1
  replace hz2 : w2.heap.size = w.heap.size + 2 := by rw [← hw2']; exact hz2
  replace HB2 := Lib.hid (show Below w.heap.size w w2 by rw [← hw2']; exact below_drewN HB2.out nq)
  replace HS2 := Lib.hid (show SlAt w2 1 m (us l) ao cap b o by rw [← hw2']; exact HS2.out.below (below_drewN (bz wZ) nq))
  clear hw2' wZ
  go_wp2_with fail
  refine wp_calm ?_
  refine wp_region_held_drew (S := (fun w' => w'.cell? ⟨p9, 0, none⟩ = some (.slice ao m cap))) (by kernel_rfl) (by exact r1) (fun hHeld => ?_)
  refine takeD (i := 0) (v := ?zva0) (some 34) rfl rfl (by kernel_rfl) (by kernel_rfl) (by kernel_rfl) (fun _ _ _ h => h) (Or.inl ⟨by rfl, ?zya0⟩) (by assumption) ?zra0
  case zya0 => (intro w hSw; (try dsimp only at hSw); go_simp; try with_reducible rfl)
  try simp only [Act.put, List.setIfInBounds_toArray, List.set_cons_zero, List.set_cons_succ]
  refine takeD (i := 1) (v := ?zva1) (some 35) rfl rfl (by kernel_rfl) (by kernel_rfl) (by kernel_rfl) (fun _ _ _ h => h) (Or.inl ⟨by rfl, ?zya1⟩) (by assumption) ?zra1
  case zya1 => (intro w hSw; (try dsimp only at hSw); go_simp; try with_reducible rfl)
  try simp only [Act.put, List.setIfInBounds_toArray, List.set_cons_zero, List.set_cons_succ]
  refine takeD (i := 3) (v := ?zva3) (some 37) rfl rfl (by kernel_rfl) (by kernel_rfl) (by kernel_rfl) (fun _ _ _ h => h) (Or.inl ⟨by rfl, ?zya3⟩) (by assumption) ?zra3
  case zya3 => (intro w hSw; (try dsimp only at hSw); go_simp; try with_reducible rfl)
  try simp only [Act.put, List.setIfInBounds_toArray, List.set_cons_zero, List.set_cons_succ]
  refine wpAnyH_ready (rs := [2]) (by kernel_rfl) (by simp) ?_
  refine AllReadyH.cons rfl (fun K hK => ?_) AllReadyH.nil
  go_simp
  refine (HCL.out _ (HB2.out.drew)).mono ?_
  rintro e w3 ⟨v3, rfl, hown3, hb3⟩
  rw [← HM.out] at hown3
  obtain ⟨ao3, cap3, b3, o3, rfl, hs3, -⟩ := SlAt.owned hown3
  replace r0 := cell_past hb3 (show w2.drew.cell? _ = _ from r0)
  replace f0 := kf hb3 _ _ (by show w.heap.size < w2.heap.size; omega) f0
  replace r1 := cell_past hb3 (show w2.drew.cell? _ = _ from r1)
  have HB3 := Lib.hid (bt HB2.out.drew hb3)
  have HS3 := Lib.hid hs3
  have HSW := Lib.hid (HS2.out.below (bt (bz w2).drew hb3))
  clear hown3 hb3 hs3
  go_wp2_with fail
  refine hK.out _ _ (by exact r1) (fun hHeld2 => ?_)
  clear hK K
  clear hHeld
  have hHeld := hHeld2
  clear hHeld2
  try simp only [Act.put, List.setIfInBounds_toArray, List.set_cons_zero, List.set_cons_succ]
  refine wpAnyH_ready (rs := [4]) (by kernel_rfl) (by simp) ?_
  refine AllReadyH.cons rfl (fun K hK => ?_) AllReadyH.nil
  go_simp
  have hsame := same_any l l ao3 ao cap3 b3 o3 cap b o w3 (by rw [← HM.out]; exact HS3.out) (by rw [← HM.out]; exact HSW.out) (by rw [← HM.out]; omega)
  unfold SamePost at hsame
  rw [← HM.out, decide_eq_true (rfl : l = l)] at hsame
  refine hsame.mono ?_
  rintro e w4 ⟨rfl, hq4⟩
  replace f0 := kf hq4.below _ _ (World.block_lt_of_cell? _ _ r0) f0
  replace r0 := cell_past hq4.below r0
  replace r1 := cell_past hq4.below r1
  have HB4 := Lib.hid (bt HB3.out hq4.below)
  have HS4 := Lib.hid (HSW.out.below hq4.below)
  clear hq4 hsame HSW HS3 HB3
  go_wp2_with fail
  refine hK.out _ _ (by exact r1) (fun hHeld2 => ?_)
  clear hK K
  clear hHeld
  have hHeld := hHeld2
  clear hHeld2
  try simp only [Act.put, List.setIfInBounds_toArray, List.set_cons_zero, List.set_cons_succ]
  refine takeD (i := 5) (v := ?zva5) (some 39) rfl rfl (by kernel_rfl) (by kernel_rfl) (by kernel_rfl) (fun _ _ _ h => h) (Or.inl ⟨by rfl, ?zya5⟩) (by assumption) ?zra5
  case zya5 => (intro w hSw; (try dsimp only at hSw); go_simp; try with_reducible rfl)
  try simp only [Act.put, List.setIfInBounds_toArray, List.set_cons_zero, List.set_cons_succ]
  refine takeD (i := 6) (v := ?zva6) (some 40) rfl rfl (by kernel_rfl) (by kernel_rfl) (by kernel_rfl) (fun _ _ _ h => h) (Or.inl ⟨by rfl, ?zya6⟩) (by assumption) ?zra6
  case zya6 => (intro w hSw; (try dsimp only at hSw); go_simp; try with_reducible rfl)
  try simp only [Act.put, List.setIfInBounds_toArray, List.set_cons_zero, List.set_cons_succ]
  refine takeD (i := 7) (v := ?zva7) (some 41) rfl rfl (by kernel_rfl) (by kernel_rfl) (by kernel_rfl) (fun _ _ _ h => h) (Or.inl ⟨by rfl, ?zya7⟩) (by assumption) ?zra7
  case zya7 => (intro w hSw; (try dsimp only at hSw); go_simp; try with_reducible rfl)
  try simp only [Act.put, List.setIfInBounds_toArray, List.set_cons_zero, List.set_cons_succ]
  refine takeD (i := 8) (v := ?zva8) (some 42) rfl rfl (by kernel_rfl) (by kernel_rfl) (by kernel_rfl) (fun _ _ _ h => h) (Or.inl ⟨by rfl, ?zya8⟩) (by assumption) ?zra8
  case zya8 => (intro w hSw; (try dsimp only at hSw); go_simp; try with_reducible rfl)
  try simp only [Act.put, List.setIfInBounds_toArray, List.set_cons_zero, List.set_cons_succ]
  refine takeD (i := 9) (v := ?zva9) (some 43) rfl rfl (by kernel_rfl) (by kernel_rfl) (by kernel_rfl) (fun _ _ _ h => h) (Or.inl ⟨by rfl, ?zya9⟩) (by assumption) ?zra9
  case zya9 => (intro w hSw; (try dsimp only at hSw); go_simp; try with_reducible rfl)
  try simp only [Act.put, List.setIfInBounds_toArray, List.set_cons_zero, List.set_cons_succ]
  refine takeD (i := 10) (v := ?zva10) (some 44) rfl rfl (by kernel_rfl) (by kernel_rfl) (by kernel_rfl) (fun _ _ _ h => h) (Or.inl ⟨by rfl, ?zya10⟩) (by assumption) ?zra10
  case zya10 => (intro w hSw; (try dsimp only at hSw); go_simp; try with_reducible rfl)
  try simp only [Act.put, List.setIfInBounds_toArray, List.set_cons_zero, List.set_cons_succ]
  refine takeD (i := 11) (v := ?zva11) (some 45) rfl rfl (by kernel_rfl) (by kernel_rfl) (by kernel_rfl) (fun _ _ _ h => h) (Or.inl ⟨by rfl, ?zya11⟩) (by assumption) ?zra11
  case zya11 => (intro w hSw; (try dsimp only at hSw); go_simp; try with_reducible rfl)
  try simp only [Act.put, List.setIfInBounds_toArray, List.set_cons_zero, List.set_cons_succ]
  refine takeD (i := 12) (v := ?zva12) (some 46) rfl rfl (by kernel_rfl) (by kernel_rfl) (by kernel_rfl) (fun _ _ _ h => h) (Or.inl ⟨by rfl, ?zya12⟩) (by assumption) ?zra12
  case zya12 => (intro w hSw; (try dsimp only at hSw); go_simp; try with_reducible rfl)
  try simp only [Act.put, List.setIfInBounds_toArray, List.set_cons_zero, List.set_cons_succ]
  refine takeD (i := 13) (v := ?zva13) (some 47) rfl rfl (by kernel_rfl) (by kernel_rfl) (by kernel_rfl) (fun _ _ _ h => h) (Or.inl ⟨by rfl, ?zya13⟩) (by assumption) ?zra13
  case zya13 => (intro w hSw; (try dsimp only at hSw); go_simp; try with_reducible rfl)
  try simp only [Act.put, List.setIfInBounds_toArray, List.set_cons_zero, List.set_cons_succ]
  refine takeD (i := 14) (v := ?zva14) (some 48) rfl rfl (by kernel_rfl) (by kernel_rfl) (by kernel_rfl) (fun _ _ _ h => h) (Or.inl ⟨by rfl, ?zya14⟩) (by assumption) ?zra14
  case zya14 => (intro w hSw; (try dsimp only at hSw); go_simp; try with_reducible rfl)
  try simp only [Act.put, List.setIfInBounds_toArray, List.set_cons_zero, List.set_cons_succ]
  refine takeD (i := 15) (v := ?zva15) (some 49) rfl rfl (by kernel_rfl) (by kernel_rfl) (by kernel_rfl) (fun _ _ _ h => h) (Or.inl ⟨by rfl, ?zya15⟩) (by assumption) ?zra15
  case zya15 => (intro w hSw; (try dsimp only at hSw); go_simp; try with_reducible rfl)
  try simp only [Act.put, List.setIfInBounds_toArray, List.set_cons_zero, List.set_cons_succ]
  refine takeD (i := 16) (v := ?zva16) (some 50) rfl rfl (by kernel_rfl) (by kernel_rfl) (by kernel_rfl) (fun _ _ _ h => h) (Or.inl ⟨by rfl, ?zya16⟩) (by assumption) ?zra16
  case zya16 => (intro w hSw; (try dsimp only at hSw); go_simp; try with_reducible rfl)
  try simp only [Act.put, List.setIfInBounds_toArray, List.set_cons_zero, List.set_cons_succ]
  refine takeD (i := 17) (v := ?zva17) (some 51) rfl rfl (by kernel_rfl) (by kernel_rfl) (by kernel_rfl) (fun _ _ _ h => h) (Or.inl ⟨by rfl, ?zya17⟩) (by assumption) ?zra17
  case zya17 => (intro w hSw; (try dsimp only at hSw); go_simp; try with_reducible rfl)
  try simp only [Act.put, List.setIfInBounds_toArray, List.set_cons_zero, List.set_cons_succ]
  refine takeD (i := 18) (v := ?zva18) (some 52) rfl rfl (by kernel_rfl) (by kernel_rfl) (by kernel_rfl) (fun _ _ _ h => h) (Or.inl ⟨by rfl, ?zya18⟩) (by assumption) ?zra18
  case zya18 => (intro w hSw; (try dsimp only at hSw); go_simp; try with_reducible rfl)
  try simp only [Act.put, List.setIfInBounds_toArray, List.set_cons_zero, List.set_cons_succ]
  refine takeD (i := 19) (v := ?zva19) (some 53) rfl rfl (by kernel_rfl) (by kernel_rfl) (by kernel_rfl) (fun _ _ _ h => h) (Or.inl ⟨by rfl, ?zya19⟩) (by assumption) ?zra19
  case zya19 => (intro w hSw; (try dsimp only at hSw); go_simp; try with_reducible rfl)
  try simp only [Act.put, List.setIfInBounds_toArray, List.set_cons_zero, List.set_cons_succ]
  refine takeD (i := 20) (v := ?zva20) (some 54) rfl rfl (by kernel_rfl) (by kernel_rfl) (by kernel_rfl) (fun _ _ _ h => h) (Or.inl ⟨by rfl, ?zya20⟩) (by assumption) ?zra20
  case zya20 => (intro w hSw; (try dsimp only at hSw); go_simp; try with_reducible rfl)
  try simp only [Act.put, List.setIfInBounds_toArray, List.set_cons_zero, List.set_cons_succ]
  refine takeD (i := 21) (v := ?zva21) (some 55) rfl rfl (by kernel_rfl) (by kernel_rfl) (by kernel_rfl) (fun _ _ _ h => h) (Or.inl ⟨by rfl, ?zya21⟩) (by assumption) ?zra21
  case zya21 => (intro w hSw; (try dsimp only at hSw); go_simp; try with_reducible rfl)
  try simp only [Act.put, List.setIfInBounds_toArray, List.set_cons_zero, List.set_cons_succ]
  refine takeD (i := 22) (v := ?zva22) (some 56) rfl rfl (by kernel_rfl) (by kernel_rfl) (by kernel_rfl) (fun _ _ _ h => h) (Or.inl ⟨by rfl, ?zya22⟩) (by assumption) ?zra22
  case zya22 => (intro w hSw; (try dsimp only at hSw); go_simp; try with_reducible rfl)
  try simp only [Act.put, List.setIfInBounds_toArray, List.set_cons_zero, List.set_cons_succ]
  refine takeD (i := 23) (v := ?zva23) (some 57) rfl rfl (by kernel_rfl) (by kernel_rfl) (by kernel_rfl) (fun _ _ _ h => h) (Or.inl ⟨by rfl, ?zya23⟩) (by assumption) ?zra23
  case zya23 => (intro w hSw; (try dsimp only at hSw); go_simp; try with_reducible rfl)
  try simp only [Act.put, List.setIfInBounds_toArray, List.set_cons_zero, List.set_cons_succ]
  refine takeD (i := 24) (v := undef) (some 58) rfl rfl (by kernel_rfl) (by kernel_rfl) (by kernel_rfl) (fun _ _ _ h => h) (Or.inr ⟨by first | kernel_rfl | rfl, rfl⟩) (by assumption) ?zra24
  try simp only [Act.put, List.setIfInBounds_toArray, List.set_cons_zero, List.set_cons_succ]
  refine takeD (i := 25) (v := undef) (some 59) rfl rfl (by kernel_rfl) (by kernel_rfl) (by kernel_rfl) (fun _ _ _ h => h) (Or.inr ⟨by first | kernel_rfl | rfl, rfl⟩) (by assumption) ?zra25
  try simp only [Act.put, List.setIfInBounds_toArray, List.set_cons_zero, List.set_cons_succ]
  refine takeD (i := 26) (v := ?zva26) (some 60) rfl rfl (by kernel_rfl) (by kernel_rfl) (by kernel_rfl) (fun _ _ _ h => h) (Or.inl ⟨by rfl, ?zya26⟩) (by assumption) ?zra26
  case zya26 => (intro w hSw; (try dsimp only at hSw); go_simp; try with_reducible rfl)
  try simp only [Act.put, List.setIfInBounds_toArray, List.set_cons_zero, List.set_cons_succ]
  refine takeD (i := 27) (v := ?zva27) (some 61) rfl rfl (by kernel_rfl) (by kernel_rfl) (by kernel_rfl) (fun _ _ _ h => h) (Or.inl ⟨by rfl, ?zya27⟩) (by assumption) ?zra27
  case zya27 => (intro w hSw; (try dsimp only at hSw); go_simp; try with_reducible rfl)
  try simp only [Act.put, List.setIfInBounds_toArray, List.set_cons_zero, List.set_cons_succ]
  refine wpAnyH_done (by kernel_rfl) ?_ _
  have hidx := HS4.out.idx (P := Try.prog) (t := 22) Try.underlying22 size37 (by decide)
  clear hHeld HB2 HS2 HCL
  go_wp2_with fail
  go_loop [13] (fun t13 => ∃ i : Int, -1 ≤ i ∧ i ≤ (m : Int) + 1 ∧ t13 = .int .i64 i) (fun t13 => ((m : Int) + 1 - intOf t13).toNat)
  case atStart => exact ⟨-1, by omega, by omega, rfl⟩
  case round =>
    obtain ⟨i, hi1, hi2, rfl⟩ := hrel
    by_cases hle : i ≤ (m : Int)
    · have hd0 : decide (i ≤ (m : Int)) = true := decide_eq_true hle
      have hw1 : IntKind.i64.wrap (i + 1) = i + 1 := IntWalk.i64_in _ (by omega)
      by_cases hneg : i < 0
      · have HO := Lib.hid (HOUT.out w4 HB4.out i (.inl hneg))
        have t1 : decide ((0 : Int) ≤ i) = false := by simp; omega
        have t1' : ¬ (0 : Int) ≤ i := by omega
        go_wp2_with fail
        refine HO.out.mono ?_
        rintro e wX ⟨rfl, rfl⟩
        go_wp2_with fail
        go_round
        case rel => exact ⟨i + 1, by omega, by omega, by go_num⟩
        case measure => simp [intOf]; omega
      · have t1 : decide ((0 : Int) ≤ i) = true := by simp; omega
        have t1' : (0 : Int) ≤ i := by omega
        by_cases hlt : i < (m : Int)
        · obtain ⟨j, rfl⟩ : ∃ j : Nat, i = j := ⟨i.toNat, by omega⟩
          obtain ⟨x, hx⟩ : ∃ x, l[j]? = some x := ⟨_, List.getElem?_eq_getElem (by rw [← HM.out]; omega)⟩
          have HI := Lib.hid (HIN.out w4 HB4.out j x hx)
          have c2 := val_at HS4.out hx
          have t2 : decide ((j : Int) < (m : Int)) = true := decide_eq_true hlt
          clear hx
          go_wp2_with fail
          refine HI.out.mono ?_
          rintro e wX ⟨rfl, rfl⟩
          go_wp2_with fail
          go_round
          case rel => exact ⟨(j : Int) + 1, by omega, by omega, by go_num⟩
          case measure => simp [intOf]; omega
        · have HO := Lib.hid (HOUT.out w4 HB4.out i (.inr ⟨by omega, by rw [← HM.out]; omega⟩))
          have t2 : decide (i < (m : Int)) = false := decide_eq_false hlt
          go_wp2_with fail
          refine HO.out.mono ?_
          rintro e wX ⟨rfl, rfl⟩
          go_wp2_with fail
          go_round
          case rel => exact ⟨i + 1, by omega, by omega, by go_num⟩
          case measure => simp [intOf]; omega
    · have hd0 : decide (i ≤ (m : Int)) = false := decide_eq_false hle
      go_wp2_with fail
      refine (callsIn_wide.1 (pairs_in Fence.wide 4 trivial rfl _ _ _)).mono ?_
      rintro e w5 ⟨rfl, hw5⟩
      obtain ⟨B5, hB5⟩ : ∃ B, B = w4.heap.size := ⟨_, rfl⟩
      have hw5B : w.heap.size ≤ B5 := by rw [hB5]; exact HB4.out.size
      have hp9B : p9 < B5 := by rw [hB5]; exact World.block_lt_of_cell? _ _ r1
      have h0B : w.heap.size < B5 := by rw [hB5]; exact World.block_lt_of_cell? _ _ r0
      have hbl : Below w4.heap.size w4 w5 := by rw [hw5]; exact ba (ba (bz w4) _) _
      have c1 : w5.cell? ⟨B5, 0, none⟩ = some (.pointer (some ⟨p, 0, none⟩)) := by rw [hB5, hw5]; simp [go_sem]
      have c2 : w5.cell? ⟨B5 + 1, 0, none⟩ = some (.int .u8 k) := by rw [hB5, hw5]; simp [go_sem]
      have hs5 : w5.heap.size = B5 + 2 := by rw [hB5, hw5]; simp
      replace f0 := kf hbl _ _ (World.block_lt_of_cell? _ _ r0) f0
      replace r0 := cell_past hbl r0
      replace r1 := cell_past hbl r1
      have HB5 := Lib.hid (bt HB4.out hbl)
      have HS5 := Lib.hid (HS4.out.below hbl)
      have HE5 := Lib.hid hB5
      rw [← hB5]
      have hef := eqlF ⟨B5, 0, none⟩ ⟨B5 + 1, 0, none⟩
      clear hbl hw5 hB5 HS4 HB4 HE5 hidx hle hd0 hi1 hi2
      go_wp2_with fail
      obtain ⟨wl, hwl⟩ : ∃ wl, wl = w5.alloc (.cells #[.int .i64 0] 3) := ⟨_, rfl⟩
      have hbl : Below w5.heap.size w5 wl := by rw [hwl]; exact ba (bz w5) _
      have cn : wl.cell? ⟨B5 + 2, 0, none⟩ = some (.int .i64 (0 : Nat)) := by rw [hwl, ← hs5]; simp [go_sem]
      have fn : wl.frozen? ⟨B5 + 2, 0, none⟩ = false := by rw [hwl, ← hs5]; simp [go_sem]
      have hsl : wl.heap.size = B5 + 3 := by rw [hwl]; simp [hs5]
      replace f0 := kf hbl _ _ (World.block_lt_of_cell? _ _ r0) f0
      replace r0 := cell_past hbl r0
      replace r1 := cell_past hbl r1
      replace c1 := cell_past hbl c1
      replace c2 := cell_past hbl c2
      have HBL := Lib.hid (bt HB5.out hbl)
      have HSL := Lib.hid (HS5.out.below hbl)
      have HBW : Hid (0 < m → b < B5 + 2) := Lib.hid (fun h0 => by have := HS5.out.lt (by rw [us_len, ← HM.out]; omega); omega)
      rw [← hwl]
      clear hbl hwl hs5 HS5 HB5 hef HIN HOUT
      refine (wpIn_wide (n := 4)).1 ?_
      refine wpIn_rangeFunc_ownF rfl (by omega) (gf := 34) (lb := #[.pointer (some ⟨B5, 0, none⟩), .pointer (some ⟨B5 + 1, 0, none⟩)]) rfl trivial (enters_of Try.func34 (by kernel_rfl) rfl)
        (pairs_stops (fun b => b < w.heap.size) p k B5 w.heap.size L wl (H0.out.below HBL.out) hk hpw (fun b hb => hb) (by omega) (by omega) c1 c2 l HL.out) belowK_t (belowK_b (by omega)) (Below.refl _ _) (fun _ => rfl)
        (fun pre W => ((∃ t : Nat, (W.cell? ⟨B5 + 2, 0, none⟩ = some (.int .i64 t) ∧ W.frozen? ⟨B5 + 2, 0, none⟩ = false) ∧ t ≤ pre.length ∧ (pxs pre = List.range pre.length → t = pre.length)) ∧ (W.cell? ⟨w.heap.size, 0, none⟩ = some (.bool false) ∧ W.frozen? ⟨w.heap.size, 0, none⟩ = false) ∧ W.cell? ⟨p9, 0, none⟩ = some (.slice ao m cap) ∧ SlAt W 1 m (us l) ao cap b o) ∧ Below w.heap.size w W)
        (fun c pre W => c = .ret ∧ ¬ ∃ t, pxs pre = List.range t)
        (OwnFrom.and (Own.from (fun s A B row hs hg hr => ⟨⟨hs.1.choose, ⟨cell_kept hs.1.choose_spec.1.1 hg hr, (frozen_kept hs.1.choose_spec.1.1 hg hr).trans hs.1.choose_spec.1.2⟩, hs.1.choose_spec.2⟩, ⟨cell_kept hs.2.1.1 hg hr, (frozen_kept hs.2.1.1 hg hr).trans hs.2.1.2⟩, cell_kept hs.2.2.1 hg hr, slat_grown hs.2.2.2 hg hr⟩) _) (ownFrom_below (Nat.le_refl _) (by omega)))
        (fun _ _ _ _ _ hs _ _ => hs)
        ⟨⟨⟨0, ⟨cn, fn⟩, Nat.le_refl _, fun _ => rfl⟩, ⟨r0, f0⟩, r1, HSL.out⟩, HBL.out⟩
        (fun x => { tmps := #[Value.pointer (some { block := p, off := 0 }), Value.pointer (some { block := q, off := 0 }), Value.int IntKind.u8 (k : Int), Value.int IntKind.u16 v, undef, undef, undef, undef, Value.pointer (some { block := w.heap.size, off := 0 }), Value.pointer (some { block := p9, off := 0 }), Value.int IntKind.i64 (X : Int), Value.bool true, Value.int IntKind.i64 (X : Int), Value.int IntKind.i64 i, u14, u15, Value.func (Fn.func 34) #[] #[Value.pointer (some { block := B5, off := 0 }), Value.pointer (some { block := B5 + 1, off := 0 })], Value.pointer (some { block := B5 + 2, off := 0 }), .int .u16 ((l[x.1]?).getD 0), .int .u16 ((l[x.1 + 1]?).getD 0), Value.pointer (some { block := q, off := 0 }), Value.int IntKind.u8 (k : Int), Value.slice ao m cap, Value.tuple #[Value.int IntKind.i64 (X : Int), Value.bool true], Value.pointer (some { block := p, off := 0 }), Value.int IntKind.u8 (k : Int), Value.int IntKind.u16 v, Value.tuple #[Value.int IntKind.i64 (X : Int), Value.bool true], Value.int IntKind.i64 (X : Int), Value.bool true, Value.pointer (some { block := q, off := 0 }), Value.int IntKind.u8 (k : Int), Value.int IntKind.u16 v, Value.int IntKind.i64 (X : Int), Value.pointer (some { block := p, off := 0 }), Value.int IntKind.u8 (k : Int), Value.slice ao3 m cap3, Value.slice ao m cap, Value.bool true, Value.bool false, Value.bool false, Value.bool true, Value.int IntKind.i64 (X : Int), Value.bool true, Value.bool false, Value.bool false, Value.bool false, Value.bool true, Value.bool true, Value.int IntKind.i64 (X : Int), Value.int IntKind.i64 (X : Int), Value.bool false, Value.bool false, Value.bool false, Value.bool false, Value.bool true, Value.bool false, Value.bool false, undef, undef, Value.bool false, Value.bool false, Value.int IntKind.i64 i, Value.slice ao m cap, Value.int IntKind.i64 ↑m, Value.bool false, u66, u67, u68, u69, u70, u71, u72, u73, u74, u75, u76, u77, u78, u79, u80, u81, u82, u83, u84, u85, u86, u87, u88, u89, u90, u91, u92, u93, u94, u95, Value.pointer (some { block := p, off := 0 }), Value.int IntKind.u8 (k : Int), Value.func (Fn.func 34) #[] #[Value.pointer (some { block := B5, off := 0 }), Value.pointer (some { block := B5 + 1, off := 0 })], Value.func (Fn.func 34) #[] #[Value.pointer (some { block := B5, off := 0 }), Value.pointer (some { block := B5 + 1, off := 0 })], Value.bool false, Value.func (Fn.func 34) #[] #[Value.pointer (some { block := B5, off := 0 }), Value.pointer (some { block := B5 + 1, off := 0 })], .int .u16 ((l[x.1]?).getD 0), .int .u16 ((l[x.1 + 1]?).getD 0), undef, undef, undef, undef, undef, undef, undef, undef, undef, undef, undef, undef, undef, undef, undef, undef, undef, undef, undef, undef, undef, undef, undef, undef, undef, undef, undef, undef, undef, undef], defers := [] }) ?assign ?body ?done ?stop
      case assign =>
        intro lb x W K hK
        unfold pxv
        gi_wp2
        exact hK
      case body =>
        rintro lb pre x W ⟨⟨⟨t, ⟨hcn, hfn⟩, htl, hrg⟩, ⟨h8, f8⟩, h9, hsW⟩, hB⟩ hlen
        clear r0 f0 r1 c1 c2 cn fn
        have hidx := hsW.idx (P := Try.prog) (t := 22) Try.underlying22 size37 (by decide)
        have HSW := Lib.hid hsW
        have HB := Lib.hid hB
        have HX : Hid ((∃ t', pxs (pre ++ [x]) = List.range t') → x.1 = t ∧ pxs pre = List.range pre.length) := Lib.hid (fun ⟨t', h⟩ => by
          obtain ⟨h1, h2⟩ := pxs_range h
          exact ⟨by rw [h2, hrg h1], h1⟩)
        have HRG := Lib.hid hrg
        obtain ⟨X1, hX1⟩ := x
        dsimp only at HX ⊢
        have HX1 := Lib.hid hX1
        obtain ⟨ya, hya⟩ : ∃ y, y = (l[X1]?).getD 0 := ⟨_, rfl⟩
        obtain ⟨yb, hyb⟩ : ∃ y, y = (l[X1 + 1]?).getD 0 := ⟨_, rfl⟩
        rw [← hya, ← hyb]
        have HYA := Lib.hid hya
        have HYB := Lib.hid hyb
        have hw1 : IntKind.i64.wrap ((t : Int) + 1) = (t : Int) + 1 := IntWalk.i64_in _ (by omega)
        have i0 : (0 : Int) ≤ (t : Int) := by omega
        have i1 : (0 : Int) ≤ (t : Int) + 1 := by omega
        clear hrg hya hyb hsW hB
        by_cases hend : (m : Int) ≤ (t : Int) + 1
        · have d1 : decide ((m : Int) ≤ (t : Int) + 1) = true := decide_eq_true hend
          gi_wp2
          exact ⟨KeepsOthers.setCell _ _ _, rfl, fun h => by
            have h1 := (HX.out h).1
            have := HM.out
            have := HX1.out
            omega⟩
        · have d1 : decide ((m : Int) ≤ (t : Int) + 1) = false := decide_eq_false hend
          have i2 : (t : Int) < (m : Int) := by omega
          have i3 : (t : Int) + 1 < (m : Int) := by omega
          obtain ⟨za, hza⟩ : ∃ y, l[t]? = some y := ⟨_, List.getElem?_eq_getElem (by rw [← HM.out]; omega)⟩
          obtain ⟨zb, hzb⟩ : ∃ y, l[t + 1]? = some y := ⟨_, List.getElem?_eq_getElem (by rw [← HM.out]; omega)⟩
          have g0 := val_at HSW.out hza
          have g1 := val_at HSW.out hzb
          have hto : ((t : Int) + 1).toNat = t + 1 := by omega
          have hix1 := hidx ((t : Int) + 1) i1 i3
          rw [hto] at hix1
          have HZA := Lib.hid hza
          have HZB := Lib.hid hzb
          clear hza hzb
          by_cases hea : ya = za
          · have b1 : (ya == za) = true := by simpa using hea
            by_cases heb : yb = zb
            · have b2 : (yb == zb) = true := by simpa using heb
              have HEA := Lib.hid hea
              have HEB := Lib.hid heb
              clear hea heb
              gi_wp2
              refine ⟨KeepsOthers.setCell _ _ _, (Below.refl _ _).setCell (p := ⟨B5 + 2, 0, none⟩) (by show w.heap.size ≤ B5 + 2; omega) _, ⟨⟨t + 1, ⟨by first | exact World.cell?_setCell_same _ _ _ hcn | (rw [World.cell?_setCell_same _ _ _ hcn]; rfl), by rw [World.frozen?_setCell]; exact hfn⟩, by simp; omega, fun h => ?_⟩, ⟨by rw [World.cell?_setCell_other _ _ _ _ (by simp <;> omega)]; exact h8, by rw [World.frozen?_setCell]; exact f8⟩, by rw [World.cell?_setCell_other _ _ _ _ (by simp <;> omega)]; exact h9, ?_⟩, HB.out.setCell (p := ⟨B5 + 2, 0, none⟩) (by show w.heap.size ≤ B5 + 2; omega) _⟩
              · have h1 := (HX.out ⟨_, h⟩).2
                rw [HRG.out h1]; simp
              · exact slat_kept HSW.out (Kept.setCell (S := fun j => j = B5 + 2) (Kept.refl _ W) (fun _ => rfl) _) (fun hp e => by
                  rw [us_len, ← HM.out] at hp
                  have := HBW.out (by omega)
                  omega)
            · have b2 : (yb == zb) = false := by simpa using heb
              have HEB := Lib.hid heb
              clear heb
              gi_wp2
              exact ⟨KeepsOthers.setCell _ _ _, rfl, (by (try simp only [not_exists]); exact fun t' h => HEB.out (by have h1 := (HX.out ⟨t', h⟩).1; rw [HYB.out, h1, HZB.out]; rfl))⟩
          · have b1 : (ya == za) = false := by simpa using hea
            have HEA := Lib.hid hea
            clear hea
            gi_wp2
            exact ⟨KeepsOthers.setCell _ _ _, rfl, (by (try simp only [not_exists]); exact fun t' h => HEA.out (by have h1 := (HX.out ⟨t', h⟩).1; rw [HYA.out, h1, HZA.out]; rfl))⟩
      case done =>
        rintro D ys W hD hys ⟨⟨⟨t, ⟨hcn, hfn⟩, htl, hrg⟩, ⟨h8, f8⟩, h9, hsW⟩, hB⟩ hK
        clear r0 f0 r1 c1 c2 cn fn
        have hyl : ys.length = l.length - 1 := by
          have := congrArg List.length hys
          simpa [pxs] using this
        have ht : t = l.length - 1 := by rw [← hyl]; exact hrg (by rw [hyl]; exact hys)
        have htm : (t : Int) = max ((m : Int) - 1) 0 := by have := HM.out; omega
        have hmx : ∀ w, (Builtin.max_ #[3, 3] 3 #[.int .i64 ((m : Int) - 1), .int .i64 0]).run Try.prog w = .ok (.int .i64 (t : Int)) w := fun w => by rw [htm]; simp [go_sem]; try (split <;> omega)
        have hw1 : IntKind.i64.wrap ((m : Int) - 1) = (m : Int) - 1 := IntWalk.i64_in _ (by omega)
        have HB := Lib.hid hB
        have HK := Lib.hid hK
        have HD := Lib.hid hD
        clear hsW hB hK hrg hyl ht htm hys hD
        go_wp2_with fail
        have hK' := (KeepsOthers.setCell W ⟨w.heap.size, 0, none⟩ (.bool true)).same D _ HK.out rfl
        refine ⟨by simp, .inl ⟨_, _, rfl, run_takeDeferred hK', ?_⟩⟩
        have hc5 := cell_kept (World.cell?_setCell_same' W ⟨w.heap.size, 0, none⟩ (.bool true) (by rw [h8]; rfl)) (grownBy_putObj' _ D (.deferred none)) (fun r e => by cases e; exact ⟨_, hK', rfl⟩)
        refine ⟨.bool true, ?_, rfl, (HB.out.setCell (p := ⟨w.heap.size, 0, none⟩) (Nat.le_refl _) _).trans (belowK_b (w := w) (Nat.le_refl _) _ D _ _ (by have := HD.out; omega) hK' rfl rfl)⟩
        simp [results, Try.f19, go_sem, hc5]
      case stop =>
        rintro D c pre W hD hpre ⟨rfl, hno⟩ hK
        exact absurd hpre hno
theorem shown_out (S T : Nat → Prop) (p q k : Nat) (L : Nat → List Int) (M : Nat → List (List Int)) (v : Int) (w : World) (h : OrdAt S w p L) (hR : RefAt T w q M) (hrel : Rel L M) (hk : k ≤ 255) (hn : ∀ j, (M j).length ≤ 1000) (hv : v ∉ keyL L k) :
    Calls Try.prog 19 #[.pointer (some ⟨p, 0, none⟩), .pointer (some ⟨q, 0, none⟩), .int .u8 k, .int .u16 v] w fun e w' => e = .returned (.bool true) ∧ Below w.heap.size w w' := by
  have h0 := h.mono (S' := fun b => b < w.heap.size) (fun b hb _ => hb)
  have hpw := h.lt
  have h32 := keyL_len h k
  have cOf := fun W (hb : Below w.heap.size w W) => rof_any T q k M L W (hR.below hb) hk hn hrel
  have cPl := fun W (hb : Below w.heap.size w W) => place_any _ p k L v W (h0.below hb) hk
  have cRp := fun W (hb : Below w.heap.size w W) => rplace_any T q k M L v W (hR.below hb) hk hn hrel h32
  have cCl := fun W (hb : Below w.heap.size w W) => of_any _ p k L W (h0.below hb) hk
  have cIn := fun W (hb : Below w.heap.size w W) j x hx => at_in _ p k L j x W (h0.below hb) hk hx
  have cOut := fun W (hb : Below w.heap.size w W) i hx => at_out _ p k L i W (h0.below hb) hk hx
  have hix : ix (keyL L k) v = -1 := ix_none hv
  rw [hix, decide_eq_false hv, show max (-1 : Int) 0 = 0 by decide] at cPl
  rw [hix] at cRp
  obtain ⟨l, hl⟩ : ∃ l, l = keyL L k := ⟨_, rfl⟩
  rw [← hl] at cOf cCl cIn cOut h32
  have HOF := Lib.hid cOf
  have HPL := Lib.hid cPl
  have HRP := Lib.hid cRp
  have HCL := Lib.hid cCl
  have HIN := Lib.hid cIn
  have HOUT := Lib.hid cOut
  have HL := Lib.hid hl
  have H0 := Lib.hid h0
  obtain ⟨m, hm⟩ : ∃ m, m = l.length := ⟨_, rfl⟩
  have HM := Lib.hid hm
  rw [← hm] at h32
  clear h h0 hR hrel hn hv cOf cPl cRp cCl cIn cOut hl hm hix
  refine (callsIn_wide (n := 4)).1 ?_
  refine callsIn_of_wp_marks Try.func19 rfl trivial ?_ rfl
  simp only [Try.ntmps19, List.size_toArray, List.length_cons, List.length_nil, Nat.reduceAdd, Nat.reduceSub, Array.replicate_succ, Array.replicate_zero, List.push_toArray, List.append_toArray, List.nil_append, List.cons_append]
  refine wpIn_wide.2 ?_
  go_wp2_with fail
  refine (HOF.out _ (ba (bz w) _)).mono ?_
  rintro e w1 ⟨v1, rfl, ⟨ao, cap, b, o, rfl, hs, _⟩, rfl⟩
  have HS := Lib.hid hs
  clear hs
  rw [← HM.out] at HS ⊢
  go_wp2_with fail
  obtain ⟨p9, hp9⟩ : ∃ p, p = w.heap.size + 1 := ⟨_, rfl⟩
  obtain ⟨wZ, hwZ⟩ : ∃ wZ, wZ = (w.alloc (.cells #[.bool false] 4)).alloc (.cells #[.slice ao m cap] 22) := ⟨_, rfl⟩
  have r0 : wZ.cell? ⟨w.heap.size, 0, none⟩ = some (.bool false) := by rw [hwZ]; simp [go_sem]
  have f0 : wZ.frozen? ⟨w.heap.size, 0, none⟩ = false := by rw [hwZ]; simp [go_sem]
  have r1 : wZ.cell? ⟨p9, 0, none⟩ = some (.slice ao m cap) := by rw [hwZ, hp9]; simp [go_sem]
  have hz2 : wZ.heap.size = w.heap.size + 2 := by rw [hwZ]; simp
  have HB2 := Lib.hid (show Below w.heap.size w wZ by rw [hwZ]; exact ba (ba (bz w) _) _)
  have HS2 := Lib.hid (show SlAt wZ 1 m (us l) ao cap b o by rw [hwZ]; exact HS.out.below (ba (bz _) _))
  rw [← hwZ, ← hp9]
  have HP9 := Lib.hid hp9
  clear hwZ HS HOF hp9
  refine (HPL.out _ HB2.out).mono ?_
  rintro e wX ⟨rfl, rfl⟩
  clear HPL
  go_wp2_with fail
  refine (HRP.out _ HB2.out).mono ?_
  rintro e wX ⟨rfl, hq⟩
  obtain ⟨nq, rfl⟩ := hq
  clear HRP
  generalize hw2' : wZ.drewN nq = w2 at *
  replace r0 : w2.cell? ⟨w.heap.size, 0, none⟩ = some (.bool false) := by rw [← hw2']; exact cell_past (below_drewN (bz wZ) nq) r0
  replace f0 : w2.frozen? ⟨w.heap.size, 0, none⟩ = false := by rw [← hw2']; exact kf (below_drewN (bz wZ) nq) _ _ (by omega) f0
  replace r1 : w2.cell? ⟨p9, 0, none⟩ = some (.slice ao m cap) := by rw [← hw2']; exact cell_past (below_drewN (bz wZ) nq) r1
  replace hz2 : w2.heap.size = w.heap.size + 2 := by rw [← hw2']; exact hz2
  replace HB2 := Lib.hid (show Below w.heap.size w w2 by rw [← hw2']; exact below_drewN HB2.out nq)
  replace HS2 := Lib.hid (show SlAt w2 1 m (us l) ao cap b o by rw [← hw2']; exact HS2.out.below (below_drewN (bz wZ) nq))
  clear hw2' wZ
  go_wp2_with fail
  refine wp_calm ?_
  refine wp_region_held_drew (S := (fun w' => w'.cell? ⟨p9, 0, none⟩ = some (.slice ao m cap))) (by kernel_rfl) (by exact r1) (fun hHeld => ?_)
  refine takeD (i := 0) (v := ?zva0) (some 34) rfl rfl (by kernel_rfl) (by kernel_rfl) (by kernel_rfl) (fun _ _ _ h => h) (Or.inl ⟨by rfl, ?zya0⟩) (by assumption) ?zra0
  case zya0 => (intro w hSw; (try dsimp only at hSw); go_simp; try with_reducible rfl)
  try simp only [Act.put, List.setIfInBounds_toArray, List.set_cons_zero, List.set_cons_succ]
  refine takeD (i := 1) (v := ?zva1) (some 35) rfl rfl (by kernel_rfl) (by kernel_rfl) (by kernel_rfl) (fun _ _ _ h => h) (Or.inl ⟨by rfl, ?zya1⟩) (by assumption) ?zra1
  case zya1 => (intro w hSw; (try dsimp only at hSw); go_simp; try with_reducible rfl)
  try simp only [Act.put, List.setIfInBounds_toArray, List.set_cons_zero, List.set_cons_succ]
  refine takeD (i := 3) (v := ?zva3) (some 37) rfl rfl (by kernel_rfl) (by kernel_rfl) (by kernel_rfl) (fun _ _ _ h => h) (Or.inl ⟨by rfl, ?zya3⟩) (by assumption) ?zra3
  case zya3 => (intro w hSw; (try dsimp only at hSw); go_simp; try with_reducible rfl)
  try simp only [Act.put, List.setIfInBounds_toArray, List.set_cons_zero, List.set_cons_succ]
  refine wpAnyH_ready (rs := [2]) (by kernel_rfl) (by simp) ?_
  refine AllReadyH.cons rfl (fun K hK => ?_) AllReadyH.nil
  go_simp
  refine (HCL.out _ (HB2.out.drew)).mono ?_
  rintro e w3 ⟨v3, rfl, hown3, hb3⟩
  rw [← HM.out] at hown3
  obtain ⟨ao3, cap3, b3, o3, rfl, hs3, -⟩ := SlAt.owned hown3
  replace r0 := cell_past hb3 (show w2.drew.cell? _ = _ from r0)
  replace f0 := kf hb3 _ _ (by show w.heap.size < w2.heap.size; omega) f0
  replace r1 := cell_past hb3 (show w2.drew.cell? _ = _ from r1)
  have HB3 := Lib.hid (bt HB2.out.drew hb3)
  have HS3 := Lib.hid hs3
  have HSW := Lib.hid (HS2.out.below (bt (bz w2).drew hb3))
  clear hown3 hb3 hs3
  go_wp2_with fail
  refine hK.out _ _ (by exact r1) (fun hHeld2 => ?_)
  clear hK K
  clear hHeld
  have hHeld := hHeld2
  clear hHeld2
  try simp only [Act.put, List.setIfInBounds_toArray, List.set_cons_zero, List.set_cons_succ]
  refine wpAnyH_ready (rs := [4]) (by kernel_rfl) (by simp) ?_
  refine AllReadyH.cons rfl (fun K hK => ?_) AllReadyH.nil
  go_simp
  have hsame := same_any l l ao3 ao cap3 b3 o3 cap b o w3 (by rw [← HM.out]; exact HS3.out) (by rw [← HM.out]; exact HSW.out) (by rw [← HM.out]; omega)
  unfold SamePost at hsame
  rw [← HM.out, decide_eq_true (rfl : l = l)] at hsame
  refine hsame.mono ?_
  rintro e w4 ⟨rfl, hq4⟩
  replace f0 := kf hq4.below _ _ (World.block_lt_of_cell? _ _ r0) f0
  replace r0 := cell_past hq4.below r0
  replace r1 := cell_past hq4.below r1
  have HB4 := Lib.hid (bt HB3.out hq4.below)
  have HS4 := Lib.hid (HSW.out.below hq4.below)
  clear hq4 hsame HSW HS3 HB3
  go_wp2_with fail
  refine hK.out _ _ (by exact r1) (fun hHeld2 => ?_)
  clear hK K
  clear hHeld
  have hHeld := hHeld2
  clear hHeld2
  try simp only [Act.put, List.setIfInBounds_toArray, List.set_cons_zero, List.set_cons_succ]
  refine takeD (i := 5) (v := ?zva5) (some 39) rfl rfl (by kernel_rfl) (by kernel_rfl) (by kernel_rfl) (fun _ _ _ h => h) (Or.inl ⟨by rfl, ?zya5⟩) (by assumption) ?zra5
  case zya5 => (intro w hSw; (try dsimp only at hSw); go_simp; try with_reducible rfl)
  try simp only [Act.put, List.setIfInBounds_toArray, List.set_cons_zero, List.set_cons_succ]
  refine takeD (i := 6) (v := ?zva6) (some 40) rfl rfl (by kernel_rfl) (by kernel_rfl) (by kernel_rfl) (fun _ _ _ h => h) (Or.inl ⟨by rfl, ?zya6⟩) (by assumption) ?zra6
  case zya6 => (intro w hSw; (try dsimp only at hSw); go_simp; try with_reducible rfl)
  try simp only [Act.put, List.setIfInBounds_toArray, List.set_cons_zero, List.set_cons_succ]
  refine takeD (i := 7) (v := ?zva7) (some 41) rfl rfl (by kernel_rfl) (by kernel_rfl) (by kernel_rfl) (fun _ _ _ h => h) (Or.inl ⟨by rfl, ?zya7⟩) (by assumption) ?zra7
  case zya7 => (intro w hSw; (try dsimp only at hSw); go_simp; try with_reducible rfl)
  try simp only [Act.put, List.setIfInBounds_toArray, List.set_cons_zero, List.set_cons_succ]
  refine takeD (i := 8) (v := ?zva8) (some 42) rfl rfl (by kernel_rfl) (by kernel_rfl) (by kernel_rfl) (fun _ _ _ h => h) (Or.inl ⟨by rfl, ?zya8⟩) (by assumption) ?zra8
  case zya8 => (intro w hSw; (try dsimp only at hSw); go_simp; try with_reducible rfl)
  try simp only [Act.put, List.setIfInBounds_toArray, List.set_cons_zero, List.set_cons_succ]
  refine takeD (i := 9) (v := ?zva9) (some 43) rfl rfl (by kernel_rfl) (by kernel_rfl) (by kernel_rfl) (fun _ _ _ h => h) (Or.inl ⟨by rfl, ?zya9⟩) (by assumption) ?zra9
  case zya9 => (intro w hSw; (try dsimp only at hSw); go_simp; try with_reducible rfl)
  try simp only [Act.put, List.setIfInBounds_toArray, List.set_cons_zero, List.set_cons_succ]
  refine takeD (i := 10) (v := ?zva10) (some 44) rfl rfl (by kernel_rfl) (by kernel_rfl) (by kernel_rfl) (fun _ _ _ h => h) (Or.inl ⟨by rfl, ?zya10⟩) (by assumption) ?zra10
  case zya10 => (intro w hSw; (try dsimp only at hSw); go_simp; try with_reducible rfl)
  try simp only [Act.put, List.setIfInBounds_toArray, List.set_cons_zero, List.set_cons_succ]
  refine takeD (i := 11) (v := ?zva11) (some 45) rfl rfl (by kernel_rfl) (by kernel_rfl) (by kernel_rfl) (fun _ _ _ h => h) (Or.inl ⟨by rfl, ?zya11⟩) (by assumption) ?zra11
  case zya11 => (intro w hSw; (try dsimp only at hSw); go_simp; try with_reducible rfl)
  try simp only [Act.put, List.setIfInBounds_toArray, List.set_cons_zero, List.set_cons_succ]
  refine takeD (i := 12) (v := ?zva12) (some 46) rfl rfl (by kernel_rfl) (by kernel_rfl) (by kernel_rfl) (fun _ _ _ h => h) (Or.inl ⟨by rfl, ?zya12⟩) (by assumption) ?zra12
  case zya12 => (intro w hSw; (try dsimp only at hSw); go_simp; try with_reducible rfl)
  try simp only [Act.put, List.setIfInBounds_toArray, List.set_cons_zero, List.set_cons_succ]
  refine takeD (i := 13) (v := ?zva13) (some 47) rfl rfl (by kernel_rfl) (by kernel_rfl) (by kernel_rfl) (fun _ _ _ h => h) (Or.inl ⟨by rfl, ?zya13⟩) (by assumption) ?zra13
  case zya13 => (intro w hSw; (try dsimp only at hSw); go_simp; try with_reducible rfl)
  try simp only [Act.put, List.setIfInBounds_toArray, List.set_cons_zero, List.set_cons_succ]
  refine takeD (i := 14) (v := ?zva14) (some 48) rfl rfl (by kernel_rfl) (by kernel_rfl) (by kernel_rfl) (fun _ _ _ h => h) (Or.inl ⟨by rfl, ?zya14⟩) (by assumption) ?zra14
  case zya14 => (intro w hSw; (try dsimp only at hSw); go_simp; try with_reducible rfl)
  try simp only [Act.put, List.setIfInBounds_toArray, List.set_cons_zero, List.set_cons_succ]
  refine takeD (i := 15) (v := undef) (some 49) rfl rfl (by kernel_rfl) (by kernel_rfl) (by kernel_rfl) (fun _ _ _ h => h) (Or.inr ⟨by first | kernel_rfl | rfl, rfl⟩) (by assumption) ?zra15
  try simp only [Act.put, List.setIfInBounds_toArray, List.set_cons_zero, List.set_cons_succ]
  refine takeD (i := 16) (v := undef) (some 50) rfl rfl (by kernel_rfl) (by kernel_rfl) (by kernel_rfl) (fun _ _ _ h => h) (Or.inr ⟨by first | kernel_rfl | rfl, rfl⟩) (by assumption) ?zra16
  try simp only [Act.put, List.setIfInBounds_toArray, List.set_cons_zero, List.set_cons_succ]
  refine takeD (i := 17) (v := undef) (some 51) rfl rfl (by kernel_rfl) (by kernel_rfl) (by kernel_rfl) (fun _ _ _ h => h) (Or.inr ⟨by first | kernel_rfl | rfl, rfl⟩) (by assumption) ?zra17
  try simp only [Act.put, List.setIfInBounds_toArray, List.set_cons_zero, List.set_cons_succ]
  refine takeD (i := 18) (v := ?zva18) (some 52) rfl rfl (by kernel_rfl) (by kernel_rfl) (by kernel_rfl) (fun _ _ _ h => h) (Or.inl ⟨by rfl, ?zya18⟩) (by assumption) ?zra18
  case zya18 => (intro w hSw; (try dsimp only at hSw); go_simp; try with_reducible rfl)
  try simp only [Act.put, List.setIfInBounds_toArray, List.set_cons_zero, List.set_cons_succ]
  refine takeD (i := 19) (v := ?zva19) (some 53) rfl rfl (by kernel_rfl) (by kernel_rfl) (by kernel_rfl) (fun _ _ _ h => h) (Or.inl ⟨by rfl, ?zya19⟩) (by assumption) ?zra19
  case zya19 => (intro w hSw; (try dsimp only at hSw); go_simp; try with_reducible rfl)
  try simp only [Act.put, List.setIfInBounds_toArray, List.set_cons_zero, List.set_cons_succ]
  refine takeD (i := 20) (v := ?zva20) (some 54) rfl rfl (by kernel_rfl) (by kernel_rfl) (by kernel_rfl) (fun _ _ _ h => h) (Or.inl ⟨by rfl, ?zya20⟩) (by assumption) ?zra20
  case zya20 => (intro w hSw; (try dsimp only at hSw); go_simp; try with_reducible rfl)
  try simp only [Act.put, List.setIfInBounds_toArray, List.set_cons_zero, List.set_cons_succ]
  refine takeD (i := 21) (v := ?zva21) (some 55) rfl rfl (by kernel_rfl) (by kernel_rfl) (by kernel_rfl) (fun _ _ _ h => h) (Or.inl ⟨by rfl, ?zya21⟩) (by assumption) ?zra21
  case zya21 => (intro w hSw; (try dsimp only at hSw); go_simp; try with_reducible rfl)
  try simp only [Act.put, List.setIfInBounds_toArray, List.set_cons_zero, List.set_cons_succ]
  refine takeD (i := 22) (v := ?zva22) (some 56) rfl rfl (by kernel_rfl) (by kernel_rfl) (by kernel_rfl) (fun _ _ _ h => h) (Or.inl ⟨by rfl, ?zya22⟩) (by assumption) ?zra22
  case zya22 => (intro w hSw; (try dsimp only at hSw); go_simp; try with_reducible rfl)
  try simp only [Act.put, List.setIfInBounds_toArray, List.set_cons_zero, List.set_cons_succ]
  refine takeD (i := 23) (v := ?zva23) (some 57) rfl rfl (by kernel_rfl) (by kernel_rfl) (by kernel_rfl) (fun _ _ _ h => h) (Or.inl ⟨by rfl, ?zya23⟩) (by assumption) ?zra23
  case zya23 => (intro w hSw; (try dsimp only at hSw); go_simp; try with_reducible rfl)
  try simp only [Act.put, List.setIfInBounds_toArray, List.set_cons_zero, List.set_cons_succ]
  refine takeD (i := 24) (v := ?zva24) (some 58) rfl rfl (by kernel_rfl) (by kernel_rfl) (by kernel_rfl) (fun _ _ _ h => h) (Or.inl ⟨by rfl, ?zya24⟩) (by assumption) ?zra24
  case zya24 => (intro w hSw; (try dsimp only at hSw); go_simp; try with_reducible rfl)
  try simp only [Act.put, List.setIfInBounds_toArray, List.set_cons_zero, List.set_cons_succ]
  refine takeD (i := 25) (v := ?zva25) (some 59) rfl rfl (by kernel_rfl) (by kernel_rfl) (by kernel_rfl) (fun _ _ _ h => h) (Or.inl ⟨by rfl, ?zya25⟩) (by assumption) ?zra25
  case zya25 => (intro w hSw; (try dsimp only at hSw); go_simp; try with_reducible rfl)
  try simp only [Act.put, List.setIfInBounds_toArray, List.set_cons_zero, List.set_cons_succ]
  refine takeD (i := 26) (v := ?zva26) (some 60) rfl rfl (by kernel_rfl) (by kernel_rfl) (by kernel_rfl) (fun _ _ _ h => h) (Or.inl ⟨by rfl, ?zya26⟩) (by assumption) ?zra26
  case zya26 => (intro w hSw; (try dsimp only at hSw); go_simp; try with_reducible rfl)
  try simp only [Act.put, List.setIfInBounds_toArray, List.set_cons_zero, List.set_cons_succ]
  refine takeD (i := 27) (v := ?zva27) (some 61) rfl rfl (by kernel_rfl) (by kernel_rfl) (by kernel_rfl) (fun _ _ _ h => h) (Or.inl ⟨by rfl, ?zya27⟩) (by assumption) ?zra27
  case zya27 => (intro w hSw; (try dsimp only at hSw); go_simp; try with_reducible rfl)
  try simp only [Act.put, List.setIfInBounds_toArray, List.set_cons_zero, List.set_cons_succ]
  refine wpAnyH_done (by kernel_rfl) ?_ _
  have hidx := HS4.out.idx (P := Try.prog) (t := 22) Try.underlying22 size37 (by decide)
  clear hHeld HB2 HS2 HCL
  go_wp2_with fail
  go_loop [13] (fun t13 => ∃ i : Int, -1 ≤ i ∧ i ≤ (m : Int) + 1 ∧ t13 = .int .i64 i) (fun t13 => ((m : Int) + 1 - intOf t13).toNat)
  case atStart => exact ⟨-1, by omega, by omega, rfl⟩
  case round =>
    obtain ⟨i, hi1, hi2, rfl⟩ := hrel
    by_cases hle : i ≤ (m : Int)
    · have hd0 : decide (i ≤ (m : Int)) = true := decide_eq_true hle
      have hw1 : IntKind.i64.wrap (i + 1) = i + 1 := IntWalk.i64_in _ (by omega)
      by_cases hneg : i < 0
      · have HO := Lib.hid (HOUT.out w4 HB4.out i (.inl hneg))
        have t1 : decide ((0 : Int) ≤ i) = false := by simp; omega
        have t1' : ¬ (0 : Int) ≤ i := by omega
        go_wp2_with fail
        refine HO.out.mono ?_
        rintro e wX ⟨rfl, rfl⟩
        go_wp2_with fail
        go_round
        case rel => exact ⟨i + 1, by omega, by omega, by go_num⟩
        case measure => simp [intOf]; omega
      · have t1 : decide ((0 : Int) ≤ i) = true := by simp; omega
        have t1' : (0 : Int) ≤ i := by omega
        by_cases hlt : i < (m : Int)
        · obtain ⟨j, rfl⟩ : ∃ j : Nat, i = j := ⟨i.toNat, by omega⟩
          obtain ⟨x, hx⟩ : ∃ x, l[j]? = some x := ⟨_, List.getElem?_eq_getElem (by rw [← HM.out]; omega)⟩
          have HI := Lib.hid (HIN.out w4 HB4.out j x hx)
          have c2 := val_at HS4.out hx
          have t2 : decide ((j : Int) < (m : Int)) = true := decide_eq_true hlt
          clear hx
          go_wp2_with fail
          refine HI.out.mono ?_
          rintro e wX ⟨rfl, rfl⟩
          go_wp2_with fail
          go_round
          case rel => exact ⟨(j : Int) + 1, by omega, by omega, by go_num⟩
          case measure => simp [intOf]; omega
        · have HO := Lib.hid (HOUT.out w4 HB4.out i (.inr ⟨by omega, by rw [← HM.out]; omega⟩))
          have t2 : decide (i < (m : Int)) = false := decide_eq_false hlt
          go_wp2_with fail
          refine HO.out.mono ?_
          rintro e wX ⟨rfl, rfl⟩
          go_wp2_with fail
          go_round
          case rel => exact ⟨i + 1, by omega, by omega, by go_num⟩
          case measure => simp [intOf]; omega
    · have hd0 : decide (i ≤ (m : Int)) = false := decide_eq_false hle
      go_wp2_with fail
      refine (callsIn_wide.1 (pairs_in Fence.wide 4 trivial rfl _ _ _)).mono ?_
      rintro e w5 ⟨rfl, hw5⟩
      obtain ⟨B5, hB5⟩ : ∃ B, B = w4.heap.size := ⟨_, rfl⟩
      have hw5B : w.heap.size ≤ B5 := by rw [hB5]; exact HB4.out.size
      have hp9B : p9 < B5 := by rw [hB5]; exact World.block_lt_of_cell? _ _ r1
      have h0B : w.heap.size < B5 := by rw [hB5]; exact World.block_lt_of_cell? _ _ r0
      have hbl : Below w4.heap.size w4 w5 := by rw [hw5]; exact ba (ba (bz w4) _) _
      have c1 : w5.cell? ⟨B5, 0, none⟩ = some (.pointer (some ⟨p, 0, none⟩)) := by rw [hB5, hw5]; simp [go_sem]
      have c2 : w5.cell? ⟨B5 + 1, 0, none⟩ = some (.int .u8 k) := by rw [hB5, hw5]; simp [go_sem]
      have hs5 : w5.heap.size = B5 + 2 := by rw [hB5, hw5]; simp
      replace f0 := kf hbl _ _ (World.block_lt_of_cell? _ _ r0) f0
      replace r0 := cell_past hbl r0
      replace r1 := cell_past hbl r1
      have HB5 := Lib.hid (bt HB4.out hbl)
      have HS5 := Lib.hid (HS4.out.below hbl)
      have HE5 := Lib.hid hB5
      rw [← hB5]
      have hef := eqlF ⟨B5, 0, none⟩ ⟨B5 + 1, 0, none⟩
      clear hbl hw5 hB5 HS4 HB4 HE5 hidx hle hd0 hi1 hi2
      go_wp2_with fail
      obtain ⟨wl, hwl⟩ : ∃ wl, wl = w5.alloc (.cells #[.int .i64 0] 3) := ⟨_, rfl⟩
      have hbl : Below w5.heap.size w5 wl := by rw [hwl]; exact ba (bz w5) _
      have cn : wl.cell? ⟨B5 + 2, 0, none⟩ = some (.int .i64 (0 : Nat)) := by rw [hwl, ← hs5]; simp [go_sem]
      have fn : wl.frozen? ⟨B5 + 2, 0, none⟩ = false := by rw [hwl, ← hs5]; simp [go_sem]
      have hsl : wl.heap.size = B5 + 3 := by rw [hwl]; simp [hs5]
      replace f0 := kf hbl _ _ (World.block_lt_of_cell? _ _ r0) f0
      replace r0 := cell_past hbl r0
      replace r1 := cell_past hbl r1
      replace c1 := cell_past hbl c1
      replace c2 := cell_past hbl c2
      have HBL := Lib.hid (bt HB5.out hbl)
      have HSL := Lib.hid (HS5.out.below hbl)
      have HBW : Hid (0 < m → b < B5 + 2) := Lib.hid (fun h0 => by have := HS5.out.lt (by rw [us_len, ← HM.out]; omega); omega)
      rw [← hwl]
      clear hbl hwl hs5 HS5 HB5 hef HIN HOUT
      refine (wpIn_wide (n := 4)).1 ?_
      refine wpIn_rangeFunc_ownF rfl (by omega) (gf := 34) (lb := #[.pointer (some ⟨B5, 0, none⟩), .pointer (some ⟨B5 + 1, 0, none⟩)]) rfl trivial (enters_of Try.func34 (by kernel_rfl) rfl)
        (pairs_stops (fun b => b < w.heap.size) p k B5 w.heap.size L wl (H0.out.below HBL.out) hk hpw (fun b hb => hb) (by omega) (by omega) c1 c2 l HL.out) belowK_t (belowK_b (by omega)) (Below.refl _ _) (fun _ => rfl)
        (fun pre W => ((∃ t : Nat, (W.cell? ⟨B5 + 2, 0, none⟩ = some (.int .i64 t) ∧ W.frozen? ⟨B5 + 2, 0, none⟩ = false) ∧ t ≤ pre.length ∧ (pxs pre = List.range pre.length → t = pre.length)) ∧ (W.cell? ⟨w.heap.size, 0, none⟩ = some (.bool false) ∧ W.frozen? ⟨w.heap.size, 0, none⟩ = false) ∧ W.cell? ⟨p9, 0, none⟩ = some (.slice ao m cap) ∧ SlAt W 1 m (us l) ao cap b o) ∧ Below w.heap.size w W)
        (fun c pre W => c = .ret ∧ ¬ ∃ t, pxs pre = List.range t)
        (OwnFrom.and (Own.from (fun s A B row hs hg hr => ⟨⟨hs.1.choose, ⟨cell_kept hs.1.choose_spec.1.1 hg hr, (frozen_kept hs.1.choose_spec.1.1 hg hr).trans hs.1.choose_spec.1.2⟩, hs.1.choose_spec.2⟩, ⟨cell_kept hs.2.1.1 hg hr, (frozen_kept hs.2.1.1 hg hr).trans hs.2.1.2⟩, cell_kept hs.2.2.1 hg hr, slat_grown hs.2.2.2 hg hr⟩) _) (ownFrom_below (Nat.le_refl _) (by omega)))
        (fun _ _ _ _ _ hs _ _ => hs)
        ⟨⟨⟨0, ⟨cn, fn⟩, Nat.le_refl _, fun _ => rfl⟩, ⟨r0, f0⟩, r1, HSL.out⟩, HBL.out⟩
        (fun x => { tmps := #[Value.pointer (some { block := p, off := 0 }), Value.pointer (some { block := q, off := 0 }), Value.int IntKind.u8 (k : Int), Value.int IntKind.u16 v, undef, undef, undef, undef, Value.pointer (some { block := w.heap.size, off := 0 }), Value.pointer (some { block := p9, off := 0 }), Value.int IntKind.i64 0, Value.bool false, Value.int IntKind.i64 (-1), Value.int IntKind.i64 i, u14, u15, Value.func (Fn.func 34) #[] #[Value.pointer (some { block := B5, off := 0 }), Value.pointer (some { block := B5 + 1, off := 0 })], Value.pointer (some { block := B5 + 2, off := 0 }), .int .u16 ((l[x.1]?).getD 0), .int .u16 ((l[x.1 + 1]?).getD 0), Value.pointer (some { block := q, off := 0 }), Value.int IntKind.u8 (k : Int), Value.slice ao m cap, Value.tuple #[Value.int IntKind.i64 0, Value.bool false], Value.pointer (some { block := p, off := 0 }), Value.int IntKind.u8 (k : Int), Value.int IntKind.u16 v, Value.tuple #[Value.int IntKind.i64 0, Value.bool false], Value.int IntKind.i64 0, Value.bool false, Value.pointer (some { block := q, off := 0 }), Value.int IntKind.u8 (k : Int), Value.int IntKind.u16 v, Value.int IntKind.i64 (-1), Value.pointer (some { block := p, off := 0 }), Value.int IntKind.u8 (k : Int), Value.slice ao3 m cap3, Value.slice ao m cap, Value.bool true, Value.bool false, Value.bool false, Value.bool false, Value.int IntKind.i64 (-1), Value.bool false, Value.bool false, Value.bool false, Value.bool false, Value.bool false, Value.bool false, undef, undef, undef, Value.bool false, Value.bool false, Value.bool false, Value.bool false, Value.bool true, Value.bool true, Value.int IntKind.i64 0, Value.bool false, Value.bool false, Value.bool false, Value.int IntKind.i64 i, Value.slice ao m cap, Value.int IntKind.i64 ↑m, Value.bool false, u66, u67, u68, u69, u70, u71, u72, u73, u74, u75, u76, u77, u78, u79, u80, u81, u82, u83, u84, u85, u86, u87, u88, u89, u90, u91, u92, u93, u94, u95, Value.pointer (some { block := p, off := 0 }), Value.int IntKind.u8 (k : Int), Value.func (Fn.func 34) #[] #[Value.pointer (some { block := B5, off := 0 }), Value.pointer (some { block := B5 + 1, off := 0 })], Value.func (Fn.func 34) #[] #[Value.pointer (some { block := B5, off := 0 }), Value.pointer (some { block := B5 + 1, off := 0 })], Value.bool false, Value.func (Fn.func 34) #[] #[Value.pointer (some { block := B5, off := 0 }), Value.pointer (some { block := B5 + 1, off := 0 })], .int .u16 ((l[x.1]?).getD 0), .int .u16 ((l[x.1 + 1]?).getD 0), undef, undef, undef, undef, undef, undef, undef, undef, undef, undef, undef, undef, undef, undef, undef, undef, undef, undef, undef, undef, undef, undef, undef, undef, undef, undef, undef, undef, undef, undef], defers := [] }) ?assign ?body ?done ?stop
      case assign =>
        intro lb x W K hK
        unfold pxv
        gi_wp2
        exact hK
      case body =>
        rintro lb pre x W ⟨⟨⟨t, ⟨hcn, hfn⟩, htl, hrg⟩, ⟨h8, f8⟩, h9, hsW⟩, hB⟩ hlen
        clear r0 f0 r1 c1 c2 cn fn
        have hidx := hsW.idx (P := Try.prog) (t := 22) Try.underlying22 size37 (by decide)
        have HSW := Lib.hid hsW
        have HB := Lib.hid hB
        have HX : Hid ((∃ t', pxs (pre ++ [x]) = List.range t') → x.1 = t ∧ pxs pre = List.range pre.length) := Lib.hid (fun ⟨t', h⟩ => by
          obtain ⟨h1, h2⟩ := pxs_range h
          exact ⟨by rw [h2, hrg h1], h1⟩)
        have HRG := Lib.hid hrg
        obtain ⟨X1, hX1⟩ := x
        dsimp only at HX ⊢
        have HX1 := Lib.hid hX1
        obtain ⟨ya, hya⟩ : ∃ y, y = (l[X1]?).getD 0 := ⟨_, rfl⟩
        obtain ⟨yb, hyb⟩ : ∃ y, y = (l[X1 + 1]?).getD 0 := ⟨_, rfl⟩
        rw [← hya, ← hyb]
        have HYA := Lib.hid hya
        have HYB := Lib.hid hyb
        have hw1 : IntKind.i64.wrap ((t : Int) + 1) = (t : Int) + 1 := IntWalk.i64_in _ (by omega)
        have i0 : (0 : Int) ≤ (t : Int) := by omega
        have i1 : (0 : Int) ≤ (t : Int) + 1 := by omega
        clear hrg hya hyb hsW hB
        by_cases hend : (m : Int) ≤ (t : Int) + 1
        · have d1 : decide ((m : Int) ≤ (t : Int) + 1) = true := decide_eq_true hend
          gi_wp2
          exact ⟨KeepsOthers.setCell _ _ _, rfl, fun h => by
            have h1 := (HX.out h).1
            have := HM.out
            have := HX1.out
            omega⟩
        · have d1 : decide ((m : Int) ≤ (t : Int) + 1) = false := decide_eq_false hend
          have i2 : (t : Int) < (m : Int) := by omega
          have i3 : (t : Int) + 1 < (m : Int) := by omega
          obtain ⟨za, hza⟩ : ∃ y, l[t]? = some y := ⟨_, List.getElem?_eq_getElem (by rw [← HM.out]; omega)⟩
          obtain ⟨zb, hzb⟩ : ∃ y, l[t + 1]? = some y := ⟨_, List.getElem?_eq_getElem (by rw [← HM.out]; omega)⟩
          have g0 := val_at HSW.out hza
          have g1 := val_at HSW.out hzb
          have hto : ((t : Int) + 1).toNat = t + 1 := by omega
          have hix1 := hidx ((t : Int) + 1) i1 i3
          rw [hto] at hix1
          have HZA := Lib.hid hza
          have HZB := Lib.hid hzb
          clear hza hzb
          by_cases hea : ya = za
          · have b1 : (ya == za) = true := by simpa using hea
            by_cases heb : yb = zb
            · have b2 : (yb == zb) = true := by simpa using heb
              have HEA := Lib.hid hea
              have HEB := Lib.hid heb
              clear hea heb
              gi_wp2
              refine ⟨KeepsOthers.setCell _ _ _, (Below.refl _ _).setCell (p := ⟨B5 + 2, 0, none⟩) (by show w.heap.size ≤ B5 + 2; omega) _, ⟨⟨t + 1, ⟨by first | exact World.cell?_setCell_same _ _ _ hcn | (rw [World.cell?_setCell_same _ _ _ hcn]; rfl), by rw [World.frozen?_setCell]; exact hfn⟩, by simp; omega, fun h => ?_⟩, ⟨by rw [World.cell?_setCell_other _ _ _ _ (by simp <;> omega)]; exact h8, by rw [World.frozen?_setCell]; exact f8⟩, by rw [World.cell?_setCell_other _ _ _ _ (by simp <;> omega)]; exact h9, ?_⟩, HB.out.setCell (p := ⟨B5 + 2, 0, none⟩) (by show w.heap.size ≤ B5 + 2; omega) _⟩
              · have h1 := (HX.out ⟨_, h⟩).2
                rw [HRG.out h1]; simp
              · exact slat_kept HSW.out (Kept.setCell (S := fun j => j = B5 + 2) (Kept.refl _ W) (fun _ => rfl) _) (fun hp e => by
                  rw [us_len, ← HM.out] at hp
                  have := HBW.out (by omega)
                  omega)
            · have b2 : (yb == zb) = false := by simpa using heb
              have HEB := Lib.hid heb
              clear heb
              gi_wp2
              exact ⟨KeepsOthers.setCell _ _ _, rfl, (by (try simp only [not_exists]); exact fun t' h => HEB.out (by have h1 := (HX.out ⟨t', h⟩).1; rw [HYB.out, h1, HZB.out]; rfl))⟩
          · have b1 : (ya == za) = false := by simpa using hea
            have HEA := Lib.hid hea
            clear hea
            gi_wp2
            exact ⟨KeepsOthers.setCell _ _ _, rfl, (by (try simp only [not_exists]); exact fun t' h => HEA.out (by have h1 := (HX.out ⟨t', h⟩).1; rw [HYA.out, h1, HZA.out]; rfl))⟩
      case done =>
        rintro D ys W hD hys ⟨⟨⟨t, ⟨hcn, hfn⟩, htl, hrg⟩, ⟨h8, f8⟩, h9, hsW⟩, hB⟩ hK
        clear r0 f0 r1 c1 c2 cn fn
        have hyl : ys.length = l.length - 1 := by
          have := congrArg List.length hys
          simpa [pxs] using this
        have ht : t = l.length - 1 := by rw [← hyl]; exact hrg (by rw [hyl]; exact hys)
        have htm : (t : Int) = max ((m : Int) - 1) 0 := by have := HM.out; omega
        have hmx : ∀ w, (Builtin.max_ #[3, 3] 3 #[.int .i64 ((m : Int) - 1), .int .i64 0]).run Try.prog w = .ok (.int .i64 (t : Int)) w := fun w => by rw [htm]; simp [go_sem]; try (split <;> omega)
        have hw1 : IntKind.i64.wrap ((m : Int) - 1) = (m : Int) - 1 := IntWalk.i64_in _ (by omega)
        have HB := Lib.hid hB
        have HK := Lib.hid hK
        have HD := Lib.hid hD
        clear hsW hB hK hrg hyl ht htm hys hD
        go_wp2_with fail
        have hK' := (KeepsOthers.setCell W ⟨w.heap.size, 0, none⟩ (.bool true)).same D _ HK.out rfl
        refine ⟨by simp, .inl ⟨_, _, rfl, run_takeDeferred hK', ?_⟩⟩
        have hc5 := cell_kept (World.cell?_setCell_same' W ⟨w.heap.size, 0, none⟩ (.bool true) (by rw [h8]; rfl)) (grownBy_putObj' _ D (.deferred none)) (fun r e => by cases e; exact ⟨_, hK', rfl⟩)
        refine ⟨.bool true, ?_, rfl, (HB.out.setCell (p := ⟨w.heap.size, 0, none⟩) (Nat.le_refl _) _).trans (belowK_b (w := w) (Nat.le_refl _) _ D _ _ (by have := HD.out; omega) hK' rfl rfl)⟩
        simp [results, Try.f19, go_sem, hc5]
      case stop =>
        rintro D c pre W hD hpre ⟨rfl, hno⟩ hK
        exact absurd hpre hno
theorem shown_any (S T : Nat → Prop) (p q k : Nat) (L : Nat → List Int) (M : Nat → List (List Int)) (v : Int) (w : World) (h : OrdAt S w p L) (hR : RefAt T w q M) (hrel : Rel L M) (hk : k ≤ 255) (hn : ∀ j, (M j).length ≤ 1000) :
    Calls Try.prog 19 #[.pointer (some ⟨p, 0, none⟩), .pointer (some ⟨q, 0, none⟩), .int .u8 k, .int .u16 v] w fun e w' => e = .returned (.bool true) ∧ Below w.heap.size w w' := by
  by_cases hv : v ∈ keyL L k
  · exact shown_in S T p q k L M v w h hR hrel hk hn hv
  · exact shown_out S T p q k L M v w h hR hrel hk hn hv
end Go.Proofs.Ytggbcailaeebfaa
