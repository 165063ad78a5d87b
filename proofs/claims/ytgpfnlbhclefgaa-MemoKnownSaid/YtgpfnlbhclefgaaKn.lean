/- The chapter's examples; memos that are none (MemoKnown, f4). Printed by gen_kn.py. -/
import Derived.Test.YtgpfnlbhclefgaaAw
namespace Go.Proofs.Ytgpfnlbhclefgaa
open Go.RowKit Go.Um
set_option linter.unusedSimpArgs false
set_option linter.unusedVariables false
set_option maxHeartbeats 8000000
set_option maxRecDepth 100000
/-! ### none -/
theorem add_nil (v : Value) (N : Nat) (wd : ByteArray) (w : World) (hv : SetAt w v N) : Calls Try.prog 17 #[.pointer none, v, .string wd] w fun e w' => e = .returned (.bool true) ∧ Below w.heap.size w w' := by
  obtain ⟨m, ao, cap, b0, o0, rfl, hrest⟩ := hv
  clear hrest
  go_enter Try.func17, Try.ntmps17
  go_wp2_with fail
  refine (on_nil _).mono ?_
  rintro e wX ⟨rfl, rfl⟩
  go_wp2
  go_ret
  exact ⟨rfl, ba (bz w) _⟩
theorem has_nil (v : Value) (N : Nat) (wd : ByteArray) (w : World) (hv : SetAt w v N) : Calls Try.prog 13 #[.pointer none, v, .string wd] w fun e w' => e = .returned (.bool false) ∧ Below w.heap.size w w' := by
  obtain ⟨m, ao, cap, b0, o0, rfl, hrest⟩ := hv
  clear hrest
  go_enter Try.func13, Try.ntmps13
  go_wp2_with fail
  refine wp_region_held_drew (S := (fun _ => True)) (by kernel_rfl) (by trivial) (fun hHeld => ?_)
  refine takeD (i := 0) (v := ?zv0) (some 7) rfl rfl (by kernel_rfl) (by kernel_rfl) (by kernel_rfl) (fun _ _ _ h => h) (Or.inl ⟨by rfl, ?zy0⟩) (by assumption) ?zr0
  case zy0 => (intro w hSw; (try dsimp only at hSw); go_simp; try with_reducible rfl)
  try simp only [Act.put, List.setIfInBounds_toArray, List.set_cons_zero, List.set_cons_succ]
  refine wpAnyH_ready (rs := [1]) (by kernel_rfl) (by simp) ?_
  refine AllReadyH.cons rfl (fun K hK => ?_) AllReadyH.nil
  go_simp
  refine (on_nil _).mono ?_
  rintro e wX ⟨rfl, rfl⟩
  go_wp2_with fail
  refine hK.out _ _ (by trivial) (fun hHeld2 => ?_)
  clear hK K
  clear hHeld
  have hHeld := hHeld2
  clear hHeld2
  try simp only [Act.put, List.setIfInBounds_toArray, List.set_cons_zero, List.set_cons_succ]
  refine takeD (i := 2) (v := ?zv2) (some 9) rfl rfl (by kernel_rfl) (by kernel_rfl) (by kernel_rfl) (fun _ _ _ h => h) (Or.inl ⟨by rfl, ?zy2⟩) (by assumption) ?zr2
  case zy2 => (intro w hSw; (try dsimp only at hSw); go_simp; try with_reducible rfl)
  try simp only [Act.put, List.setIfInBounds_toArray, List.set_cons_zero, List.set_cons_succ]
  refine takeD (i := 3) (v := undef) (some 10) rfl rfl (by kernel_rfl) (by kernel_rfl) (by kernel_rfl) (fun _ _ _ h => h) (Or.inr ⟨by first | kernel_rfl | rfl, rfl⟩) (by assumption) ?zr3
  try simp only [Act.put, List.setIfInBounds_toArray, List.set_cons_zero, List.set_cons_succ]
  refine takeD (i := 4) (v := undef) (some 11) rfl rfl (by kernel_rfl) (by kernel_rfl) (by kernel_rfl) (fun _ _ _ h => h) (Or.inr ⟨by first | kernel_rfl | rfl, rfl⟩) (by assumption) ?zr4
  try simp only [Act.put, List.setIfInBounds_toArray, List.set_cons_zero, List.set_cons_succ]
  refine takeD (i := 5) (v := undef) (some 12) rfl rfl (by kernel_rfl) (by kernel_rfl) (by kernel_rfl) (fun _ _ _ h => h) (Or.inr ⟨by first | kernel_rfl | rfl, rfl⟩) (by assumption) ?zr5
  try simp only [Act.put, List.setIfInBounds_toArray, List.set_cons_zero, List.set_cons_succ]
  refine takeD (i := 6) (v := undef) (some 13) rfl rfl (by kernel_rfl) (by kernel_rfl) (by kernel_rfl) (fun _ _ _ h => h) (Or.inr ⟨by first | kernel_rfl | rfl, rfl⟩) (by assumption) ?zr6
  try simp only [Act.put, List.setIfInBounds_toArray, List.set_cons_zero, List.set_cons_succ]
  refine takeD (i := 7) (v := undef) (some 14) rfl rfl (by kernel_rfl) (by kernel_rfl) (by kernel_rfl) (fun _ _ _ h => h) (Or.inr ⟨by first | kernel_rfl | rfl, rfl⟩) (by assumption) ?zr7
  try simp only [Act.put, List.setIfInBounds_toArray, List.set_cons_zero, List.set_cons_succ]
  refine takeD (i := 8) (v := undef) (some 15) rfl rfl (by kernel_rfl) (by kernel_rfl) (by kernel_rfl) (fun _ _ _ h => h) (Or.inr ⟨by first | kernel_rfl | rfl, rfl⟩) (by assumption) ?zr8
  try simp only [Act.put, List.setIfInBounds_toArray, List.set_cons_zero, List.set_cons_succ]
  refine takeD (i := 9) (v := undef) (some 16) rfl rfl (by kernel_rfl) (by kernel_rfl) (by kernel_rfl) (fun _ _ _ h => h) (Or.inr ⟨by first | kernel_rfl | rfl, rfl⟩) (by assumption) ?zr9
  try simp only [Act.put, List.setIfInBounds_toArray, List.set_cons_zero, List.set_cons_succ]
  refine takeD (i := 10) (v := undef) (some 17) rfl rfl (by kernel_rfl) (by kernel_rfl) (by kernel_rfl) (fun _ _ _ h => h) (Or.inr ⟨by first | kernel_rfl | rfl, rfl⟩) (by assumption) ?zr10
  try simp only [Act.put, List.setIfInBounds_toArray, List.set_cons_zero, List.set_cons_succ]
  refine takeD (i := 11) (v := undef) (some 18) rfl rfl (by kernel_rfl) (by kernel_rfl) (by kernel_rfl) (fun _ _ _ h => h) (Or.inr ⟨by first | kernel_rfl | rfl, rfl⟩) (by assumption) ?zr11
  try simp only [Act.put, List.setIfInBounds_toArray, List.set_cons_zero, List.set_cons_succ]
  refine takeD (i := 12) (v := undef) (some 19) rfl rfl (by kernel_rfl) (by kernel_rfl) (by kernel_rfl) (fun _ _ _ h => h) (Or.inr ⟨by first | kernel_rfl | rfl, rfl⟩) (by assumption) ?zr12
  try simp only [Act.put, List.setIfInBounds_toArray, List.set_cons_zero, List.set_cons_succ]
  refine takeD (i := 13) (v := ?zv13) (some 20) rfl rfl (by kernel_rfl) (by kernel_rfl) (by kernel_rfl) (fun _ _ _ h => h) (Or.inl ⟨by rfl, ?zy13⟩) (by assumption) ?zr13
  case zy13 => (intro w hSw; (try dsimp only at hSw); go_simp; try with_reducible rfl)
  try simp only [Act.put, List.setIfInBounds_toArray, List.set_cons_zero, List.set_cons_succ]
  refine takeD (i := 14) (v := ?zv14) (some 6) rfl rfl (by kernel_rfl) (by kernel_rfl) (by kernel_rfl) (fun _ _ _ h => h) (Or.inl ⟨by rfl, ?zy14⟩) (by assumption) ?zr14
  case zy14 => (intro w hSw; (try dsimp only at hSw); go_simp; try with_reducible rfl)
  try simp only [Act.put, List.setIfInBounds_toArray, List.set_cons_zero, List.set_cons_succ]
  refine wpAnyH_done (by kernel_rfl) ?_ _
  go_wp2
  go_ret
  exact ⟨rfl, by repeat (first | (with_reducible exact bz _) | (with_reducible apply ba) | (with_reducible apply Below.drew))⟩
theorem len_nil (w : World) : Calls Try.prog 19 #[.pointer none] w fun e w' => e = .returned (.int .i64 0) ∧ w = w' := by
  go_enter Try.func19, Try.ntmps19
  go_wp2_with fail
  refine (on_nil _).mono ?_
  rintro e wX ⟨rfl, rfl⟩
  go_wp2
  go_ret
  exact ⟨rfl, rfl⟩
theorem reset_off (p : Nat) (w : World) (h : w.cell? ⟨p, 0, none⟩ = some (.map none)) : Calls Try.prog 15 #[.pointer (some ⟨p, 0, none⟩)] w fun e w' => e = .returned (.tuple #[]) ∧ w = w' := by
  have HO := Lib.hid (on_any p none w h)
  clear h
  go_enter Try.func15, Try.ntmps15
  go_wp2_with fail
  refine HO.out.mono ?_
  rintro e wX ⟨rfl, rfl⟩
  go_wp2
  go_end0
  exact ⟨rfl, rfl⟩
theorem reset_nil (w : World) : Calls Try.prog 15 #[.pointer none] w fun e w' => e = .returned (.tuple #[]) ∧ w = w' := by
  go_enter Try.func15, Try.ntmps15
  go_wp2_with fail
  refine (on_nil _).mono ?_
  rintro e wX ⟨rfl, rfl⟩
  go_wp2
  go_end0
  exact ⟨rfl, rfl⟩
/-- a memo that is on, one that is off, a set -/
structure KN (w W : World) (p b p2 c3 : Nat) (sl : Value) (N : Nat) (ks : List Cfg) (T sv : Nat) : Prop where
  m : MmAt W p (some b) ks T sv
  f : MmAt W p2 none [] 0 0
  set : SetAt W (.agg #[sl]) N
  x : W.cell? ⟨c3, 0, none⟩ = some sl
  bel : Below w.heap.size w W
  gp : w.heap.size ≤ p
  gb : w.heap.size ≤ b
  n2 : p2 ≠ p
  n2b : p2 ≠ b
  n3 : c3 ≠ p
  n3b : c3 ≠ b
theorem KN.ext {w W w' : World} {p b p2 c3 : Nat} {sl : Value} {N : Nat} {ks : List Cfg} {T sv : Nat} (h : KN w W p b p2 c3 sl N ks T sv) (hb : Below W.heap.size W w') : KN w w' p b p2 c3 sl N ks T sv :=
  ⟨h.m.below hb, h.f.below hb, h.set.below hb, kc hb _ _ _ h.x, bt h.bel hb, h.gp, h.gb, h.n2, h.n2b, h.n3, h.n3b⟩
theorem KN.step {w W w' : World} {p b p2 c3 : Nat} {sl : Value} {N : Nat} {ks ks' : List Cfg} {T sv T' sv' : Nat} (h : KN w W p b p2 c3 sl N ks T sv) (hm : MmAt w' p (some b) ks' T' sv') (hk : Kept (fun i => i = p ∨ some b = some i) W w') : KN w w' p b p2 c3 sl N ks' T' sv' :=
  ⟨hm, h.f.kept hk (by rintro (e | e); (· exact h.n2 e); (· injection e with e; exact h.n2b e.symm)) (fun b' e => by cases e), set_apart h.m h.set hk, hk.cell h.x (by rintro (e | e); (· exact h.n3 e); (· injection e with e; exact h.n3b e.symm)), h.bel.trans (hk.below (fun i hi _ e => by
    have h1 := h.gp
    have h2 := h.gb
    rcases e with e | e
    · omega
    · injection e with e; omega) h.bel.size), h.gp, h.gb, h.n2, h.n2b, h.n3, h.n3b⟩
theorem known_any (w : World) : Calls Try.prog 4 #[] w fun e w' => e = .returned (.bool true) ∧ Below w.heap.size w w' := by
  have e1 : ofN [1] = 2 := by decide
  have HE := Lib.hid e1
  clear e1
  go_enter Try.func4, Try.ntmps4
  go_wp2_with fail
  refine (new_any true w).mono ?_
  rintro e w1 ⟨p, ob, rfl, hm1, hob, hb1, hp1, hg1⟩
  obtain ⟨b, rfl⟩ : ∃ b, ob = some b := by cases ob with
    | none => cases hob
    | some b => exact ⟨b, rfl⟩
  have HM1 := Lib.hid hm1
  have HB1 := Lib.hid hb1
  have HG1 : Hid (w.heap.size ≤ p ∧ w.heap.size ≤ b) := Lib.hid ⟨hp1, hg1 b rfl⟩
  clear hm1 hob hb1 hp1 hg1
  go_wp2_with fail
  refine (new_any false w1).mono ?_
  rintro e w2 ⟨p2, ob2, rfl, hm2, hob2, hb2, hp2, hg2⟩
  obtain rfl : ob2 = none := by cases ob2 with
    | none => rfl
    | some b => cases hob2
  have HM2 := Lib.hid hm2
  have HM1b := Lib.hid (HM1.out.below hb2)
  have HB2 := Lib.hid (bt HB1.out hb2)
  have HG2 : Hid (p2 ≠ p ∧ p2 ≠ b) := Lib.hid ⟨by have := HM1.out.lt; omega, by have := (HM1.out.m b rfl).1.lt; omega⟩
  clear hm2 hob2 hb2 hp2 hg2
  go_wp2_with fail
  have HSL := Lib.hid (SlAt.new w2 3 1 1 ([1].map (Value.int .i64)) w2.heap.size rfl rfl (by decide))
  refine (of_any [1] 1 rfl _ 1 w2.heap.size 0 _ HSL.out (by decide)).mono ?_
  rintro e w3 ⟨v, rfl, hv, hb3⟩
  rw [HE.out] at hv
  obtain ⟨S, hS, hSs⟩ := key_ex hv
  obtain ⟨m, ao, cap, bb, oo, hvv, hrest⟩ := id hv
  subst hvv
  clear hrest
  have HS := Lib.hid (And.intro hS hSs)
  have hb3' : Below w2.heap.size w2 w3 := (ba (bz w2) (.cells ([1].map (Value.int .i64)).toArray 3)).trans (hb3.mono (by simp))
  have HK0 : Hid (KN w (w3.alloc (.cells #[.slice ao m cap] 33)) p b p2 w3.heap.size (.slice ao m cap) 2 [] 0 0) := Lib.hid (by
    have hb4 := bt hb3' (ba (bz w3) (.cells #[.slice ao m cap] 33))
    have hsz := hb3'.size
    exact ⟨HM1b.out.below hb4, HM2.out.below hb4, hv.below (ba (bz w3) _), by simp [go_sem], bt HB2.out hb4, HG1.out.1, HG1.out.2, HG2.out.1, HG2.out.2, by have := HM1b.out.lt; omega, by have := (HM1b.out.m b rfl).1.lt; omega⟩)
  clear hv hb3 hb3' hS hSs HSL HM1 HM1b HM2 HB1 HB2 HG1 HG2
  go_wp2_with fail
  obtain ⟨c3, hc3⟩ : ∃ c, c = w3.heap.size := ⟨_, rfl⟩
  rw [← hc3] at HK0 ⊢
  generalize w3.alloc (.cells #[.slice ao m cap] 33) = W3 at *
  clear hc3
  have HK := HK0
  have x0 := HK.out.x
  clear HK0
  refine (awake_any _).mono ?_
  rintro e x1 ⟨rfl, hb⟩
  replace HK := Lib.hid (HK.out.ext hb)
  replace x0 := HK.out.x
  clear hb
  go_wp2_with fail
  refine (on_any p (some b) _ HK.out.m.c0).mono ?_
  rintro e x2 ⟨rfl, rfl⟩
  go_wp2_with fail
  refine (on_any p2 none _ HK.out.f.c0).mono ?_
  rintro e x3 ⟨rfl, rfl⟩
  go_wp2_with fail
  refine ((add_on p b _ _ _ _ 2 S ⟨#[97, 98]⟩ _ HK.out.m HK.out.set HS.out.1 (by have := HS.out.2; unfold maxLen; omega) (by decide) (by omega) (by omega) false (by simp))).mono ?_
  rintro e x4 ⟨rfl, hm, hk⟩
  rw [(addK_new (by simp) 0).1, (addK_new (by simp) _).2] at hm
  replace HK := Lib.hid (HK.out.step hm hk)
  replace x0 := HK.out.x
  clear hm hk
  go_wp2_with fail
  refine (has_memo p (some b) _ _ _ _ 2 S ⟨#[97, 98]⟩ _ HK.out.m HK.out.set HS.out.1 (by have := HS.out.2; unfold maxLen; omega) (by decide) true (by simp)).mono ?_
  rintro e x5 ⟨rfl, hb⟩
  replace HK := Lib.hid (HK.out.ext hb)
  replace x0 := HK.out.x
  clear hb
  go_wp2_with fail
  refine (has_memo p (some b) _ _ _ _ 2 S ⟨#[97]⟩ _ HK.out.m HK.out.set HS.out.1 (by have := HS.out.2; unfold maxLen; omega) (by decide) false (by simp)).mono ?_
  rintro e x6 ⟨rfl, hb⟩
  replace HK := Lib.hid (HK.out.ext hb)
  replace x0 := HK.out.x
  clear hb
  go_wp2_with fail
  refine (of_any [] 0 rfl none 0 0 0 _ ⟨rfl, Nat.le_refl _, Nat.zero_le _, fun h => absurd h (by simp), fun h => absurd h (by simp), fun j u hu => by simp at hu⟩ (by decide)).mono ?_
  rintro e x7 ⟨v0, rfl, hv0, hb⟩
  replace HK := Lib.hid (HK.out.ext hb)
  replace x0 := HK.out.x
  clear hb
  obtain ⟨S0, hS0, hSs0⟩ := key_ex hv0
  have hne0 : S0 ≠ S := fun e => by
    subst e
    have h0 : ofN [] = 2 := hS0.inj HS.out.1
    exact absurd h0 (by decide)
  obtain ⟨m0, ao0, cap0, bb0, oo0, hvv0, hrest0⟩ := id hv0
  subst hvv0
  have HV0 := Lib.hid hv0
  have HS0 := Lib.hid (And.intro hS0 (And.intro hSs0 hne0))
  clear hrest0 hv0 hS0 hSs0 hne0
  go_wp2_with fail
  refine (has_memo p (some b) _ _ _ _ (ofN []) S0 ⟨#[97, 98]⟩ _ HK.out.m HV0.out HS0.out.1 (by have := HS0.out.2.1; unfold maxLen; omega) (by decide) false (by simp [HS0.out.2.2])).mono ?_
  rintro e x8 ⟨rfl, hb⟩
  replace HK := Lib.hid (HK.out.ext hb)
  replace x0 := HK.out.x
  clear hb
  go_wp2_with fail
  refine (reset_any p (some b) _ _ _ _ HK.out.m).mono ?_
  rintro e x9 ⟨rfl, hm, hk⟩
  replace HK := Lib.hid (HK.out.step hm hk)
  replace x0 := HK.out.x
  clear hm hk
  go_wp2_with fail
  refine (has_memo p (some b) _ _ _ _ 2 S ⟨#[97, 98]⟩ _ HK.out.m HK.out.set HS.out.1 (by have := HS.out.2; unfold maxLen; omega) (by decide) false (by simp)).mono ?_
  rintro e x10 ⟨rfl, hb⟩
  replace HK := Lib.hid (HK.out.ext hb)
  replace x0 := HK.out.x
  clear hb
  go_wp2_with fail
  refine (len_any p (some b) _ _ _ _ HK.out.m).mono ?_
  rintro e x11 ⟨rfl, rfl⟩
  go_wp2_with fail
  refine (saved_any p (some b) _ _ _ _ HK.out.m).mono ?_
  rintro e x12 ⟨rfl, rfl⟩
  go_wp2_with fail
  refine ((add_on p b _ _ _ _ 2 S ⟨#[97, 98]⟩ _ HK.out.m HK.out.set HS.out.1 (by have := HS.out.2; unfold maxLen; omega) (by decide) (by omega) (by omega) false (by simp))).mono ?_
  rintro e x13 ⟨rfl, hm, hk⟩
  rw [(addK_new (by simp) 0).1, (addK_new (by simp) _).2] at hm
  replace HK := Lib.hid (HK.out.step hm hk)
  replace x0 := HK.out.x
  clear hm hk
  go_wp2_with fail
  refine (add_off p2 0 _ 2 ⟨#[97, 98]⟩ _ HK.out.f HK.out.set).mono ?_
  rintro e x14 ⟨rfl, hb⟩
  replace HK := Lib.hid (HK.out.ext hb)
  replace x0 := HK.out.x
  clear hb
  go_wp2_with fail
  refine (add_off p2 0 _ 2 ⟨#[97, 98]⟩ _ HK.out.f HK.out.set).mono ?_
  rintro e x15 ⟨rfl, hb⟩
  replace HK := Lib.hid (HK.out.ext hb)
  replace x0 := HK.out.x
  clear hb
  go_wp2_with fail
  refine (len_any p2 none _ _ _ _ HK.out.f).mono ?_
  rintro e x16 ⟨rfl, rfl⟩
  go_wp2_with fail
  refine (saved_any p2 none _ _ _ _ HK.out.f).mono ?_
  rintro e x17 ⟨rfl, rfl⟩
  go_wp2_with fail
  refine (has_memo p2 none [] 0 0 _ 2 S ⟨#[97, 98]⟩ _ HK.out.f HK.out.set HS.out.1 (by have := HS.out.2; unfold maxLen; omega) (by decide) false (by simp)).mono ?_
  rintro e x18 ⟨rfl, hb⟩
  replace HK := Lib.hid (HK.out.ext hb)
  replace x0 := HK.out.x
  clear hb
  go_wp2_with fail
  have HZ : Hid (MmAt (x18.alloc (.cells #[.map none, .int .i64 0] 47)) x18.heap.size none [] 0 0) := Lib.hid ⟨by simp [go_sem], by simp [go_sem], by simp [go_sem], (fun b e => by cases e), fun _ => ⟨rfl, rfl⟩, two_new x18 _ _ _ _ rfl⟩
  replace HK := Lib.hid (HK.out.ext (ba (bz x18) (.cells #[.map none, .int .i64 0] 47)))
  replace x0 := HK.out.x
  obtain ⟨p5, hp5⟩ : ∃ p, p = x18.heap.size := ⟨_, rfl⟩
  rw [← hp5] at HZ ⊢
  generalize x18.alloc (.cells #[.map none, .int .i64 0] 47) = WZ at *
  clear hp5
  refine (reset_nil _).mono ?_
  rintro e x19 ⟨rfl, rfl⟩
  go_wp2_with fail
  refine (reset_off p5 _ HZ.out.c0).mono ?_
  rintro e x20 ⟨rfl, rfl⟩
  go_wp2_with fail
  refine (add_nil _ 2 ⟨#[]⟩ _ HK.out.set).mono ?_
  rintro e x21 ⟨rfl, hb⟩
  replace HZ := Lib.hid (HZ.out.below hb)
  replace HK := Lib.hid (HK.out.ext hb)
  replace x0 := HK.out.x
  clear hb
  go_wp2_with fail
  refine (add_off p5 0 _ 2 ⟨#[]⟩ _ HZ.out HK.out.set).mono ?_
  rintro e x22 ⟨rfl, hb⟩
  replace HZ := Lib.hid (HZ.out.below hb)
  replace HK := Lib.hid (HK.out.ext hb)
  replace x0 := HK.out.x
  clear hb
  go_wp2_with fail
  refine (add_off p5 0 _ 2 ⟨#[]⟩ _ HZ.out HK.out.set).mono ?_
  rintro e x23 ⟨rfl, hb⟩
  replace HZ := Lib.hid (HZ.out.below hb)
  replace HK := Lib.hid (HK.out.ext hb)
  replace x0 := HK.out.x
  clear hb
  go_wp2_with fail
  refine (has_nil _ 2 ⟨#[]⟩ _ HK.out.set).mono ?_
  rintro e x24 ⟨rfl, hb⟩
  replace HZ := Lib.hid (HZ.out.below hb)
  replace HK := Lib.hid (HK.out.ext hb)
  replace x0 := HK.out.x
  clear hb
  go_wp2_with fail
  refine (len_nil _).mono ?_
  rintro e x25 ⟨rfl, rfl⟩
  go_wp2_with fail
  refine (saved_any p5 none _ _ _ _ HZ.out).mono ?_
  rintro e x26 ⟨rfl, rfl⟩
  go_wp2_with fail
  refine (on_nil _).mono ?_
  rintro e x27 ⟨rfl, rfl⟩
  go_wp2_with fail
  refine (awake_any _).mono ?_
  rintro e x28 ⟨rfl, hb⟩
  go_wp2
  go_ret
  exact ⟨rfl, bt HK.out.bel hb⟩
end Go.Proofs.Ytgpfnlbhclefgaa
