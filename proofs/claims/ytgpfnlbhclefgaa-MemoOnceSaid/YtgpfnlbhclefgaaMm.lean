/- memo.Memo: contracts. -/
import Derived.Test.YtgpfnlbhclefgaaMp
import Derived.Test.YtgpfnlbhclefgaaTake
namespace Go.Proofs.Ytgpfnlbhclefgaa
open Go.RowKit Go.Um
set_option linter.unusedSimpArgs false
set_option linter.unusedVariables false
set_option maxHeartbeats 4000000
set_option maxRecDepth 100000
/-- a memo at block p; ob: its map's block, where it is on; ks: what it keeps; sv: how often in vain -/
structure MmAt (w : World) (p : Nat) (ob : Option Nat) (ks : List Cfg) (T sv : Nat) : Prop where
  c0 : w.cell? ⟨p, 0, none⟩ = some (.map ob)
  c1 : w.cell? ⟨p, 1, none⟩ = some (.int .i64 sv)
  f1 : w.frozen? ⟨p, 1, none⟩ = false
  m : ∀ b, ob = some b → MkAt w b ks T ∧ b ≠ p
  off : ob = none → ks = [] ∧ sv = 0
  two : ∀ j v, w.cell? ⟨p, j, none⟩ = some v → j < 2
theorem MmAt.lt {w : World} {p : Nat} {ob : Option Nat} {ks : List Cfg} {T sv : Nat} (h : MmAt w p ob ks T sv) : p < w.heap.size := World.block_lt_of_cell? w _ h.c0
theorem MmAt.kept {S : Nat → Prop} {w w' : World} {p : Nat} {ob : Option Nat} {ks : List Cfg} {T sv : Nat} (h : MmAt w p ob ks T sv) (hk : Kept S w w') (hp : ¬ S p) (hb : ∀ b, ob = some b → ¬ S b) : MmAt w' p ob ks T sv :=
  ⟨hk.cell h.c0 hp, hk.cell h.c1 hp, (hk.frozen h.lt hp).trans h.f1, fun b e => ⟨(h.m b e).1.block (hk.block b (h.m b e).1.lt (hb b e)), (h.m b e).2⟩, h.off, fun j v hj => h.two j v (by
    rw [← hj]
    exact (World.cell?_of_block (w := w) (a := ⟨p, j, none⟩) (hk.block p h.lt hp)).symm)⟩
theorem two_new (w : World) (u v : Value) (t : TypeId) (p : Nat) (hp : p = w.heap.size) : ∀ j x, (w.alloc (.cells #[u, v] t)).cell? ⟨p, j, none⟩ = some x → j < 2 := by
  intro j x h
  subst hp
  rw [World.cell?_alloc_new] at h
  have := (Array.getElem?_eq_some_iff.1 h).1
  simpa using this
theorem two_set {w : World} {p : Nat} (h : ∀ j x, w.cell? ⟨p, j, none⟩ = some x → j < 2) (u : Value) : ∀ j x, (w.setCell ⟨p, 1, none⟩ u).cell? ⟨p, j, none⟩ = some x → j < 2 := by
  intro j x hx
  by_cases e : j = 1
  · omega
  · rw [World.cell?_setCell_other (h := fun e2 => e (by simp only [Addr.mk.injEq] at e2; omega))] at hx
    exact h j x hx
/-- a set's words lie apart from a memo -/
theorem set_apart {w : World} {p : Nat} {ob : Option Nat} {ks : List Cfg} {T sv : Nat} {v : Value} {N : Nat} (h : MmAt w p ob ks T sv) (hv : SetAt w v N) {w' : World} (hk : Kept (fun i => i = p ∨ ob = some i) w w') : SetAt w' v N := by
  obtain ⟨m, ao, cap, b, o, hvv, hs, hn, hm⟩ := hv
  refine ⟨m, ao, cap, b, o, hvv, ⟨hs.len, hs.le, hs.max, hs.addr, fun hp => Nat.lt_of_lt_of_le (hs.lt hp) hk.size, fun j u hu => ?_⟩, hn, hm⟩
  have hc := hs.cell j u hu
  obtain ⟨x, _, hx⟩ := List.mem_map.1 (List.mem_of_getElem? hu)
  subst hx
  refine hk.cell hc ?_
  rintro (e | e)
  · subst e
    have h2 := h.two _ _ hc
    have h3 : o + j = 0 ∨ o + j = 1 := by omega
    rcases h3 with h3 | h3
    · rw [h3, h.c0] at hc; cases hc
    · rw [h3, h.c1] at hc; cases hc
  · obtain ⟨es, c, hb, _⟩ := (h.m b e).1
    simp only [World.cell?, hb] at hc
    cases hc
theorem MmAt.below {w w' : World} {p : Nat} {ob : Option Nat} {ks : List Cfg} {T sv : Nat} (h : MmAt w p ob ks T sv) (hb : Below w.heap.size w w') : MmAt w' p ob ks T sv :=
  h.kept (Kept.of_below hb) (by have := h.lt; omega) (fun b e => by have := (h.m b e).1.lt; omega)
theorem map_neq (ob : Option Nat) (W : World) : (binOp .neq 45 (.map ob) (.map none)).run Try.prog W = .ok (.bool ob.isSome) W := by
  cases ob <;> kernel_rfl
theorem on_any (p : Nat) (ob : Option Nat) (w : World) (h : w.cell? ⟨p, 0, none⟩ = some (.map ob)) : Calls Try.prog 10 #[.pointer (some ⟨p, 0, none⟩)] w fun e w' => e = .returned (.bool ob.isSome) ∧ w = w' := by
  have hq := map_neq ob
  cases ob
  all_goals
    go_enter Try.func10, Try.ntmps10
    go_wp2
    go_ret
    exact ⟨rfl, rfl⟩
theorem on_nil (w : World) : Calls Try.prog 10 #[.pointer none] w fun e w' => e = .returned (.bool false) ∧ w = w' := by
  go_enter Try.func10, Try.ntmps10
  go_wp2
  go_ret
  exact ⟨rfl, rfl⟩
def NewPost (on : Bool) (w : World) (e : Ending) (w' : World) : Prop :=
  ∃ p ob, e = .returned (.pointer (some ⟨p, 0, none⟩)) ∧ MmAt w' p ob [] 0 0 ∧ ob.isSome = on ∧ Below w.heap.size w w' ∧ w.heap.size ≤ p ∧ (∀ b, ob = some b → w.heap.size ≤ b)
theorem new_any (on : Bool) (w : World) : Calls Try.prog 9 #[.bool on] w (NewPost on w) := by
  have hmm := @run_makeMap Try.prog
  cases on
  · go_enter Try.func9, Try.ntmps9
    go_wp2
    go_ret
    exact ⟨w.heap.size, none, rfl, ⟨by simp [go_sem], by simp [go_sem], by simp [go_sem], (fun b e => by cases e), fun _ => ⟨rfl, rfl⟩, two_new w _ _ _ _ rfl⟩, rfl, ba (bz w) _, Nat.le_refl _, (fun b e => by cases e)⟩
  · go_enter Try.func9, Try.ntmps9
    go_wp2
    go_ret
    have hm := (mk_new w _ rfl)
    refine ⟨w.heap.size + 1, some w.heap.size, rfl, ⟨by simp [go_sem], by simp [go_sem], by simp [go_sem], fun b e => ?_, (fun e => by cases e), two_new _ _ _ _ _ (by simp)⟩, rfl, ba (ba (bz w) _) _, by omega, fun b e => by cases e; exact Nat.le_refl _⟩
    cases e
    exact ⟨hm.block (Below.heap_alloc _ _ _ (by simp)), by omega⟩
theorem len_any (p : Nat) (ob : Option Nat) (ks : List Cfg) (T sv : Nat) (w : World) (h : MmAt w p ob ks T sv) : Calls Try.prog 19 #[.pointer (some ⟨p, 0, none⟩)] w fun e w' => e = .returned (.int .i64 ks.length) ∧ w = w' := by
  have HO := Lib.hid (on_any p ob w h.c0)
  have c0 := h.c0
  cases ob with
  | none =>
    rw [(h.off rfl).1]
    clear h
    go_enter Try.func19, Try.ntmps19
    go_wp2_with fail
    refine HO.out.mono ?_
    rintro e w1 ⟨rfl, rfl⟩
    go_wp2
    go_ret
    exact ⟨rfl, rfl⟩
  | some b =>
    have hlen := mk_len (h.m b rfl).1 3
    clear h
    go_enter Try.func19, Try.ntmps19
    go_wp2_with fail
    refine HO.out.mono ?_
    rintro e w1 ⟨rfl, rfl⟩
    go_wp2
    go_ret
    exact ⟨rfl, rfl⟩
theorem saved_any (p : Nat) (ob : Option Nat) (ks : List Cfg) (T sv : Nat) (w : World) (h : MmAt w p ob ks T sv) : Calls Try.prog 20 #[.pointer (some ⟨p, 0, none⟩)] w fun e w' => e = .returned (.int .i64 sv) ∧ w = w' := by
  have HO := Lib.hid (on_any p ob w h.c0)
  have c1 := h.c1
  cases ob with
  | none =>
    rw [(h.off rfl).2]
    clear h c1
    go_enter Try.func20, Try.ntmps20
    go_wp2_with fail
    refine HO.out.mono ?_
    rintro e w1 ⟨rfl, rfl⟩
    go_wp2
    go_ret
    exact ⟨rfl, rfl⟩
  | some b =>
    clear h
    go_enter Try.func20, Try.ntmps20
    go_wp2_with fail
    refine HO.out.mono ?_
    rintro e w1 ⟨rfl, rfl⟩
    go_wp2
    go_ret
    exact ⟨rfl, rfl⟩
def MmPost (p : Nat) (ob : Option Nat) (ks : List Cfg) (T sv : Nat) (v : Value) (w : World) (e : Ending) (w' : World) : Prop :=
  e = .returned v ∧ MmAt w' p ob ks T sv ∧ Kept (fun i => i = p ∨ ob = some i) w w'
theorem reset_any (p : Nat) (ob : Option Nat) (ks : List Cfg) (T sv : Nat) (w : World) (h : MmAt w p ob ks T sv) : Calls Try.prog 15 #[.pointer (some ⟨p, 0, none⟩)] w (MmPost p ob [] 0 0 (.tuple #[]) w) := by
  have HO := Lib.hid (on_any p ob w h.c0)
  have c0 := h.c0
  have c1 := h.c1
  have f1 := h.f1
  cases ob with
  | none =>
    have HH := Lib.hid h
    clear h c1 c0 f1
    go_enter Try.func15, Try.ntmps15
    go_wp2_with fail
    refine HO.out.mono ?_
    rintro e w1 ⟨rfl, rfl⟩
    go_wp2
    go_end0
    have hz := HH.out.off rfl
    obtain ⟨a1, a2, a3, a4, a5, a6⟩ := HH.out
    rw [hz.1, hz.2] at *
    exact ⟨rfl, ⟨a1, a2, a3, (fun b e => by cases e), fun _ => ⟨rfl, rfl⟩, a6⟩, Kept.refl _ _⟩
  | some b =>
    obtain ⟨w6, hr, hm6, hk6⟩ := mk_clear (h.m b rfl).1
    have hne := (h.m b rfl).2
    have HTW := Lib.hid h.two
    have hpl0 := h.lt
    have x0 := hk6.cell c0 (fun e => hne e.symm)
    have x1 := hk6.cell c1 (fun e => hne e.symm)
    have y1 := (hk6.frozen h.lt (fun e => hne e.symm)).trans f1
    have HM6 := Lib.hid hm6
    have HK6 := Lib.hid hk6
    have HNE := Lib.hid hne
    clear h hm6 hk6 hne
    go_enter Try.func15, Try.ntmps15
    go_wp2_with fail
    refine HO.out.mono ?_
    rintro e w1 ⟨rfl, rfl⟩
    go_wp2
    go_end0
    refine ⟨rfl, ⟨by simp [go_sem, x0], by simp [go_sem, x1], by simp [go_sem, y1], fun b' e => ?_, (fun e => by cases e), two_set (fun j x hj => HTW.out j x (by rw [← hj]; exact (World.cell?_of_block (w := w) (a := ⟨p, j, none⟩) (HK6.out.block p hpl0 (fun e => HNE.out e.symm))).symm)) _⟩, (HK6.out.mono (fun i _ e => .inr (by rw [e]))).setCell (fun _ => .inl rfl) _⟩
    cases e
    exact ⟨HM6.out.block (Below.heap_setCell _ _ _ _ HNE.out), HNE.out⟩
theorem key_is {v : Value} {N : Nat} {S : ByteArray} {w : World} (h : SetAt w v N) (hK : keyN N S) : Calls Try.prog 21 #[v] w fun e w' => e = .returned (.string S) ∧ Below w.heap.size w w' :=
  (key_any v N w h).mono fun e w' ⟨s, he, hs, hb⟩ => ⟨by rw [he, hs.unique hK], hb⟩
/-- a configuration of a set and a text -/
theorem has_memo (p : Nat) (ob : Option Nat) (ks : List Cfg) (T sv : Nat) (v : Value) (N : Nat) (S wd : ByteArray) (w : World) (h : MmAt w p ob ks T sv) (hv : SetAt w v N) (hK : keyN N S) (h1 : S.size ≤ maxLen) (h2 : wd.size ≤ maxLen) (B : Bool) (hB : B = true ↔ (S, wd) ∈ ks) :
    Calls Try.prog 13 #[.pointer (some ⟨p, 0, none⟩), v, .string wd] w fun e w' => e = .returned (.bool B) ∧ Below w.heap.size w w' := by
  obtain ⟨m, ao, cap, b0, o0, hvv, hrest⟩ := id hv
  subst hvv
  clear hrest
  have HV := Lib.hid (hv.below (ba (bz w) (.cells #[.slice ao m cap] 33)))
  have HM := Lib.hid (h.below (ba (bz w) (.cells #[.slice ao m cap] 33)))
  have HO := Lib.hid (on_any p ob _ HM.out.c0)
  have HKN := Lib.hid hK
  cases ob with
  | none =>
    have hBf : B = false := by
      cases hb : B
      · rfl
      · have := hB.1 hb
        rw [(h.off rfl).1] at this
        cases this
    subst hBf
    have HO1 : Hid (∀ W, Below (w.alloc (.cells #[.slice ao m cap] 33)).heap.size (w.alloc (.cells #[.slice ao m cap] 33)) W → Calls Try.prog 10 #[.pointer (some ⟨p, 0, none⟩)] W fun e w' => e = .returned (.bool false) ∧ W = w') := Lib.hid (fun W hW => on_any p none W (kc hW _ _ _ HM.out.c0))
    clear h hv hK hB
    go_enter Try.func13, Try.ntmps13
    go_wp2_with fail
    refine wp_region_held_drew (S := (fun _ => True)) (by kernel_rfl) (by trivial) (fun hHeld => ?_)
    refine takeD (i := 0) (v := ?zv0) (some 7) rfl rfl (by kernel_rfl) (by kernel_rfl) (by kernel_rfl) (fun _ _ _ h => h) (Or.inl ⟨by rfl, ?zy0⟩) (by assumption) ?zr0
    case zy0 => (intro w hSw; (try dsimp only at hSw); go_simp; try with_reducible rfl)
    try simp only [Act.put, List.setIfInBounds_toArray, List.set_cons_zero, List.set_cons_succ]
    refine wpAnyH_ready (rs := [1]) (by kernel_rfl) (by simp) ?_
    refine AllReadyH.cons rfl (fun K hK => ?_) AllReadyH.nil
    go_simp
    refine (HO1.out _ (by repeat (first | (with_reducible exact bz _) | (with_reducible apply Below.drew)))).mono ?_
    rintro e wX ⟨rfl, rfl⟩
    go_wp2_with fail
    refine hK.out _ _ (by trivial) (fun hHeld2 => ?_)
    clear hK K
    clear hHeld
    have hHeld := hHeld2
    clear hHeld2
    try simp only [Act.put, List.setIfInBounds_toArray, List.set_cons_zero, List.set_cons_succ]
    refine takeD (i := 2) (v := ?zv2) (some 9) rfl rfl (by kernel_rfl) (by kernel_rfl) (by kernel_rfl) (fun _ _ _ h => h) (Or.inl ⟨by rfl, ?zy2⟩) (by assumption) ?zr2
    case zy2 => (intro w hSw; (try dsimp only at hSw); go_simp; try with_reducible rfl)
    try simp only [Act.put, List.setIfInBounds_toArray, List.set_cons_zero, List.set_cons_succ]
    refine takeD (i := 3) (v := undef) (some 10) rfl rfl (by kernel_rfl) (by kernel_rfl) (by kernel_rfl) (fun _ _ _ h => h) (Or.inr ⟨by first | kernel_rfl | rfl, rfl⟩) (by assumption) ?zr3
    try simp only [Act.put, List.setIfInBounds_toArray, List.set_cons_zero, List.set_cons_succ]
    refine takeD (i := 4) (v := undef) (some 11) rfl rfl (by kernel_rfl) (by kernel_rfl) (by kernel_rfl) (fun _ _ _ h => h) (Or.inr ⟨by first | kernel_rfl | rfl, rfl⟩) (by assumption) ?zr4
    try simp only [Act.put, List.setIfInBounds_toArray, List.set_cons_zero, List.set_cons_succ]
    refine takeD (i := 5) (v := undef) (some 12) rfl rfl (by kernel_rfl) (by kernel_rfl) (by kernel_rfl) (fun _ _ _ h => h) (Or.inr ⟨by first | kernel_rfl | rfl, rfl⟩) (by assumption) ?zr5
    try simp only [Act.put, List.setIfInBounds_toArray, List.set_cons_zero, List.set_cons_succ]
    refine takeD (i := 6) (v := undef) (some 13) rfl rfl (by kernel_rfl) (by kernel_rfl) (by kernel_rfl) (fun _ _ _ h => h) (Or.inr ⟨by first | kernel_rfl | rfl, rfl⟩) (by assumption) ?zr6
    try simp only [Act.put, List.setIfInBounds_toArray, List.set_cons_zero, List.set_cons_succ]
    refine takeD (i := 7) (v := undef) (some 14) rfl rfl (by kernel_rfl) (by kernel_rfl) (by kernel_rfl) (fun _ _ _ h => h) (Or.inr ⟨by first | kernel_rfl | rfl, rfl⟩) (by assumption) ?zr7
    try simp only [Act.put, List.setIfInBounds_toArray, List.set_cons_zero, List.set_cons_succ]
    refine takeD (i := 8) (v := undef) (some 15) rfl rfl (by kernel_rfl) (by kernel_rfl) (by kernel_rfl) (fun _ _ _ h => h) (Or.inr ⟨by first | kernel_rfl | rfl, rfl⟩) (by assumption) ?zr8
    try simp only [Act.put, List.setIfInBounds_toArray, List.set_cons_zero, List.set_cons_succ]
    refine takeD (i := 9) (v := undef) (some 16) rfl rfl (by kernel_rfl) (by kernel_rfl) (by kernel_rfl) (fun _ _ _ h => h) (Or.inr ⟨by first | kernel_rfl | rfl, rfl⟩) (by assumption) ?zr9
    try simp only [Act.put, List.setIfInBounds_toArray, List.set_cons_zero, List.set_cons_succ]
    refine takeD (i := 10) (v := undef) (some 17) rfl rfl (by kernel_rfl) (by kernel_rfl) (by kernel_rfl) (fun _ _ _ h => h) (Or.inr ⟨by first | kernel_rfl | rfl, rfl⟩) (by assumption) ?zr10
    try simp only [Act.put, List.setIfInBounds_toArray, List.set_cons_zero, List.set_cons_succ]
    refine takeD (i := 11) (v := undef) (some 18) rfl rfl (by kernel_rfl) (by kernel_rfl) (by kernel_rfl) (fun _ _ _ h => h) (Or.inr ⟨by first | kernel_rfl | rfl, rfl⟩) (by assumption) ?zr11
    try simp only [Act.put, List.setIfInBounds_toArray, List.set_cons_zero, List.set_cons_succ]
    refine takeD (i := 12) (v := undef) (some 19) rfl rfl (by kernel_rfl) (by kernel_rfl) (by kernel_rfl) (fun _ _ _ h => h) (Or.inr ⟨by first | kernel_rfl | rfl, rfl⟩) (by assumption) ?zr12
    try simp only [Act.put, List.setIfInBounds_toArray, List.set_cons_zero, List.set_cons_succ]
    refine takeD (i := 13) (v := ?zv13) (some 20) rfl rfl (by kernel_rfl) (by kernel_rfl) (by kernel_rfl) (fun _ _ _ h => h) (Or.inl ⟨by rfl, ?zy13⟩) (by assumption) ?zr13
    case zy13 => (intro w hSw; (try dsimp only at hSw); go_simp; try with_reducible rfl)
    try simp only [Act.put, List.setIfInBounds_toArray, List.set_cons_zero, List.set_cons_succ]
    refine takeD (i := 14) (v := ?zv14) (some 6) rfl rfl (by kernel_rfl) (by kernel_rfl) (by kernel_rfl) (fun _ _ _ h => h) (Or.inl ⟨by rfl, ?zy14⟩) (by assumption) ?zr14
    case zy14 => (intro w hSw; (try dsimp only at hSw); go_simp; try with_reducible rfl)
    try simp only [Act.put, List.setIfInBounds_toArray, List.set_cons_zero, List.set_cons_succ]
    refine wpAnyH_done (by kernel_rfl) ?_ _
    go_wp2
    go_ret
    exact ⟨rfl, by repeat (first | (with_reducible exact bz _) | (with_reducible apply ba) | (with_reducible apply Below.drew))⟩
  | some b =>
    obtain ⟨n, hnT, hn0, hlook⟩ := mk_lookup (h.m b rfl).1 (S, wd) h1 h2
    unfold keyV at hlook
    have hBn : decide (0 < n) = B := by
      rw [Bool.eq_iff_iff, decide_eq_true_iff, hB]
      constructor
      · intro h
        exact Classical.not_not.1 (fun h3 => by have := hn0.2 h3; omega)
      · intro h
        have : n ≠ 0 := fun e => hn0.1 e h
        omega
    have HBN := Lib.hid hBn
    clear hBn
    have HKY : Hid (∀ W, SetAt W (.agg #[.slice ao m cap]) N → Calls Try.prog 21 #[.agg #[.slice ao m cap]] W fun e w' => e = .returned (.string S) ∧ Below W.heap.size W w') := Lib.hid (fun W hW => key_is hW hK)
    have hpl := h.lt
    have hbl := (h.m b rfl).1.lt
    have HHB := Lib.hid ((Below.heap_alloc w (.cells #[.slice ao m cap] 33) b hbl))
    have x0 := HM.out.c0
    have x2 : (w.alloc (.cells #[.slice ao m cap] 33)).cell? ⟨w.heap.size, 0, none⟩ = some (.slice ao m cap) := by simp [go_sem]
    clear h hv hK hB
    go_enter Try.func13, Try.ntmps13
    go_wp2_with fail
    go_region_held3 (fun w' => w'.cell? ⟨p, 0, none⟩ = some (.map (some b)) ∧ w'.cell? ⟨w.heap.size, 0, none⟩ = some (.slice ao m cap) ∧ w'.heap[b]? = w.heap[b]?) (first | exact ⟨x0, x2, HHB.out⟩ | (with_reducible assumption) | exact ⟨z0, z2, zb⟩) ((first | (go_at_call 10; refine (on_any p (some b) _ (by first | exact x0 | exact z0)).mono ?_; rintro e wX ⟨rfl, rfl⟩) | (go_at_call 21; refine (HKY.out _ (HV.out.below (by repeat (first | (with_reducible exact bz _) | (with_reducible apply Below.drew))))).mono ?_; rintro e w1 ⟨rfl, hb1⟩; have z0 := kc hb1 _ _ _ x0; have z2 := kc hb1 _ _ _ x2; have zb := (hb1.block b (by simp; omega)).trans HHB.out; have HB1 := Lib.hid hb1; clear hb1)))
    all_goals go_wp2
    all_goals go_ret
    all_goals exact ⟨by rw [← HBN.out]; rfl, (ba (bz w) (.cells #[.slice ao m cap] 33)).trans ((show Below (w.alloc (.cells #[.slice ao m cap] 33)).heap.size (w.alloc (.cells #[.slice ao m cap] 33)) _ from (bt ((bz _).drew) HB1.out)).mono (by simp))⟩
end Go.Proofs.Ytgpfnlbhclefgaa
