/- A step of the queue. -/
import Derived.Test.YtfaoakahmllpjaaDoorRenq
namespace Go.Proofs.YtfaoakahmllpjaaDoor
open Go.RowKit Go.Um
set_option maxHeartbeats 0

def Step3 (S : Nat → Prop) (l' : List Int) (r : Int × Int) (er : Int) (w : World) (e : Ending) (w' : World) : Prop :=
  ∃ s, e = .returned (.tuple #[.agg #[s], .agg #[.int .u8 r.1, .int .u16 r.2], .int .i64 er]) ∧ Far (fun b => S b ∨ w.heap.size ≤ b) w' l' s ∧ Below w.heap.size w w'

theorem keep_alloc {w : World} {a : Addr} {v : Value} (h : w.cell? a = some v) (o : Obj) : (w.alloc o).cell? a = some v := cell_past (ba (bz w) o) h
theorem keep_drew {w : World} {a : Addr} {v : Value} (h : w.cell? a = some v) : w.drew.cell? a = some v := h
theorem new_at {w : World} {cs : Array Value} {t : TypeId} {n j : Nat} (hn : n = w.heap.size) {v : Value} (h : cs[j]? = some v) : (w.alloc (.cells cs t)).cell? ⟨n, j, none⟩ = some v := by
  subst hn
  rw [World.cell?_alloc_new]
  exact h
theorem fkeep_drew {w : World} {a : Addr} (h : w.frozen? a = false) : w.drew.frozen? a = false := h
theorem past {W w1 : World} (hb : Below W.heap.size W w1) : (∀ b o, b < W.heap.size → w1.cell? ⟨b, o, none⟩ = W.cell? ⟨b, o, none⟩) ∧ (∀ b o, b < W.heap.size → w1.frozen? ⟨b, o, none⟩ = W.frozen? ⟨b, o, none⟩) ∧ (∀ k, k < W.heap.size → k < w1.heap.size) ∧ (∀ k, k < W.heap.size → k ≠ w1.heap.size) :=
  ⟨fun b o h => hb.cell (p := ⟨b, o, none⟩) h, fun b o h => hb.frozen (p := ⟨b, o, none⟩) h, fun _ h => Nat.lt_of_lt_of_le h hb.size, fun _ h e => absurd (Nat.lt_of_lt_of_le h hb.size) (by omega)⟩
theorem Far.alloc {S : Nat → Prop} {w : World} {l : List Int} {v : Value} (h : Far S w l v) (o : Obj) : Far S (w.alloc o) l v := h.below (ba (bz w) o)
theorem Far.drew {S : Nat → Prop} {w : World} {l : List Int} {v : Value} (h : Far S w l v) : Far S w.drew l v := h.below (bz w).drew
theorem Far.back {S : Nat → Prop} {c N : Nat} {w : World} {l : List Int} {v : Value} (h : Far (fun b => (S b ∧ b < c) ∨ N ≤ b) w l v) (hN : c ≤ N) : Far (fun b => S b ∨ c ≤ b) w l v :=
  h.mono fun b _ hb => hb.elim (fun h => .inl h.1) (fun h => .inr (Nat.le_trans hN h))
theorem Far.set2 {S : Nat → Prop} {c N : Nat} {w : World} {l : List Int} {v : Value} (h : Far (fun b => (S b ∧ b < c) ∨ N ≤ b) w l v) {p : Addr} (h1 : c ≤ p.block) (h2 : p.block < N) (u : Value) : Far (fun b => (S b ∧ b < c) ∨ N ≤ b) (w.setCell p u) l v :=
  h.setCell (fun hb => hb.elim (fun h => by omega) (fun h => by omega)) u
theorem layFact {T G : Prop} (h : T) (k : T → G) : G := k h

theorem step_bad (S : Nat → Prop) (l : List Int) (v : Value) (x : Op5) (hx : x.ok) (hg : good x = false) (w : World) (h : Far S w l v) (hk : Kinds w) :
    Calls Tryd.prog 12 #[.agg #[v], opV x] w (Step3 S l (0, 0) 10 w) := by
  obtain ⟨ao, cap, b, o, rfl, hs, hS⟩ := h
  have HS := Lib.hid hS
  clear hS
  have he : errOf x = 10 := by simp [errOf, hg]
  have hck := fun w hk => check_any x hx w hk
  rw [he] at hck
  obtain ⟨f, ob, k, a, bb⟩ := x
  have Hk := Lib.hid hk
  have Hs := Lib.hid hs
  clear hs hk hx hg he
  unfold opV at hck ⊢
  have Hck := Lib.hid hck
  clear hck
  go_enter Tryd.func12, Tryd.ntmps12
  go_wp2_with fail
  refine (Hck.out _ (Hk.out.below ?_)).mono ?_
  · repeat (first | exact bz w | apply ba)
  rintro e w1 ⟨rfl, hb1⟩
  have g0 := kc hb1 w.heap.size 0 (.slice ao l.length cap) (by simp [go_sem])
  have g1 := kc hb1 (w.heap.size + 1 + 1) 0 (.slice none 0 0) (by simp [go_sem])
  have g2 := kc hb1 (w.heap.size + 1 + 1 + 1) 0 (.int .u8 0) (by simp [go_sem])
  have g3 := kc hb1 (w.heap.size + 1 + 1 + 1) 1 (.int .u16 0) (by simp [go_sem])
  have q1 := kf hb1 (w.heap.size + 1 + 1) 0 (by simp) (by simp [go_sem])
  have q2 := kf hb1 (w.heap.size + 1 + 1 + 1) 0 (by simp) (by simp [go_sem])
  have q3 := kf hb1 (w.heap.size + 1 + 1 + 1) 1 (by simp) (by simp [go_sem])
  have hz : w.heap.size + 1 + 1 + 1 < w1.heap.size := by have := hb1.size; simp at this; omega
  have hB := bt (ba (ba (ba (ba (bz w) _) _) _) _) hb1
  have HB := Lib.hid hB
  clear hB hb1
  go_wp2
  refine bodyPost_ret (by simp [results, Tryd.results12, go_sem, hz, g0, g1, g2, g3] <;> rfl) rfl ⟨_, rfl, ?_, ?_⟩
  · refine ⟨ao, cap, b, o, rfl, Hs.out.below ?_, fun hp => .inl (HS.out hp)⟩
    exact bs (bs (bs HB.out (by simp; omega) _) (by simp; omega) _) (by simp; omega) _
  · exact bs (bs (bs HB.out (by simp; omega) _) (by simp; omega) _) (by simp; omega) _

theorem step_good4 (S : Nat → Prop) (l l' : List Int) (r1 r2 : Int) (v : Value) (o2 k a bb : Int) (hx : Op5.ok ⟨4, o2, k, a, bb⟩) (hg : good ⟨4, o2, k, a, bb⟩ = true) (w : World) (h : Far S w l v) (hk : Kinds w)
    (hcl : ∀ S' w0, Far S' w0 l v → Calls Tryd.prog 31 #[.agg #[v], opV ⟨4, o2, k, a, bb⟩] w0 (StepPost S' l' r1 r2 w0)) :
    Calls Tryd.prog 12 #[.agg #[v], opV ⟨4, o2, k, a, bb⟩] w (Step3 S l' (r1, r2) 0 w) := by
  have he : errOf ⟨4, o2, k, a, bb⟩ = 0 := by simp [errOf, hg]
  have hck := fun w hk => check_any ⟨4, o2, k, a, bb⟩ hx w hk
  rw [he] at hck
  have hcf : ∀ args w, (callFunc 31 args).run Tryd.prog w = .ok (.enter 31 args) w := by intro _ _; kernel_rfl
  have HL : Hid (Far (fun b => S b ∧ b < w.heap.size) w l v) := Lib.hid (h.mono fun _ hb hs => ⟨hs, hb⟩)
  obtain ⟨ao, cap, b, o, rfl, hs, hS⟩ := h
  clear hS
  have Hk := Lib.hid hk
  have Hcl := Lib.hid hcl
  clear hs hk hx hg he hcl
  unfold opV at hck Hcl ⊢
  have Hck := Lib.hid hck
  clear hck
  go_enter Tryd.func12, Tryd.ntmps12
  go_wp2_with fail
  refine (Hck.out _ (Hk.out.below ?_)).mono ?_
  · repeat (first | exact bz w | apply ba)
  rintro e w1 ⟨rfl, hb1⟩
  have g0 := kc hb1 w.heap.size 0 (.slice ao l.length cap) (by simp [go_sem])
  have x0 := kc hb1 (w.heap.size + 1) 0 (.int .u8 4) (by simp [go_sem])
  have x1 := kc hb1 (w.heap.size + 1) 1 (.int .u8 o2) (by simp [go_sem])
  have x2 := kc hb1 (w.heap.size + 1) 2 (.int .u8 k) (by simp [go_sem])
  have x3 := kc hb1 (w.heap.size + 1) 3 (.int .u16 a) (by simp [go_sem])
  have x4 := kc hb1 (w.heap.size + 1) 4 (.int .u16 bb) (by simp [go_sem])
  have g1 := kc hb1 (w.heap.size + 1 + 1) 0 (.slice none 0 0) (by simp [go_sem])
  have g2 := kc hb1 (w.heap.size + 1 + 1 + 1) 0 (.int .u8 0) (by simp [go_sem])
  have g3 := kc hb1 (w.heap.size + 1 + 1 + 1) 1 (.int .u16 0) (by simp [go_sem])
  have q1 := kf hb1 (w.heap.size + 1 + 1) 0 (by simp) (by simp [go_sem])
  have q2 := kf hb1 (w.heap.size + 1 + 1 + 1) 0 (by simp) (by simp [go_sem])
  have q3 := kf hb1 (w.heap.size + 1 + 1 + 1) 1 (by simp) (by simp [go_sem])
  have hz : w.heap.size + 1 + 1 + 1 < w1.heap.size := by have := hb1.size; simp at this; omega
  have hB := bt (ba (ba (ba (ba (bz w) _) _) _) _) hb1
  have hL1 := HL.out.below hB
  have HB := Lib.hid hB
  clear hB hb1 HL Hk Hck
  go_wp2_with fail
  have hix : ∀ w', (Instr.indexAt 66 (.slice (some ⟨w1.heap.size, 0, none⟩) 2 2) (.int .u8 (IntKind.u8.wrap 0))).run Tryd.prog w' = .ok (.pointer (some ⟨w1.heap.size, 0, none⟩)) w' := fun _ => by kernel_rfl
  have hfn : (w1.alloc (.cells #[.func (.func 31) #[] #[], .func (.func 32) #[] #[]] 64)).cell? ⟨w1.heap.size, 0, none⟩ = some (.func (.func 31) #[] #[]) := by simp [go_sem]
  have Hfn := Lib.hid hfn
  clear hfn
  go_region_held3 (fun w' => w'.cell? ⟨w.heap.size, 0, none⟩ = some (.slice ao l.length cap) ∧ w'.cell? ⟨w.heap.size + 1, 0, none⟩ = some (.int .u8 4) ∧ w'.cell? ⟨w.heap.size + 1, 1, none⟩ = some (.int .u8 o2) ∧ w'.cell? ⟨w.heap.size + 1, 2, none⟩ = some (.int .u8 k) ∧ w'.cell? ⟨w.heap.size + 1, 3, none⟩ = some (.int .u16 a) ∧ w'.cell? ⟨w.heap.size + 1, 4, none⟩ = some (.int .u16 bb) ∧ w'.cell? ⟨w1.heap.size, 0, none⟩ = some (.func (.func 31) #[] #[]))
    (refine ⟨?_, ?_, ?_, ?_, ?_, ?_, ?_⟩ <;> (repeat (first | (with_reducible assumption) | (with_reducible exact Hfn.out) | (with_reducible apply keep_alloc) | (with_reducible apply keep_drew) | (with_reducible refine keep_set ?_ ?_) | (intro e; dsimp only at e; omega))))
    (first | (go_at_call 31; refine (Hcl.out _ _ (hL1.below (by repeat (first | exact bz w1 | apply ba | apply Below.drew)))).mono ?_; rintro e w2 ⟨s, rfl, hl2, hb2⟩; have HF := Lib.hid hl2; obtain ⟨ao2, cap2, b2, o3, rfl, hs2, hS2⟩ := hl2; have hbw : Below w1.heap.size w1 w2 := bt (by repeat (first | exact bz w1 | apply ba | apply Below.drew)) hb2; have s0 := cell_past hbw g0; have s1 := cell_past hbw x0; have s2 := cell_past hbw x1; have s3 := cell_past hbw x2; have s4 := cell_past hbw x3; have s5 := cell_past hbw x4; have s6 := kc hb2 w1.heap.size 0 (.func (.func 31) #[] #[]) (by simp [go_sem]); have e0 := cell_past hbw g1; have e1 := cell_past hbw g2; have e2 := cell_past hbw g3; have hz2 : w1.heap.size + 1 ≤ w2.heap.size := (by have := hb2.size; simp at this; omega); have j1 : w.heap.size + 1 + 1 < w2.heap.size := (by omega); have j2 : w.heap.size + 1 + 1 + 1 < w2.heap.size := (by omega); have j3 : w.heap.size + 1 + 1 < w2.heap.size + 1 := (by omega); have j4 : w.heap.size + 1 + 1 + 1 < w2.heap.size + 1 := (by omega); have v1 := kf hbw (w.heap.size + 1 + 1) 0 (by omega) q1; have v2 := kf hbw (w.heap.size + 1 + 1 + 1) 0 (by omega) q2; have v3 := kf hbw (w.heap.size + 1 + 1 + 1) 1 (by omega) q3; have HB2 := Lib.hid hbw;  obtain ⟨c2, f2, z2, n2⟩ := past hb2; clear n2; have a1 := c2 (w1.heap.size + 1) 0; have a2 := c2 (w1.heap.size + 1) 1; have a3 := c2 (w1.heap.size + 1 + 1) 0; have a4 := c2 (w1.heap.size + 1 + 1) 1; have b1 := f2 (w1.heap.size + 1) 0; have b2 := f2 (w1.heap.size + 1) 1; have b3 := f2 (w1.heap.size + 1 + 1) 0; have b4 := f2 (w1.heap.size + 1 + 1) 1; have y1 := z2 (w1.heap.size + 1); have y2 := z2 (w1.heap.size + 1 + 1); clear c2 f2 z2 hbw hs2 hb2 hS2; simp [go_sem] at a1 a2 a3 a4 b1 b2 b3 b4 y1 y2))
  all_goals (go_wp2_with fail; go_region; go_wp2_with fail)
  all_goals (refine bodyPost_ret (by simp [results, Tryd.results12, go_sem, hz, hz2, e0, e1, e2, j1, j2, j3, j4] <;> rfl) rfl ⟨_, rfl, ?_, ?_⟩)
  all_goals first
    | (repeat (first | (with_reducible exact bt HB.out HB2.out) | (with_reducible apply ba) | (with_reducible apply Below.drew) | (with_reducible refine bs ?_ ?_ _) | (dsimp only; omega))
       done)
    | skip
  all_goals (
    (apply Far.back (c := w.heap.size))
    focus (repeat (first | (with_reducible exact HF.out) | (with_reducible apply Far.alloc) | (with_reducible apply Far.drew) | (with_reducible apply Far.set2)))
    all_goals (first | omega | (dsimp only; omega) | (simp; done) | (simp; omega)))
theorem step_good5 (S : Nat → Prop) (l l' : List Int) (r1 r2 : Int) (v : Value) (o2 k a bb : Int) (hx : Op5.ok ⟨5, o2, k, a, bb⟩) (hg : good ⟨5, o2, k, a, bb⟩ = true) (w : World) (h : Far S w l v) (hk : Kinds w)
    (hcl : ∀ S' w0, Far S' w0 l v → Calls Tryd.prog 32 #[.agg #[v], opV ⟨5, o2, k, a, bb⟩] w0 (StepPost S' l' r1 r2 w0)) :
    Calls Tryd.prog 12 #[.agg #[v], opV ⟨5, o2, k, a, bb⟩] w (Step3 S l' (r1, r2) 0 w) := by
  have he : errOf ⟨5, o2, k, a, bb⟩ = 0 := by simp [errOf, hg]
  have hck := fun w hk => check_any ⟨5, o2, k, a, bb⟩ hx w hk
  rw [he] at hck
  have hcf : ∀ args w, (callFunc 32 args).run Tryd.prog w = .ok (.enter 32 args) w := by intro _ _; kernel_rfl
  have HL : Hid (Far (fun b => S b ∧ b < w.heap.size) w l v) := Lib.hid (h.mono fun _ hb hs => ⟨hs, hb⟩)
  obtain ⟨ao, cap, b, o, rfl, hs, hS⟩ := h
  clear hS
  have Hk := Lib.hid hk
  have Hcl := Lib.hid hcl
  clear hs hk hx hg he hcl
  unfold opV at hck Hcl ⊢
  have Hck := Lib.hid hck
  clear hck
  go_enter Tryd.func12, Tryd.ntmps12
  go_wp2_with fail
  refine (Hck.out _ (Hk.out.below ?_)).mono ?_
  · repeat (first | exact bz w | apply ba)
  rintro e w1 ⟨rfl, hb1⟩
  have g0 := kc hb1 w.heap.size 0 (.slice ao l.length cap) (by simp [go_sem])
  have x0 := kc hb1 (w.heap.size + 1) 0 (.int .u8 5) (by simp [go_sem])
  have x1 := kc hb1 (w.heap.size + 1) 1 (.int .u8 o2) (by simp [go_sem])
  have x2 := kc hb1 (w.heap.size + 1) 2 (.int .u8 k) (by simp [go_sem])
  have x3 := kc hb1 (w.heap.size + 1) 3 (.int .u16 a) (by simp [go_sem])
  have x4 := kc hb1 (w.heap.size + 1) 4 (.int .u16 bb) (by simp [go_sem])
  have g1 := kc hb1 (w.heap.size + 1 + 1) 0 (.slice none 0 0) (by simp [go_sem])
  have g2 := kc hb1 (w.heap.size + 1 + 1 + 1) 0 (.int .u8 0) (by simp [go_sem])
  have g3 := kc hb1 (w.heap.size + 1 + 1 + 1) 1 (.int .u16 0) (by simp [go_sem])
  have q1 := kf hb1 (w.heap.size + 1 + 1) 0 (by simp) (by simp [go_sem])
  have q2 := kf hb1 (w.heap.size + 1 + 1 + 1) 0 (by simp) (by simp [go_sem])
  have q3 := kf hb1 (w.heap.size + 1 + 1 + 1) 1 (by simp) (by simp [go_sem])
  have hz : w.heap.size + 1 + 1 + 1 < w1.heap.size := by have := hb1.size; simp at this; omega
  have hB := bt (ba (ba (ba (ba (bz w) _) _) _) _) hb1
  have hL1 := HL.out.below hB
  have HB := Lib.hid hB
  clear hB hb1 HL Hk Hck
  go_wp2_with fail
  have hix : ∀ w', (Instr.indexAt 66 (.slice (some ⟨w1.heap.size, 0, none⟩) 2 2) (.int .u8 (IntKind.u8.wrap 1))).run Tryd.prog w' = .ok (.pointer (some ⟨w1.heap.size, 1, none⟩)) w' := fun _ => by kernel_rfl
  have hfn : (w1.alloc (.cells #[.func (.func 31) #[] #[], .func (.func 32) #[] #[]] 64)).cell? ⟨w1.heap.size, 1, none⟩ = some (.func (.func 32) #[] #[]) := by simp [go_sem]
  have Hfn := Lib.hid hfn
  clear hfn
  go_region_held3 (fun w' => w'.cell? ⟨w.heap.size, 0, none⟩ = some (.slice ao l.length cap) ∧ w'.cell? ⟨w.heap.size + 1, 0, none⟩ = some (.int .u8 5) ∧ w'.cell? ⟨w.heap.size + 1, 1, none⟩ = some (.int .u8 o2) ∧ w'.cell? ⟨w.heap.size + 1, 2, none⟩ = some (.int .u8 k) ∧ w'.cell? ⟨w.heap.size + 1, 3, none⟩ = some (.int .u16 a) ∧ w'.cell? ⟨w.heap.size + 1, 4, none⟩ = some (.int .u16 bb) ∧ w'.cell? ⟨w1.heap.size, 1, none⟩ = some (.func (.func 32) #[] #[]))
    (refine ⟨?_, ?_, ?_, ?_, ?_, ?_, ?_⟩ <;> (repeat (first | (with_reducible assumption) | (with_reducible exact Hfn.out) | (with_reducible apply keep_alloc) | (with_reducible apply keep_drew) | (with_reducible refine keep_set ?_ ?_) | (intro e; dsimp only at e; omega))))
    (first | (go_at_call 32; refine (Hcl.out _ _ (hL1.below (by repeat (first | exact bz w1 | apply ba | apply Below.drew)))).mono ?_; rintro e w2 ⟨s, rfl, hl2, hb2⟩; have HF := Lib.hid hl2; obtain ⟨ao2, cap2, b2, o3, rfl, hs2, hS2⟩ := hl2; have hbw : Below w1.heap.size w1 w2 := bt (by repeat (first | exact bz w1 | apply ba | apply Below.drew)) hb2; have s0 := cell_past hbw g0; have s1 := cell_past hbw x0; have s2 := cell_past hbw x1; have s3 := cell_past hbw x2; have s4 := cell_past hbw x3; have s5 := cell_past hbw x4; have s6 := kc hb2 w1.heap.size 1 (.func (.func 32) #[] #[]) (by simp [go_sem]); have e0 := cell_past hbw g1; have e1 := cell_past hbw g2; have e2 := cell_past hbw g3; have hz2 : w1.heap.size + 1 ≤ w2.heap.size := (by have := hb2.size; simp at this; omega); have j1 : w.heap.size + 1 + 1 < w2.heap.size := (by omega); have j2 : w.heap.size + 1 + 1 + 1 < w2.heap.size := (by omega); have j3 : w.heap.size + 1 + 1 < w2.heap.size + 1 := (by omega); have j4 : w.heap.size + 1 + 1 + 1 < w2.heap.size + 1 := (by omega); have v1 := kf hbw (w.heap.size + 1 + 1) 0 (by omega) q1; have v2 := kf hbw (w.heap.size + 1 + 1 + 1) 0 (by omega) q2; have v3 := kf hbw (w.heap.size + 1 + 1 + 1) 1 (by omega) q3; have HB2 := Lib.hid hbw;  obtain ⟨c2, f2, z2, n2⟩ := past hb2; clear n2; have a1 := c2 (w1.heap.size + 1) 0; have a2 := c2 (w1.heap.size + 1) 1; have a3 := c2 (w1.heap.size + 1 + 1) 0; have a4 := c2 (w1.heap.size + 1 + 1) 1; have b1 := f2 (w1.heap.size + 1) 0; have b2 := f2 (w1.heap.size + 1) 1; have b3 := f2 (w1.heap.size + 1 + 1) 0; have b4 := f2 (w1.heap.size + 1 + 1) 1; have y1 := z2 (w1.heap.size + 1); have y2 := z2 (w1.heap.size + 1 + 1); clear c2 f2 z2 hbw hs2 hb2 hS2; simp [go_sem] at a1 a2 a3 a4 b1 b2 b3 b4 y1 y2))
  all_goals (go_wp2_with fail; go_region; go_wp2_with fail)
  all_goals (refine bodyPost_ret (by simp [results, Tryd.results12, go_sem, hz, hz2, e0, e1, e2, j1, j2, j3, j4] <;> rfl) rfl ⟨_, rfl, ?_, ?_⟩)
  all_goals first
    | (repeat (first | (with_reducible exact bt HB.out HB2.out) | (with_reducible apply ba) | (with_reducible apply Below.drew) | (with_reducible refine bs ?_ ?_ _) | (dsimp only; omega))
       done)
    | skip
  all_goals (
    (apply Far.back (c := w.heap.size))
    focus (repeat (first | (with_reducible exact HF.out) | (with_reducible apply Far.alloc) | (with_reducible apply Far.drew) | (with_reducible apply Far.set2)))
    all_goals (first | omega | (dsimp only; omega) | (simp; done) | (simp; omega)))

theorem step_any (S : Nat → Prop) (l : List Int) (v : Value) (x : Op5) (hx : x.ok) (w : World) (h : Far S w l v) (hlen : l.length ≤ 100000) (hk : Kinds w) :
    Calls Tryd.prog 12 #[.agg #[v], opV x] w (Step3 S (nxt l x) (ans l x) (errOf x) w) := by
  by_cases hg : good x = true
  · obtain ⟨f, o2, k, a, bb⟩ := x
    rcases good_f hg with hf | hf <;> simp only at hf <;> subst hf
    · have e1 : nxt l ⟨4, o2, k, a, bb⟩ = l ++ [a] := by simp [nxt, hg]
      have e2 : ans l ⟨4, o2, k, a, bb⟩ = (0, 0) := by simp [ans, hg]
      have e3 : errOf ⟨4, o2, k, a, bb⟩ = 0 := by simp [errOf, hg]
      rw [e1, e2, e3]
      exact step_good4 S l (l ++ [a]) 0 0 v o2 k a bb hx hg w h hk (fun S' w0 h0 => senq_any S' l v ⟨4, o2, k, a, bb⟩ w0 h0.lies hlen)
    · have e3 : errOf ⟨5, o2, k, a, bb⟩ = 0 := by simp [errOf, hg]
      rw [e3]
      cases l with
      | nil =>
        have e1 : nxt [] ⟨5, o2, k, a, bb⟩ = [] := by simp [nxt]
        have e2 : ans [] ⟨5, o2, k, a, bb⟩ = (2, 0) := by simp [ans, hg]
        rw [e1, e2]
        exact step_good5 S [] [] 2 0 v o2 k a bb hx hg w h hk (fun S' w0 h0 => sdeq_nil S' v ⟨5, o2, k, a, bb⟩ w0 h0.lies)
      | cons h0 l =>
        have e1 : nxt (h0 :: l) ⟨5, o2, k, a, bb⟩ = l := by simp [nxt, hg]
        have e2 : ans (h0 :: l) ⟨5, o2, k, a, bb⟩ = (1, h0) := by simp [ans, hg]
        rw [e1, e2]
        exact step_good5 S (h0 :: l) l 1 h0 v o2 k a bb hx hg w h hk (fun S' w0 h1 => sdeq_some S' h0 l v ⟨5, o2, k, a, bb⟩ w0 h1)
  · have hg' : good x = false := by simpa using hg
    have e1 : nxt l x = l := by simp [nxt, hg']
    have e2 : ans l x = (0, 0) := by simp [ans, hg']
    have e3 : errOf x = 10 := by simp [errOf, hg']
    rw [e1, e2, e3]
    exact step_bad S l v x hx hg' w h hk
end Go.Proofs.YtfaoakahmllpjaaDoor
