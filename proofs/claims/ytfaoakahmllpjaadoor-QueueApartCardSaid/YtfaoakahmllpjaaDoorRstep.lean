/- A step of the document's queue. -/
import Derived.Test.YtfaoakahmllpjaaDoorDeq
namespace Go.Proofs.YtfaoakahmllpjaaDoor
open Go.RowKit Go.Um
set_option maxHeartbeats 1000000

def RStep3 (S : Nat → Prop) (l' : List Int) (r : Int × Int) (er : Int) (w : World) (e : Ending) (w' : World) : Prop :=
  ∃ s, e = .returned (.tuple #[s, .agg #[.int .u8 r.1, .int .u16 r.2], .int .i64 er]) ∧ Far (fun b => S b ∨ w.heap.size ≤ b) w' l' s ∧ Below w.heap.size w w'

theorem keep_set {w : World} {b o : Nat} {v : Value} {p : Addr} {u : Value} (h : w.cell? ⟨b, o, none⟩ = some v) (hne : b ≠ p.block) : (w.setCell p u).cell? ⟨b, o, none⟩ = some v :=
  (World.cell?_of_block (w := w) (a := ⟨b, o, none⟩) (Below.heap_setCell _ _ _ _ hne)).trans h

theorem rstep_bad (S : Nat → Prop) (l : List Int) (v : Value) (x : Op5) (hx : x.ok) (hg : good x = false) (w : World) (h : Far S w l v) :
    Calls Tryd.prog 13 #[v, opV x] w (RStep3 S l (0, 0) 10 w) := by
  obtain ⟨ao, cap, b, o, rfl, hs, hS⟩ := h
  have HS := Lib.hid hS
  clear hS
  have he : errOf x = 10 := by simp [errOf, hg]
  have hck := fun w => rcheck_any x hx w
  rw [he] at hck
  obtain ⟨f, ob, k, a, bb⟩ := x
  have Hs := Lib.hid hs
  clear hs hx hg he
  unfold opV at hck ⊢
  have Hck := Lib.hid hck
  clear hck
  go_enter Tryd.func13, Tryd.ntmps13
  go_wp2_with fail
  refine (Hck.out _).mono ?_
  rintro e w1 ⟨rfl, hb1⟩
  have g2 := kc hb1 (w.heap.size + 1) 0 (.int .u8 0) (by simp [go_sem])
  have g3 := kc hb1 (w.heap.size + 1) 1 (.int .u16 0) (by simp [go_sem])
  have q2 := kf hb1 (w.heap.size + 1) 0 (by simp) (by simp [go_sem])
  have q3 := kf hb1 (w.heap.size + 1) 1 (by simp) (by simp [go_sem])
  have hz : w.heap.size + 1 < w1.heap.size := by have := hb1.size; simp at this; omega
  have hB := bt (ba (ba (bz w) _) _) hb1
  have HB := Lib.hid hB
  clear hB hb1
  go_wp2
  refine bodyPost_ret (by simp [results, Tryd.results13, go_sem, hz, g2, g3] <;> rfl) rfl ⟨_, rfl, ?_, ?_⟩
  · refine ⟨ao, cap, b, o, rfl, Hs.out.below ?_, fun hp => .inl (HS.out hp)⟩
    exact bs (bs HB.out (by simp) _) (by simp) _
  · exact bs (bs HB.out (by simp) _) (by simp) _

theorem rstep_empty (S : Nat → Prop) (v : Value) (o2 k a bb : Int) (hx : Op5.ok ⟨5, o2, k, a, bb⟩) (hg : good ⟨5, o2, k, a, bb⟩ = true) (w : World) (h : Lies w [] v) :
    Calls Tryd.prog 13 #[v, opV ⟨5, o2, k, a, bb⟩] w (RStep3 S [] (2, 0) 0 w) := by
  obtain ⟨ao, cap, b, o, rfl, hs⟩ := h
  have he : errOf ⟨5, o2, k, a, bb⟩ = 0 := by simp [errOf, hg]
  have hck := fun w => rcheck_any ⟨5, o2, k, a, bb⟩ hx w
  rw [he] at hck
  have Hs := Lib.hid hs
  clear hs hx hg he
  unfold opV at hck ⊢
  have Hck := Lib.hid hck
  clear hck
  go_enter Tryd.func13, Tryd.ntmps13
  go_wp2_with fail
  refine (Hck.out _).mono ?_
  rintro e w1 ⟨rfl, hb1⟩
  have g0 := kc hb1 w.heap.size 0 (.int .u8 5) (by simp [go_sem])
  have g2 := kc hb1 (w.heap.size + 1) 0 (.int .u8 0) (by simp [go_sem])
  have g3 := kc hb1 (w.heap.size + 1) 1 (.int .u16 0) (by simp [go_sem])
  have q2 := kf hb1 (w.heap.size + 1) 0 (by simp) (by simp [go_sem])
  have q3 := kf hb1 (w.heap.size + 1) 1 (by simp) (by simp [go_sem])
  have hz : w.heap.size + 1 < w1.heap.size := by have := hb1.size; simp at this; omega
  have hB := bt (ba (ba (bz w) _) _) hb1
  have HB := Lib.hid hB
  clear hB hb1
  go_wp2
  refine bodyPost_ret (by simp [results, Tryd.results13, go_sem, hz, g2, g3] <;> rfl) rfl ⟨_, rfl, ?_, ?_⟩
  · refine ⟨ao, cap, b, o, rfl, Hs.out.below ?_, fun hp => absurd hp (by decide)⟩
    exact bs (bs HB.out (by simp) _) (by simp) _
  · exact bs (bs HB.out (by simp) _) (by simp) _

theorem rstep_some (S : Nat → Prop) (h0 : Int) (l : List Int) (v : Value) (o2 k a bb : Int) (hx : Op5.ok ⟨5, o2, k, a, bb⟩) (hg : good ⟨5, o2, k, a, bb⟩ = true) (w : World) (h : Lies w (h0 :: l) v) (hlen : l.length ≤ 100000) :
    Calls Tryd.prog 13 #[v, opV ⟨5, o2, k, a, bb⟩] w (RStep3 S l (1, h0) 0 w) := by
  obtain ⟨i0, hi, hz0, hz1, hz2⟩ := info_parts info23
  obtain ⟨ao, cap, b, o, rfl, hs⟩ := h
  have he : errOf ⟨5, o2, k, a, bb⟩ = 0 := by simp [errOf, hg]
  have hck := fun w => rcheck_any ⟨5, o2, k, a, bb⟩ hx w
  rw [he] at hck
  have ha := hs.addr (by simp [us])
  have hc : w.cell? ⟨b, o, none⟩ = some (.int .u16 h0) := hs.cell 0 (.int .u16 h0) (by simp [us])
  have hcl : ∀ j u, (us l)[j]? = some u → w.cell? ((⟨b, o + 1, none⟩ : Addr).add j) = some u := by
    intro j u hu
    rw [Addr.add_lit]
    have h1 := hs.cell (j + 1) u (by simpa [us] using hu)
    rw [← h1]
    congr 2
    omega
  have hlt := hs.lt (by simp [us])
  subst ha
  have hle : ((l.length : Int) + 1) ≤ cap := by have := hs.le; simp at this; omega
  have p0 : (1 : Int) ≤ (l.length : Int) + 1 := by omega
  have p1 : ((l.length : Int) + 1 == 0) = false := by rw [beq_eq_false_iff_ne]; omega
  have p2 : (0 : Int) < (l.length : Int) + 1 := by omega
  have Hs := Lib.hid hs
  have Hcl := Lib.hid hcl
  have Hn := Lib.hid hlen
  clear hs hx hg he hcl hlen
  unfold opV at hck ⊢
  have Hck := Lib.hid hck
  clear hck
  go_enter Tryd.func13, Tryd.ntmps13
  go_wp2_with fail
  refine (Hck.out _).mono ?_
  rintro e w1 ⟨rfl, hb1⟩
  have g0 := kc hb1 w.heap.size 0 (.int .u8 5) (by simp [go_sem])
  have g2 := kc hb1 (w.heap.size + 1) 0 (.int .u8 0) (by simp [go_sem])
  have g3 := kc hb1 (w.heap.size + 1) 1 (.int .u16 0) (by simp [go_sem])
  have q2 := kf hb1 (w.heap.size + 1) 0 (by simp) (by simp [go_sem])
  have q3 := kf hb1 (w.heap.size + 1) 1 (by simp) (by simp [go_sem])
  have hz : w.heap.size + 1 < w1.heap.size := by have := hb1.size; simp at this; omega
  have hB := bt (ba (ba (bz w) _) _) hb1
  have c0 := cell_past hB hc
  have HB := Lib.hid hB
  clear hB hb1
  go_wp2_with fail
  rcases Nat.eq_zero_or_pos l.length with hl | hl
  · obtain rfl : l = [] := List.eq_nil_of_length_eq_zero hl
    by_cases hcap : cap = 1
    · subst hcap
      go_region_held3 (fun w' => w'.cell? ⟨b, o, none⟩ = some (.int .u16 h0)) (first | exact c0 | (refine keep_set ?_ ?_ <;> first | exact c0 | (simp; omega)) | (refine keep_set (keep_set ?_ ?_) ?_ <;> first | exact c0 | (simp; omega)) | go_keep) (fail)
      go_wp2
      refine bodyPost_ret (by simp [results, Tryd.results13, go_sem, hz, g2, g3] <;> rfl) rfl ⟨_, rfl, ?_, ?_⟩
      · exact ⟨none, 0, 0, 0, rfl, ⟨by simp [us], Nat.le_refl _, Nat.zero_le _, fun h => by simp [us] at h, fun h => by simp [us] at h, fun j u hu => by simp [us] at hu⟩, fun hp => absurd hp (by decide)⟩
      · exact bs (bs HB.out.drew (by simp) _) (by simp) _
    · go_region_held3 (fun w' => w'.cell? ⟨b, o, none⟩ = some (.int .u16 h0)) (first | exact c0 | (refine keep_set ?_ ?_ <;> first | exact c0 | (simp; omega)) | (refine keep_set (keep_set ?_ ?_) ?_ <;> first | exact c0 | (simp; omega)) | go_keep) (fail)
      go_wp2
      refine bodyPost_ret (by simp [results, Tryd.results13, go_sem, hz, g2, g3] <;> rfl) rfl ⟨_, rfl, ?_, ?_⟩
      · exact ⟨none, 0, 0, 0, rfl, ⟨by simp [us], Nat.le_refl _, Nat.zero_le _, fun h => by simp [us] at h, fun h => by simp [us] at h, fun j u hu => by simp [us] at hu⟩, fun hp => absurd hp (by decide)⟩
      · exact bs (bs HB.out.drew (by simp) _) (by simp) _
  · have hcap : ¬ cap = 1 := by omega
    go_region_held3 (fun w' => w'.cell? ⟨b, o, none⟩ = some (.int .u16 h0)) (first | exact c0 | exact s0 | (refine keep_set ?_ ?_ <;> first | exact s0 | (simp; omega)) | (refine keep_set (keep_set ?_ ?_) ?_ <;> first | exact s0 | (simp; omega)) | go_keep)
      ((refine step_append_grows rfl (.tmp 30) (.tmp 32) 22 rfl 23 i0 (.int .u16 0) 1 2 Tryd.underlying22 hi hz0 hz1 hz2 rfl (by decide) none 0 0 [] (by simp [Act.eval, Act.put]) (by simp) rfl (by simp) ⟨b, o + 1, none⟩ l.length (cap - 1) (us l) (by simp [Act.eval, Act.put]) (us_len l) (fun j u hu => cell_past (w := w1) (by repeat (first | exact bz w1 | apply ba | apply Below.drew)) (cell_past HB.out (Hcl.out j u hu))) us_one (by omega) (by have := Hn.out; unfold maxLen; omega) (by have := Hn.out; omega) ?_; intro v' w2 hown2 hgrow2; have hfm := World.ownsRow.form hown2 (by omega); obtain ⟨g, cap2, hv', hg1, hg2⟩ := hfm; subst hv'; have s0 : w2.cell? ⟨b, o, none⟩ = some (.int .u16 h0) := hgrow2.cell (a := ⟨b, o, none⟩) c0 (by simp); have d1 : w2.cell? ⟨w.heap.size + 1, 0, none⟩ = some (.int .u8 0) := hgrow2.cell (a := ⟨w.heap.size + 1, 0, none⟩) g2 (by simp); have d2 : w2.cell? ⟨w.heap.size + 1, 1, none⟩ = some (.int .u16 0) := hgrow2.cell (a := ⟨w.heap.size + 1, 1, none⟩) g3 (by simp); have e1 : w2.frozen? ⟨w.heap.size + 1, 0, none⟩ = false := (hgrow2.frozen_far ⟨w.heap.size + 1, 0, none⟩ hz (by simp)).trans q2; have e2 : w2.frozen? ⟨w.heap.size + 1, 1, none⟩ = false := (hgrow2.frozen_far ⟨w.heap.size + 1, 1, none⟩ hz (by simp)).trans q3; have hzz : w.heap.size + 1 < w2.heap.size := Nat.lt_of_lt_of_le hz hgrow2.size))
    have hb2 : Below w.heap.size w w2 := (HB.out.drew).grown hgrow2 HB.out.size (fun k hk => by cases hk)
    have hgg : w.heap.size + 1 + 1 ≤ g := by have h1 : w1.heap.size ≤ g := hg1; omega
    have Hown := Lib.hid hown2
    have HB2 := Lib.hid hb2
    clear hown2 hb2 hgrow2 hg1
    go_wp2
    refine bodyPost_ret (by simp [results, Tryd.results13, go_sem, hzz, d1, d2] <;> rfl) rfl ⟨_, rfl, ?_, ?_⟩
    · refine Far.own (base := w.heap.size) (own_base (own_setCell (own_setCell ?_ ?_ _) ?_ _) (base := w1.heap.size) HB.out.size) (fun b hb => .inr hb)
      · simpa using Hown.out
      all_goals (simp [Value.ownBlock]; omega)
    · exact bs (bs HB2.out (by simp) _) (by simp) _
end Go.Proofs.YtfaoakahmllpjaaDoor
