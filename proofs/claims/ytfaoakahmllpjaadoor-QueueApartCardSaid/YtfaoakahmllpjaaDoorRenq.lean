/- A step of the document's queue: enq; and any step. -/
import Derived.Test.YtfaoakahmllpjaaDoorRstep
namespace Go.Proofs.YtfaoakahmllpjaaDoor
open Go.RowKit Go.Um
set_option maxHeartbeats 1000000

theorem keep_a {w : World} {a : Addr} {v : Value} (h : w.cell? a = some v) {o : Obj} : (w.alloc o).cell? a = some v := cell_past (ba (bz w) o) h

theorem renq_nil (S : Nat → Prop) (v : Value) (o2 k a bb : Int) (hx : Op5.ok ⟨4, o2, k, a, bb⟩) (hg : good ⟨4, o2, k, a, bb⟩ = true) (w : World) (h : Lies w [] v) :
    Calls Tryd.prog 13 #[v, opV ⟨4, o2, k, a, bb⟩] w (RStep3 S [a] (0, 0) 0 w) := by
  obtain ⟨i0, hi, hz0, hz1, hz2⟩ := info_parts info23
  obtain ⟨ao, cap, b, o, rfl, hs⟩ := h
  have he : errOf ⟨4, o2, k, a, bb⟩ = 0 := by simp [errOf, hg]
  have hck := fun w => rcheck_any ⟨4, o2, k, a, bb⟩ hx w
  rw [he] at hck
  cases ao
  · have Hs := Lib.hid hs
    clear hs hx hg he
    unfold opV at hck ⊢
    have Hck := Lib.hid hck
    clear hck
    go_enter Tryd.func13, Tryd.ntmps13
    go_wp2_with fail
    refine (Hck.out _).mono ?_
    rintro e w1 ⟨rfl, hb1⟩
    have g0 := kc hb1 w.heap.size 0 (.int .u8 4) (by simp [go_sem])
    have ga := kc hb1 w.heap.size 3 (.int .u16 a) (by simp [go_sem])
    have g2 := kc hb1 (w.heap.size + 1) 0 (.int .u8 0) (by simp [go_sem])
    have g3 := kc hb1 (w.heap.size + 1) 1 (.int .u16 0) (by simp [go_sem])
    have q2 := kf hb1 (w.heap.size + 1) 0 (by simp) (by simp [go_sem])
    have q3 := kf hb1 (w.heap.size + 1) 1 (by simp) (by simp [go_sem])
    have hz : w.heap.size + 1 < w1.heap.size := by have := hb1.size; simp at this; omega
    have hB := bt (ba (ba (bz w) _) _) hb1
    have HB := Lib.hid hB
    clear hB hb1
    go_wp2_with (at_builtin; refine wpList_append_lies _ rfl (.tmp 19) (.tmp 22) 22 rfl w1.heap.size 23 i0 (.int .u16 0) 1 2 Tryd.underlying22 hi hz0 hz1 hz2 rfl (by decide) _ 0 [] rfl ((World.ownsRow_nil _ _ _ _)) ⟨w1.heap.size, 0, none⟩ 1 1 [.int .u16 a] rfl rfl (new_cells _ _ _ _ rfl) (by simp [Value.oneCell']) (by decide) (by decide) (by decide) (by simp) _ rfl ?_)
    intro g cap2 w2 hown2 hgrow2 hat hlt2
    have d1 : w2.cell? ⟨w.heap.size + 1, 0, none⟩ = some (.int .u8 0) := hgrow2.cell (a := ⟨w.heap.size + 1, 0, none⟩) (keep_a g2) (by simp [Value.ownBlock])
    have d2 : w2.cell? ⟨w.heap.size + 1, 1, none⟩ = some (.int .u16 0) := hgrow2.cell (a := ⟨w.heap.size + 1, 1, none⟩) (keep_a g3) (by simp [Value.ownBlock])
    have e1 : w2.frozen? ⟨w.heap.size + 1, 0, none⟩ = false := (hgrow2.frozen_far ⟨w.heap.size + 1, 0, none⟩ (by simp; omega) (by simp [Value.ownBlock])).trans (by simp [go_sem, q2, hz])
    have e2 : w2.frozen? ⟨w.heap.size + 1, 1, none⟩ = false := (hgrow2.frozen_far ⟨w.heap.size + 1, 1, none⟩ (by simp; omega) (by simp [Value.ownBlock])).trans (by simp [go_sem, q3, hz])
    have hzz : w.heap.size + 1 < w2.heap.size := by have := hgrow2.size; simp at this; omega
    have hb2 : Below w.heap.size w w2 := (ba HB.out _).grown hgrow2 (by have := HB.out.size; simp; omega) (fun k hk => by cases hk)
    have hgg : w1.heap.size ≤ g := by
      rcases hat with h | h
      · cases h
      · omega
    have Hown := Lib.hid hown2
    have HB2 := Lib.hid hb2
    clear hown2 hb2 hgrow2 hat
    go_wp2
    refine bodyPost_ret (by simp [results, Tryd.results13, go_sem, hzz, d1, d2] <;> rfl) rfl ⟨_, rfl, ?_, ?_⟩
    · refine Far.own (base := w.heap.size) (own_base (own_setCell (own_setCell ?_ ?_ _) ?_ _) (base := w1.heap.size) HB.out.size) (fun b hb => .inr hb)
      · simpa [us] using Hown.out
      all_goals (simp [Value.ownBlock]; omega)
    · exact bs (bs HB2.out (by simp) _) (by simp) _
  · have Hs := Lib.hid hs
    clear hs hx hg he
    unfold opV at hck ⊢
    have Hck := Lib.hid hck
    clear hck
    go_enter Tryd.func13, Tryd.ntmps13
    go_wp2_with fail
    refine (Hck.out _).mono ?_
    rintro e w1 ⟨rfl, hb1⟩
    have g0 := kc hb1 w.heap.size 0 (.int .u8 4) (by simp [go_sem])
    have ga := kc hb1 w.heap.size 3 (.int .u16 a) (by simp [go_sem])
    have g2 := kc hb1 (w.heap.size + 1) 0 (.int .u8 0) (by simp [go_sem])
    have g3 := kc hb1 (w.heap.size + 1) 1 (.int .u16 0) (by simp [go_sem])
    have q2 := kf hb1 (w.heap.size + 1) 0 (by simp) (by simp [go_sem])
    have q3 := kf hb1 (w.heap.size + 1) 1 (by simp) (by simp [go_sem])
    have hz : w.heap.size + 1 < w1.heap.size := by have := hb1.size; simp at this; omega
    have hB := bt (ba (ba (bz w) _) _) hb1
    have HB := Lib.hid hB
    clear hB hb1
    go_wp2_with (at_builtin; refine wpList_append_lies _ rfl (.tmp 19) (.tmp 22) 22 rfl w1.heap.size 23 i0 (.int .u16 0) 1 2 Tryd.underlying22 hi hz0 hz1 hz2 rfl (by decide) _ 0 [] rfl ((World.ownsRow_nil _ _ _ _)) ⟨w1.heap.size, 0, none⟩ 1 1 [.int .u16 a] rfl rfl (new_cells _ _ _ _ rfl) (by simp [Value.oneCell']) (by decide) (by decide) (by decide) (by simp) _ rfl ?_)
    intro g cap2 w2 hown2 hgrow2 hat hlt2
    have d1 : w2.cell? ⟨w.heap.size + 1, 0, none⟩ = some (.int .u8 0) := hgrow2.cell (a := ⟨w.heap.size + 1, 0, none⟩) (keep_a g2) (by simp [Value.ownBlock])
    have d2 : w2.cell? ⟨w.heap.size + 1, 1, none⟩ = some (.int .u16 0) := hgrow2.cell (a := ⟨w.heap.size + 1, 1, none⟩) (keep_a g3) (by simp [Value.ownBlock])
    have e1 : w2.frozen? ⟨w.heap.size + 1, 0, none⟩ = false := (hgrow2.frozen_far ⟨w.heap.size + 1, 0, none⟩ (by simp; omega) (by simp [Value.ownBlock])).trans (by simp [go_sem, q2, hz])
    have e2 : w2.frozen? ⟨w.heap.size + 1, 1, none⟩ = false := (hgrow2.frozen_far ⟨w.heap.size + 1, 1, none⟩ (by simp; omega) (by simp [Value.ownBlock])).trans (by simp [go_sem, q3, hz])
    have hzz : w.heap.size + 1 < w2.heap.size := by have := hgrow2.size; simp at this; omega
    have hb2 : Below w.heap.size w w2 := (ba HB.out _).grown hgrow2 (by have := HB.out.size; simp; omega) (fun k hk => by cases hk)
    have hgg : w1.heap.size ≤ g := by
      rcases hat with h | h
      · cases h
      · omega
    have Hown := Lib.hid hown2
    have HB2 := Lib.hid hb2
    clear hown2 hb2 hgrow2 hat
    go_wp2
    refine bodyPost_ret (by simp [results, Tryd.results13, go_sem, hzz, d1, d2] <;> rfl) rfl ⟨_, rfl, ?_, ?_⟩
    · refine Far.own (base := w.heap.size) (own_base (own_setCell (own_setCell ?_ ?_ _) ?_ _) (base := w1.heap.size) HB.out.size) (fun b hb => .inr hb)
      · simpa [us] using Hown.out
      all_goals (simp [Value.ownBlock]; omega)
    · exact bs (bs HB2.out (by simp) _) (by simp) _

theorem renq_any (S : Nat → Prop) (l : List Int) (hl : 0 < l.length) (v : Value) (o2 k a bb : Int) (hx : Op5.ok ⟨4, o2, k, a, bb⟩) (hg : good ⟨4, o2, k, a, bb⟩ = true) (w : World) (h : Lies w l v) (hlen : l.length ≤ 100000) :
    Calls Tryd.prog 13 #[v, opV ⟨4, o2, k, a, bb⟩] w (RStep3 S (l ++ [a]) (0, 0) 0 w) := by
  obtain ⟨i0, hi, hz0, hz1, hz2⟩ := info_parts info23
  obtain ⟨ao, cap, b, o, rfl, hs⟩ := h
  have he : errOf ⟨4, o2, k, a, bb⟩ = 0 := by simp [errOf, hg]
  have hck := fun w => rcheck_any ⟨4, o2, k, a, bb⟩ hx w
  rw [he] at hck
  have ha := hs.addr (by rw [us_len]; omega)
  have hcl : ∀ j u, (us l)[j]? = some u → w.cell? ((⟨b, o, none⟩ : Addr).add j) = some u := by
    intro j u hu
    rw [Addr.add_lit]
    exact hs.cell j u hu
  subst ha
  have Hcl := Lib.hid hcl
  have Hn := Lib.hid hlen
  clear hcl hlen
  have Hs := Lib.hid hs
  clear hs hx hg he
  unfold opV at hck ⊢
  have Hck := Lib.hid hck
  clear hck
  go_enter Tryd.func13, Tryd.ntmps13
  go_wp2_with fail
  refine (Hck.out _).mono ?_
  rintro e w1 ⟨rfl, hb1⟩
  have g0 := kc hb1 w.heap.size 0 (.int .u8 4) (by simp [go_sem])
  have ga := kc hb1 w.heap.size 3 (.int .u16 a) (by simp [go_sem])
  have g2 := kc hb1 (w.heap.size + 1) 0 (.int .u8 0) (by simp [go_sem])
  have g3 := kc hb1 (w.heap.size + 1) 1 (.int .u16 0) (by simp [go_sem])
  have q2 := kf hb1 (w.heap.size + 1) 0 (by simp) (by simp [go_sem])
  have q3 := kf hb1 (w.heap.size + 1) 1 (by simp) (by simp [go_sem])
  have hz : w.heap.size + 1 < w1.heap.size := by have := hb1.size; simp at this; omega
  have hB := bt (ba (ba (bz w) _) _) hb1
  have HB := Lib.hid hB
  clear hB hb1
  go_wp2_with (at_builtin; refine wpList_append_grows _ rfl (.tmp 16) (.tmp 17) 22 rfl 23 i0 (.int .u16 0) 1 2 Tryd.underlying22 hi hz0 hz1 hz2 rfl (by decide) none 0 0 [] rfl (by simp) rfl (by simp) ⟨b, o, none⟩ l.length cap (us l) rfl (us_len l) (fun j u hu => cell_past HB.out (Hcl.out j u hu)) us_one (by omega) (by have := Hn.out; unfold maxLen; omega) (by have := Hn.out; omega) ?_)
  intro v' w2 hown2 hgrow2
  have ga2 : w2.cell? ⟨w.heap.size, 3, none⟩ = some (.int .u16 a) := hgrow2.cell (a := ⟨w.heap.size, 3, none⟩) ga (by simp)
  have d1 : w2.cell? ⟨w.heap.size + 1, 0, none⟩ = some (.int .u8 0) := hgrow2.cell (a := ⟨w.heap.size + 1, 0, none⟩) g2 (by simp)
  have d2 : w2.cell? ⟨w.heap.size + 1, 1, none⟩ = some (.int .u16 0) := hgrow2.cell (a := ⟨w.heap.size + 1, 1, none⟩) g3 (by simp)
  have e1 : w2.frozen? ⟨w.heap.size + 1, 0, none⟩ = false := (hgrow2.frozen_far ⟨w.heap.size + 1, 0, none⟩ hz (by simp)).trans q2
  have e2 : w2.frozen? ⟨w.heap.size + 1, 1, none⟩ = false := (hgrow2.frozen_far ⟨w.heap.size + 1, 1, none⟩ hz (by simp)).trans q3
  have hzz : w.heap.size + 1 < w2.heap.size := Nat.lt_of_lt_of_le hz hgrow2.size
  have hb2 : Below w.heap.size w w2 := (HB.out).grown hgrow2 HB.out.size (fun k hk => by cases hk)
  have Hown := Lib.hid hown2
  have HB2 := Lib.hid hb2
  have HG := Lib.hid hgrow2.size
  clear hown2 hb2 hgrow2
  go_wp2_with (at_builtin; refine wpList_append_lies _ rfl (.tmp 19) (.tmp 22) 22 rfl w1.heap.size 23 i0 (.int .u16 0) 1 2 Tryd.underlying22 hi hz0 hz1 hz2 rfl (by decide) _ _ _ rfl (Hown.out.alloc _) ⟨w2.heap.size, 0, none⟩ 1 1 [.int .u16 a] rfl rfl (new_cells _ _ _ _ rfl) (by simp [Value.oneCell']) (by decide) (by have := Hn.out; unfold maxLen; omega) (by have := Hn.out; omega) (by have := HG.out; simp; omega) _ rfl ?_)
  intro g cap2 w3 hown3 hgrow3 hat hlt3
  have hne : some (w.heap.size + 1) ≠ v'.ownBlock := fun e => by
    have := (Hown.out.lt _ e.symm).1
    omega
  have d3 : w3.cell? ⟨w.heap.size + 1, 0, none⟩ = some (.int .u8 0) := hgrow3.cell (a := ⟨w.heap.size + 1, 0, none⟩) (keep_a d1) hne
  have d4 : w3.cell? ⟨w.heap.size + 1, 1, none⟩ = some (.int .u16 0) := hgrow3.cell (a := ⟨w.heap.size + 1, 1, none⟩) (keep_a d2) hne
  have e3 : w3.frozen? ⟨w.heap.size + 1, 0, none⟩ = false := (hgrow3.frozen_far ⟨w.heap.size + 1, 0, none⟩ (by simp; omega) hne).trans (by simp [go_sem, e1, hzz])
  have e4 : w3.frozen? ⟨w.heap.size + 1, 1, none⟩ = false := (hgrow3.frozen_far ⟨w.heap.size + 1, 1, none⟩ (by simp; omega) hne).trans (by simp [go_sem, e2, hzz])
  have hz3 : w.heap.size + 1 < w3.heap.size := by have := hgrow3.size; simp at this; omega
  have hb3 : Below w.heap.size w w3 := (ba HB2.out _).grown hgrow3 (by have := HB2.out.size; simp; omega) (fun k hk => by have := (Hown.out.lt k hk).1; omega)
  have hgg : w1.heap.size ≤ g := by
    have hq := HG.out
    rcases hat with h | h
    · exact (Hown.out.lt g h).1
    · omega
  have Ho3 := Lib.hid hown3
  have HB3 := Lib.hid hb3
  clear hown3 hb3 hgrow3 hat hne
  go_wp2
  refine bodyPost_ret (by simp [results, Tryd.results13, go_sem, hz3, d3, d4] <;> rfl) rfl ⟨_, rfl, ?_, ?_⟩
  · refine Far.own (base := w.heap.size) (own_base (own_setCell (own_setCell ?_ ?_ _) ?_ _) (base := w1.heap.size) HB.out.size) (fun b hb => .inr hb)
    · simpa [us] using Ho3.out
    all_goals (simp [Value.ownBlock]; omega)
  · exact bs (bs HB3.out (by simp) _) (by simp) _

/-- what is behind an operation -/
def nxt (l : List Int) (x : Op5) : List Int := if good x then (if x.f = 4 then l ++ [x.a] else l.tail) else l
/-- what it answers -/
def ans (l : List Int) (x : Op5) : Int × Int := if good x then (if x.f = 4 then (0, 0) else match l with | [] => (2, 0) | h :: _ => (1, h)) else (0, 0)

theorem good_f {x : Op5} (h : good x = true) : x.f = 4 ∨ x.f = 5 := by
  unfold good at h
  simp at h
  rcases h with h | h
  · exact .inl h.1.1.1
  · exact .inr h.1.1.1.1

theorem rstep_any (S : Nat → Prop) (l : List Int) (v : Value) (x : Op5) (hx : x.ok) (w : World) (h : Far S w l v) (hlen : l.length ≤ 100000) :
    Calls Tryd.prog 13 #[v, opV x] w (RStep3 S (nxt l x) (ans l x) (errOf x) w) := by
  by_cases hg : good x = true
  · obtain ⟨f, o2, k, a, bb⟩ := x
    rcases good_f hg with hf | hf <;> simp only at hf <;> subst hf
    · have e1 : nxt l ⟨4, o2, k, a, bb⟩ = l ++ [a] := by simp [nxt, hg]
      have e2 : ans l ⟨4, o2, k, a, bb⟩ = (0, 0) := by simp [ans, hg]
      have e3 : errOf ⟨4, o2, k, a, bb⟩ = 0 := by simp [errOf, hg]
      rw [e1, e2, e3]
      rcases Nat.eq_zero_or_pos l.length with hl | hl
      · obtain rfl : l = [] := List.eq_nil_of_length_eq_zero hl
        exact renq_nil S v o2 k a bb hx hg w h.lies
      · exact renq_any S l hl v o2 k a bb hx hg w h.lies hlen
    · have e3 : errOf ⟨5, o2, k, a, bb⟩ = 0 := by simp [errOf, hg]
      rw [e3]
      cases l with
      | nil =>
        have e1 : nxt [] ⟨5, o2, k, a, bb⟩ = [] := by simp [nxt]
        have e2 : ans [] ⟨5, o2, k, a, bb⟩ = (2, 0) := by simp [ans, hg]
        rw [e1, e2]
        exact rstep_empty S v o2 k a bb hx hg w h.lies
      | cons h0 l =>
        have e1 : nxt (h0 :: l) ⟨5, o2, k, a, bb⟩ = l := by simp [nxt, hg]
        have e2 : ans (h0 :: l) ⟨5, o2, k, a, bb⟩ = (1, h0) := by simp [ans, hg]
        rw [e1, e2]
        exact rstep_some S h0 l v o2 k a bb hx hg w h.lies (by simp at hlen; omega)
  · have hg' : good x = false := by simpa using hg
    have e1 : nxt l x = l := by simp [nxt, hg']
    have e2 : ans l x = (0, 0) := by simp [ans, hg']
    have e3 : errOf x = 10 := by simp [errOf, hg']
    rw [e1, e2, e3]
    exact rstep_bad S l v x hx hg' w h
end Go.Proofs.YtfaoakahmllpjaaDoor
