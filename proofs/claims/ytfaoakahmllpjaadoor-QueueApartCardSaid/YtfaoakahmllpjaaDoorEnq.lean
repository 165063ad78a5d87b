/- The state's enq. -/
import Derived.Test.YtfaoakahmllpjaaDoorLeaf
import Derived.BigQuiet
import Derived.Deep.AppendLies
namespace Go.Proofs.YtfaoakahmllpjaaDoor
open Go.RowKit Go.Um
set_option maxHeartbeats 1000000
/-- a state and an answer -/
def StepPost (S : Nat → Prop) (l' : List Int) (k v : Int) (w : World) (e : Ending) (w' : World) : Prop :=
  ∃ s, e = .returned (.tuple #[.agg #[s], .agg #[.int .u8 k, .int .u16 v]]) ∧ Far (fun b => S b ∨ w.heap.size ≤ b) w' l' s ∧ Below w.heap.size w w'

theorem cell_past {w W : World} (hb : Below w.heap.size w W) {a : Addr} {u : Value} (h : w.cell? a = some u) : W.cell? a = some u := by
  rw [hb.cell (World.block_lt_of_cell? w _ h)]; exact h

theorem senq_any (S : Nat → Prop) (l : List Int) (v : Value) (x : Op5) (w : World) (h : Lies w l v) (hlen : l.length ≤ 100000) :
    Calls Tryd.prog 31 #[.agg #[v], opV x] w (StepPost S (l ++ [x.a]) 0 0 w) := by
  obtain ⟨i0, hi, hz0, hz1, hz2⟩ := info_parts info23
  obtain ⟨ao, cap, b, o, rfl, hs⟩ := h
  obtain ⟨f, ob, k, a, bb⟩ := x
  unfold opV
  have hle : (l.length : Int) ≤ cap := by have := hs.le; omega
  have h0 : (0 : Int) ≤ (l.length : Int) := by omega
  have hnone : ao = none → l.length = 0 ∧ l.length = 0 := by
    intro e
    subst e
    exact ⟨SlAt.no_addr hs, SlAt.no_addr hs⟩
  have hcell : ∀ bq, ao = some bq → ∀ j u, (us l)[j]? = some u → w.cell? (bq.add j) = some u := by
    intro bq hbq j u hu
    have hp : 0 < (us l).length := by have := (List.getElem?_eq_some_iff.1 hu).1; omega
    have ha := hs.addr hp
    rw [hbq] at ha
    obtain rfl := Option.some.inj ha
    rw [Addr.add_lit]
    exact hs.cell j u hu
  have Hs := Lib.hid hs
  have Hn := Lib.hid hlen
  have H1 := Lib.hid hnone
  have H2 := Lib.hid hcell
  clear hs hlen hnone hcell
  go_enter Tryd.func31, Tryd.ntmps31
  go_wp2_with fail
  go_region_held3 (fun w' => w'.cell? ⟨w.heap.size, 0, none⟩ = some (.slice ao l.length cap) ∧ w'.cell? ⟨w.heap.size + 1, 3, none⟩ = some (.int .u16 a)) (first | (constructor <;> (simp [go_sem]; done)) | exact ⟨s0, s1⟩ | (constructor <;> (simp [go_sem, s0, s1]; done)) | go_keep) ((refine step_append_grows rfl (.tmp 14) (.tmp 17) 22 rfl 23 i0 (.int .u16 0) 1 2 Tryd.underlying22 hi hz0 hz1 hz2 rfl (by decide) ao l.length l.length (us l) (by simp [Act.eval, Act.put]) H1.out (us_len l) (fun bq hbq j u hu => cell_past (w := w) (by repeat (first | exact bz w | apply ba | apply Below.drew)) (H2.out bq hbq j u hu)) ⟨w.heap.size + 1 + 1 + 1 + 1, 0, none⟩ 1 1 [.int .u16 a] (by simp [Act.eval, Act.put]) rfl (new_cells _ _ _ _ (by simp)) (by simp [Value.oneCell']) (by omega) (by have := Hn.out; unfold maxLen; omega) (by have := Hn.out; omega) ?_; intro v' w2 hown2 hgrow2; have hfm := World.ownsRow.form hown2 (show 0 < l.length + 1 from Nat.succ_pos _); obtain ⟨g, cap2, hv', hg1, hg2⟩ := hfm; subst hv'; have s0 : w2.cell? ⟨w.heap.size, 0, none⟩ = some (.slice ao l.length cap) := hgrow2.cell (a := ⟨w.heap.size, 0, none⟩) (by simp [go_sem]) (by simp); have s1 : w2.cell? ⟨w.heap.size + 1, 3, none⟩ = some (.int .u16 a) := hgrow2.cell (a := ⟨w.heap.size + 1, 3, none⟩) (by simp [go_sem]) (by simp); have d0 : w2.cell? ⟨w.heap.size + 1 + 1, 0, none⟩ = some (.slice none 0 0) := hgrow2.cell (a := ⟨w.heap.size + 1 + 1, 0, none⟩) (by simp [go_sem]) (by simp); have d1 : w2.cell? ⟨w.heap.size + 1 + 1 + 1, 0, none⟩ = some (.int .u8 0) := hgrow2.cell (a := ⟨w.heap.size + 1 + 1 + 1, 0, none⟩) (by simp [go_sem]) (by simp); have d2 : w2.cell? ⟨w.heap.size + 1 + 1 + 1, 1, none⟩ = some (.int .u16 0) := hgrow2.cell (a := ⟨w.heap.size + 1 + 1 + 1, 1, none⟩) (by simp [go_sem]) (by simp); have q0 : w2.frozen? ⟨w.heap.size + 1 + 1, 0, none⟩ = false := (hgrow2.frozen_far ⟨w.heap.size + 1 + 1, 0, none⟩ (by simp) (by simp)).trans (by simp [go_sem]); have q1 : w2.frozen? ⟨w.heap.size + 1 + 1 + 1, 0, none⟩ = false := (hgrow2.frozen_far ⟨w.heap.size + 1 + 1 + 1, 0, none⟩ (by simp) (by simp)).trans (by simp [go_sem]); have q2 : w2.frozen? ⟨w.heap.size + 1 + 1 + 1, 1, none⟩ = false := (hgrow2.frozen_far ⟨w.heap.size + 1 + 1 + 1, 1, none⟩ (by simp) (by simp)).trans (by simp [go_sem]); have hz : w.heap.size + 1 + 1 + 1 < w2.heap.size := by have := hgrow2.size; simp at this; omega))
  have hb2 : Below w.heap.size w w2 := Below.grown (w := _) (by repeat (first | exact bz w | apply ba | apply Below.drew)) hgrow2 (by simp; omega) (fun k hk => by cases hk)
  have hg : w.heap.size + 1 + 1 + 1 + 1 + 1 ≤ g := by simpa using hg1
  have Hown := Lib.hid hown2
  have HB := Lib.hid hb2
  clear hown2 hb2 hgrow2 hg1
  go_wp2
  refine bodyPost_ret (by simp [results, Tryd.results31, go_sem, hz, d0, d1, d2] <;> rfl) rfl ⟨_, rfl, ?_, ?_⟩
  · refine Far.own (base := w.heap.size) (own_base (own_setCell (own_setCell (own_setCell ?_ ?_ _) ?_ _) ?_ _) (base := w.heap.size + 1 + 1 + 1 + 1 + 1) (by omega)) (fun b hb => .inr hb)
    · simpa [us] using Hown.out
    all_goals (simp [Value.ownBlock]; omega)
  · exact bs (bs (bs HB.out (by simp; omega) _) (by simp; omega) _) (by simp; omega) _

end Go.Proofs.YtfaoakahmllpjaaDoor
