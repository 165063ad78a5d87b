/- What the laws ask of a step: steps, works. -/
import Derived.Test.YtfaoakahmllpjaaDoorRun
import Derived.Test.YtfaoakahmllpjaaDoorSame
import Derived.Deep.DeepCutAuto
namespace Go.Proofs.YtfaoakahmllpjaaDoor
open Go.RowKit Go.Um
set_option maxHeartbeats 0

theorem eql31 (a b c d : Int) (w : World) : (binOp .eql 31 (.agg #[.int .u8 a, .int .u16 b]) (.agg #[.int .u8 c, .int .u16 d])).run Tryd.prog w = .ok (.bool (a == c && b == d)) w := by
  by_cases h1 : a = c <;> by_cases h2 : b = d <;> simp [go_sem, h1, h2]
theorem neq31 (a b c d : Int) (w : World) : (binOp .neq 31 (.agg #[.int .u8 a, .int .u16 b]) (.agg #[.int .u8 c, .int .u16 d])).run Tryd.prog w = .ok (.bool (!(a == c && b == d))) w := by
  by_cases h1 : a = c <;> by_cases h2 : b = d <;> simp [go_sem, h1, h2]

def CutS (w : World) (want : List Int) (r : Int × Int) (t9 t10 t11 : Value) (wx : World) : Prop :=
  ∃ b9 b10 sv, t9 = .pointer (some ⟨b9, 0, none⟩) ∧ t10 = .pointer (some ⟨b10, 0, none⟩) ∧ t11 = .int .i64 0 ∧ wx.cell? ⟨b9, 0, none⟩ = some sv ∧ wx.cell? ⟨b10, 0, none⟩ = some (.int .u8 r.1) ∧ wx.cell? ⟨b10, 1, none⟩ = some (.int .u16 r.2) ∧
    Lies wx want sv ∧ Below w.heap.size w wx ∧ wx.cell? ⟨w.heap.size + 1, 0, none⟩ = some (.int .u8 r.1) ∧ wx.cell? ⟨w.heap.size + 1, 1, none⟩ = some (.int .u16 r.2)

theorem steps_any (s : List Int) (v : Value) (x : Op5) (r : Int × Int) (want : List Int) (ao' : Option Addr) (cap' b' o' : Nat) (w : World) (hv : Lies w s v) (hw : SlAt w 1 want.length (us want) ao' cap' b' o') (hx : x.ok) (hlen : s.length ≤ 1000) (hwl : want.length ≤ 1000) (hk : Kinds w)
    (ha : ans s x = r) (he : errOf x = 0) (hn : nxt s x = want) :
    Calls Tryd.prog 28 #[v, opV x, .agg #[.int .u8 r.1, .int .u16 r.2], .slice ao' want.length cap'] w fun e w' => e = .returned (.bool true) ∧ Below w.heap.size w w' := by
  have h1 := fun W hb => qof_any s v W (hv.below hb) (by omega)
  have h2 := fun S v' W h hb => step_any S s v' x hx W h (by omega) (hk.below hb)
  rw [ha, he, hn] at h2
  obtain ⟨f, ob, k, a, bb⟩ := x
  unfold opV at h2 ⊢
  have H1 := Lib.hid h1
  have H2 := Lib.hid h2
  have Hw := Lib.hid hw
  have Hk := Lib.hid hk
  clear h1 h2 hw hk ha he hn hx
  go_enter Tryd.func28, Tryd.ntmps28
  go_wp2_with fail
  go_cut [9, 10, 11] (fun t9 t10 t11 wx => CutS w want r t9 t10 t11 wx)
  case first =>
    go_region_held3 (fun w' => w'.cell? ⟨w.heap.size, 0, none⟩ = some (.int .u8 f) ∧ w'.cell? ⟨w.heap.size, 1, none⟩ = some (.int .u8 ob) ∧ w'.cell? ⟨w.heap.size, 2, none⟩ = some (.int .u8 k) ∧ w'.cell? ⟨w.heap.size, 3, none⟩ = some (.int .u16 a) ∧ w'.cell? ⟨w.heap.size, 4, none⟩ = some (.int .u16 bb))
      (refine ⟨?_, ?_, ?_, ?_, ?_⟩ <;> (repeat (first | (with_reducible assumption) | ((with_reducible refine new_at ?_ ?_); (focus (first | rfl | (simp; done))); (focus rfl)) | (with_reducible apply keep_alloc) | (with_reducible apply keep_drew) | (with_reducible refine keep_set ?_ ?_) | (intro e; dsimp only at e; omega))))
      (first
        | (go_at_call 11; refine (H1.out _ (by repeat (first | (with_reducible exact bz w) | (with_reducible apply ba) | (with_reducible apply Below.drew)))).mono ?_; rintro e w1 ⟨v1, rfl, hown1, hb1⟩; have hB1 : Below w.heap.size w w1 := bt (by repeat (first | (with_reducible exact bz w) | (with_reducible apply ba) | (with_reducible apply Below.drew))) hb1; have hF0 := Far.own (S := fun b => _ ≤ b) hown1 (fun b hb => hb); have hF1 := hF0.mono (S' := fun b => _ ≤ b ∧ b < w1.heap.size) (fun b h1 h2 => ⟨h2, h1⟩); clear hF0; have HF1 := Lib.hid hF1; have HB1 := Lib.hid hB1; obtain ⟨ao1, cap1, b1, o1, rfl, hs1, hS1⟩ := hF1; have hz1 : w.heap.size + 1 < w1.heap.size := (by have := hb1.size; simp at this; omega); have x0 := kc hb1 w.heap.size 0 (.int .u8 f) (by simp [go_sem]); have x1 := kc hb1 w.heap.size 1 (.int .u8 ob) (by simp [go_sem]); have x2 := kc hb1 w.heap.size 2 (.int .u8 k) (by simp [go_sem]); have x3 := kc hb1 w.heap.size 3 (.int .u16 a) (by simp [go_sem]); have x4 := kc hb1 w.heap.size 4 (.int .u16 bb) (by simp [go_sem]); have r0 := kc hb1 (w.heap.size + 1) 0 (.int .u8 r.1) (by simp [go_sem]); have r1 := kc hb1 (w.heap.size + 1) 1 (.int .u16 r.2) (by simp [go_sem]); obtain ⟨c2, f2, z2, n2⟩ := past hb1; clear n2; have a1 := c2 (w.heap.size + 1 + 1) 0; have a2 := c2 (w.heap.size + 1 + 1) 1; have a3 := c2 (w.heap.size + 1 + 1 + 1) 0; have a4 := c2 (w.heap.size + 1 + 1 + 1) 1; have b1 := f2 (w.heap.size + 1 + 1) 0; have b2 := f2 (w.heap.size + 1 + 1) 1; have b3 := f2 (w.heap.size + 1 + 1 + 1) 0; have b4 := f2 (w.heap.size + 1 + 1 + 1) 1; have y1 := z2 (w.heap.size + 1 + 1); have y2 := z2 (w.heap.size + 1 + 1 + 1); clear c2 f2 z2 hs1 hS1 hb1 hB1 hown1; simp [go_sem] at a1 a2 a3 a4 b1 b2 b3 b4 y1 y2)
        | (go_at_call 12; refine (H2.out _ _ _ (HF1.out.below (by repeat (first | (with_reducible exact bz w1) | (with_reducible apply ba) | (with_reducible apply Below.drew)))) (bt HB1.out (by repeat (first | (with_reducible exact bz w1) | (with_reducible apply ba) | (with_reducible apply Below.drew))))).mono ?_; rintro e w2 ⟨v2, rfl, hf2, hb2⟩; have hB2 : Below w1.heap.size w1 w2 := bt (by repeat (first | (with_reducible exact bz w1) | (with_reducible apply ba) | (with_reducible apply Below.drew))) hb2; have HB2 := Lib.hid hB2; have HF2 := Lib.hid hf2; obtain ⟨ao2, cap2, b2', o2, rfl, hs2, hS2⟩ := hf2; have x0 := cell_past hB2 x0; have x1 := cell_past hB2 x1; have x2 := cell_past hB2 x2; have x3 := cell_past hB2 x3; have x4 := cell_past hB2 x4; have r0' := cell_past hB2 r0; have r1' := cell_past hB2 r1; have hz2 : w1.heap.size ≤ w2.heap.size := hB2.size; obtain ⟨c2, f2, z2, n2⟩ := past hb2; clear n2; have a1' := c2 (w.heap.size + 1 + 1) 0; have a2' := c2 (w.heap.size + 1 + 1) 1; have a3' := c2 (w.heap.size + 1 + 1 + 1) 0; have a4' := c2 (w.heap.size + 1 + 1 + 1) 1; have b1' := f2 (w.heap.size + 1 + 1) 0; have b2' := f2 (w.heap.size + 1 + 1) 1; have b3' := f2 (w.heap.size + 1 + 1 + 1) 0; have b4' := f2 (w.heap.size + 1 + 1 + 1) 1; have y1' := z2 (w.heap.size + 1 + 1); have y2' := z2 (w.heap.size + 1 + 1 + 1); have a5 := c2 w1.heap.size 0; have a6 := c2 w1.heap.size 1; have a7 := c2 (w1.heap.size + 1) 0; have a8 := c2 (w1.heap.size + 1) 1; have b5 := f2 w1.heap.size 0; have b6 := f2 w1.heap.size 1; have b7 := f2 (w1.heap.size + 1) 0; have b8 := f2 (w1.heap.size + 1) 1; have y3 := z2 w1.heap.size; have y4 := z2 (w1.heap.size + 1); clear c2 f2 z2 hs2 hS2 hb2 hB2; simp [go_sem, *] at a1' a2' a3' a4' b1' b2' b3' b4' y1' y2' a5 a6 a7 a8 b5 b6 b7 b8 y3 y4))
    all_goals (go_wp2_with fail; go_meet)
    all_goals (refine ⟨_, _, .slice ao2 want.length cap2, rfl, rfl, rfl, ?_, ?_, ?_, ?_, ?_, ?_, ?_⟩)
    all_goals first
      | (repeat (first | (with_reducible exact bt HB1.out HB2.out) | (with_reducible apply ba) | (with_reducible apply Below.drew) | (with_reducible refine bs ?_ ?_ _) | (dsimp only; omega))
         done)
      | ((apply Far.lies); (focus (repeat (first | (with_reducible exact HF2.out) | (with_reducible apply Far.alloc) | (with_reducible apply Far.drew) | (with_reducible apply Far.setCell)))); (all_goals (intro hb; rcases hb with hb | hb <;> simp at hb <;> omega)); done)
      | ((repeat (first | (with_reducible assumption) | ((with_reducible refine new_at ?_ ?_); (focus (first | rfl | (simp; done))); (focus rfl)) | (with_reducible apply keep_alloc) | (with_reducible apply keep_drew) | (with_reducible refine keep_set ?_ ?_) | (intro e; dsimp only at e; omega))); done)
      | (simp [go_sem, *]; done)
      | skip
  case rest =>
    obtain ⟨b9, b10, sv, rfl, rfl, rfl, d0, d1, d2, hl, hB, d3, d4⟩ := hcut
    have heq := eql31
    have HL := Lib.hid hl
    have HB := Lib.hid hB
    obtain ⟨ao3, cap3, b3, o3, rfl, hs3⟩ := hl
    clear hs3 hB
    go_wp2_with fail
    refine (has_any want want _ ao' cap' b' o' _ HL.out (Hw.out.below HB.out) (by omega)).mono ?_
    rintro e w3 ⟨rfl, hb3⟩
    go_wp2
    go_ret
    exact ⟨by simp, bt HB.out hb3⟩

theorem nil_lies (w : World) : Lies w [] (.slice none 0 0) := ⟨none, 0, 0, 0, rfl, ⟨rfl, Nat.le_refl _, Nat.zero_le _, fun h => absurd h (by decide), fun h => absurd h (by decide), fun j u hu => by simp [us] at hu⟩⟩
theorem nil_at (w : World) : SlAt w 1 0 (us []) none 0 0 0 := ⟨rfl, Nat.le_refl _, Nat.zero_le _, fun h => absurd h (by decide), fun h => absurd h (by decide), fun j u hu => by simp [us] at hu⟩
theorem new_lies (w : World) (cs : List Int) (g : Nat) (hg : g = w.heap.size) (hm : cs.length ≤ maxLen) : Lies (w.alloc (.cells (us cs).toArray 23)) cs (.slice (some ⟨g, 0, none⟩) cs.length cs.length) :=
  ⟨_, _, g, 0, rfl, SlAt.new w 23 1 cs.length (us cs) g hg (us_len cs) hm⟩

theorem op_ok {x : Op5} (h : (0 ≤ x.f ∧ x.f ≤ 255) ∧ (0 ≤ x.o ∧ x.o ≤ 255) ∧ (0 ≤ x.k ∧ x.k ≤ 255) ∧ (0 ≤ x.a ∧ x.a ≤ 65535) ∧ 0 ≤ x.b ∧ x.b ≤ 65535) : x.ok := ⟨h.1, h.2.1, h.2.2.1, h.2.2.2.1, h.2.2.2.2⟩

theorem works_any (w : World) (hk : Kinds w) : Calls Tryd.prog 10 #[] w fun e w' => e = .returned (.bool true) ∧ Below w.heap.size w w' := by
  go_enter Tryd.func10, Tryd.ntmps10
  go_wp2_with fail
  refine (enq_any 5 _).mono ?_
  rintro e w1 ⟨rfl, hb1⟩
  unfold opV
  go_wp2_with fail
  refine (steps_any [] _ ⟨4, 0, 0, 5, 0⟩ (0, 0) [5] _ _ _ _ _ (nil_lies _) (SlAt.new w1 23 1 1 (us [5]) _ rfl rfl (by decide)) (op_ok (by decide)) (by decide) (by decide) ((hk.below hb1).below (ba (bz _) _)) rfl rfl rfl).mono ?_
  rintro e w2 ⟨rfl, hb2⟩
  have hB2 := bt (ba hb1 _) hb2
  go_wp2_with fail
  refine (deq_any _).mono ?_
  rintro e w3 ⟨rfl, hb3⟩
  have hB3 := bt (ba hB2 _) hb3
  unfold opV
  go_wp2_with fail
  refine (steps_any [5, 7] _ ⟨5, 0, 0, 0, 0⟩ (1, 5) [7] _ _ _ _ _ (((new_lies w2 [5, 7] _ rfl (by decide)).below hb3).below (ba (bz _) _)) (SlAt.new w3 23 1 1 (us [7]) _ rfl rfl (by decide)) (op_ok (by decide)) (by decide) (by decide) ((hk.below hB3).below (ba (bz _) _)) rfl rfl rfl).mono ?_
  rintro e w4 ⟨rfl, hb4⟩
  have hB4 := bt (ba hB3 _) hb4
  go_wp2_with fail
  refine (deq_any _).mono ?_
  rintro e w5 ⟨rfl, hb5⟩
  have hB5 := bt hB4 hb5
  unfold opV
  go_wp2_with fail
  refine (steps_any [] _ ⟨5, 0, 0, 0, 0⟩ (2, 0) [] _ _ _ _ _ (nil_lies _) (nil_at _) (op_ok (by decide)) (by decide) (by decide) (hk.below hB5) rfl rfl rfl).mono ?_
  rintro e w6 ⟨rfl, hb6⟩
  have hB6 := bt hB5 hb6
  go_wp2_with fail
  refine (new_any _).mono ?_
  rintro e w7 ⟨rfl, hb7⟩
  go_wp2_with fail
  refine (has_any [] [] _ _ _ _ _ _ (nil_lies _) (nil_at _) (by decide)).mono ?_
  rintro e w8 ⟨rfl, hb8⟩
  go_wp2
  go_ret
  exact ⟨by simp, bt (bt hB6 hb7) hb8⟩
end Go.Proofs.YtfaoakahmllpjaaDoor
