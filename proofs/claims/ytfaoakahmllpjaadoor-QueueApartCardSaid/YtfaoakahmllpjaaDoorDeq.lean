/- The state's deq. -/
import Derived.Test.YtfaoakahmllpjaaDoorEnq
namespace Go.Proofs.YtfaoakahmllpjaaDoor
open Go.RowKit Go.Um
set_option maxHeartbeats 1000000

theorem sdeq_nil (S : Nat → Prop) (v : Value) (x : Op5) (w : World) (h : Lies w [] v) : Calls Tryd.prog 32 #[.agg #[v], opV x] w (StepPost S [] 2 0 w) := by
  obtain ⟨ao, cap, b, o, rfl, hs⟩ := h
  obtain ⟨f, ob, k, a, bb⟩ := x
  have Hs := Lib.hid hs
  clear hs
  unfold opV
  go_enter Tryd.func32, Tryd.ntmps32
  go_wp2
  refine bodyPost_ret (by simp [results, Tryd.results32, go_sem] <;> rfl) rfl ⟨_, rfl, ?_, ?_⟩
  · refine ⟨ao, cap, b, o, rfl, Hs.out.below ?_, fun h => absurd h (by decide)⟩
    repeat (first | exact bz w | apply ba | (refine bs ?_ ?_ _))
    all_goals simp
  · repeat (first | exact bz w | apply ba | (refine bs ?_ ?_ _))
    all_goals simp

theorem far_tail {S S' : Nat → Prop} {w W : World} {h0 : Int} {l : List Int} {cap b o : Nat} (hs : SlAt w 1 (h0 :: l).length (us (h0 :: l)) (some ⟨b, o, none⟩) cap b o) (hb : Below w.heap.size w W) (ao : Option Addr) (ha : 0 < l.length → ao = some ⟨b, o + 1, none⟩) (hS : S b) (hS' : S b → S' b) :
    Far S' W l (.slice ao l.length l.length) := by
  have hm := hs.max
  have hle := hs.le
  refine ⟨ao, l.length, b, o + 1, rfl, ⟨us_len l, Nat.le_refl _, by simp at hle; omega, fun hp => ha (by rw [us_len] at hp; omega), fun _ => Nat.lt_of_lt_of_le (hs.lt (by simp [us])) hb.size, fun j u hu => ?_⟩, fun _ => hS' hS⟩
  have h1 := (hs.below hb).cell (j + 1) u (by simpa [us] using hu)
  rw [← h1]
  congr 2
  omega

theorem sdeq_some (S : Nat → Prop) (h0 : Int) (l : List Int) (v : Value) (x : Op5) (w : World) (h : Far S w (h0 :: l) v) :
    Calls Tryd.prog 32 #[.agg #[v], opV x] w (StepPost S l 1 h0 w) := by
  obtain ⟨ao, cap, b, o, rfl, hs, hS⟩ := h
  have HS := Lib.hid (hS (by simp))
  clear hS
  obtain ⟨f, ob, k, a, bb⟩ := x
  have ha := hs.addr (by simp [us])
  have hc : w.cell? ⟨b, o, none⟩ = some (.int .u16 h0) := hs.cell 0 (.int .u16 h0) (by simp [us])
  have hlt := hs.lt (by simp [us])
  subst ha
  unfold opV
  have hle : ((l.length : Int) + 1) ≤ cap := by have := hs.le; simp at this; omega
  have p0 : (1 : Int) ≤ (l.length : Int) + 1 := by omega
  have p1 : ((l.length : Int) + 1 == 0) = false := by rw [beq_eq_false_iff_ne]; omega
  have p2 : (0 : Int) < (l.length : Int) + 1 := by omega
  have pc : ((l.length : Int) + 1).toNat = l.length + 1 := by omega
  have n1 : w.heap.size ≠ b := by omega
  have n2 : w.heap.size + 1 ≠ b := by omega
  have n3 : w.heap.size + 1 + 1 ≠ b := by omega
  have n4 : w.heap.size + 1 + 1 + 1 ≠ b := by omega
  have Hs := Lib.hid hs
  clear hs
  go_enter Tryd.func32, Tryd.ntmps32
  go_wp2_with fail
  go_region_held3 (fun w' => w'.cell? ⟨w.heap.size, 0, none⟩ = some (.slice (some ⟨b, o, none⟩) (l.length + 1) cap) ∧ w'.cell? ⟨b, o, none⟩ = some (.int .u16 h0)) (first | (refine ⟨by simp [go_sem], cell_past (w := w) ?_ hc⟩; repeat (first | exact bz w | apply ba | apply Below.drew | (refine bs ?_ (by simp) _))) | go_keep) (fail)
  by_cases hl : l = []
  · subst hl
    go_wp2
    refine bodyPost_ret (by simp [results, Tryd.results32, go_sem] <;> rfl) rfl ⟨_, rfl, ?_, ?_⟩
    · refine far_tail (l := []) Hs.out ?_ _ (fun hp => by simp at hp) HS.out (fun h => .inl h)
      repeat (first | exact bz w | apply ba | apply Below.drew)
    · repeat (first | exact bz w | apply ba | apply Below.drew)
  · go_wp2
    refine bodyPost_ret (by simp [results, Tryd.results32, go_sem] <;> rfl) rfl ⟨_, rfl, ?_, ?_⟩
    · refine far_tail Hs.out ?_ _ (fun _ => ?_) HS.out (fun h => .inl h)
      · repeat (first | exact bz w | apply ba | apply Below.drew)
      · first | rfl | simp [hl]
    · repeat (first | exact bz w | apply ba | apply Below.drew)
end Go.Proofs.YtfaoakahmllpjaaDoor
