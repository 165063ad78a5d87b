/- The document's cutter, and how it goes beside the program's. -/
import Derived.Test.YtkjcpdogibbahaaFirst
namespace Go.Proofs.Ytkjcpdogibbahaa
open Go.RowKit Go.Um
set_option maxHeartbeats 1000000

/-! ### what is seen stays when more is fed -/
theorem getD_app (l s : List UInt8) (i : Nat) (h : i < l.length) : (l ++ s).getD i 0 = l.getD i 0 := by
  rw [List.getD_eq_getElem?_getD, List.getD_eq_getElem?_getD, List.getElem?_append_left h]
theorem num_app (l s : List UInt8) (h : 2 ≤ l.length) : num (l ++ s) = num l := by
  unfold num; rw [getD_app l s 0 (by omega), getD_app l s 1 (by omega)]
theorem headOk_app (l s : List UInt8) (h : 4 ≤ l.length) : headOk (l ++ s) = headOk l := by
  unfold headOk
  rw [num_app l s (by omega), List.drop_append_of_le_length (by omega), num_app _ s (by rw [List.length_drop]; omega)]
theorem headN_app (l s : List UInt8) (h : 4 ≤ l.length) : headN (l ++ s) = headN l := by unfold headN; rw [num_app l s (by omega)]
theorem sumOk_app (l s : List UInt8) (h : headN l + 6 ≤ l.length) : sumOk (l ++ s) = sumOk l := by
  unfold sumOk
  rw [headN_app l s (by omega), List.drop_append_of_le_length (by omega), num_app _ s (by rw [List.length_drop]; omega), List.drop_append_of_le_length (by omega), List.take_append_of_le_length (by rw [List.length_drop]; omega)]
theorem look_one {l : List UInt8} (h : (lookF l).1 = 1) : 4 ≤ l.length ∧ headOk l = true ∧ headN l + 6 ≤ l.length ∧ sumOk l = true ∧ lookF l = (1, num l + 6) := by
  unfold lookF at h ⊢
  split at h
  · cases h
  · split at h
    · cases h
    · split at h
      · cases h
      · split at h
        · rename_i h1 h2 h3 h4
          refine ⟨by omega, ?_, by omega, h4, by rw [if_neg h1, if_neg h2, if_neg h3, if_pos h4]⟩
          cases hk : headOk l with
          | true => rfl
          | false => exact absurd hk h2
        · cases h
theorem look_size {l : List UInt8} (h : (lookF l).1 = 1) : (lookF l).2 = ((headN l + 6 : Nat) : Int) ∧ headN l + 6 ≤ l.length ∧ 0 < headN l := by
  obtain ⟨h1, h2, h3, h4, h5⟩ := look_one h
  have hb := num_bd l
  unfold headOk at h2
  simp at h2
  refine ⟨by rw [h5]; unfold headN; dsimp only; omega, h3, by unfold headN; omega⟩
theorem look_app_one {l : List UInt8} (s : List UInt8) (h : (lookF l).1 = 1) : lookF (l ++ s) = lookF l := by
  obtain ⟨h1, h2, h3, h4, h5⟩ := look_one h
  rw [h5]
  unfold lookF
  rw [headOk_app l s h1, headN_app l s h1, sumOk_app l s h3, if_neg (by rw [List.length_append]; omega), h2, if_neg (by decide), if_neg (by rw [List.length_append]; omega), if_pos h4, num_app l s (by omega)]
theorem look_app_two {l : List UInt8} (s : List UInt8) (h : (lookF l).1 = 2) : (lookF (l ++ s)).1 = 2 := by
  unfold lookF at h
  split at h
  · cases h
  · rename_i h1
    split at h
    · rename_i h2
      unfold lookF
      rw [headOk_app l s (by omega), if_neg (by rw [List.length_append]; omega), if_pos h2]
    · rename_i h2
      split at h
      · cases h
      · rename_i h3
        split at h
        · cases h
        · rename_i h4
          unfold lookF
          rw [headOk_app l s (by omega), headN_app l s (by omega), sumOk_app l s (by omega), if_neg (by rw [List.length_append]; omega), if_neg h2, if_neg (by rw [List.length_append]; omega), if_neg h4]

/-- where the k-th frame of bytes begins -/
def posN (l : List UInt8) : Nat → Nat
  | 0 => 0
  | k + 1 => posN l k + (lookF (l.drop (posN l k))).2.toNat
/-- the first k things are frames -/
def FramesAt (l : List UInt8) (k : Nat) : Prop := ∀ i, i < k → (lookF (l.drop (posN l i))).1 = 1
theorem FramesAt.le {l : List UInt8} {k : Nat} (h : FramesAt l k) : ∀ i, i ≤ k → posN l i ≤ l.length := by
  intro i
  induction i with
  | zero => intro _; exact Nat.zero_le _
  | succ i ih =>
    intro hi
    have h1 := look_size (h i (by omega))
    have h2 := ih (by omega)
    have h3 : (l.drop (posN l i)).length = l.length - posN l i := List.length_drop
    unfold posN
    rw [h1.1]
    omega
theorem FramesAt.app {l : List UInt8} {k : Nat} (h : FramesAt l k) (s : List UInt8) : ∀ i, i ≤ k → posN (l ++ s) i = posN l i := by
  intro i
  induction i with
  | zero => intro _; rfl
  | succ i ih =>
    intro hi
    have h2 := ih (by omega)
    unfold posN
    rw [h2, List.drop_append_of_le_length (h.le i (by omega)), look_app_one s (h i (by omega))]
theorem FramesAt.feed {l : List UInt8} {k : Nat} (h : FramesAt l k) (s : List UInt8) : FramesAt (l ++ s) k := by
  intro i hi
  rw [h.app s i (by omega), List.drop_append_of_le_length (h.le i (by omega)), look_app_one s (h i hi)]
  exact h i hi

/-- a cutter beside all that was fed -/
structure Goes (c : Cut) (l : List UInt8) (k : Nat) : Prop where
  fr : FramesAt l k
  rest : c.rest = l.drop (posN l k)
  pos : c.pos = (posN l k : Nat)
  bad : c.bad = true → (lookF c.rest).1 = 2
theorem Goes.start : Goes ⟨[], 0, false⟩ [] 0 := ⟨fun i hi => absurd hi (Nat.not_lt_zero _), rfl, rfl, fun h => by cases h⟩
theorem Goes.feed {c : Cut} {l : List UInt8} {k : Nat} (h : Goes c l k) (s : List UInt8) : Goes (c.feed s) (l ++ s) k := by
  refine ⟨h.fr.feed s, ?_, ?_, fun hb => look_app_two s (h.bad hb)⟩
  · rw [h.fr.app s k (Nat.le_refl _), List.drop_append_of_le_length (h.fr.le k (Nat.le_refl _)), ← h.rest]; rfl
  · rw [h.fr.app s k (Nat.le_refl _)]; exact h.pos
theorem Goes.tell {c : Cut} {l : List UInt8} {k : Nat} (h : Goes c l k) : c.tell = (payF c.rest, c.pos, (lookF c.rest).1) := by
  unfold Cut.tell payF
  by_cases h1 : (lookF c.rest).1 = 1
  · have hb : c.bad = false := by
      cases hb : c.bad with
      | false => rfl
      | true => have := h.bad hb; omega
    rw [if_pos ⟨hb, h1⟩, if_pos h1, h1]
  · rw [if_neg (fun hc => h1 hc.2), if_neg h1]
    unfold stopSt
    cases hb : c.bad with
    | false =>
      by_cases h2 : (lookF c.rest).1 = 2
      · simp [h2]
      · simp [h2]
    | true => simp [h.bad hb]
/-- how many frames are cut behind a Next -/
def more (c : Cut) (k : Nat) : Nat := if (lookF c.rest).1 = 1 then k + 1 else k
theorem Goes.next {c : Cut} {l : List UInt8} {k : Nat} (h : Goes c l k) : Goes c.next l (more c k) := by
  unfold Cut.next more
  by_cases h1 : (lookF c.rest).1 = 1
  · have hb : c.bad = false := by
      cases hb : c.bad with
      | false => rfl
      | true => have := h.bad hb; omega
    have hs := look_size h1
    have hp : posN l (k + 1) = posN l k + (headN c.rest + 6) := by
      show posN l k + (lookF (l.drop (posN l k))).2.toNat = _
      rw [← h.rest, hs.1]; rfl
    rw [if_pos ⟨hb, h1⟩, if_pos h1]
    refine ⟨?_, ?_, ?_, fun hb => by cases hb⟩
    · intro i hi
      rcases Nat.lt_succ_iff_lt_or_eq.1 hi with hi | rfl
      · exact h.fr i hi
      · rw [← h.rest]; exact h1
    · show c.rest.drop _ = _
      rw [hp, h.rest, List.drop_drop]
    · show c.pos + _ + 6 = _
      rw [hp, h.pos]; simp; omega
  · rw [if_neg (fun hc => h1 hc.2), if_neg h1]
    refine ⟨h.fr, h.rest, h.pos, fun hb => ?_⟩
    simp only [Bool.or_eq_true, beq_iff_eq] at hb
    rcases hb with hb | hb
    · exact h.bad hb
    · exact hb
theorem Goes.fed {c : Cut} {l : List UInt8} {k : Nat} (h : Goes c l k) : c.pos + (c.rest.length : Nat) = (l.length : Int) := by
  rw [h.pos, h.rest, List.length_drop]
  have := h.fr.le k (Nat.le_refl _)
  omega
theorem Goes.posle {c : Cut} {l : List UInt8} {k : Nat} (h : Goes c l k) : 0 ≤ c.pos ∧ c.pos ≤ l.length ∧ c.rest.length ≤ l.length := by
  rw [h.pos, h.rest, List.length_drop]
  have := h.fr.le k (Nat.le_refl _)
  omega

/-! ### the document's cutter -/
structure RefAt (w : World) (p : Nat) (s : ByteArray) (k : Int) : Prop where
  c0 : w.cell? ⟨p, 0, none⟩ = some (.string s)
  c1 : w.cell? ⟨p, 1, none⟩ = some (.int .i64 k)
  f0 : w.frozen? ⟨p, 0, none⟩ = false
  f1 : w.frozen? ⟨p, 1, none⟩ = false
theorem RefAt.below {w w' : World} {p : Nat} {s : ByteArray} {k : Int} (h : RefAt w p s k) (hb : Below w.heap.size w w') : RefAt w' p s k := by
  have hp := World.block_lt_of_cell? w _ h.c0
  exact ⟨kc hb _ _ _ h.c0, kc hb _ _ _ h.c1, kf hb _ _ hp h.f0, kf hb _ _ hp h.f1⟩
theorem RefAt.kept {S : Nat → Prop} {w w' : World} {p : Nat} {s : ByteArray} {k : Int} (h : RefAt w p s k) (hb : Kept S w w') (hp : ¬ S p) : RefAt w' p s k := by
  have hl := World.block_lt_of_cell? w _ h.c0
  exact ⟨hb.cell h.c0 hp, hb.cell h.c1 hp, (hb.frozen hl hp).trans h.f0, (hb.frozen hl hp).trans h.f1⟩
theorem RefAt.lt {w : World} {p : Nat} {s : ByteArray} {k : Int} (h : RefAt w p s k) : p < w.heap.size := World.block_lt_of_cell? w _ h.c0
end Go.Proofs.Ytkjcpdogibbahaa
