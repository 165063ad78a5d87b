/- Keys are apart: the plain law. -/
import Derived.Test.YtoidbmgoofbcfaaRunp
namespace Go.Proofs.Ytoidbmgoofbcfaa
open Go.RowKit Go.Um
set_option linter.unusedSimpArgs false
set_option linter.unusedVariables false

/-- noughts where no key is, of the first n keys -/
def whN (s : KV) : Nat → KV
  | 0 => s
  | k + 1 => if s.has k then whN s k else (whN s k).put k 0
theorem whN_h (s : KV) : ∀ k, (whN s k).h = s.h
  | 0 => rfl
  | k + 1 => by
    unfold whN
    split
    · exact whN_h s k
    · rw [KV.put_h]; exact whN_h s k
theorem whN_get (s : KV) (j : Nat) : ∀ k, k ≤ 8 → (whN s k).get j = if j < k ∧ s.has j = false then 0 else s.get j
  | 0, _ => by simp [whN]
  | k + 1, hk => by
    have ih := whN_get s j k (by omega)
    unfold whN
    by_cases h : s.has k = true
    · rw [if_pos h, ih]
      by_cases e : j = k
      · subst e; simp [h]
      · have : (j < k + 1) = (j < k) := by apply propext; omega
        simp only [this]
    · rw [if_neg h, KV.get_put _ _ _ _ (by omega)]
      by_cases e : j = k
      · subst e; simp [h]
      · have : (j < k + 1) = (j < k) := by apply propext; omega
        simp only [this, if_neg e, ih]
def KV.whole (s : KV) : KV := whN s 8
theorem has_congr {s t : KV} (h : s.h = t.h) (k : Nat) : s.has k = t.has k := by simp [KV.has, h]
theorem whole_has (s : KV) (k : Nat) : s.whole.has k = s.has k := has_congr (whN_h s 8) k
theorem whole_get (s : KV) (j : Nat) (hj : j < 8) : s.whole.get j = if s.has j = false then 0 else s.get j := by
  unfold KV.whole
  rw [whN_get s j 8 (by omega)]
  simp [hj]
theorem whole_fine (s : KV) : s.whole.fine := fun k hk h => by
  rw [whole_has] at h
  rw [whole_get s k hk, if_pos h]
theorem whN_ok {s : KV} (h : s.ok) (k : Nat) (hk : k ≤ 8) : (whN s k).ok := by
  refine ⟨by rw [whN_h]; exact h.h, fun j => ?_⟩
  rw [whN_get s j k hk]
  split
  · omega
  · exact h.v j
theorem whole_ok {s : KV} (h : s.ok) : s.whole.ok := whN_ok h 8 (by omega)
theorem whole_of_fine {s : KV} (h : s.fine) : s.whole = s := by
  apply KV.ext8 (s := s.whole) (whN_h s 8)
  intro k hk
  rw [whole_get s k hk]
  split
  · next h1 => exact (h k hk h1).symm
  · rfl

/-- the state that has one key alone -/
def KV.only (s : KV) (k : Nat) : KV := if s.has k then KV.zero.lay k (s.get k) else KV.zero
theorem zero_has (k : Nat) : KV.zero.has k = false := by
  unfold KV.has KV.zero bit
  simp
theorem zero_get (k : Nat) : KV.zero.get k = 0 := by
  rcases k with _ | _ | _ | _ | _ | _ | _ | _ | k <;> rfl
theorem zero_kok : KV.zero.ok := ⟨by decide, fun k => by rw [zero_get]; omega⟩
theorem has_lt {s : KV} {k : Nat} (h : s.has k = true) : k < 8 := by
  unfold KV.has at h
  simp at h
  exact h.1
theorem only_has (s : KV) (k j : Nat) : (s.only k).has j = (decide (j = k) && s.has k) := by
  unfold KV.only
  by_cases h : s.has k = true
  · rw [if_pos h, KV.has_lay zero_kok k j (has_lt h), zero_has, h]; simp
  · rw [if_neg h, zero_has]; simp [h]
theorem only_get (s : KV) (k j : Nat) : (s.only k).get j = if j = k ∧ s.has k = true then s.get k else 0 := by
  unfold KV.only
  by_cases h : s.has k = true
  · rw [if_pos h, KV.get_lay _ _ _ _ (has_lt h), zero_get]; simp [h]
  · rw [if_neg h, zero_get]; simp [h]
theorem only_ok {s : KV} (h : s.ok) (k : Nat) : (s.only k).ok := by
  unfold KV.only
  split
  · next h1 => exact zero_kok.lay k (has_lt h1) _ (h.v k)
  · exact zero_kok
theorem KV.ext_ok {s t : KV} (hs : s.ok) (ht : t.ok) (h : ∀ k, k < 8 → s.has k = t.has k) (hv : ∀ k, k < 8 → s.get k = t.get k) : s = t := by
  refine KV.ext8 (bits_ext hs.h ht.h fun k hk => ?_) hv
  have := h k hk
  simpa [KV.has, hk] using this

/-- two states that are one at a key -/
def agree (s t : KV) (k : Nat) : Prop := s.has k = t.has k ∧ s.get k = t.get k
theorem only_agree {s : KV} (h : s.fine) (k : Nat) (hk : k < 8) : agree s (s.only k) k := by
  refine ⟨by rw [only_has]; simp, ?_⟩
  rw [only_get]
  by_cases h1 : s.has k = true
  · simp [h1]
  · simp [h1, h k hk (by simpa using h1)]
theorem only_of_agree {s t : KV} {k : Nat} (h : agree s t k) : s.only k = t.only k := by
  unfold KV.only
  rw [h.1, h.2]
theorem agree_same {s t : KV} {k : Nat} {x : Op5} (hs : s.ok) (ht : t.ok) (hx : x.k = k) (hk : k < 8) (h : agree s t k) : (stp s x).2 = (stp t x).2 ∧ agree (stp s x).1 (stp t x).1 k := by
  have h8 : ¬ 8 ≤ x.k := by omega
  have e : x.k.toNat = k := by omega
  obtain ⟨h1, h2⟩ := h
  unfold stp
  rw [if_neg h8, if_neg h8, e]
  by_cases h6 : x.f = 6
  · rw [if_pos h6, if_pos h6, h1, h2]
    exact ⟨rfl, h1, h2⟩
  · rw [if_neg h6, if_neg h6]
    by_cases h7 : x.f = 7
    · rw [if_pos h7, if_pos h7]
      exact ⟨rfl, by rw [KV.has_lay hs k k hk, KV.has_lay ht k k hk]; simp, by rw [KV.get_lay _ _ _ _ hk, KV.get_lay _ _ _ _ hk]; simp⟩
    · rw [if_neg h7, if_neg h7]
      by_cases h8' : x.f = 8
      · rw [if_pos h8', if_pos h8', h1]
        exact ⟨rfl, by rw [KV.has_del hs k k hk, KV.has_del ht k k hk]; simp, by rw [KV.get_del _ _ _ hk, KV.get_del _ _ _ hk]; simp⟩
      · rw [if_neg h8', if_neg h8']
        by_cases h9 : x.f = 9
        · rw [if_pos h9, if_pos h9, h1, h2]
          split
          · exact ⟨rfl, by rw [KV.has_lay hs k k hk, KV.has_lay ht k k hk]; simp, by rw [KV.get_lay _ _ _ _ hk, KV.get_lay _ _ _ _ hk]; simp⟩
          · exact ⟨rfl, h1, h2⟩
        · rw [if_neg h9, if_neg h9]
          exact ⟨rfl, h1, h2⟩
/-- a key that an operation is not at stays -/
theorem stp_other {s : KV} {k : Nat} {x : Op5} (hs : s.ok) (hx : x.ok) (hk : k < 8) (h : x.k ≠ k) : (stp s x).1.has k = s.has k ∧ (stp s x).1.get k = s.get k := by
  have hx0 := hx.k
  unfold in8 at hx0
  unfold stp
  by_cases h8 : 8 ≤ x.k
  · rw [if_pos h8]; exact ⟨rfl, rfl⟩
  · rw [if_neg h8]
    have hK : x.k.toNat < 8 := by omega
    have hne : k ≠ x.k.toNat := by omega
    have L : ∀ y, (s.lay x.k.toNat y).has k = s.has k ∧ (s.lay x.k.toNat y).get k = s.get k := fun y => by
      rw [KV.has_lay hs _ _ hK, KV.get_lay _ _ _ _ hK]; simp [hne]
    split
    · exact ⟨rfl, rfl⟩
    · split
      · exact L _
      · split
        · rw [KV.has_del hs _ _ hK, KV.get_del _ _ _ hK]; simp [hne]
        · split
          · split
            · exact L _
            · exact ⟨rfl, rfl⟩
          · exact ⟨rfl, rfl⟩

/-- the state, and the answers, behind all of some operations -/
def fin (s : KV) : List Op5 → KV
  | [] => s
  | x :: l => fin (stp s x).1 l
def ans (s : KV) : List Op5 → List (Int × Int)
  | [] => []
  | x :: l => (stp s x).2.1 :: ans (stp s x).1 l
/-- the answers at one key -/
def pick (s : KV) (k : Nat) : List Op5 → List (Int × Int)
  | [] => []
  | x :: l => (if x.k = (k : Int) then [(stp s x).2.1] else []) ++ pick (stp s x).1 k l
theorem fin_push (s : KV) (l : List Op5) (x : Op5) : fin s (l ++ [x]) = (stp (fin s l) x).1 := by
  induction l generalizing s with
  | nil => rfl
  | cons y l ih => exact ih _
theorem ans_push (s : KV) (l : List Op5) (x : Op5) : ans s (l ++ [x]) = ans s l ++ [(stp (fin s l) x).2.1] := by
  induction l generalizing s with
  | nil => rfl
  | cons y l ih => show _ :: ans _ (l ++ [x]) = _ :: (ans _ l ++ _); rw [ih]; rfl
theorem pick_push (s : KV) (k : Nat) (l : List Op5) (x : Op5) : pick s k (l ++ [x]) = pick s k l ++ (if x.k = (k : Int) then [(stp (fin s l) x).2.1] else []) := by
  induction l generalizing s with
  | nil => simp [pick, fin]
  | cons y l ih => show _ ++ pick _ k (l ++ [x]) = (_ ++ pick _ k l) ++ _; rw [List.append_assoc, ih]; rfl
theorem take_push {l : List Op5} {k : Nat} {x : Op5} (h : l[k]? = some x) : l.take (k + 1) = l.take k ++ [x] := by
  rw [List.take_add_one, h]; rfl
theorem stN_fin (s : KV) (l : List Op5) : ∀ k, k ≤ l.length → stN s l k = fin s (l.take k)
  | 0, _ => by simp [stN, fin]
  | k + 1, h => by
    have hx := List.getElem?_eq_getElem (l := l) (i := k) (by omega)
    rw [stN_succ hx, take_push hx, fin_push, stN_fin s l k (by omega)]
theorem outN_ans (s : KV) (l : List Op5) : ∀ k, k ≤ l.length → outN s l k = ans s (l.take k)
  | 0, _ => by simp [outN, ans]
  | k + 1, h => by
    have hx := List.getElem?_eq_getElem (l := l) (i := k) (by omega)
    rw [outN_succ hx, take_push hx, ans_push, outN_ans s l k (by omega), stN_fin s l k (by omega)]
def atKey (k : Nat) (l : List Op5) : List Op5 := l.filter fun x => x.k == (k : Int)
theorem fin_ok {s : KV} (hs : s.ok) {l : List Op5} (hl : ∀ x ∈ l, x.ok) : (fin s l).ok := by
  induction l generalizing s with
  | nil => exact hs
  | cons y l ih => exact ih (stp_ok hs (hl y (by simp))) fun x hx => hl x (by simp [hx])
/-- THE LAW: what operations at one key answer, and leave there, is what they do alone, on any state that is one there -/
theorem apart {k : Nat} (hk : k < 8) {l : List Op5} (hl : ∀ x ∈ l, x.ok) {s t : KV} (hs : s.ok) (ht : t.ok) (h : agree s t k) :
    pick s k l = ans t (atKey k l) ∧ agree (fin s l) (fin t (atKey k l)) k := by
  induction l generalizing s t with
  | nil => exact ⟨rfl, h⟩
  | cons x l ih =>
    have hx := hl x (by simp)
    have hl' : ∀ y ∈ l, y.ok := fun y hy => hl y (by simp [hy])
    by_cases e : x.k = (k : Int)
    · have h1 := agree_same hs ht e hk h
      have h2 := ih hl' (stp_ok hs hx) (stp_ok ht hx) h1.2
      have e2 : atKey k (x :: l) = x :: atKey k l := by simp [atKey, e]
      rw [e2]
      refine ⟨?_, h2.2⟩
      show (if x.k = (k : Int) then [(stp s x).2.1] else []) ++ pick (stp s x).1 k l = (stp t x).2.1 :: ans (stp t x).1 (atKey k l)
      rw [if_pos e, h1.1, h2.1]; rfl
    · have h1 := stp_other hs hx hk e
      have h2 := ih hl' (stp_ok hs hx) ht ⟨h1.1.trans h.1, h1.2.trans h.2⟩
      have e2 : atKey k (x :: l) = atKey k l := by simp [atKey, e]
      rw [e2]
      refine ⟨?_, h2.2⟩
      show (if x.k = (k : Int) then [(stp s x).2.1] else []) ++ pick (stp s x).1 k l = _
      rw [if_neg e, h2.1]; rfl
/-- a state that has one key alone goes on so -/
theorem solo_fin {k : Nat} (hk : k < 8) {l : List Op5} (hl : ∀ x ∈ l, x.ok) (hk' : ∀ x ∈ l, x.k = (k : Int)) {t : KV} (ht : t.ok) (hz : t.fine) (h : ∀ j, j < 8 → j ≠ k → t.has j = false) :
    (fin t l).fine ∧ ∀ j, j < 8 → j ≠ k → (fin t l).has j = false := by
  induction l generalizing t with
  | nil => exact ⟨hz, h⟩
  | cons x l ih =>
    have hx := hl x (by simp)
    have e := hk' x (by simp)
    have oth := fun j (hj : j < 8) (hne : j ≠ k) => stp_other ht hx hj (by omega)
    refine ih (fun y hy => hl y (by simp [hy])) (fun y hy => hk' y (by simp [hy])) (stp_ok ht hx) (fun j hj hn => ?_) (fun j hj hne => by rw [(oth j hj hne).1]; exact h j hj hne)
    by_cases hne : j = k
    · subst hne
      have h8 : ¬ 8 ≤ x.k := by omega
      have e' : x.k.toNat = j := by omega
      unfold stp at hn ⊢
      rw [if_neg h8, e'] at hn ⊢
      by_cases h6 : x.f = 6
      · rw [if_pos h6] at hn ⊢; exact hz j hj hn
      · rw [if_neg h6] at hn ⊢
        by_cases h7 : x.f = 7
        · rw [if_pos h7] at hn
          rw [KV.has_lay ht _ _ hj] at hn; simp at hn
        · rw [if_neg h7] at hn ⊢
          by_cases h8' : x.f = 8
          · rw [if_pos h8', KV.get_del _ _ _ hj, if_pos rfl]
          · rw [if_neg h8'] at hn ⊢
            by_cases h9 : x.f = 9
            · rw [if_pos h9] at hn ⊢
              split
              · next hc => rw [if_pos hc, KV.has_lay ht _ _ hj] at hn; simp at hn
              · next hc => rw [if_neg hc] at hn; exact hz j hj hn
            · rw [if_neg h9] at hn ⊢; exact hz j hj hn
    · rw [(oth j hj hne).1] at hn
      rw [(oth j hj hne).2]
      exact hz j hj hn
theorem only_self {t : KV} {k : Nat} (ht : t.ok) (hz : t.fine) (h : ∀ j, j < 8 → j ≠ k → t.has j = false) : t.only k = t := by
  refine KV.ext_ok (only_ok ht k) ht (fun j hj => ?_) (fun j hj => ?_)
  · rw [only_has]
    by_cases e : j = k
    · subst e; simp
    · simp [e, h j hj e]
  · rw [only_get]
    by_cases e : j = k
    · subst e
      by_cases h1 : t.has j = true
      · simp [h1]
      · simp [h1, hz j hj (by simpa using h1)]
    · simp [e, hz j hj (h j hj e)]
theorem only_fine (s : KV) (k : Nat) : (s.only k).fine := fun j hj h => by
  rw [only_has] at h
  rw [only_get]
  by_cases e : j = k
  · subst e
    have : s.has j = false := by simpa using h
    simp [this]
  · simp [e]
/-- what the statement asks -/
theorem apart_end {k : Nat} (hk : k < 8) {l : List Op5} (hl : ∀ x ∈ l, x.ok) {s : KV} (hs : s.ok) (hf : s.fine) :
    ans (s.only k) (atKey k l) = pick s k l ∧ ans s (atKey k l) = pick s k l ∧ fin (s.only k) (atKey k l) = (fin s l).only k ∧ (fin s (atKey k l)).only k = fin (s.only k) (atKey k l) := by
  have a1 := apart hk hl hs (only_ok hs k) (only_agree hf k hk)
  have a2 := apart hk hl hs hs ⟨rfl, rfl⟩
  have hl' : ∀ x ∈ atKey k l, x.ok := fun x hx => hl x (List.mem_filter.1 hx).1
  have hk' : ∀ x ∈ atKey k l, x.k = (k : Int) := fun x hx => by simpa using (List.mem_filter.1 hx).2
  have b1 := solo_fin hk hl' hk' (only_ok hs k) (only_fine s k) (fun j hj hne => by rw [only_has]; simp [hne])
  have b2 := only_self (fin_ok (only_ok hs k) hl') b1.1 b1.2
  have c1 : (fin s l).only k = fin (s.only k) (atKey k l) := by rw [only_of_agree a1.2]; exact b2
  refine ⟨a1.1.symm, a2.1.symm, c1.symm, ?_⟩
  rw [← c1]
  exact (only_of_agree a2.2).symm
theorem stop_all {l : List Op5} (h : ∀ x ∈ l, known x = true) : stopAt l = l.length := by
  unfold stopAt
  induction l with
  | nil => rfl
  | cons y l ih => rw [List.takeWhile_cons_of_pos (h y (by simp))]; simp only [List.length_cons]; rw [ih fun x hx => h x (by simp [hx])]
theorem known_take {l : List Op5} : ∀ x ∈ l.take (stopAt l), known x = true := by
  intro x hx
  have e : l.take (stopAt l) = l.takeWhile known := by
    unfold stopAt
    exact (List.prefix_iff_eq_take.1 (List.takeWhile_prefix known)).symm
  rw [e] at hx
  exact List.all_eq_true.1 (List.all_takeWhile) x hx
theorem run_all {s : KV} {l : List Op5} (h : ∀ x ∈ l, known x = true) : stN s l (stopAt l) = fin s l ∧ outN s l (stopAt l) = ans s l ∧ errAt l = 0 := by
  have e := stop_all h
  unfold errAt
  rw [e, stN_fin s l _ (Nat.le_refl _), outN_ans s l _ (Nat.le_refl _), List.take_length]
  exact ⟨rfl, rfl, if_pos rfl⟩
end Go.Proofs.Ytoidbmgoofbcfaa
