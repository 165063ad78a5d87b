/- The frames of payloads, cut again: the plain law. -/
import Derived.Test.YtkjcpdogibbahaaSpoilt
namespace Go.Proofs.Ytkjcpdogibbahaa
open Go.RowKit Go.Um

def good (l : List UInt8) : Prop := 0 < l.length ∧ l.length ≤ 600
theorem putF_len (l : List UInt8) : (putF l).length = l.length + 6 := by simp [putF, two]
theorem head_frame (l : List UInt8) (h : good l) : headOk (putF l) = true ∧ headN (putF l) = l.length ∧ sumOk (putF l) = true := by
  obtain ⟨hl, ha, hb, hc, hd⟩ := put_facts l h.2
  have h1 := h.1
  have h2 := h.2
  have hN : headN (putF l) = l.length := by unfold headN; omega
  refine ⟨?_, hN, ?_⟩
  · unfold headOk; rw [ha, hb]; simp; omega
  · unfold sumOk; rw [hN, hc, hd]; simp
theorem look_frame (l : List UInt8) (h : good l) : lookF (putF l) = (1, (l.length : Int) + 6) := by
  obtain ⟨h1, h2, h3⟩ := head_frame l h
  have hl := putF_len l
  have ha := (put_facts l h.2).a
  unfold lookF
  rw [if_neg (by omega), h1, if_neg (by decide), h2, if_neg (by omega), if_pos h3, ha]
theorem look_frames (l r : List UInt8) (h : good l) : lookF (putF l ++ r) = (1, (l.length : Int) + 6) ∧ headN (putF l ++ r) = l.length ∧ ((putF l ++ r).drop 4).take l.length = l := by
  have hl := putF_len l
  refine ⟨by rw [look_app_one r (by rw [look_frame l h]), look_frame l h], by rw [headN_app _ _ (by omega)]; exact (head_frame l h).2.1, ?_⟩
  rw [List.drop_append_of_le_length (by omega), List.take_append_of_le_length (by rw [List.length_drop]; omega)]
  exact (put_facts l h.2).c
theorem look_part (l a b : List UInt8) (h : good l) (e : a ++ b = putF l) (hk : a.length < l.length + 6) : (lookF a).1 = 0 := by
  obtain ⟨h1, h2, h3⟩ := head_frame l h
  by_cases h4 : a.length < 4
  · unfold lookF; rw [if_pos h4]
  · rw [← e, headOk_app a b (by omega)] at h1
    rw [← e, headN_app a b (by omega)] at h2
    unfold lookF
    rw [if_neg h4, h1, if_neg (by decide), h2, if_pos hk]

def allF (ps : List (List UInt8)) : List UInt8 := ps.flatMap putF
theorem allF_cons (p : List UInt8) (ps : List (List UInt8)) : allF (p :: ps) = putF p ++ allF ps := rfl
theorem allF_snoc (ps : List (List UInt8)) (k : Nat) (p : List UInt8) (h : ps[k]? = some p) : allF (ps.take (k + 1)) = allF (ps.take k) ++ putF p := by
  rw [List.take_add_one, h]; simp [allF]
theorem allF_bd (ps : List (List UInt8)) (hg : ∀ p ∈ ps, good p) : (allF ps).length ≤ 606 * ps.length := by
  induction ps with
  | nil => simp [allF]
  | cons p ps ih =>
    rw [allF_cons, List.length_append, putF_len, List.length_cons]
    have h1 := ih (fun q hq => hg q (List.mem_cons_of_mem _ hq))
    have h2 := (hg p List.mem_cons_self).2
    omega
/-- a cutter in the midst of the frames of ps: k are cut, r is still to come -/
structure Cutting (ps : List (List UInt8)) (c : Cut) (k : Nat) (r : List UInt8) : Prop where
  le : k ≤ ps.length
  bad : c.bad = false
  rest : c.rest ++ r = allF (ps.drop k)
  pos : c.pos = ((allF (ps.take k)).length : Nat)
theorem Cutting.start (ps : List (List UInt8)) : Cutting ps ⟨[], 0, false⟩ 0 (allF ps) := ⟨Nat.zero_le _, rfl, rfl, rfl⟩
theorem Cutting.feed {ps : List (List UInt8)} {c : Cut} {k : Nat} {x y : List UInt8} (h : Cutting ps c k (x ++ y)) : Cutting ps (c.feed x) k y :=
  ⟨h.le, h.bad, by rw [← h.rest]; simp [Cut.feed], h.pos⟩
theorem Cutting.bd {ps : List (List UInt8)} {c : Cut} {k : Nat} {r : List UInt8} (h : Cutting ps c k r) (hg : ∀ p ∈ ps, good p) (hn : ps.length ≤ 20) : c.rest.length ≤ 12120 ∧ 0 ≤ c.pos ∧ c.pos ≤ 12120 ∧ r.length ≤ 12120 := by
  have h1 := congrArg List.length h.rest
  rw [List.length_append] at h1
  have h2 := allF_bd (ps.drop k) (fun p hp => hg p (List.mem_of_mem_drop hp))
  have h3 := allF_bd (ps.take k) (fun p hp => hg p (List.mem_of_mem_take hp))
  rw [List.length_drop] at h2
  rw [List.length_take] at h3
  rw [h.pos]
  omega
theorem Cutting.next {ps : List (List UInt8)} {c : Cut} {k : Nat} {r p : List UInt8} (h : Cutting ps c k r) (hg : ∀ p ∈ ps, good p) (hp : ps[k]? = some p) :
    (c.tell = ([], c.pos, 0) ∧ Cutting ps c.next k r ∧ r ≠ []) ∨ (c.tell = (p, c.pos, 1) ∧ Cutting ps c.next (k + 1) r) := by
  have hkl : k < ps.length := (List.getElem?_eq_some_iff.1 hp).1
  have hpk : ps.drop k = p :: ps.drop (k + 1) := by
    rw [List.drop_eq_getElem_cons hkl, (List.getElem?_eq_some_iff.1 hp).2]
  have hgp := hg p (List.mem_of_getElem? hp)
  have hr := h.rest
  rw [hpk, allF_cons] at hr
  have hl := putF_len p
  by_cases hlen : c.rest.length < p.length + 6
  · left
    obtain ⟨d, hd1, hd2⟩ : ∃ d, c.rest ++ d = putF p ∧ r = d ++ allF (ps.drop (k + 1)) := by
      rcases List.append_eq_append_iff.1 hr with ⟨d, h1, h2⟩ | ⟨d, h1, h2⟩
      · exact ⟨d, h1.symm, h2⟩
      · have := congrArg List.length h1
        rw [List.length_append] at this
        have hd : d = [] := List.eq_nil_of_length_eq_zero (by omega)
        subst hd
        exact ⟨[], by simpa using h1, by simpa using h2.symm⟩
    have hlk := look_part p c.rest d hgp hd1 hlen
    refine ⟨by unfold Cut.tell; rw [if_neg (by omega), h.bad, hlk]; rfl, ?_, ?_⟩
    · have e : c.next = c := by
        unfold Cut.next
        rw [if_neg (by omega), hlk]
        simp
      rw [e]; exact h
    · intro e
      rw [e] at hd2
      have h1 : d = [] := (List.append_eq_nil_iff.1 hd2.symm).1
      rw [h1] at hd1
      have := congrArg List.length hd1
      rw [List.length_append, hl] at this
      simp at this
      omega
  · right
    obtain ⟨d, hd1, hd2⟩ : ∃ d, c.rest = putF p ++ d ∧ d ++ r = allF (ps.drop (k + 1)) := by
      rcases List.append_eq_append_iff.1 hr with ⟨d, h1, h2⟩ | ⟨d, h1, h2⟩
      · have := congrArg List.length h1
        rw [List.length_append] at this
        have hd : d = [] := List.eq_nil_of_length_eq_zero (by omega)
        subst hd
        exact ⟨[], by simpa using h1.symm, by simpa using h2⟩
      · exact ⟨d, h1, h2.symm⟩
    obtain ⟨g1, g2, g3⟩ := look_frames p d hgp
    rw [← hd1] at g1 g2 g3
    have hc : c.bad = false ∧ (lookF c.rest).1 = 1 := ⟨h.bad, by rw [g1]⟩
    refine ⟨by unfold Cut.tell; rw [if_pos hc, g2, g3], ?_⟩
    unfold Cut.next
    rw [if_pos hc, g2]
    refine ⟨by omega, rfl, ?_, ?_⟩
    · show c.rest.drop _ ++ r = _
      rw [hd1, List.drop_append, List.drop_eq_nil_of_le (by omega), show p.length + 6 - (putF p).length = 0 from by omega, List.drop_zero, List.nil_append, hd2]
    · show c.pos + _ + 6 = _
      rw [h.pos, allF_snoc ps k p hp, List.length_append, hl]
      simp; omega
theorem Cutting.done {ps : List (List UInt8)} {c : Cut} {r : List UInt8} (h : Cutting ps c ps.length r) : c.rest = [] ∧ r = [] := by
  have := h.rest
  rw [List.drop_length] at this
  exact List.append_eq_nil_iff.1 this
theorem Cutting.ends {ps : List (List UInt8)} {c : Cut} {r : List UInt8} (h : Cutting ps c ps.length r) : c.tells [] (c.pos + (c.rest.length : Nat)) 0 = true := by
  have h1 := h.done.1
  have h2 : (lookF c.rest).1 = 0 := by rw [h1]; rfl
  unfold Cut.tells Cut.tell
  rw [if_neg (by omega), h.bad, h2, h1]
  simp [stopSt]
theorem Cutting.loop {ps : List (List UInt8)} {c : Cut} {k : Nat} (h : Cutting ps c k []) (hg : ∀ p ∈ ps, good p) (hr : c.rest = []) : k = ps.length := by
  have h1 := h.rest
  rw [hr] at h1
  have h2 := h.le
  by_cases hk : k < ps.length
  · rw [List.drop_eq_getElem_cons hk, allF_cons] at h1
    have := congrArg List.length h1
    rw [List.length_append, List.length_append, putF_len] at this
    simp only [List.length_nil] at this
    omega
  · omega
/-- where the frames begin -/
def atsN (ps : List (List UInt8)) (k : Nat) : List Int := (List.range k).map fun i => ((allF (ps.take i)).length : Int)
theorem atsN_succ (ps : List (List UInt8)) (k : Nat) : atsN ps (k + 1) = atsN ps k ++ [((allF (ps.take k)).length : Int)] := by simp [atsN, List.range_succ]
theorem atsN_get (ps : List (List UInt8)) (n k : Nat) (h : k < n) : (atsN ps n)[k]? = some ((allF (ps.take k)).length : Int) := by simp [atsN, h]
theorem putR_cases (l : List UInt8) : (good l ∧ putR l = (putF l, 0)) ∨ (l.length = 0 ∧ putR l = ([], 2)) ∨ (600 < l.length ∧ putR l = ([], 3)) := by
  unfold putR good
  by_cases h0 : l.length = 0
  · right; left; exact ⟨h0, if_pos h0⟩
  · by_cases h6 : 600 < l.length
    · right; right; exact ⟨h6, by rw [if_neg h0, if_pos h6]⟩
    · left; exact ⟨by omega, by rw [if_neg h0, if_neg h6]⟩
end Go.Proofs.Ytkjcpdogibbahaa
