/- A frame in which one byte was changed is not cut: the plain law. -/
import Derived.Test.YtkjcpdogibbahaaPut
namespace Go.Proofs.Ytkjcpdogibbahaa
open Go.RowKit Go.Um

def sb : List UInt8 → Int
  | [] => 0
  | c :: r => (c.toNat : Int) + sb r
theorem fs_fst_from (l : List UInt8) : ∀ p : Int × Int, p.1 = p.1 % 255 → (l.foldl fsStep p).1 = (p.1 + sb l) % 255 := by
  induction l with
  | nil => intro p h; show p.1 = (p.1 + 0) % 255; omega
  | cons c r ih =>
    intro p h
    rw [List.foldl_cons, ih (fsStep p c) (by show (p.1 + c.toNat) % 255 = (p.1 + c.toNat) % 255 % 255; omega)]
    show ((p.1 + c.toNat) % 255 + sb r) % 255 = (p.1 + (c.toNat + sb r)) % 255
    omega
theorem fs_fst (l : List UInt8) : (fs l).1 = sb l % 255 := by
  have := fs_fst_from l (0, 0) rfl
  unfold fs
  rw [this]; simp
theorem sb_set (l : List UInt8) (x : UInt8) : ∀ j, j < l.length → sb (l.set j x) = sb l - ((l.getD j 0).toNat : Int) + (x.toNat : Int) := by
  induction l with
  | nil => intro j h; simp at h
  | cons c r ih =>
    intro j h
    cases j with
    | zero => show (x.toNat : Int) + sb r = c.toNat + sb r - c.toNat + x.toNat; omega
    | succ j =>
      have := ih j (by simpa using h)
      show (c.toNat : Int) + sb (r.set j x) = c.toNat + sb r - ((r.getD j 0).toNat : Int) + x.toNat
      omega
theorem num_drop (l : List UInt8) (k : Nat) : num (l.drop k) = 256 * ((l.getD k 0).toNat : Int) + ((l.getD (k + 1) 0).toNat : Int) := by
  unfold num
  simp only [List.getD_eq_getElem?_getD, List.getElem?_drop, Nat.add_zero]
theorem getD_set_ne (l : List UInt8) (x : UInt8) (i j : Nat) (h : i ≠ j) : (l.set i x).getD j 0 = l.getD j 0 := by
  simp only [List.getD_eq_getElem?_getD, List.getElem?_set_ne h]
theorem getD_set_eq (l : List UInt8) (x : UInt8) (i : Nat) (h : i < l.length) : (l.set i x).getD i 0 = x := by
  simp [List.getD_eq_getElem?_getD, List.getElem?_set, h]
theorem num_two (m : Int) (r : List UInt8) (hm : 0 ≤ m ∧ m ≤ 65535) : num (two m ++ r) = m :=
  (two_num (two m ++ r) (by simp [two]) m hm).1 (by simp [two])

structure PutFacts (l f : List UInt8) : Prop where
  len : f.length = l.length + 6
  a : num f = l.length
  b : num (f.drop 2) = 65535 - (l.length : Int)
  c : (f.drop 4).take l.length = l
  d : num (f.drop (4 + l.length)) = sumN l
theorem sumN_bd (l : List UInt8) : 0 ≤ sumN l ∧ sumN l ≤ 65535 := by have := fs_bd l; unfold sumN; omega
theorem put_facts (l : List UInt8) (h6 : l.length ≤ 600) : PutFacts l (putF l) := by
  have e : putF l = two l.length ++ (two (65535 - (l.length : Int)) ++ (l ++ two (sumN l))) := by simp [putF]
  have e2 : (putF l).drop 2 = two (65535 - (l.length : Int)) ++ (l ++ two (sumN l)) := by rw [e]; simp [two]
  have e4 : (putF l).drop 4 = l ++ two (sumN l) := by rw [e]; simp [two]
  have en : (putF l).drop (4 + l.length) = two (sumN l) := by rw [← List.drop_drop, e4]; simp
  refine ⟨by rw [e]; simp [two], by rw [e]; exact num_two _ _ (by omega), by rw [e2]; exact num_two _ _ (by omega), by rw [e4]; simp, ?_⟩
  rw [en]
  have := num_two (sumN l) [] (sumN_bd l)
  simpa using this

theorem spoilt (l f : List UInt8) (h6 : l.length ≤ 600) (hf : PutFacts l f) (i : Nat) (hi : i < f.length) (now : UInt8) (hne : now ≠ f.getD i 0)
    (hx : ¬ ((f.getD i 0).toNat + now.toNat = 255 ∧ (f.getD i 0 = 0 ∨ now = 0))) : (lookF (f.set i now)).1 ≠ 1 := by
  intro h
  obtain ⟨h4, hk, hlen, hs, _⟩ := look_one h
  obtain ⟨hl, ha, hb, hc, hd⟩ := hf
  obtain ⟨g, hg⟩ : ∃ g, g = f.set i now := ⟨_, rfl⟩
  rw [← hg] at hk hlen hs h4
  have hgl : g.length = l.length + 6 := by rw [hg, List.length_set, hl]
  have gne : ∀ j, i ≠ j → g.getD j 0 = f.getD j 0 := fun j hj => by rw [hg]; exact getD_set_ne f now i j hj
  have geq : g.getD i 0 = now := by rw [hg]; exact getD_set_eq f now i hi
  have hnt : now.toNat ≠ (f.getD i 0).toNat := fun e => hne (UInt8.toNat_inj.1 e)
  have n0 := now.toNat_lt
  have f0 := (f.getD i 0).toNat_lt
  unfold headOk at hk
  simp only [Bool.and_eq_true, decide_eq_true_eq, beq_iff_eq] at hk
  obtain ⟨⟨k1, k2⟩, k3⟩ := hk
  have nf : num f = 256 * ((f.getD 0 0).toNat : Int) + ((f.getD 1 0).toNat : Int) := rfl
  have ng : num g = 256 * ((g.getD 0 0).toNat : Int) + ((g.getD 1 0).toNat : Int) := rfl
  have nf2 : num (f.drop 2) = 256 * ((f.getD 2 0).toNat : Int) + ((f.getD 3 0).toNat : Int) := num_drop f 2
  have ng2 : num (g.drop 2) = 256 * ((g.getD 2 0).toNat : Int) + ((g.getD 3 0).toNat : Int) := num_drop g 2
  by_cases i4 : i < 4
  · have hcs : i = 0 ∨ i = 1 ∨ i = 2 ∨ i = 3 := by omega
    rcases hcs with rfl | rfl | rfl | rfl
    · rw [geq, gne 1 (by decide)] at ng
      rw [gne 2 (by decide), gne 3 (by decide)] at ng2
      omega
    · rw [geq, gne 0 (by decide)] at ng
      rw [gne 2 (by decide), gne 3 (by decide)] at ng2
      omega
    · rw [gne 0 (by decide), gne 1 (by decide)] at ng
      rw [geq, gne 3 (by decide)] at ng2
      omega
    · rw [gne 0 (by decide), gne 1 (by decide)] at ng
      rw [geq, gne 2 (by decide)] at ng2
      omega
  · rw [gne 0 (by omega), gne 1 (by omega)] at ng
    have hN : headN g = l.length := by unfold headN; omega
    unfold sumOk at hs
    rw [hN, beq_iff_eq] at hs
    have nfe := num_drop f (4 + l.length)
    have nge := num_drop g (4 + l.length)
    by_cases ie : i < 4 + l.length
    · rw [gne (4 + l.length) (by omega), gne (4 + l.length + 1) (by omega), ← nfe, hd] at nge
      have hset : (g.drop 4).take l.length = l.set (i - 4) now := by
        rw [hg, List.drop_set, if_neg (by omega), List.take_set, hc]
      rw [nge, hset] at hs
      have hfi : f.getD i 0 = l.getD (i - 4) 0 := by
        have : ((f.drop 4).take l.length)[i - 4]? = l[i - 4]? := by rw [hc]
        rw [List.getElem?_take, if_pos (by omega), List.getElem?_drop, show 4 + (i - 4) = i from by omega] at this
        rw [List.getD_eq_getElem?_getD, List.getD_eq_getElem?_getD, this]
      have b1 := fs_bd l
      have b2 := fs_bd (l.set (i - 4) now)
      have e1 : (fs l).1 = (fs (l.set (i - 4) now)).1 := by unfold sumN at hs; omega
      rw [fs_fst, fs_fst, sb_set l now (i - 4) (by omega), ← hfi] at e1
      apply hx
      have hz : (f.getD i 0).toNat = 0 ∨ now.toNat = 0 := by omega
      refine ⟨by omega, hz.imp (fun h => UInt8.toNat_inj.1 h) (fun h => UInt8.toNat_inj.1 h)⟩
    · have hsame : (g.drop 4).take l.length = l := by
        rw [hg, List.drop_set, if_neg (by omega), List.take_set, hc, List.set_eq_of_length_le (by omega)]
      rw [hsame, ← hd, nfe, nge] at hs
      have hcs : i = 4 + l.length ∨ i = 4 + l.length + 1 := by omega
      rcases hcs with rfl | rfl
      · rw [geq, gne (4 + l.length + 1) (by omega)] at hs; omega
      · rw [geq, gne (4 + l.length) (by omega)] at hs; omega
end Go.Proofs.Ytkjcpdogibbahaa
