/- BitsPlays: the states, and what an append to a row leaves. -/
import Derived.Test.YtfjccgihdnemkaaLal
import Derived.Test.YtfjccgihdnemkaaRowt
import Derived.Test.YtfjccgihdnemkaaMd
import Derived.Test.YtfjccgihdnemkaaFew
namespace Go.Proofs.Ytfjccgihdnemkaa
open Go.RowKit Go.Um
set_option linter.unusedSimpArgs false
set_option linter.unusedVariables false
set_option maxRecDepth 100000
def stN (l : List Act3) (i : Nat) : Nat := (l.take i).foldl (fun a x => mkN x a) 0
def stL (l : List Act3) (i : Nat) : List Nat := (l.take i).foldl (fun a x => mkL x a) []
theorem stN_succ {l : List Act3} {i : Nat} {x : Act3} (h : l[i]? = some x) : stN l (i + 1) = mkN x (stN l i) := by
  unfold stN
  rw [take_snoc l i x h]; simp
theorem stL_succ {l : List Act3} {i : Nat} {x : Act3} (h : l[i]? = some x) : stL l (i + 1) = mkL x (stL l i) := by
  unfold stL
  rw [take_snoc l i x h]; simp
theorem st_lis (l : List Act3) : ∀ i, i ≤ l.length → LisN (stL l i) (stN l i)
  | 0, _ => by simpa [stL, stN] using LisN.nil
  | i + 1, h => by
    have hx : l[i]? = some l[i] := List.getElem?_eq_getElem (by omega)
    rw [stN_succ hx, stL_succ hx]
    exact mk_lis _ (st_lis l i (by omega))
theorem st_len (l : List Act3) (hl : ∀ (j : Nat) (x : Act3), l[j]? = some x → x.l.length ≤ 40) : ∀ i, i ≤ l.length → (stL l i).length ≤ 41 * i
  | 0, _ => by simp [stL]
  | i + 1, h => by
    have hx : l[i]? = some l[i] := List.getElem?_eq_getElem (by omega)
    rw [stL_succ hx]
    have h1 := mk_len l[i] (stL l i)
    have h2 := hl i _ hx
    have h3 := st_len l hl i (by omega)
    omega
/-- a slice value -/
def Sl (u : Value) : Prop := ∃ ao n cap, u = .slice ao n cap
theorem row_other {W W' : World} {v3 : Value} {a : Addr} {u : Value} (hT : RowT Sl W v3) (hg : W.grownBy W' v3.ownBlock) (hv : v3 = .slice none 0 0 ∨ ∃ g k c, v3 = .slice (some ⟨g, 0, none⟩) k c) (hc : W.cell? a = some u) (ha : a.spot = none) (hu : ¬ Sl u) : W'.cell? a = some u ∧ v3.ownBlock ≠ some a.block := by
  have hne : v3.ownBlock ≠ some a.block := by
    rcases hv with rfl | ⟨g, k, c, rfl⟩
    · simp [Value.ownBlock]
    · intro e
      simp only [Value.ownBlock, Option.some.injEq] at e
      obtain ⟨cur, et, fz, hg2, hall⟩ := hT g k c rfl
      obtain ⟨ab, aoff, aspot⟩ := a
      simp only at ha e
      subst ha e
      have h2 : W.cell? ⟨g, aoff, none⟩ = cur[aoff]? := by simp [World.cell?, hg2]
      rw [h2] at hc
      exact hu (hall u (by rw [← Array.mem_def]; exact Array.mem_of_getElem? hc))
  refine ⟨?_, hne⟩
  have hlt := World.block_lt_of_cell? _ _ hc
  exact (World.cell?_of_block (w := W) (hg.block a.block hlt hne.symm)).trans hc
theorem set_row {W W' : World} {v3 v : Value} {N : Nat} (h : SetAt W v N) (hT : RowT Sl W v3) (hg : W.grownBy W' v3.ownBlock) (hv : v3 = .slice none 0 0 ∨ ∃ g k c, v3 = .slice (some ⟨g, 0, none⟩) k c) : SetAt W' v N := by
  obtain ⟨m, ao, cap, b, o, rfl, hs, hn, hm⟩ := h
  refine ⟨m, ao, cap, b, o, rfl, ⟨hs.len, hs.le, hs.max, hs.addr, fun hp => Nat.lt_of_lt_of_le (hs.lt hp) hg.size, fun j u hu => ?_⟩, hn, hm⟩
  refine (row_other hT hg hv (hs.cell j u hu) rfl ?_).1
  rintro ⟨_, _, _, rfl⟩
  unfold u64s at hu
  obtain ⟨x, _, e⟩ := List.mem_map.1 (List.mem_of_getElem? hu)
  cases e
theorem lis_row {W W' : World} {v3 v : Value} {L : List Nat} (h : LisAt W v L) (hT : RowT Sl W v3) (hg : W.grownBy W' v3.ownBlock) (hv : v3 = .slice none 0 0 ∨ ∃ g k c, v3 = .slice (some ⟨g, 0, none⟩) k c) : LisAt W' v L := by
  obtain ⟨ao, cap, b, o, rfl, hs⟩ := h
  refine ⟨ao, cap, b, o, rfl, ⟨hs.len, hs.le, hs.max, hs.addr, fun hp => Nat.lt_of_lt_of_le (hs.lt hp) hg.size, fun j u hu => ?_⟩⟩
  refine (row_other hT hg hv (hs.cell j u hu) rfl ?_).1
  rintro ⟨_, _, _, rfl⟩
  unfold i64s at hu
  obtain ⟨x, _, e⟩ := List.mem_map.1 (List.mem_of_getElem? hu)
  cases e
end Go.Proofs.Ytfjccgihdnemkaa
