/- What is made of the document's sets and of the code's is the same: plain law. Printed from Rp.tmpl. -/
import Derived.Test.YtfjccgihdnemkaaRu
import Derived.Test.YtfjccgihdnemkaaDn
import Derived.Test.YtfjccgihdnemkaaApl
import Derived.Test.YtfjccgihdnemkaaOpact
namespace Go.Proofs.Ytfjccgihdnemkaa
open Go.RowKit Go.Um
set_option linter.unusedSimpArgs false
set_option linter.unusedVariables false
set_option maxRecDepth 100000
theorem LisN.of {L : List Nat} {N : Nat} (hb : ∀ x ∈ L, x ≤ 65535) (hu : L.Pairwise (· < ·)) (h : ∀ n, N.testBit n = decide (n ∈ L)) : LisN L N :=
  ⟨hb, hu, Nat.eq_of_testBit_eq fun i => by rw [orL_bit, h]⟩
theorem without_lis {L : List Nat} {N : Nat} (h : LisN L N) (n : Int) : LisN (dropN L n) (withoutN N n) := by
  refine LisN.of (fun x hx => h.bd x (List.mem_filter.1 hx).1) (h.up.filter _) fun k => ?_
  have hm : decide (k ∈ dropN L n) = (decide (k ∈ L) && !decide ((k : Int) = n)) := by
    unfold dropN
    rw [Bool.eq_iff_iff]
    simp [List.mem_filter]
  rw [hm, ← h.bit]
  unfold withoutN
  cases hh : hasB N n
  · rw [if_neg (by simp)]
    by_cases e : (k : Int) = n
    · subst e
      have : N.testBit k = false := by
        by_cases hk : k ≤ 65535
        · rwa [hasB_nat _ _ hk] at hh
        · rw [h.bit]
          exact decide_eq_false (fun hx => hk (h.bd k hx))
      simp [this]
    · simp [e]
  · rw [if_pos rfl]
    unfold hasB mayB at hh
    simp only [Bool.and_eq_true, decide_eq_true_eq] at hh
    rw [Nat.testBit_xor, Nat.testBit_two_pow]
    by_cases e : (k : Int) = n
    · have e2 : n.toNat = k := by omega
      rw [e2] at hh
      simp [e, e2, hh.2]
    · have e2 : ¬ n.toNat = k := by omega
      simp [e, e2]
theorem down_lis {L : List Nat} {N : Nat} (h : LisN L N) (d : Nat) : LisN (downL L d) (N / 2 ^ d) := by
  have hmem : ∀ k, k ∈ downL L d ↔ d + k ∈ L := fun k => by
    unfold downL
    rw [List.mem_map]
    constructor
    · rintro ⟨x, hx, rfl⟩
      obtain ⟨h1, h2⟩ := List.mem_filter.1 hx
      simp only [decide_eq_true_eq] at h2
      rwa [show d + (x - d) = x by omega]
    · intro hk
      exact ⟨d + k, List.mem_filter.2 ⟨hk, by simp⟩, by omega⟩
  refine LisN.of (fun x hx => ?_) ?_ fun k => ?_
  · have := h.bd _ ((hmem x).1 hx); omega
  · unfold downL
    rw [List.pairwise_map]
    refine (h.up.filter _).imp_of_mem ?_
    intro a b ha hb hab
    have h1 := (List.mem_filter.1 ha).2
    have h2 := (List.mem_filter.1 hb).2
    simp only [decide_eq_true_eq] at h1 h2
    omega
  · rw [div_bit, h.bit, decide_eq_decide]
    exact (hmem k).symm
theorem union_lis : ∀ (M L : List Nat) (N : Nat), (∀ x ∈ M, x ≤ 65535) → LisN L N → LisN (uniL L M) (N ||| orL M)
  | [], L, N, _, h => by simpa [uniL, orL] using h
  | x :: M, L, N, hb, h => by
    have hx := hb x (by simp)
    have h1 := rins_n h (x : Int)
    have hm : mayB (x : Int) = true := decide_eq_true (by omega)
    have h2 := union_lis M (rins L (x : Int)) _ (fun y hy => hb y (by simp [hy])) h1
    have e : withN N (x : Int) ||| orL M = N ||| orL (x :: M) := by
      apply Nat.eq_of_testBit_eq
      intro i
      rw [Nat.testBit_or, Nat.testBit_or, withN_bit, orL_bit, orL_bit, hm]
      by_cases e : i = x
      · subst e; simp
      · have : ¬ (x : Int) = (i : Int) := by omega
        simp [this, e]
    rw [e] at h2
    exact h2
/-- what an act makes -/
def mkN (x : Act3) (N : Nat) : Nat := if x.what % 5 = 2 then withoutN N x.n else if x.what % 5 = 3 then N ||| ofN x.l else if x.what % 5 = 4 then N / 2 ^ x.n.toNat else withN N x.n
def mkL (x : Act3) (L : List Nat) : List Nat := if x.what % 5 = 2 then dropN L x.n else if x.what % 5 = 3 then uniL L (lisOf x.l) else if x.what % 5 = 4 then downL L x.n.toNat else rins L x.n
theorem mk_lis (x : Act3) {L : List Nat} {N : Nat} (h : LisN L N) : LisN (mkL x L) (mkN x N) := by
  unfold mkL mkN
  split
  · exact without_lis h _
  · split
    · have h1 := lisOf_n x.l
      have h2 := union_lis (lisOf x.l) L N h1.bd h
      rwa [← h1.or] at h2
    · split
      · exact down_lis h _
      · exact rins_n h _
theorem mk_len (x : Act3) (L : List Nat) : (mkL x L).length ≤ L.length + x.l.length + 1 := by
  unfold mkL
  split
  · have := List.length_filter_le (fun (y : Nat) => decide (¬ (y : Int) = x.n)) L
    unfold dropN; omega
  · split
    · have h1 := uniL_len L (lisOf x.l)
      have h2 := lisOf_len x.l
      omega
    · split
      · have := List.length_filter_le (fun y => decide (x.n.toNat ≤ y)) L
        unfold downL; rw [List.length_map]; omega
      · have := rins_len L x.n; omega
end Go.Proofs.Ytfjccgihdnemkaa
