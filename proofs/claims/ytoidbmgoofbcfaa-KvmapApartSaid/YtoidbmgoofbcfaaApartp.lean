/- KvmapApart: contracts of Run and same as they are used. Printed by gen_apart.py. -/
import Derived.Test.YtoidbmgoofbcfaaAwake
import Derived.Test.YtoidbmgoofbcfaaOnly
import Derived.Test.YtoidbmgoofbcfaaEqs
import Derived.Test.YtoidbmgoofbcfaaPair
namespace Go.Proofs.Ytoidbmgoofbcfaa
open Go.RowKit Go.Um
set_option linter.unusedSimpArgs false
set_option linter.unusedVariables false
set_option maxHeartbeats 4000000
set_option maxRecDepth 100000

theorem length_outs (s : KV) (l : List Op5) : ∀ k, k ≤ l.length → (outN s l k).length = k
  | 0, _ => rfl
  | k + 1, h => by
    rw [outN_succ (List.getElem?_eq_getElem (by omega)), List.length_append, length_outs s l k (by omega)]; rfl
theorem outs_at (s : KV) (l : List Op5) (k : Nat) (x : Op5) (hx : l[k]? = some x) : ∀ m, m ≤ l.length → k < m → (outN s l m)[k]? = some (stp (stN s l k) x).2.1
  | 0, _, hk => absurd hk (Nat.not_lt_zero _)
  | m + 1, hm, hk => by
    have hy : l[m]? = some (l[m]'(by omega)) := List.getElem?_eq_getElem (by omega)
    have hlen := length_outs s l m (by omega)
    rw [outN_succ hy]
    by_cases e : k = m
    · subst e
      rw [hx] at hy
      obtain rfl := (Option.some.inj hy).symm
      rw [List.getElem?_append_right (by omega), hlen, Nat.sub_self]
      rfl
    · rw [List.getElem?_append_left (by omega)]
      exact outs_at s l k x hx m (by omega) (by omega)
theorem atKey_le (k : Nat) (l : List Op5) : (atKey k l).length ≤ l.length := (List.filter_sublist).length_le
theorem atKey_push (k : Nat) (l : List Op5) (x : Op5) : atKey k (l ++ [x]) = atKey k l ++ (if x.k = (k : Int) then [x] else []) := by
  unfold atKey
  rw [List.filter_append]
  by_cases h : x.k = (k : Int) <;> simp [h]
theorem pick_len (s : KV) (k : Nat) (l : List Op5) : (pick s k l).length = (atKey k l).length := by
  induction l generalizing s with
  | nil => rfl
  | cons x l ih =>
    by_cases h : x.k = (k : Int) <;> simp [pick, atKey, h] <;> exact ih _
theorem op_one (x : Op5) : ∀ u ∈ x.cells, u.oneCell' = true := by intro u hu; simp [Op5.cells] at hu; rcases hu with rfl | rfl | rfl | rfl | rfl <;> rfl
theorem info44 : (Try.prog.info? 44).map (fun i => (i.zero, i.size, i.bytes)) = some (some (.agg #[.int .u8 0, .int .u8 0, .int .u8 0, .int .u16 0, .int .u16 0]), 5, 8) := by kernel_rfl

/-- what Run leaves behind operations that are all known -/
def AllPost (T : KV) (G : List Op5) (N : Nat) (w : World) (e : Ending) (w' : World) : Prop :=
  ∃ ao cap b o, e = .returned (.tuple #[(fin T G).val, .slice ao N cap, .int .i64 0]) ∧ SlAt w' 2 N ((ans T G).flatMap resC) ao cap b o ∧ Below w.heap.size w w'
theorem run_known (T : KV) (G : List Op5) (N : Nat) (hN : N = G.length) (hk : ∀ x ∈ G, known x = true) (ao : Option Addr) (cap b o : Nat) (w : World) (hT : T.ok) (h : SlAt w 5 N (G.flatMap Op5.cells) ao cap b o) (hok : ∀ x ∈ G, x.ok) (hlen : N ≤ 200) :
    Calls Try.prog 12 #[T.val, .slice ao N cap] w (AllPost T G N w) := by
  subst hN
  refine (run_any T G ao cap b o w hT h hok hlen).mono ?_
  rintro e w' ⟨v', rfl, hown, hb⟩
  obtain ⟨h1, h2, h3⟩ := run_all (s := T) hk
  have h4 := stop_all hk
  rw [h2, h4] at hown
  obtain ⟨ao1, cap1, b1, o1, rfl, hsl, _⟩ := SlAt.owned hown
  exact ⟨ao1, cap1, b1, o1, by rw [h1, h3], hsl, hb⟩
theorem same_self (xs : List (Int × Int)) (n : Nat) (hn : n = xs.length) (ao ao' : Option Addr) (cap b o cap' b' o' : Nat) (w : World) (h : SlAt w 2 n (xs.flatMap resC) ao cap b o) (h' : SlAt w 2 n (xs.flatMap resC) ao' cap' b' o') (hlen : n ≤ 200) :
    Calls Try.prog 19 #[.slice ao n cap, .slice ao' n cap'] w fun e w' => e = .returned (.bool true) ∧ Below w.heap.size w w' := by
  subst hn
  refine (same_any xs xs ao ao' cap b o cap' b' o' w h h' hlen).mono ?_
  rintro e w' ⟨rfl, hb⟩
  exact ⟨by simp, hb⟩
end Go.Proofs.Ytoidbmgoofbcfaa
