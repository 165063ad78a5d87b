/- bits.Set's Union: contract. Printed from Un.tmpl. -/
import Derived.Test.YtfjccgihdnemkaaCt
import Derived.Test.YtfjccgihdnemkaaFkp
namespace Go.Proofs.Ytfjccgihdnemkaa
open Go.RowKit Go.Um
set_option linter.unusedSimpArgs false
set_option linter.unusedVariables false
set_option maxHeartbeats 4000000
set_option maxRecDepth 100000
theorem word_lor (N M i : Nat) : wordN (N ||| M) i = wordN N i ||| wordN M i := by
  apply Nat.eq_of_testBit_eq
  intro k
  rw [testBit_word, Nat.testBit_or, Nat.testBit_or, testBit_word, testBit_word]
  cases decide (k < 64) <;> simp
/-- the words behind k rounds -/
def unL (N M K k : Nat) : List Nat := (List.range K).map fun i => if i < k then wordN N i ||| wordN M i else wordN N i
theorem unL_len (N M K k : Nat) : (unL N M K k).length = K := by simp [unL]
theorem unL_at (N M K k i : Nat) (h : i < K) : (unL N M K k)[i]? = some (if i < k then wordN N i ||| wordN M i else wordN N i) := by simp [unL, h]
theorem unL_zero (N M K : Nat) : unL N M K 0 = words N K := by simp [unL, words]
theorem unL_succ (N M K k : Nat) (h : k < K) : unL N M K (k + 1) = (unL N M K k).set k (wordN N k ||| wordN M k) := by
  apply List.ext_getElem?
  intro i
  rw [List.getElem?_set]
  by_cases hi : i < K
  · rw [unL_at _ _ _ _ _ hi, unL_at _ _ _ _ _ hi]
    by_cases e : k = i
    · subst e; simp [unL_len, h]
    · rw [if_neg e]
      by_cases h2 : i < k
      · simp [h2, show i < k + 1 by omega]
      · simp [h2, show ¬ i < k + 1 by omega]
  · have e : ¬ k = i := by omega
    rw [List.getElem?_eq_none (by rw [unL_len]; omega), if_neg e, List.getElem?_eq_none (by rw [unL_len]; omega)]
theorem unL_all {N M K m : Nat} (hM : M < 2 ^ (64 * m)) (hm : m ≤ K) : unL N M K m = words (N ||| M) K := by
  apply List.ext_getElem?
  intro i
  by_cases hi : i < K
  · rw [unL_at _ _ _ _ _ hi, words_at _ _ _ hi, word_lor]
    by_cases h2 : i < m
    · simp [h2]
    · rw [if_neg h2, word_none hM (by omega), Nat.or_zero]
  · rw [List.getElem?_eq_none (by rw [unL_len]; omega), List.getElem?_eq_none (by rw [words_len]; omega)]
theorem needs_lor {N M k m : Nat} (h : Needs 64 k N) (g : Needs 64 m M) : Needs 64 (max m k) (N ||| M) := by
  refine ⟨Nat.or_lt_two_pow (Nat.lt_of_lt_of_le h.lt (Nat.pow_le_pow_right (by decide) (by omega))) (Nat.lt_of_lt_of_le g.lt (Nat.pow_le_pow_right (by decide) (by omega))), ?_⟩
  by_cases h1 : k ≤ m
  · rcases g.top with e | e
    · exact .inl (by omega)
    · exact .inr (by rw [show max m k = m by omega]; exact Nat.le_trans e Nat.right_le_or)
  · rcases h.top with e | e
    · exact .inl (by omega)
    · exact .inr (by rw [show max m k = k by omega]; exact Nat.le_trans e Nat.left_le_or)
structure UnI (w : World) (base N M K g k : Nat) (wr : World) : Prop where
  own : wr.ownsRow base 61 1 (.slice (some ⟨g, 0, none⟩) K K) K (u64s (unL N M K k))
  below : Below w.heap.size w wr
  c4 : wr.cell? ⟨w.heap.size + 2, 0, none⟩ = some (.slice none 0 0)
  f4 : wr.frozen? ⟨w.heap.size + 2, 0, none⟩ = false
theorem union_any (v u : Value) (N M : Nat) (w : World) (h : SetAt w v N) (h' : SetAt w u M) : Calls Try.prog 27 #[v, u] w (SetPost (N ||| M) w) := by
  obtain ⟨k, ao, cap, b, o, rfl, hs, hneed, hk⟩ := h
  obtain ⟨m, ao', cap', b', o', rfl, hs', hneed', hm⟩ := h'
  obtain ⟨K, hK⟩ : ∃ K, K = max m k := ⟨_, rfl⟩
  have hK2 : K ≤ 1024 := by omega
  have hmK : m ≤ K := by omega
  have HR := Lib.hid (fun W hW => room_any k N ao cap b o m K W hW hneed.lt hK hK2)
  have HS := Lib.hid hs
  have HS' := Lib.hid hs'
  have hidx := hs'.idx (P := Try.prog) (t := 25) Try.underlying25 size61 (by decide)
  have HNEW := Lib.hid (show Needs 64 K (N ||| M) by rw [hK]; exact needs_lor hneed hneed')
  have HM := Lib.hid hneed'.lt
  clear hs hs' hneed hneed' hK
  go_enter Try.func27, Try.ntmps27
  go_wp2_with fail
  have hb0 : Below w.heap.size w (((w.alloc (.cells #[.slice ao k cap] 27)).alloc (.cells #[.slice ao' m cap'] 27)).alloc (.cells #[.slice none 0 0] 27)) := ((ba (bz w) _).alloc (by simp) _).alloc (by simp; omega) _
  refine (HR.out _ (HS.out.below hb0)).mono ?_
  rintro e w3 ⟨g, rfl, hrow, hb3, hg⟩
  have hlen := words_len N K
  unfold RowW at hrow
  rw [hlen] at hrow
  have x1 := kc hb3 (w.heap.size + 1) 0 (.slice ao' m cap') (by simp [go_sem])
  have x2 := kc hb3 (w.heap.size + 2) 0 (.slice none 0 0) (by simp [go_sem])
  have f2 := kf hb3 (w.heap.size + 2) 0 (by simp) (by simp [go_sem])
  have hgs : w.heap.size + 3 ≤ g := by simp at hg; omega
  obtain ⟨base, hbase⟩ : ∃ B, B = (((w.alloc (.cells #[.slice ao k cap] 27)).alloc (.cells #[.slice ao' m cap'] 27)).alloc (.cells #[.slice none 0 0] 27)).heap.size := ⟨_, rfl⟩
  rw [← hbase] at hrow
  have HBASE : Hid (w.heap.size + 2 < base ∧ base ≤ w3.heap.size) := Lib.hid ⟨by rw [hbase]; simp, by rw [hbase]; exact hb3.size⟩
  have HI0 : Hid (UnI w base N M K g 0 w3) := Lib.hid ⟨by rw [unL_zero]; exact hrow, hb0.trans (hb3.mono (by simp; omega)), x2, f2⟩
  clear hrow hb3 hb0 hg hlen x2 f2 hbase
  go_wp2_with fail
  go_loopw [16] (fun t16 wr => ∃ i : Nat, i ≤ m ∧ t16 = .int .i64 i ∧ Hid (UnI w base N M K g i wr)) (fun t16 _ => m - (intOf t16).toNat)
  case atStart => exact ⟨0, Nat.zero_le _, rfl, HI0⟩
  case round =>
    obtain ⟨i, hi, rfl, HI⟩ := hrel
    clear HI0
    by_cases hlt : i < m
    · have i1 : (0 : Int) ≤ (i : Int) := by omega
      have i2 : (i : Int) < (m : Int) := by omega
      have i3 : (i : Int) < (K : Int) := by omega
      have g0 := (HS'.out.below HI.out.below).cell i _ (u64s_at (words_at M m i hlt))
      have gq := (HI.out.own.cellAt i (by omega)).trans (u64s_at (unL_at N M K i i (by omega)))
      rw [if_neg (Nat.lt_irrefl i)] at gq
      have fq := HI.out.own.frozenAt i
      have hsucc := unL_succ N M K i (by omega)
      have l1 := wordN_lt N i
      have l2 := wordN_lt M i
      obtain ⟨Y, hY⟩ : ∃ Y, Y = wordN N i := ⟨_, rfl⟩
      obtain ⟨Z, hZ⟩ : ∃ Z, Z = wordN M i := ⟨_, rfl⟩
      rw [← hY] at gq hsucc l1
      rw [← hZ] at g0 hsucc l2
      obtain ⟨X, hX⟩ : ∃ X, X = Y ||| Z := ⟨_, rfl⟩
      rw [← hX] at hsucc
      have d1 : bits BinOp.or IntKind.u64 (Y : Int) (Z : Int) = (X : Int) := by rw [hX]; exact bits_or64 _ _ l1 l2
      have HSU := Lib.hid hsucc
      clear hsucc l1 l2 hY hZ hX
      go_wp2_with fail
      have HI2 : Hid (UnI w base N M K g (i + 1) (wr.setCell ⟨g, i, none⟩ (.int .u64 X))) := by
        refine Lib.hid ⟨?_, HI.out.below.setCell (p := ⟨g, i, none⟩) (by show w.heap.size ≤ g; omega) _, ?_, by rw [World.frozen?_setCell]; exact HI.out.f4⟩
        · have hst := (HI.out.own.stored i (.int .u64 X)).1
          have hcs : (u64s (unL N M K i)).set i (.int .u64 (X : Int)) = u64s (unL N M K (i + 1)) := by
            rw [HSU.out]; simp [u64s, List.map_set]
          rw [hcs] at hst
          exact hst
        · exact (World.cell?_of_block (w := wr) (Below.heap_setCell wr ⟨g, i, none⟩ (.int .u64 X) (w.heap.size + 2) (by show w.heap.size + 2 ≠ g; omega))).trans HI.out.c4
      go_roundw
      case rel => exact ⟨i + 1, by omega, by go_num, HI2⟩
      case measure => simp [intOf]; omega
    · have i2 : ¬ (i : Int) < (m : Int) := by omega
      obtain rfl : i = m := by omega
      have c4 := HI.out.c4
      have f4 := HI.out.f4
      have hown := HI.out.own
      rw [unL_all HM.out hmK] at hown
      obtain ⟨aoF, capF, bF, oF, hvF, hsF, _⟩ := SlAt.owned hown
      have HSET : Hid (SetAt wr (.agg #[.slice (some ⟨g, 0, none⟩) K K]) (N ||| M)) := Lib.hid (by
        cases hvF
        exact ⟨K, _, _, _, _, rfl, hsF, HNEW.out, hK2⟩)
      clear hown hvF hsF
      go_wp2
      exact bodyPost_ret (v := .agg #[.slice (some ⟨g, 0, none⟩) K K]) (by simp [results, Try.results27, go_sem, c4]) rfl ⟨_, rfl, set_other HSET.out c4 (fun x => by simp) _, HI.out.below.setCell (p := ⟨w.heap.size + 2, 0, none⟩) (by simp) _⟩
end Go.Proofs.Ytfjccgihdnemkaa
