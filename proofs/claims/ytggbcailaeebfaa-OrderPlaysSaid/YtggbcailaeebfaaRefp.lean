/- The document's orders: of each key the reads that were taken; and the plain law: the longest one is the code's list. -/
import Derived.Test.YtggbcailaeebfaaPairsw
import Derived.Test.YtggbcailaeebfaaRtw
import Derived.Test.YtggbcailaeebfaaGrowsw
namespace Go.Proofs.Ytggbcailaeebfaa
open Go.RowKit Go.Um
set_option linter.unusedSimpArgs false
set_option linter.unusedVariables false
set_option maxHeartbeats 4000000
set_option maxRecDepth 100000
/-- a list's value -/
def RowV (T : Nat → Prop) (w : World) (q : Nat) (v : Value) (l : List Int) : Prop := ∃ ao cap b o, v = .slice ao l.length cap ∧ SlAt w 1 l.length (us l) ao cap b o ∧ (0 < l.length → T b ∧ b ≠ q)
/-- a list of lists -/
def RowsV (T : Nat → Prop) (w : World) (q : Nat) (vs : List Value) (M : List (List Int)) : Prop := vs.length = M.length ∧ ∀ (j : Nat) (l : List Int), M[j]? = some l → ∃ v, vs[j]? = some v ∧ RowV T w q v l
structure RefAt (T : Nat → Prop) (w : World) (q : Nat) (M : Nat → List (List Int)) : Prop where
  row : ∀ k, k < 8 → ∃ ao cap b o vs, w.cell? ⟨q, k, none⟩ = some (.slice ao (M k).length cap) ∧ w.frozen? ⟨q, k, none⟩ = false ∧ SlAt w 1 (M k).length vs ao cap b o ∧ (0 < (M k).length → T b ∧ b ≠ q) ∧ RowsV T w q vs (M k)
theorem RowV.below {T : Nat → Prop} {w w' : World} {q : Nat} {v : Value} {l : List Int} (h : RowV T w q v l) (hb : Below w.heap.size w w') : RowV T w' q v l := by
  obtain ⟨ao, cap, b, o, hv, hs, ht⟩ := h
  exact ⟨ao, cap, b, o, hv, hs.below hb, ht⟩
theorem RowsV.below {T : Nat → Prop} {w w' : World} {q : Nat} {vs : List Value} {M : List (List Int)} (h : RowsV T w q vs M) (hb : Below w.heap.size w w') : RowsV T w' q vs M :=
  ⟨h.1, fun j l hl => (h.2 j l hl).imp fun v hv => ⟨hv.1, hv.2.below hb⟩⟩
theorem RowV.mono {T T' : Nat → Prop} {w : World} {q : Nat} {v : Value} {l : List Int} (h : RowV T w q v l) (hT : ∀ b, b < w.heap.size → T b → T' b) : RowV T' w q v l := by
  obtain ⟨ao, cap, b, o, hv, hs, ht⟩ := h
  exact ⟨ao, cap, b, o, hv, hs, fun hp => ⟨hT b (hs.lt (by rw [us_len]; omega)) (ht hp).1, (ht hp).2⟩⟩
theorem RowsV.mono {T T' : Nat → Prop} {w : World} {q : Nat} {vs : List Value} {M : List (List Int)} (h : RowsV T w q vs M) (hT : ∀ b, b < w.heap.size → T b → T' b) : RowsV T' w q vs M :=
  ⟨h.1, fun j l hl => (h.2 j l hl).imp fun v hv => ⟨hv.1, hv.2.mono hT⟩⟩
theorem RowV.kept {T K : Nat → Prop} {w w' : World} {q : Nat} {v : Value} {l : List Int} (h : RowV T w q v l) (hk : Kept K w w') (hT : ∀ b, b < w.heap.size → b ≠ q → T b → ¬ K b) : RowV T w' q v l := by
  obtain ⟨ao, cap, b, o, hv, hs, ht⟩ := h
  exact ⟨ao, cap, b, o, hv, slat_kept hs hk (fun hp => by rw [us_len] at hp; exact hT b (hs.lt (by rw [us_len]; exact hp)) (ht (by omega)).2 (ht (by omega)).1), ht⟩
theorem RowsV.kept {T K : Nat → Prop} {w w' : World} {q : Nat} {vs : List Value} {M : List (List Int)} (h : RowsV T w q vs M) (hk : Kept K w w') (hT : ∀ b, b < w.heap.size → b ≠ q → T b → ¬ K b) : RowsV T w' q vs M :=
  ⟨h.1, fun j l hl => (h.2 j l hl).imp fun v hv => ⟨hv.1, hv.2.kept hk hT⟩⟩
theorem RefAt.lt {T : Nat → Prop} {w : World} {q : Nat} {M : Nat → List (List Int)} (h : RefAt T w q M) : q < w.heap.size := by
  obtain ⟨ao, cap, b, o, vs, h1, _⟩ := h.row 0 (by decide)
  exact World.block_lt_of_cell? w _ h1
theorem RefAt.below {T : Nat → Prop} {w w' : World} {q : Nat} {M : Nat → List (List Int)} (h : RefAt T w q M) (hb : Below w.heap.size w w') : RefAt T w' q M := by
  refine ⟨fun k hk => ?_⟩
  obtain ⟨ao, cap, b, o, vs, h1, h2, h3, h4, h5⟩ := h.row k hk
  exact ⟨ao, cap, b, o, vs, kc hb _ _ _ h1, kf hb _ _ h.lt h2, h3.below hb, h4, h5.below hb⟩
theorem RefAt.mono {T T' : Nat → Prop} {w : World} {q : Nat} {M : Nat → List (List Int)} (h : RefAt T w q M) (hT : ∀ b, b < w.heap.size → T b → T' b) : RefAt T' w q M := by
  refine ⟨fun k hk => ?_⟩
  obtain ⟨ao, cap, b, o, vs, h1, h2, h3, h4, h5⟩ := h.row k hk
  exact ⟨ao, cap, b, o, vs, h1, h2, h3, fun hp => ⟨hT b (h3.lt (by rw [h3.len]; omega)) (h4 hp).1, (h4 hp).2⟩, h5.mono hT⟩
theorem RefAt.kept {T K : Nat → Prop} {w w' : World} {q : Nat} {M : Nat → List (List Int)} (h : RefAt T w q M) (hk : Kept K w w') (hq : ¬ K q) (hT : ∀ b, b < w.heap.size → b ≠ q → T b → ¬ K b) : RefAt T w' q M := by
  refine ⟨fun k hk8 => ?_⟩
  obtain ⟨ao, cap, b, o, vs, h1, h2, h3, h4, h5⟩ := h.row k hk8
  exact ⟨ao, cap, b, o, vs, hk.cell h1 hq, (hk.frozen h.lt hq).trans h2, slat_kept h3 hk (fun hp => by rw [h3.len] at hp; exact hT b (h3.lt (by rw [h3.len]; exact hp)) (h4 (by omega)).2 (h4 (by omega)).1), h4, h5.kept hk hT⟩
/-- one key's list of lists anew -/
def setM (M : Nat → List (List Int)) (k : Nat) (x : List (List Int)) : Nat → List (List Int) := fun j => if j = k then x else M j
theorem RefAt.put {T : Nat → Prop} {w : World} {q k : Nat} {M : Nat → List (List Int)} {x : List (List Int)} {ao : Option Addr} {cap b o : Nat} {vs : List Value} (h : RefAt T w q M) (hk : k < 8) (hs : SlAt w 1 x.length vs ao cap b o) (hb : 0 < x.length → T b ∧ b ≠ q) (hv : RowsV T w q vs x) :
    RefAt T (w.setCell ⟨q, k, none⟩ (.slice ao x.length cap)) q (setM M k x) := by
  have hK : Kept (fun j => j = q) w (w.setCell ⟨q, k, none⟩ (.slice ao x.length cap)) := Kept.setCell (S := fun j => j = q) (Kept.refl _ w) (fun _ => rfl) _
  have hn : ∀ b, b < w.heap.size → b ≠ q → T b → ¬ b = q := fun b _ hb _ => hb
  refine ⟨fun j hj => ?_⟩
  obtain ⟨ao1, cap1, b1, o1, vs1, h1, h2, h3, h4, h5⟩ := h.row j hj
  unfold setM
  by_cases e : j = k
  · subst e
    rw [if_pos rfl]
    exact ⟨ao, cap, b, o, vs, World.cell?_setCell_same _ _ _ h1, by rw [World.frozen?_setCell]; exact h2, slat_kept hs hK (fun hp => by rw [hs.len] at hp; exact (hb (by omega)).2), hb, hv.kept hK hn⟩
  · rw [if_neg e]
    exact ⟨ao1, cap1, b1, o1, vs1, by rw [World.cell?_setCell_other _ _ _ _ (by simp <;> omega)]; exact h1, by rw [World.frozen?_setCell]; exact h2, slat_kept h3 hK (fun hp => by rw [h3.len] at hp; exact (h4 (by omega)).2), h4, h5.kept hK hn⟩
/-! ### the plain law -/
/-- the longest one, the first of them -/
def longM (rows : List (List Int)) : List Int := rows.foldl (fun out r => if out.length < r.length then r else out) []
theorem longM_snoc (rows : List (List Int)) (r : List Int) : longM (rows ++ [r]) = if (longM rows).length < r.length then r else longM rows := by
  unfold longM
  rw [List.foldl_append]
  rfl
theorem longM_ge : ∀ (rows : List (List Int)) (out : List Int), out.length ≤ (rows.foldl (fun out r => if out.length < r.length then r else out) out).length ∧ ∀ r ∈ rows, r.length ≤ (rows.foldl (fun out r => if out.length < r.length then r else out) out).length
  | [], out => ⟨Nat.le_refl _, fun r hr => by cases hr⟩
  | x :: rows, out => by
    simp only [List.foldl_cons]
    obtain ⟨h1, h2⟩ := longM_ge rows (if out.length < x.length then x else out)
    refine ⟨Nat.le_trans ?_ h1, fun r hr => ?_⟩
    · split <;> omega
    · rcases List.mem_cons.1 hr with rfl | hr
      · refine Nat.le_trans ?_ h1
        split <;> omega
      · exact h2 r hr
theorem longM_mem : ∀ (rows : List (List Int)) (out : List Int), rows.foldl (fun out r => if out.length < r.length then r else out) out = out ∨ rows.foldl (fun out r => if out.length < r.length then r else out) out ∈ rows
  | [], out => .inl rfl
  | x :: rows, out => by
    simp only [List.foldl_cons]
    rcases longM_mem rows (if out.length < x.length then x else out) with h | h
    · rw [h]
      split
      · exact .inr (by simp)
      · exact .inl rfl
    · exact .inr (List.mem_cons_of_mem _ h)
/-- of one key: the code's list is a longest one of the document's -/
structure Key1 (L : List Int) (M : List (List Int)) : Prop where
  all : ∀ r ∈ M, r <+: L
  one : L = [] ∨ L ∈ M
theorem Key1.long {L : List Int} {M : List (List Int)} (h : Key1 L M) : longM M = L := by
  have hp : longM M <+: L := by
    rcases longM_mem M [] with e | e
    · unfold longM; rw [e]; exact List.nil_prefix
    · exact h.all _ e
  refine hp.eq_of_length (Nat.le_antisymm hp.length_le ?_)
  rcases h.one with e | e
  · rw [e]; exact Nat.zero_le _
  · exact (longM_ge M []).2 L e
/-- does each row begin it, or it each row? -/
def fitB (M : List (List Int)) (l : List Int) : Bool := M.all fun r => bgn l r || bgn r l
theorem Key1.fit {L : List Int} {M : List (List Int)} (h : Key1 L M) (l : List Int) : fitB M l = (bgn l L || bgn L l) := by
  rw [Bool.eq_iff_iff]
  unfold fitB
  rw [List.all_eq_true]
  simp only [Bool.or_eq_true, bgn, decide_eq_true_eq]
  constructor
  · intro h1
    rcases h.one with e | e
    · exact .inr (by rw [e]; exact List.nil_prefix)
    · exact h1 L e
  · rintro (h1 | h1) r hr
    · exact (List.prefix_or_prefix_of_prefix h1 (h.all r hr))
    · exact .inr ((h.all r hr).trans h1)
theorem Key1.take {L : List Int} {M : List (List Int)} (h : Key1 L M) {l : List Int} (hB : (bgn l L || bgn L l) = true) : Key1 (if bgn l L = false then l else L) (M ++ [l]) := by
  by_cases hb : bgn l L = true
  · rw [if_neg (by rw [hb]; simp)]
    refine ⟨fun r hr => ?_, ?_⟩
    · rcases List.mem_append.1 hr with hr | hr
      · exact h.all r hr
      · rw [List.mem_singleton.1 hr]; exact of_decide_eq_true hb
    · rcases h.one with e | e
      · exact .inl e
      · exact .inr (List.mem_append_left _ e)
  · have hb2 : bgn l L = false := by simpa using hb
    rw [if_pos hb2]
    rw [hb2, Bool.false_or] at hB
    have hB2 : L <+: l := of_decide_eq_true hB
    refine ⟨fun r hr => ?_, .inr (by simp)⟩
    rcases List.mem_append.1 hr with hr | hr
    · exact (h.all r hr).trans hB2
    · rw [List.mem_singleton.1 hr]
      exact List.prefix_refl _
/-- what the document takes -/
def rtakeB (M : Nat → List (List Int)) (k : Nat) (l : List Int) : Bool := decide (k < 8) && decide (l.length ≤ 32) && decide l.Nodup && fitB (M k) l
def rtakeM (M : Nat → List (List Int)) (k : Nat) (l : List Int) : Nat → List (List Int) := if rtakeB M k l = true then setM M k (M k ++ [l]) else M
def Rel (L : Nat → List Int) (M : Nat → List (List Int)) : Prop := ∀ k, k < 8 → Key1 (L k) (M k)
theorem Rel.takeB {L : Nat → List Int} {M : Nat → List (List Int)} (h : Rel L M) (k : Nat) (l : List Int) : rtakeB M k l = takeB L k l := by
  unfold rtakeB Go.Proofs.Ytggbcailaeebfaa.takeB
  by_cases hk : k < 8
  · rw [(h k hk).fit]
  · rw [decide_eq_false hk]; simp
theorem Rel.step {L : Nat → List Int} {M : Nat → List (List Int)} (h : Rel L M) (k : Nat) (l : List Int) : Rel (takeL L k l) (rtakeM M k l) := by
  intro j hj
  have hB := h.takeB k l
  unfold rtakeM takeL
  cases hT : Go.Proofs.Ytggbcailaeebfaa.takeB L k l
  · rw [hT] at hB
    rw [if_neg (by simp), if_neg (by rw [hB]; simp)]
    exact h j hj
  · rw [hT] at hB
    rw [if_pos hB]
    have hor : (bgn l (L k) || bgn (L k) l) = true := by
      unfold Go.Proofs.Ytggbcailaeebfaa.takeB at hT
      simp only [Bool.and_eq_true] at hT
      exact hT.2
    unfold setM
    by_cases e : j = k
    · subst e
      rw [if_pos rfl]
      have h1 := (h j hj).take hor
      by_cases hb : bgn l (L j) = false
      · rw [if_pos ⟨rfl, hb⟩]
        rw [if_pos hb] at h1
        unfold setL
        rw [if_pos rfl]
        exact h1
      · rw [if_neg (by intro hc; exact hb hc.2)]
        rw [if_neg hb] at h1
        exact h1
    · rw [if_neg e]
      split
      · unfold setL; rw [if_neg e]; exact h j hj
      · exact h j hj
theorem rtakeM_len {M : Nat → List (List Int)} {n : Nat} (h : ∀ k, (M k).length ≤ n) (k : Nat) (l : List Int) : ∀ j, (rtakeM M k l j).length ≤ n + 1 := by
  intro j
  unfold rtakeM
  split
  · unfold setM
    split
    · rw [List.length_append]; have := h k; simp; omega
    · have := h j; omega
  · have := h j; omega
theorem keyL_long {L : Nat → List Int} {M : Nat → List (List Int)} (h : Rel L M) (k : Nat) : longM (if k < 8 then M k else []) = keyL L k := by
  unfold keyL
  split
  · rename_i hk; exact (h k hk).long
  · rfl
end Go.Proofs.Ytggbcailaeebfaa
