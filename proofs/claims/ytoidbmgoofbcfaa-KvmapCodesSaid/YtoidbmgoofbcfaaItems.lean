/- A state as the document's list of keys and numbers: the plain law. -/
import Derived.Test.YtoidbmgoofbcfaaSolo
namespace Go.Proofs.Ytoidbmgoofbcfaa
open Go.RowKit Go.Um
set_option linter.unusedSimpArgs false
set_option linter.unusedVariables false

/-- the items of the first k keys of a state -/
def itN (s : KV) (k : Nat) : List (Int × Int) := (List.range k).flatMap fun j => if s.has j then [((j : Int), s.get j)] else []
theorem itN_succ (s : KV) (k : Nat) : itN s (k + 1) = itN s k ++ (if s.has k then [((k : Int), s.get k)] else []) := by simp [itN, List.range_succ]
theorem itN_len (s : KV) : ∀ k, (itN s k).length ≤ k
  | 0 => by simp [itN]
  | k + 1 => by rw [itN_succ, List.length_append]; have := itN_len s k; split <;> simp <;> omega
structure ItOk (T : List (Int × Int)) : Prop where
  e : ∀ x ∈ T, (0 ≤ x.1 ∧ x.1 < 8) ∧ 0 ≤ x.2 ∧ x.2 ≤ 65535
  d : T.Pairwise fun a b => a.1 ≠ b.1
def look (T : List (Int × Int)) (k : Int) : Option Int := (T.find? fun x => x.1 == k).map (·.2)
theorem look_nil (k : Int) : look [] k = none := rfl
theorem look_cons (x : Int × Int) (T : List (Int × Int)) (k : Int) : look (x :: T) k = if x.1 = k then some x.2 else look T k := by
  unfold look
  by_cases h : x.1 = k
  · rw [List.find?_cons_of_pos (by simpa using h), if_pos h]; rfl
  · rw [List.find?_cons_of_neg (by simpa using h), if_neg h]
theorem look_app (A B : List (Int × Int)) (k : Int) : look (A ++ B) k = (look A k).or (look B k) := by
  induction A with
  | nil => simp [look_nil]
  | cons x A ih =>
    rw [List.cons_append, look_cons, look_cons, ih]
    split <;> rfl
theorem look_none {T : List (Int × Int)} {k : Int} (h : ∀ x ∈ T, x.1 ≠ k) : look T k = none := by
  unfold look
  rw [List.find?_eq_none.2 (fun x hx => by simpa using h x hx)]; rfl
theorem look_some {T : List (Int × Int)} {k : Int} (hd : T.Pairwise fun a b => a.1 ≠ b.1) {x : Int × Int} (hx : x ∈ T) (hk : x.1 = k) : look T k = some x.2 := by
  induction T with
  | nil => simp at hx
  | cons y T ih =>
    rw [look_cons]
    rw [List.pairwise_cons] at hd
    rcases List.mem_cons.1 hx with rfl | hx
    · rw [if_pos hk]
    · rw [if_neg (fun e => hd.1 x hx (e.trans hk.symm))]
      exact ih hd.2 hx
/-- the state that items are -/
def kvF (s : KV) (T : List (Int × Int)) : KV := T.foldl (fun s x => s.lay x.1.toNat x.2) s
def kvN (T : List (Int × Int)) : KV := kvF KV.zero T
theorem kvF_push (s : KV) (T : List (Int × Int)) (x : Int × Int) : kvF s (T ++ [x]) = (kvF s T).lay x.1.toNat x.2 := by simp [kvF]
theorem kvF_look {T : List (Int × Int)} (h : ItOk T) {s : KV} (hs : s.ok) : (kvF s T).ok ∧ ∀ j, j < 8 → (kvF s T).has j = (s.has j || (look T j).isSome) ∧ (kvF s T).get j = (look T j).getD (s.get j) := by
  induction T generalizing s with
  | nil => exact ⟨hs, fun j hj => by simp [kvF, look_nil]⟩
  | cons x T ih =>
    have hx := h.e x (by simp)
    have hd := List.pairwise_cons.1 h.d
    have h8 : x.1.toNat < 8 := by omega
    have h1 := ih ⟨fun y hy => h.e y (by simp [hy]), hd.2⟩ (hs.lay x.1.toNat h8 x.2 hx.2)
    refine ⟨h1.1, fun j hj => ?_⟩
    obtain ⟨h2, h3⟩ := h1.2 j hj
    show (kvF (s.lay x.1.toNat x.2) T).has j = _ ∧ (kvF (s.lay x.1.toNat x.2) T).get j = _
    rw [h2, h3, KV.has_lay hs _ _ h8, KV.get_lay _ _ _ _ h8, look_cons]
    by_cases e : x.1 = (j : Int)
    · have e1 : j = x.1.toNat := by omega
      have e2 : look T j = none := look_none fun y hy e3 => hd.1 y hy (e.trans e3.symm)
      simp [e, e1.symm, e2]
    · have e1 : ¬ j = x.1.toNat := by omega
      simp [e, e1]
theorem kvN_look {T : List (Int × Int)} (h : ItOk T) : (kvN T).ok ∧ ∀ j, j < 8 → (kvN T).has j = (look T j).isSome ∧ (kvN T).get j = (look T j).getD 0 := by
  obtain ⟨h1, h2⟩ := kvF_look h zero_kok
  refine ⟨h1, fun j hj => ?_⟩
  obtain ⟨h3, h4⟩ := h2 j hj
  unfold kvN
  rw [h3, h4, zero_has, zero_get]
  simp
theorem itN_mem {s : KV} {k : Nat} {x : Int × Int} (h : x ∈ itN s k) : ∃ j, j < k ∧ s.has j = true ∧ x = ((j : Int), s.get j) := by
  unfold itN at h
  rw [List.mem_flatMap] at h
  obtain ⟨j, hj, hx⟩ := h
  by_cases hs : s.has j = true
  · rw [if_pos hs, List.mem_singleton] at hx
    exact ⟨j, List.mem_range.1 hj, hs, hx⟩
  · rw [if_neg hs] at hx; cases hx
theorem itN_ok {s : KV} (hs : s.ok) : ∀ k, k ≤ 8 → ItOk (itN s k)
  | 0, _ => ⟨fun x hx => by simp [itN] at hx, by simp [itN]⟩
  | k + 1, hk => by
    have ih := itN_ok hs k (by omega)
    rw [itN_succ]
    refine ⟨fun x hx => ?_, ?_⟩
    · rcases List.mem_append.1 hx with hx | hx
      · exact ih.e x hx
      · split at hx
        · rw [List.mem_singleton] at hx; subst hx; exact ⟨⟨by omega, by omega⟩, hs.v k⟩
        · cases hx
    · rw [List.pairwise_append]
      refine ⟨ih.d, ?_, fun a ha b hb => ?_⟩
      · split <;> simp
      · obtain ⟨j, hj, _, rfl⟩ := itN_mem ha
        split at hb
        · rw [List.mem_singleton] at hb; subst hb; dsimp only; omega
        · cases hb
theorem itN_look {s : KV} (hs : s.ok) (j : Nat) (hj : j < 8) : look (itN s 8) j = if s.has j then some (s.get j) else none := by
  by_cases h : s.has j = true
  · rw [if_pos h]
    exact look_some (itN_ok hs 8 (by omega)).d (x := ((j : Int), s.get j)) (by
      unfold itN
      rw [List.mem_flatMap]
      exact ⟨j, List.mem_range.2 hj, by rw [if_pos h]; simp⟩) rfl
  · rw [if_neg h]
    refine look_none fun x hx e => ?_
    obtain ⟨i, _, hi, rfl⟩ := itN_mem hx
    dsimp only at e
    have : i = j := by omega
    subst this
    exact h hi
theorem kv_items {s : KV} (hs : s.ok) (hf : s.fine) : kvN (itN s 8) = s := by
  obtain ⟨h1, h2⟩ := kvN_look (itN_ok hs 8 (by omega))
  refine KV.ext_ok h1 hs (fun k hk => ?_) (fun k hk => ?_)
  · rw [(h2 k hk).1, itN_look hs k hk]
    cases s.has k <;> rfl
  · rw [(h2 k hk).2, itN_look hs k hk]
    cases h : s.has k
    · simp [hf k hk h]
    · simp

/-- where a key stands -/
def atI (T : List (Int × Int)) (k : Int) : Int := match T.findIdx? fun x => x.1 == k with
  | some i => (i : Int)
  | none => -1
theorem atI_none {T : List (Int × Int)} {k : Int} (h : ∀ (i : Nat) (x : Int × Int), T[i]? = some x → x.1 ≠ k) : atI T k = -1 := by
  unfold atI
  rw [List.findIdx?_eq_none_iff.2 (fun x hx => by
    obtain ⟨i, hi⟩ := List.getElem?_of_mem hx
    simpa using h i x hi)]
theorem atI_some {T : List (Int × Int)} {k : Int} {i : Nat} {x : Int × Int} (hx : T[i]? = some x) (hk : x.1 = k) (h : ∀ (j : Nat) (y : Int × Int), j < i → T[j]? = some y → y.1 ≠ k) : atI T k = i := by
  unfold atI
  have hi : i < T.length := (List.getElem?_eq_some_iff.1 hx).1
  have hxe : T[i] = x := (List.getElem?_eq_some_iff.1 hx).2
  rw [List.findIdx?_eq_some_iff_getElem.2 ⟨hi, by rw [hxe]; simpa using hk, fun j hj => by
    have := h j (T[j]'(by omega)) hj (List.getElem?_eq_getElem (by omega))
    simpa using this⟩]
/-- the first n items but the i-th -/
def wiN (T : List (Int × Int)) (i : Int) : Nat → List (Int × Int)
  | 0 => []
  | n + 1 => wiN T i n ++ (if (n : Int) = i then [] else (T[n]?).toList)
theorem wiN_len (T : List (Int × Int)) (i : Int) : ∀ n, (wiN T i n).length ≤ n
  | 0 => by simp [wiN]
  | n + 1 => by
    unfold wiN
    rw [List.length_append]
    have := wiN_len T i n
    split
    · simp; omega
    · cases T[n]? <;> simp <;> omega
/-- the key that stands at a place is there alone -/
theorem at_ways (T : List (Int × Int)) (k : Int) : (atI T k = -1 ∧ ∀ x ∈ T, x.1 ≠ k) ∨ ∃ (i : Nat) (x : Int × Int), T[i]? = some x ∧ x.1 = k ∧ atI T k = i := by
  unfold atI
  cases h : T.findIdx? fun x => x.1 == k with
  | none =>
    left
    refine ⟨rfl, fun x hx => ?_⟩
    have := List.findIdx?_eq_none_iff.1 h x hx
    simpa using this
  | some i =>
    right
    obtain ⟨hi, h1, _⟩ := List.findIdx?_eq_some_iff_getElem.1 h
    exact ⟨i, T[i], List.getElem?_eq_getElem hi, by simpa using h1, rfl⟩
theorem pair_ne {T : List (Int × Int)} (hd : T.Pairwise fun a b => a.1 ≠ b.1) {i j : Nat} {x y : Int × Int} (hx : T[i]? = some x) (hy : T[j]? = some y) (e : x.1 = y.1) : i = j := by
  have hi := (List.getElem?_eq_some_iff.1 hx)
  have hj := (List.getElem?_eq_some_iff.1 hy)
  rw [List.pairwise_iff_getElem] at hd
  rcases Nat.lt_trichotomy i j with h | h | h
  · have := hd i j hi.1 hj.1 h
    rw [hi.2, hj.2] at this; exact absurd e this
  · exact h
  · have := hd j i hj.1 hi.1 h
    rw [hi.2, hj.2] at this; exact absurd e.symm this
theorem wiN_filter {T : List (Int × Int)} (hd : T.Pairwise fun a b => a.1 ≠ b.1) (k : Int) : ∀ n, n ≤ T.length → wiN T (atI T k) n = (T.take n).filter fun x => x.1 != k
  | 0, _ => by simp [wiN]
  | n + 1, h => by
    have hx : T[n]? = some T[n] := List.getElem?_eq_getElem (by omega)
    unfold wiN
    rw [wiN_filter hd k n (by omega), List.take_add_one, hx, List.filter_append]
    congr 1
    rcases at_ways T k with ⟨h1, h2⟩ | ⟨i, x, h1, h2, h3⟩
    · rw [h1, if_neg (by omega)]
      have := h2 T[n] (List.getElem_mem _)
      simp [this]
    · rw [h3]
      by_cases e : i = n
      · subst e
        rw [hx] at h1
        obtain rfl := (Option.some.inj h1)
        simp [h2]
      · rw [if_neg (by omega)]
        have : T[n].1 ≠ k := fun e2 => e (pair_ne hd h1 hx (h2.trans e2.symm))
        simp [this]
def drop1 (T : List (Int × Int)) (k : Int) : List (Int × Int) := T.filter fun x => x.1 != k
theorem wiN_all {T : List (Int × Int)} (hd : T.Pairwise fun a b => a.1 ≠ b.1) (k : Int) : wiN T (atI T k) T.length = drop1 T k := by
  rw [wiN_filter hd k _ (Nat.le_refl _), List.take_length]; rfl
theorem drop1_ok {T : List (Int × Int)} (h : ItOk T) (k : Int) : ItOk (drop1 T k) := ⟨fun x hx => h.e x (List.mem_filter.1 hx).1, h.d.filter _⟩
theorem drop1_look {T : List (Int × Int)} (k j : Int) : look (drop1 T k) j = if j = k then none else look T j := by
  induction T with
  | nil => simp [drop1, look_nil]
  | cons x T ih =>
    unfold drop1 at ih ⊢
    by_cases h : x.1 = k
    · rw [List.filter_cons_of_neg (by simpa using h), ih, look_cons]
      by_cases e : j = k
      · simp [e]
      · have : ¬ x.1 = j := fun e2 => e (e2.symm.trans h)
        simp [e, this]
    · rw [List.filter_cons_of_pos (by simpa using h), look_cons, look_cons, ih]
      by_cases e : j = k
      · have : ¬ x.1 = j := fun e2 => h (e2.trans e)
        simp [e, this, h]
      · simp [e]
theorem push_ok {T : List (Int × Int)} (h : ItOk T) (k : Int) (hk : 0 ≤ k ∧ k < 8) (v : Int) (hv : 0 ≤ v ∧ v ≤ 65535) : ItOk (drop1 T k ++ [(k, v)]) := by
  have h1 := drop1_ok h k
  refine ⟨fun x hx => ?_, ?_⟩
  · rcases List.mem_append.1 hx with hx | hx
    · exact h1.e x hx
    · rw [List.mem_singleton] at hx; subst hx; exact ⟨hk, hv⟩
  · rw [List.pairwise_append]
    refine ⟨h1.d, by simp, fun a ha b hb => ?_⟩
    rw [List.mem_singleton] at hb; subst hb
    have := (List.mem_filter.1 ha).2
    simpa using this
/-- the document's step -/
def stepL (T : List (Int × Int)) (x : Op5) : List (Int × Int) × (Int × Int) × Int :=
  if 8 ≤ x.k ∨ x.f < 6 ∨ 9 < x.f then (T, (0, 0), 10)
  else if x.f = 6 then (T, (match look T x.k with | some v => (1, v) | none => (2, 0)), 0)
  else if x.f = 7 then (drop1 T x.k ++ [(x.k, x.a)], (0, 0), 0)
  else if x.f = 8 then (match look T x.k with | some _ => (drop1 T x.k, (3, 0), 0) | none => (T, (4, 0), 0))
  else (match look T x.k with | some v => (if v = x.a then (drop1 T x.k ++ [(x.k, x.b)], (3, 0), 0) else (T, (4, 0), 0)) | none => (T, (4, 0), 0))
theorem lay_push {T : List (Int × Int)} (h : ItOk T) (k : Nat) (hk : k < 8) (v : Int) (hv : 0 ≤ v ∧ v ≤ 65535) : kvN (drop1 T k ++ [((k : Int), v)]) = (kvN T).lay k v := by
  obtain ⟨h1, h2⟩ := kvN_look h
  obtain ⟨h3, h4⟩ := kvN_look (push_ok h (k : Int) (by omega) v hv)
  refine KV.ext_ok h3 (h1.lay k hk v hv) (fun j hj => ?_) (fun j hj => ?_)
  · rw [(h4 j hj).1, KV.has_lay h1 k j hk, (h2 j hj).1, look_app, drop1_look, look_cons, look_nil]
    by_cases e : j = k
    · subst e; simp
    · have e1 : ¬ (j : Int) = (k : Int) := by omega
      have e2 : ¬ (k : Int) = (j : Int) := by omega
      simp [e, e1, e2]
  · rw [(h4 j hj).2, KV.get_lay _ k j _ hk, (h2 j hj).2, look_app, drop1_look, look_cons, look_nil]
    by_cases e : j = k
    · subst e; simp
    · have e1 : ¬ (j : Int) = (k : Int) := by omega
      have e2 : ¬ (k : Int) = (j : Int) := by omega
      simp [e, e1, e2]
theorem del_drop {T : List (Int × Int)} (h : ItOk T) (k : Nat) (hk : k < 8) : kvN (drop1 T k) = (kvN T).del k := by
  obtain ⟨h1, h2⟩ := kvN_look h
  obtain ⟨h3, h4⟩ := kvN_look (drop1_ok h (k : Int))
  refine KV.ext_ok h3 (h1.del k hk) (fun j hj => ?_) (fun j hj => ?_)
  · rw [(h4 j hj).1, KV.has_del h1 k j hk, (h2 j hj).1, drop1_look]
    by_cases e : j = k
    · subst e; simp
    · have e1 : ¬ (j : Int) = (k : Int) := by omega
      simp [e, e1]
  · rw [(h4 j hj).2, KV.get_del _ k j hk, (h2 j hj).2, drop1_look]
    by_cases e : j = k
    · subst e; simp
    · have e1 : ¬ (j : Int) = (k : Int) := by omega
      simp [e, e1]
theorem drop_none {T : List (Int × Int)} {k : Int} (h : look T k = none) : drop1 T k = T := by
  unfold drop1
  rw [List.filter_eq_self]
  intro x hx
  have : x.1 ≠ k := fun e => by
    unfold look at h
    rw [Option.map_eq_none_iff, List.find?_eq_none] at h
    exact h x hx (by simpa using e)
  simpa using this
/-- THE LAW of the step -/
theorem step_law {T : List (Int × Int)} (h : ItOk T) {x : Op5} (hx : x.ok) : ItOk (stepL T x).1 ∧ kvN (stepL T x).1 = (stp (kvN T) x).1 ∧ (stepL T x).2 = (stp (kvN T) x).2 := by
  have hk := hx.k
  have ha := hx.a
  have hb := hx.b
  unfold in8 at hk
  unfold in16 at ha hb
  obtain ⟨f, o, k, a, b⟩ := x
  dsimp only at hk ha hb
  obtain ⟨K, rfl⟩ := Int.eq_ofNat_of_zero_le hk.1
  unfold stepL stp
  dsimp only
  by_cases h8 : 8 ≤ (K : Int)
  · rw [if_pos (.inl h8), if_pos h8]; exact ⟨h, rfl, rfl⟩
  · rw [if_neg h8, Int.toNat_natCast]
    have hK : K < 8 := by omega
    obtain ⟨h1, h2⟩ := kvN_look h
    obtain ⟨h3, h4⟩ := h2 K hK
    by_cases h6 : f = 6
    · subst h6
      rw [if_neg (by omega), if_pos rfl, if_pos rfl, h3, h4]
      refine ⟨h, rfl, ?_⟩
      cases look T K <;> simp
    · by_cases h7 : f = 7
      · subst h7
        rw [if_neg (by omega), if_neg h6, if_pos rfl, if_neg h6, if_pos rfl]
        exact ⟨push_ok h _ (by omega) a ha, lay_push h K hK a ha, rfl⟩
      · by_cases h8' : f = 8
        · subst h8'
          rw [if_neg (by omega), if_neg h6, if_neg h7, if_pos rfl, if_neg h6, if_neg h7, if_pos rfl, h3]
          cases hl : look T K with
          | none =>
            refine ⟨h, ?_, by simp⟩
            show kvN T = (kvN T).del K
            rw [← del_drop h K hK, drop_none hl]
          | some v => exact ⟨drop1_ok h _, del_drop h K hK, by simp⟩
        · by_cases h9 : f = 9
          · subst h9
            rw [if_neg (by omega), if_neg h6, if_neg h7, if_neg h8', if_neg h6, if_neg h7, if_neg h8', if_pos rfl, h3, h4]
            cases hl : look T K with
            | none => simp; exact h
            | some v =>
              by_cases e : v = a
              · subst e
                simp
                exact ⟨push_ok h _ (by omega) b hb, lay_push h K hK b hb⟩
              · simp [e]; exact h
          · rw [if_pos (by omega), if_neg h6, if_neg h7, if_neg h8', if_neg h9]
            exact ⟨h, rfl, rfl⟩
theorem stepL_len {T : List (Int × Int)} (x : Op5) : (stepL T x).1.length ≤ T.length + 1 := by
  have h1 : ∀ k, (drop1 T k).length ≤ T.length := fun k => (List.filter_sublist).length_le
  unfold stepL
  have := h1 x.k
  repeat' split
  all_goals (first | (simp; done) | (simp; omega))
end Go.Proofs.Ytoidbmgoofbcfaa
