/- The document's sets (umpireref15): Has, With: contracts. Printed from Rb.tmpl. -/
import Derived.Test.YtfjccgihdnemkaaOf
import Derived.Test.YtfjccgihdnemkaaLisn
import Derived.Test.YtfjccgihdnemkaaGena
namespace Go.Proofs.Ytfjccgihdnemkaa
open Go.RowKit Go.Um
set_option linter.unusedSimpArgs false
set_option linter.unusedVariables false
set_option maxHeartbeats 2000000
set_option maxRecDepth 100000
def i64s (l : List Nat) : List Value := l.map fun (x : Nat) => Value.int .i64 (x : Int)
theorem i64s_len (l : List Nat) : (i64s l).length = l.length := by simp [i64s]
theorem i64s_at {l : List Nat} {i x : Nat} (h : l[i]? = some x) : (i64s l)[i]? = some (.int .i64 (x : Int)) := by simp [i64s, h]
/-- a list, as a value -/
def LisAt (w : World) (v : Value) (L : List Nat) : Prop := ∃ ao cap b o, v = .slice ao L.length cap ∧ SlAt w 1 L.length (i64s L) ao cap b o
theorem LisAt.below {w w' : World} {v : Value} {L : List Nat} (h : LisAt w v L) (hb : Below w.heap.size w w') : LisAt w' v L := by
  obtain ⟨ao, cap, b, o, hv, hs⟩ := h
  exact ⟨ao, cap, b, o, hv, hs.below hb⟩
theorem LisAt.nil (w : World) : LisAt w (.slice none 0 0) [] := ⟨none, 0, 0, 0, rfl, rfl, Nat.le_refl _, Nat.zero_le _, fun h => absurd h (by decide), fun h => absurd h (by decide), fun j u hu => by simp [i64s] at hu⟩
theorem rhas_any (v : Value) (L : List Nat) (n : Int) (w : World) (h : LisAt w v L) (hmax : L.length ≤ 100000) :
    Calls Try.prog 21 #[v, .int .i64 n] w fun e w' => e = .returned (.bool (L.any fun (x : Nat) => (x : Int) == n)) ∧ w = w' := by
  obtain ⟨ao, cap, b, o, rfl, hs⟩ := h
  have hidx := hs.idx (P := Try.prog) (t := 22) Try.underlying22 size3i (by decide)
  obtain ⟨m, hm⟩ : ∃ m, m = L.length := ⟨_, rfl⟩
  rw [← hm] at hidx hmax ⊢
  have HL := Lib.hid hm
  have HS := Lib.hid hs
  obtain ⟨B, hB⟩ : ∃ B, B = (L.any fun (x : Nat) => (x : Int) == n) := ⟨_, rfl⟩
  rw [← hB]
  have HB := Lib.hid hB
  clear hm hs hB
  go_enter Try.func21, Try.ntmps21
  go_wp2_with fail
  go_loop [5] (fun t5 => ∃ k : Nat, k ≤ m ∧ t5 = .int .i64 k ∧ Hid (∀ (j x : Nat), j < k → L[j]? = some x → ¬ (x : Int) = n)) (fun t5 => m - (intOf t5).toNat)
  case atStart => exact ⟨0, Nat.zero_le _, rfl, Lib.hid (fun j x h => absurd h (Nat.not_lt_zero _))⟩
  case round =>
    obtain ⟨k, hk, rfl, hno⟩ := hrel
    by_cases hlt : k < m
    · have i1 : (0 : Int) ≤ (k : Int) := by omega
      have i2 : (k : Int) < (m : Int) := by omega
      obtain ⟨x, hx⟩ : ∃ x, L[k]? = some x := ⟨_, List.getElem?_eq_getElem (by rw [← HL.out]; exact hlt)⟩
      have g0 := HS.out.cell k _ (i64s_at hx)
      have HX := Lib.hid hx
      clear hx
      by_cases e : (x : Int) = n
      · have t1 : ((x : Int) == n) = true := by simpa using e
        have hany : (L.any fun (x : Nat) => (x : Int) == n) = true := List.any_eq_true.2 ⟨x, List.mem_of_getElem? HX.out, t1⟩
        have HA := Lib.hid hany
        clear hany
        go_wp2
        go_ret
        exact ⟨by rw [HB.out, HA.out]; rfl, rfl⟩
      · have t1 : ((x : Int) == n) = false := by simpa using e
        have HE := Lib.hid e
        clear e
        go_wp2_with fail
        go_round
        case rel => exact ⟨k + 1, by omega, by go_num, Lib.hid (fun j y hj hy => by
          by_cases h : j < k
          · exact hno.out j y h hy
          · have : j = k := by omega
            subst this
            rw [HX.out] at hy
            cases hy
            exact HE.out)⟩
        case measure => simp [intOf]; omega
    · have i2 : ¬ (k : Int) < (m : Int) := by omega
      have hany : (L.any fun (x : Nat) => (x : Int) == n) = false := by
        rw [List.any_eq_false]
        intro x hx
        obtain ⟨j, hj⟩ := List.getElem?_of_mem hx
        have := hno.out j x (by have := (List.getElem?_eq_some_iff.1 hj).1; have := HL.out; omega) hj
        simpa using this
      have HA := Lib.hid hany
      clear hany
      go_wp2
      go_ret
      exact ⟨by rw [HB.out, HA.out]; rfl, rfl⟩
theorem any_mem (L : List Nat) (n : Nat) : (L.any fun (x : Nat) => (x : Int) == (n : Int)) = decide (n ∈ L) := by
  rw [Bool.eq_iff_iff, List.any_eq_true, decide_eq_true_iff]
  constructor
  · rintro ⟨x, hx, e⟩
    have : x = n := by have := eq_of_beq e; omega
    rwa [← this]
  · intro h
    exact ⟨n, h, by simp⟩
theorem slat_drop {w : World} {n cap b o : Nat} {cs : List Value} {ao : Option Addr} (h : SlAt w 1 n cs ao cap b o) (k : Nat) (hk : k ≤ n) : ∃ b' o', SlAt w 1 (n - k) (cs.drop k) (if cap = k then ao else ao.map (·.add k)) (cap - k) b' o' := by
  have hl := h.len
  have hle := h.le
  refine ⟨b, o + k, by rw [List.length_drop]; omega, by omega, by have := h.max; omega, fun hp => ?_, fun hp => h.lt (by rw [List.length_drop] at hp; omega), fun j u hu => ?_⟩
  · rw [List.length_drop] at hp
    rw [if_neg (by omega), h.addr (by omega)]
    simp [Addr.add_lit]
  · rw [List.getElem?_drop] at hu
    rw [Nat.add_assoc]; exact h.cell (k + j) u hu
def LisPost (L : List Nat) (w : World) (e : Ending) (w' : World) : Prop := ∃ v, e = .returned v ∧ LisAt w' v L ∧ Below w.heap.size w w'
theorem rwith_out (v : Value) (L : List Nat) (n : Int) (w : World) (h : LisAt w v L) (hm : mayB n = false) :
    Calls Try.prog 37 #[v, .int .i64 n] w (LisPost L w) := by
  have HH := Lib.hid h
  obtain ⟨ao, cap, b, o, rfl, hs⟩ := h
  have hmm := of_decide_eq_false hm
  clear hs hm
  by_cases h0 : n < 0
  · have t1 : decide (n < 0) = true := by simpa using h0
    clear hmm
    go_enter Try.func37, Try.ntmps37
    go_wp2
    go_ret
    exact ⟨_, rfl, HH.out, bz w⟩
  · have t1 : decide (n < 0) = false := by simpa using h0
    have h1 : 65535 < n := by omega
    have t2 : decide (65535 < n) = true := by simpa using h1
    clear hmm
    go_enter Try.func37, Try.ntmps37
    go_wp2
    go_ret
    exact ⟨_, rfl, HH.out, bz w⟩
theorem rwith_there (v : Value) (L : List Nat) (n : Nat) (w : World) (h : LisAt w v L) (hn : n ≤ 65535) (hm : n ∈ L) (hmax : L.length ≤ 100000) :
    Calls Try.prog 37 #[v, .int .i64 n] w (LisPost L w) := by
  have HH := Lib.hid h
  have HC := Lib.hid (rhas_any v L n w h hmax)
  rw [any_mem, decide_eq_true hm] at HC
  obtain ⟨ao, cap, b, o, rfl, hs⟩ := h
  have t1 : decide ((n : Int) < 0) = false := by simp
  have t2 : decide (65535 < (n : Int)) = false := by rw [decide_eq_false_iff_not]; omega
  have t3 : (n : Int) ≤ 65535 := by omega
  have t4 : (0 : Int) ≤ (n : Int) := by omega
  clear hs hm
  go_enter Try.func37, Try.ntmps37
  go_wp2_with fail
  refine HC.out.mono ?_
  rintro e w1 ⟨rfl, rfl⟩
  go_wp2
  go_ret
  exact ⟨_, rfl, HH.out, bz w⟩
theorem rwith_new (v : Value) (L : List Nat) (n : Nat) (w : World) (h : LisAt w v L) (hn : n ≤ 65535) (hm : n ∉ L) (hmax : L.length ≤ 70000) :
    Calls Try.prog 37 #[v, .int .i64 n] w (LisPost (insL L n) w) := by
  have HC := Lib.hid (rhas_any v L n w h (by omega))
  rw [any_mem, decide_eq_false hm] at HC
  obtain ⟨ao, cap, b, o, rfl, hs⟩ := h
  have hidx := hs.idx (P := Try.prog) (t := 22) Try.underlying22 size3i (by decide)
  obtain ⟨m, hml⟩ : ∃ m, m = L.length := ⟨_, rfl⟩
  rw [← hml] at hidx hmax HC hs ⊢
  have t1 : decide ((n : Int) < 0) = false := by simp
  have t2 : decide (65535 < (n : Int)) = false := by rw [decide_eq_false_iff_not]; omega
  have t3 : (n : Int) ≤ 65535 := by omega
  have t4 : (0 : Int) ≤ (n : Int) := by omega
  obtain ⟨j0, hj, jz0, jz1, jz2⟩ := info_parts info3i
  have HL := Lib.hid hml
  have HS := Lib.hid hs
  have HM := Lib.hid hm
  clear hml hs hm
  go_enter Try.func37, Try.ntmps37
  go_wp2_with fail
  refine HC.out.mono ?_
  rintro e w1 ⟨rfl, rfl⟩
  go_wp2_with fail
  go_loop [5] (fun t5 => ∃ k : Nat, k ≤ m ∧ t5 = .int .i64 k ∧ Hid (∀ (j x : Nat), j < k → L[j]? = some x → x < n)) (fun t5 => m - (intOf t5).toNat)
  case atStart => exact ⟨0, Nat.zero_le _, rfl, Lib.hid (fun j x h => absurd h (Nat.not_lt_zero _))⟩
  case round =>
    obtain ⟨k, hk, rfl, hlo⟩ := hrel
    have key : (k < m ∧ ∃ x, L[k]? = some x ∧ x < n) ∨ (∀ x, L[k]? = some x → ¬ x < n) := by
      by_cases hlt : k < m
      · obtain ⟨x, hx⟩ : ∃ x, L[k]? = some x := ⟨_, List.getElem?_eq_getElem (by rw [← HL.out]; exact hlt)⟩
        by_cases e : x < n
        · exact .inl ⟨hlt, x, hx, e⟩
        · exact .inr (fun y hy => by rw [hx] at hy; cases hy; exact e)
      · exact .inr (fun y hy => by have := (List.getElem?_eq_some_iff.1 hy).1; have := HL.out; omega)
    rcases key with ⟨hlt, x, hx, hxn⟩ | hno
    · have i1 : (0 : Int) ≤ (k : Int) := by omega
      have i2 : (k : Int) < (m : Int) := by omega
      have i3 : (x : Int) < (n : Int) := by omega
      have u1 : decide (x < n) = true := by simpa using hxn
      have g0 := HS.out.cell k _ (i64s_at hx)
      have HX := Lib.hid hx
      clear hx
      go_wp2_with fail
      go_round
      case rel => exact ⟨k + 1, by omega, by go_num, Lib.hid (fun j y hj hy => by
          by_cases h : j < k
          · exact hlo.out j y h hy
          · have : j = k := by omega
            subst this
            rw [HX.out] at hy
            cases hy
            exact hxn)⟩
      case measure => simp [intOf]; omega
    · have htk := take_while_len L n k (by have := HL.out; omega) hlo.out hno
      have hins : insL L n = L.take k ++ (n :: L.drop k) := by unfold insL; rw [if_neg HM.out, htk.1, htk.2]
      have hkc : k ≤ cap := by have := HS.out.le; omega
      have hkc2 : (k : Int) ≤ (cap : Int) := by omega
      have hkm2 : (k : Int) ≤ (m : Int) := by omega
      have HA1 : Hid (SlAt w 1 k (i64s (L.take k)) ao cap b o) := Lib.hid (by have := slat_take HS.out hk; rwa [show (i64s L).take k = i64s (L.take k) by simp [i64s, List.map_take]] at this)
      have HA2 : Hid (∃ b' o', SlAt w 1 (m - k) (i64s (L.drop k)) (if cap = k then ao else ao.map (·.add k)) (cap - k) b' o') := Lib.hid (by
        have h2 := slat_drop HS.out k hk
        rwa [show (i64s L).drop k = i64s (L.drop k) by simp [i64s, List.map_drop]] at h2)
      obtain ⟨aoD, haoD⟩ : ∃ a, a = (if cap = k then ao else ao.map (·.add k)) := ⟨_, rfl⟩
      rw [← haoD] at HA2
      obtain ⟨b', o', hA2⟩ := HA2.out
      have HA3 := Lib.hid hA2
      have HINS := Lib.hid hins
      have hsub : (m : Int) - (k : Int) = ((m - k : Nat) : Int) := by omega
      have HAO := Lib.hid haoD
      have hres : (if cap = k then ao else ao.map (·.add k)) = aoD := haoD.symm
      have tok1 : True := trivial
      have tok2 : True := trivial
      have tok3 : True := trivial
      have u1 : k < m → ∃ x : Nat, w.cell? ⟨b, o + k, none⟩ = some (.int .i64 x) ∧ ¬ (x : Int) < (n : Int) := fun hlt => by
        obtain ⟨x, hx⟩ : ∃ x, L[k]? = some x := ⟨_, List.getElem?_eq_getElem (by rw [← HL.out]; exact hlt)⟩
        exact ⟨x, HS.out.cell k _ (i64s_at hx), by have := hno x hx; omega⟩
      have U1 := Lib.hid u1
      clear htk hins hno hA2 HA2 haoD u1
      by_cases hlt : k < m
      · obtain ⟨x, g0, hx2⟩ := U1.out hlt
        have i1 : (0 : Int) ≤ (k : Int) := by omega
        have i2 : (k : Int) < (m : Int) := by omega
        have u2 : decide (x < n) = false := by rw [decide_eq_false_iff_not]; omega
        have u3 : (n : Int) ≤ (x : Int) := by omega
        go_wp2_with (first | (have _t := tok1; at_builtin; refine wpList_append_slat rfl (.tmp 33) (.tmp 36) 22 rfl w.heap.size 3 j0 (.int .i64 0) 1 8 Try.underlying22 hj jz0 jz1 jz2 rfl (by decide) (.slice none 0 0) 0 [] rfl (World.ownsRow_nil _ _ _ _) ao k cap b o (i64s (L.take k)) rfl HA1.out (by intro u hu; obtain ⟨y, _, rfl⟩ := List.mem_map.1 hu; rfl) (by unfold maxLen; omega) (by omega) (Nat.le_refl _) ?_; intro v1 w1 hown1 hgrow1 hat1; have HO1 := Lib.hid hown1; have HG1 := Lib.hid (below_own (bz w) (World.ownsRow_nil w w.heap.size 3 1) hgrow1 (Nat.le_refl _) (Nat.le_refl _)); clear tok1 hown1 hgrow1 hat1) | (have _t := tok2; at_builtin; refine wpList_append_slat rfl (.tmp 38) (.tmp 40) 22 rfl w.heap.size 3 j0 (.int .i64 0) 1 8 Try.underlying22 hj jz0 jz1 jz2 rfl (by decide) _ _ _ rfl (HO1.out.alloc _) _ 1 1 w1.heap.size 0 [.int .i64 n] rfl (SlAt.new w1 3 1 1 [.int .i64 n] w1.heap.size rfl rfl (by decide)) (by simp [Value.oneCell']) (by unfold maxLen; omega) (by omega) (by have := HG1.out.size; simp; omega) ?_; intro v2 w2 hown2 hgrow2 hat2; have HO2 := Lib.hid hown2; have HG2 := Lib.hid (below_own (HG1.out.alloc HG1.out.size (.cells #[.int .i64 n] 3)) (HO1.out.alloc (.cells #[.int .i64 n] 3)) hgrow2 (Nat.le_refl _) (by have := HG1.out.size; simp; omega)); clear tok2 hown2 hgrow2 hat2) | (have _t := tok3; at_builtin; refine wpList_append_slat rfl (.tmp 42) (.tmp 45) 22 rfl w.heap.size 3 j0 (.int .i64 0) 1 8 Try.underlying22 hj jz0 jz1 jz2 rfl (by decide) _ _ _ rfl HO2.out aoD (m - k) (cap - k) b' o' (i64s (L.drop k)) rfl (HA3.out.below HG2.out) (by intro u hu; obtain ⟨y, _, rfl⟩ := List.mem_map.1 hu; rfl) (by unfold maxLen; omega) (by omega) HG2.out.size ?_; intro v3 w3 hown3 hgrow3 hat3; have HO3 := Lib.hid hown3; have HG3 := Lib.hid (below_own HG2.out HO2.out hgrow3 (Nat.le_refl _) HG2.out.size); clear tok3 hown3 hgrow3 hat3))
        go_ret
        refine ⟨_, rfl, ?_, HG3.out⟩
        obtain ⟨aoF, capF, bF, oF, hvF, hsF, _⟩ := SlAt.owned HO3.out
        have hcs : [] ++ i64s (L.take k) ++ [Value.int .i64 (n : Int)] ++ i64s (L.drop k) = i64s (insL L n) := by rw [HINS.out]; simp [i64s]
        rw [hcs] at hsF
        have hlen : 0 + k + 1 + (m - k) = (insL L n).length := by rw [HINS.out]; simp; have := HL.out; omega
        rw [hlen] at hvF hsF
        exact ⟨aoF, capF, bF, oF, hvF, hsF⟩
      · have i2 : ¬ (k : Int) < (m : Int) := by omega
        go_wp2_with (first | (have _t := tok1; at_builtin; refine wpList_append_slat rfl (.tmp 33) (.tmp 36) 22 rfl w.heap.size 3 j0 (.int .i64 0) 1 8 Try.underlying22 hj jz0 jz1 jz2 rfl (by decide) (.slice none 0 0) 0 [] rfl (World.ownsRow_nil _ _ _ _) ao k cap b o (i64s (L.take k)) rfl HA1.out (by intro u hu; obtain ⟨y, _, rfl⟩ := List.mem_map.1 hu; rfl) (by unfold maxLen; omega) (by omega) (Nat.le_refl _) ?_; intro v1 w1 hown1 hgrow1 hat1; have HO1 := Lib.hid hown1; have HG1 := Lib.hid (below_own (bz w) (World.ownsRow_nil w w.heap.size 3 1) hgrow1 (Nat.le_refl _) (Nat.le_refl _)); clear tok1 hown1 hgrow1 hat1) | (have _t := tok2; at_builtin; refine wpList_append_slat rfl (.tmp 38) (.tmp 40) 22 rfl w.heap.size 3 j0 (.int .i64 0) 1 8 Try.underlying22 hj jz0 jz1 jz2 rfl (by decide) _ _ _ rfl (HO1.out.alloc _) _ 1 1 w1.heap.size 0 [.int .i64 n] rfl (SlAt.new w1 3 1 1 [.int .i64 n] w1.heap.size rfl rfl (by decide)) (by simp [Value.oneCell']) (by unfold maxLen; omega) (by omega) (by have := HG1.out.size; simp; omega) ?_; intro v2 w2 hown2 hgrow2 hat2; have HO2 := Lib.hid hown2; have HG2 := Lib.hid (below_own (HG1.out.alloc HG1.out.size (.cells #[.int .i64 n] 3)) (HO1.out.alloc (.cells #[.int .i64 n] 3)) hgrow2 (Nat.le_refl _) (by have := HG1.out.size; simp; omega)); clear tok2 hown2 hgrow2 hat2) | (have _t := tok3; at_builtin; refine wpList_append_slat rfl (.tmp 42) (.tmp 45) 22 rfl w.heap.size 3 j0 (.int .i64 0) 1 8 Try.underlying22 hj jz0 jz1 jz2 rfl (by decide) _ _ _ rfl HO2.out aoD (m - k) (cap - k) b' o' (i64s (L.drop k)) rfl (HA3.out.below HG2.out) (by intro u hu; obtain ⟨y, _, rfl⟩ := List.mem_map.1 hu; rfl) (by unfold maxLen; omega) (by omega) HG2.out.size ?_; intro v3 w3 hown3 hgrow3 hat3; have HO3 := Lib.hid hown3; have HG3 := Lib.hid (below_own HG2.out HO2.out hgrow3 (Nat.le_refl _) HG2.out.size); clear tok3 hown3 hgrow3 hat3))
        go_ret
        refine ⟨_, rfl, ?_, HG3.out⟩
        obtain ⟨aoF, capF, bF, oF, hvF, hsF, _⟩ := SlAt.owned HO3.out
        have hcs : [] ++ i64s (L.take k) ++ [Value.int .i64 (n : Int)] ++ i64s (L.drop k) = i64s (insL L n) := by rw [HINS.out]; simp [i64s]
        rw [hcs] at hsF
        have hlen : 0 + k + 1 + (m - k) = (insL L n).length := by rw [HINS.out]; simp; have := HL.out; omega
        rw [hlen] at hvF hsF
        exact ⟨aoF, capF, bF, oF, hvF, hsF⟩
theorem insL_len (L : List Nat) (n : Nat) : (insL L n).length ≤ L.length + 1 := by
  unfold insL
  split
  · omega
  · have := congrArg List.length (List.takeWhile_append_dropWhile (p := fun x => decide (x < n)) (l := L))
    rw [List.length_append] at this
    rw [List.length_append, List.length_cons]
    omega
def rins (L : List Nat) (n : Int) : List Nat := if mayB n then insL L n.toNat else L
theorem rwith_any (v : Value) (L : List Nat) (n : Int) (w : World) (h : LisAt w v L) (hmax : L.length ≤ 70000) :
    Calls Try.prog 37 #[v, .int .i64 n] w (LisPost (rins L n) w) := by
  unfold rins
  cases hm : mayB n
  · exact rwith_out v L n w h hm
  · have := of_decide_eq_true hm
    obtain ⟨k, rfl⟩ := Int.eq_ofNat_of_zero_le this.1
    rw [if_pos rfl, Int.toNat_natCast]
    by_cases hk : k ∈ L
    · have e : insL L k = L := by unfold insL; rw [if_pos hk]
      rw [e]
      exact rwith_there v L k w h (by omega) hk (by omega)
    · exact rwith_new v L k w h (by omega) hk hmax
theorem rins_n {L : List Nat} {N : Nat} (h : LisN L N) (n : Int) : LisN (rins L n) (withN N n) := by
  unfold rins withN
  cases hm : mayB n
  · exact h
  · have := of_decide_eq_true hm
    rw [if_pos rfl, if_pos rfl]
    exact h.ins (by omega)
def lisOf (xs : List Int) : List Nat := xs.foldl rins []
theorem lisOf_snoc (xs : List Int) (x : Int) : lisOf (xs ++ [x]) = rins (lisOf xs) x := by simp [lisOf]
theorem lisOf_n (xs : List Int) : LisN (lisOf xs) (ofN xs) := by
  have key : ∀ (xs : List Int) (L : List Nat) (N : Nat), LisN L N → LisN (xs.foldl rins L) (xs.foldl withN N) := by
    intro xs
    induction xs with
    | nil => intro L N h; exact h
    | cons x xs ih => intro L N h; exact ih _ _ (rins_n h x)
  exact key xs [] 0 LisN.nil
theorem lisOf_len (xs : List Int) : (lisOf xs).length ≤ xs.length := by
  have key : ∀ (xs : List Int) (L : List Nat), (xs.foldl rins L).length ≤ L.length + xs.length := by
    intro xs
    induction xs with
    | nil => intro L; simp
    | cons x xs ih =>
      intro L
      have h1 := ih (rins L x)
      have h2 : (rins L x).length ≤ L.length + 1 := by
        unfold rins; split
        · exact insL_len _ _
        · omega
      simp only [List.foldl_cons, List.length_cons]
      omega
  simpa [lisOf] using key xs []
end Go.Proofs.Ytfjccgihdnemkaa
