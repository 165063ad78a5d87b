/- The document's sets (umpireref15): Without, Down, Union; umpirelaw15's listed: contracts. Printed from Rw.tmpl. -/
import Derived.Test.YtfjccgihdnemkaaRb
import Derived.Deep.AppendLies
namespace Go.Proofs.Ytfjccgihdnemkaa
open Go.RowKit Go.Um
set_option linter.unusedSimpArgs false
set_option linter.unusedVariables false
set_option maxHeartbeats 4000000
set_option maxRecDepth 100000
/-- at the head of a round: what was kept of the first i -/
structure RwI (w : World) (f : Nat → List Nat) (i : Nat) (v : Value) (wr : World) : Prop where
  own : wr.ownsRow w.heap.size 3 1 v (f i).length (i64s (f i))
  below : Below w.heap.size w wr
def dropN (L : List Nat) (n : Int) : List Nat := L.filter fun (x : Nat) => decide (¬ (x : Int) = n)
theorem rwithout_any (v : Value) (L : List Nat) (n : Int) (w : World) (h : LisAt w v L) (hmax : L.length ≤ 70000) :
    Calls Try.prog 33 #[v, .int .i64 n] w (LisPost (dropN L n) w) := by
  obtain ⟨ao, cap, b, o, rfl, hs⟩ := h
  have hidx := hs.idx (P := Try.prog) (t := 22) Try.underlying22 size3i (by decide)
  obtain ⟨j0, hj, jz0, jz1, jz2⟩ := info_parts info3i
  obtain ⟨m, hm⟩ : ∃ m, m = L.length := ⟨_, rfl⟩
  rw [← hm] at hidx hmax hs ⊢
  obtain ⟨f, hf⟩ : ∃ f : Nat → List Nat, f = fun i => dropN (L.take i) n := ⟨_, rfl⟩
  have hlen : Hid (∀ i, i ≤ m → (f i).length ≤ 70000) := Lib.hid (fun i hi => by
    rw [hf]
    show (List.filter _ (L.take i)).length ≤ 70000
    have h1 := List.length_filter_le (fun (x : Nat) => decide (¬ (x : Int) = n)) (L.take i)
    rw [List.length_take] at h1
    omega)
  have hstep : Hid (∀ (i x : Nat), L[i]? = some x → f (i + 1) = f i ++ if (x : Int) = n then [] else [x]) := Lib.hid (fun i x hx => by
    rw [hf]
    show List.filter _ (L.take (i + 1)) = List.filter _ (L.take i) ++ _
    rw [List.take_add_one, hx, List.filter_append]
    by_cases e : (x : Int) = n <;> simp [e])
  have HL := Lib.hid hm
  have HS := Lib.hid hs
  have HF : Hid (f m = dropN L n) := Lib.hid (by rw [hf]; show dropN (L.take m) n = _; rw [hm, List.take_length])
  have HI0 : Hid (RwI w f 0 (.slice none 0 0) w) := Lib.hid (by rw [hf]; exact ⟨World.ownsRow_nil _ _ _ _, bz w⟩)
  clear hf hm hs
  go_enter Try.func33, Try.ntmps33
  go_wp2_with fail
  go_loopw [5, 6] (fun t5 t6 wr => ∃ i : Nat, i ≤ m ∧ t6 = .int .i64 i ∧ Hid (RwI w f i t5 wr)) (fun _ t6 _ => m - (intOf t6).toNat)
  case atStart => exact ⟨0, Nat.zero_le _, rfl, HI0⟩
  case round =>
    obtain ⟨i, hi, rfl, HI⟩ := hrel
    clear HI0
    by_cases hlt : i < m
    · have i1 : (0 : Int) ≤ (i : Int) := by omega
      have i2 : (i : Int) < (m : Int) := by omega
      obtain ⟨x, hx⟩ : ∃ x, L[i]? = some x := ⟨_, List.getElem?_eq_getElem (by rw [← HL.out]; exact hlt)⟩
      have g0 := (HS.out.below HI.out.below).cell i _ (i64s_at hx)
      have hst := hstep.out i x hx
      have hl1 := hlen.out i (by omega)
      clear hx
      by_cases e : (x : Int) = n
      · have t1 : ((x : Int) == n) = true := by simpa using e
        have t2 : ((x : Int) != n) = false := by simp [e]
        rw [if_pos e, List.append_nil] at hst
        have HI1 : Hid (RwI w f (i + 1) u5 wr) := Lib.hid ⟨by rw [hst]; exact HI.out.own, HI.out.below⟩
        have HE := Lib.hid e
        clear e hst
        go_wp2_with fail
        go_roundw
        case rel => exact ⟨i + 1, by omega, by go_num, HI1⟩
        case measure => simp [intOf]; omega
      · have t1 : ((x : Int) == n) = false := by simpa using e
        have t2 : ((x : Int) != n) = true := by simp [e]
        rw [if_neg e] at hst
        have HST := Lib.hid hst
        obtain ⟨k, hk⟩ : ∃ k, k = (f i).length := ⟨_, rfl⟩
        have own := HI.out.own
        rw [← hk] at own hl1
        have HOWN := Lib.hid own
        have HK := Lib.hid hk
        clear hst own hk
        go_wp2_with (at_builtin; refine wpList_append_lies _ rfl (.tmp 19) (.tmp 24) 22 rfl w.heap.size 3 j0 (.int .i64 0) 1 8 Try.underlying22 hj jz0 jz1 jz2 rfl (by decide) _ _ _ rfl (HOWN.out.alloc _) ⟨wr.heap.size, 0, none⟩ 1 1 [.int .i64 x] rfl rfl (new_cells _ _ _ _ (by simp)) (by simp [Value.oneCell']) (by decide) (by unfold maxLen; omega) (by omega) (by have := HI.out.below.size; simp; omega) _ rfl ?_)
        intro g cap2 wa hown2 hgrow2 hat hlt3
        have HI3 : Hid (RwI w f (i + 1) (.slice (some ⟨g, 0, none⟩) (k + 1) cap2) wa) := by
          refine Lib.hid ⟨?_, ?_⟩
          · have e1 : i64s (f i ++ [x]) = i64s (f i) ++ [.int .i64 (x : Int)] := by simp [i64s]
            rw [HST.out, e1, List.length_append, ← HK.out]; exact hown2
          · exact ((HI.out.below.alloc HI.out.below.size (.cells #[.int .i64 x] 3))).grown hgrow2 (by have := HI.out.below.size; simp; omega) (fun g' e => (HI.out.own.lt g' e).1)
        clear hown2 hgrow2 hat hlt3
        go_wp2_with fail
        go_roundw
        case rel => exact ⟨i + 1, by omega, by go_num, HI3⟩
        case measure => simp [intOf]; omega
    · have i2 : ¬ (i : Int) < (m : Int) := by omega
      obtain rfl : i = m := by omega
      go_wp2
      go_ret
      obtain ⟨aoF, capF, bF, oF, hvF, hsF, _⟩ := SlAt.owned HI.out.own
      rw [HF.out] at hvF hsF
      exact ⟨u5, rfl, ⟨aoF, capF, bF, oF, hvF, hsF⟩, HI.out.below⟩
def downL (L : List Nat) (d : Nat) : List Nat := (L.filter fun x => decide (d ≤ x)).map (· - d)
theorem rdown_nat (v : Value) (L : List Nat) (n : Int) (d : Nat) (hd : d = n.toNat) (w : World) (h : LisAt w v L) (hmax : L.length ≤ 70000) (hb : ∀ x ∈ L, x ≤ 65535) :
    Calls Try.prog 36 #[v, .int .i64 n] w (LisPost (downL L d) w) := by
  obtain ⟨ao, cap, b, o, rfl, hs⟩ := h
  have hidx := hs.idx (P := Try.prog) (t := 22) Try.underlying22 size3i (by decide)
  obtain ⟨j0, hj, jz0, jz1, jz2⟩ := info_parts info3i
  obtain ⟨m, hm⟩ : ∃ m, m = L.length := ⟨_, rfl⟩
  rw [← hm] at hidx hmax hs ⊢
  obtain ⟨f, hf⟩ : ∃ f : Nat → List Nat, f = fun i => downL (L.take i) d := ⟨_, rfl⟩
  have hlen : Hid (∀ i, i ≤ m → (f i).length ≤ 70000) := Lib.hid (fun i hi => by
    rw [hf]
    show ((List.filter _ (L.take i)).map _).length ≤ 70000
    have h1 := List.length_filter_le (fun x => decide (d ≤ x)) (L.take i)
    rw [List.length_take] at h1
    rw [List.length_map]
    omega)
  have hstep : Hid (∀ i x, L[i]? = some x → f (i + 1) = f i ++ if d ≤ x then [x - d] else []) := Lib.hid (fun i x hx => by
    rw [hf]
    show (List.filter _ (L.take (i + 1))).map _ = (List.filter _ (L.take i)).map _ ++ _
    rw [List.take_add_one, hx, List.filter_append, List.map_append]
    by_cases e : d ≤ x <;> simp [e])
  have HBD := Lib.hid hb
  have HL := Lib.hid hm
  have HS := Lib.hid hs
  have HF : Hid (f m = downL L d) := Lib.hid (by rw [hf]; show downL (L.take m) d = _; rw [hm, List.take_length])
  have HI0 : Hid (RwI w f 0 (.slice none 0 0) w) := Lib.hid (by rw [hf]; exact ⟨World.ownsRow_nil _ _ _ _, bz w⟩)
  have hcase : (n < 0 ∧ d = 0) ∨ (¬ n < 0 ∧ n = (d : Int)) := by omega
  clear hf hm hs hd hb
  rcases hcase with ⟨hn0, hd0⟩ | ⟨hn0, hnd⟩
  · have hdz : (0 : Int) = (d : Int) := by omega
    have HDZ := Lib.hid hd0
    clear hdz hd0
    go_enter Try.func36, Try.ntmps36
    go_wp2_with fail
    go_loopw [5, 6] (fun t5 t6 wr => ∃ i : Nat, i ≤ m ∧ t6 = .int .i64 i ∧ Hid (RwI w f i t5 wr)) (fun _ t6 _ => m - (intOf t6).toNat)
    case atStart => exact ⟨0, Nat.zero_le _, rfl, HI0⟩
    case round =>
      obtain ⟨i, hi, rfl, HI⟩ := hrel
      clear HI0
      by_cases hlt : i < m
      · have i1 : (0 : Int) ≤ (i : Int) := by omega
        have i2 : (i : Int) < (m : Int) := by omega
        obtain ⟨x, hx⟩ : ∃ x, L[i]? = some x := ⟨_, List.getElem?_eq_getElem (by rw [← HL.out]; exact hlt)⟩
        have g0 := (HS.out.below HI.out.below).cell i _ (i64s_at hx)
        have hx16 := HBD.out x (List.mem_of_getElem? hx)
        have hst := hstep.out i x hx
        have hl1 := hlen.out i (by omega)
        clear hx
        by_cases e : d ≤ x
        · have t1 : (0 : Int) ≤ (x : Int) := by omega
          rw [if_pos e] at hst
          obtain ⟨y, hy⟩ : ∃ y, y = x - d := ⟨_, rfl⟩
          rw [← hy] at hst
          have hd0 := HDZ.out
          have t2 : (x : Int) - (0 : Int) = (y : Int) := by omega
          have t5 : (x : Int) = (y : Int) := by omega
          clear hd0
          have t3 : IntKind.i64.wrap (y : Int) = (y : Int) := IntWalk.i64_in _ (by omega)
          have t4 : IntKind.i64.wrap (x : Int) = (x : Int) := IntWalk.i64_in _ (by omega)
          have HST := Lib.hid hst
          have HY := Lib.hid hy
          obtain ⟨k, hk⟩ : ∃ k, k = (f i).length := ⟨_, rfl⟩
          have own := HI.out.own
          rw [← hk] at own hl1
          have HOWN := Lib.hid own
          have HK := Lib.hid hk
          clear hst own hk hy
          go_wp2_with (at_builtin; refine wpList_append_lies _ rfl (.tmp 21) (.tmp 28) 22 rfl w.heap.size 3 j0 (.int .i64 0) 1 8 Try.underlying22 hj jz0 jz1 jz2 rfl (by decide) _ _ _ rfl (HOWN.out.alloc _) ⟨wr.heap.size, 0, none⟩ 1 1 [.int .i64 y] rfl rfl (new_cells _ _ _ _ (by simp)) (by simp [Value.oneCell']) (by decide) (by unfold maxLen; omega) (by omega) (by have := HI.out.below.size; simp; omega) _ rfl ?_)
          intro g cap2 wa hown2 hgrow2 hat hlt3
          have HI3 : Hid (RwI w f (i + 1) (.slice (some ⟨g, 0, none⟩) (k + 1) cap2) wa) := by
            refine Lib.hid ⟨?_, ?_⟩
            · have e1 : i64s (f i ++ [y]) = i64s (f i) ++ [.int .i64 (y : Int)] := by simp [i64s]
              rw [HST.out, e1, List.length_append, ← HK.out]; exact hown2
            · exact ((HI.out.below.alloc HI.out.below.size (.cells #[.int .i64 y] 3))).grown hgrow2 (by have := HI.out.below.size; simp; omega) (fun g' e => (HI.out.own.lt g' e).1)
          clear hown2 hgrow2 hat hlt3
          go_wp2_with fail
          go_roundw
          case rel => exact ⟨i + 1, by omega, by go_num, HI3⟩
          case measure => simp [intOf]; omega
        · exfalso
          have := HDZ.out
          omega
      · have i2 : ¬ (i : Int) < (m : Int) := by omega
        obtain rfl : i = m := by omega
        go_wp2
        go_ret
        obtain ⟨aoF, capF, bF, oF, hvF, hsF, _⟩ := SlAt.owned HI.out.own
        rw [HF.out] at hvF hsF
        exact ⟨u5, rfl, ⟨aoF, capF, bF, oF, hvF, hsF⟩, HI.out.below⟩
  · subst hnd
    go_enter Try.func36, Try.ntmps36
    go_wp2_with fail
    go_loopw [5, 6] (fun t5 t6 wr => ∃ i : Nat, i ≤ m ∧ t6 = .int .i64 i ∧ Hid (RwI w f i t5 wr)) (fun _ t6 _ => m - (intOf t6).toNat)
    case atStart => exact ⟨0, Nat.zero_le _, rfl, HI0⟩
    case round =>
      obtain ⟨i, hi, rfl, HI⟩ := hrel
      clear HI0
      by_cases hlt : i < m
      · have i1 : (0 : Int) ≤ (i : Int) := by omega
        have i2 : (i : Int) < (m : Int) := by omega
        obtain ⟨x, hx⟩ : ∃ x, L[i]? = some x := ⟨_, List.getElem?_eq_getElem (by rw [← HL.out]; exact hlt)⟩
        have g0 := (HS.out.below HI.out.below).cell i _ (i64s_at hx)
        have hx16 := HBD.out x (List.mem_of_getElem? hx)
        have hst := hstep.out i x hx
        have hl1 := hlen.out i (by omega)
        clear hx
        by_cases e : d ≤ x
        · have t1 : (d : Int) ≤ (x : Int) := by omega
          rw [if_pos e] at hst
          obtain ⟨y, hy⟩ : ∃ y, y = x - d := ⟨_, rfl⟩
          rw [← hy] at hst
          have t2 : (x : Int) - (d : Int) = (y : Int) := by omega
          have t3 : IntKind.i64.wrap (y : Int) = (y : Int) := IntWalk.i64_in _ (by omega)
          have t4 : IntKind.i64.wrap (x : Int) = (x : Int) := IntWalk.i64_in _ (by omega)
          have HST := Lib.hid hst
          have HY := Lib.hid hy
          obtain ⟨k, hk⟩ : ∃ k, k = (f i).length := ⟨_, rfl⟩
          have own := HI.out.own
          rw [← hk] at own hl1
          have HOWN := Lib.hid own
          have HK := Lib.hid hk
          clear hst own hk hy
          go_wp2_with (at_builtin; refine wpList_append_lies _ rfl (.tmp 21) (.tmp 28) 22 rfl w.heap.size 3 j0 (.int .i64 0) 1 8 Try.underlying22 hj jz0 jz1 jz2 rfl (by decide) _ _ _ rfl (HOWN.out.alloc _) ⟨wr.heap.size, 0, none⟩ 1 1 [.int .i64 y] rfl rfl (new_cells _ _ _ _ (by simp)) (by simp [Value.oneCell']) (by decide) (by unfold maxLen; omega) (by omega) (by have := HI.out.below.size; simp; omega) _ rfl ?_)
          intro g cap2 wa hown2 hgrow2 hat hlt3
          have HI3 : Hid (RwI w f (i + 1) (.slice (some ⟨g, 0, none⟩) (k + 1) cap2) wa) := by
            refine Lib.hid ⟨?_, ?_⟩
            · have e1 : i64s (f i ++ [y]) = i64s (f i) ++ [.int .i64 (y : Int)] := by simp [i64s]
              rw [HST.out, e1, List.length_append, ← HK.out]; exact hown2
            · exact ((HI.out.below.alloc HI.out.below.size (.cells #[.int .i64 y] 3))).grown hgrow2 (by have := HI.out.below.size; simp; omega) (fun g' e => (HI.out.own.lt g' e).1)
          clear hown2 hgrow2 hat hlt3
          go_wp2_with fail
          go_roundw
          case rel => exact ⟨i + 1, by omega, by go_num, HI3⟩
          case measure => simp [intOf]; omega
        · have t1 : ¬ (d : Int) ≤ (x : Int) := by omega
          rw [if_neg e, List.append_nil] at hst
          have HI1 : Hid (RwI w f (i + 1) u5 wr) := Lib.hid ⟨by rw [hst]; exact HI.out.own, HI.out.below⟩
          have HE := Lib.hid e
          clear e hst
          go_wp2_with fail
          go_roundw
          case rel => exact ⟨i + 1, by omega, by go_num, HI1⟩
          case measure => simp [intOf]; omega
      · have i2 : ¬ (i : Int) < (m : Int) := by omega
        obtain rfl : i = m := by omega
        go_wp2
        go_ret
        obtain ⟨aoF, capF, bF, oF, hvF, hsF, _⟩ := SlAt.owned HI.out.own
        rw [HF.out] at hvF hsF
        exact ⟨u5, rfl, ⟨aoF, capF, bF, oF, hvF, hsF⟩, HI.out.below⟩
end Go.Proofs.Ytfjccgihdnemkaa
