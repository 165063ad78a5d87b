/- The document's Of and Place. -/
import Derived.Test.YtggbcailaeebfaaRefp
namespace Go.Proofs.Ytggbcailaeebfaa
open Go.RowKit Go.Um
set_option linter.unusedSimpArgs false
set_option linter.unusedVariables false
set_option maxHeartbeats 4000000
set_option maxRecDepth 100000
def ROfPost (T : Nat → Prop) (q : Nat) (l : List Int) (w : World) (e : Ending) (w' : World) : Prop := ∃ v, e = .returned v ∧ RowV T w q v l ∧ w = w'
theorem rowV_none (T : Nat → Prop) (w : World) (q : Nat) : RowV T w q (.slice none 0 0) [] := ⟨none, 0, 0, 0, rfl, slat_none w, fun h => absurd h (by decide)⟩
theorem take_snoc {α : Type} {l : List α} {i : Nat} {x : α} (h : l[i]? = some x) : l.take (i + 1) = l.take i ++ [x] := by
  rw [List.take_add_one, h]; rfl
theorem size22 : (Try.prog.info? 22).map (·.size) = some 1 := by kernel_rfl
theorem rof_out (T : Nat → Prop) (q k : Nat) (w : World) (hk : 8 ≤ k) : Calls Try.prog 31 #[.pointer (some ⟨q, 0, none⟩), .int .u8 k] w (ROfPost T q [] w) := by
  have t1 : decide ((k : Int) ≤ 7) = false := by simp; omega
  have t2 : ¬ (k : Int) ≤ 7 := by omega
  go_enter Try.func31, Try.ntmps31
  go_wp2_with fail
  go_loop [5, 6] (fun t5 t6 => t5 = .slice none 0 0 ∧ t6 = .int .i64 0) (fun _ _ => 0)
  case atStart => exact ⟨rfl, rfl⟩
  case round =>
    obtain ⟨rfl, rfl⟩ := hrel
    go_wp2
    go_ret
    exact ⟨_, rfl, rowV_none _ _ _, rfl⟩
theorem rof_in (T : Nat → Prop) (q k : Nat) (M : Nat → List (List Int)) (w : World) (h : RefAt T w q M) (hk : k < 8) (hn : (M k).length ≤ 1000) : Calls Try.prog 31 #[.pointer (some ⟨q, 0, none⟩), .int .u8 k] w (ROfPost T q (longM (M k)) w) := by
  obtain ⟨ao, cap, b, o, vs, c0, _, hs, _, hv⟩ := h.row k hk
  have hidx := hs.idx (P := Try.prog) (t := 40) (e := 22) (by kernel_rfl) size22 (by decide)
  obtain ⟨rows, hrows⟩ : ∃ rows, rows = M k := ⟨_, rfl⟩
  rw [← hrows] at hidx c0 hs hv hn ⊢
  obtain ⟨n, hnn⟩ : ∃ n, n = rows.length := ⟨_, rfl⟩
  rw [← hnn] at hidx c0 hs hn
  have HS := Lib.hid hs
  have HV := Lib.hid hv
  have HN := Lib.hid hnn
  have t1 : decide ((k : Int) ≤ 7) = true := by simp; omega
  have t2 : (k : Int) ≤ 7 := by omega
  have b0 : (0 : Int) ≤ (k : Int) := by omega
  have b1 : (k : Int) < 8 := by omega
  clear h hs hv hrows hnn hk
  go_enter Try.func31, Try.ntmps31
  go_wp2_with fail
  go_loop [5, 6] (fun t5 t6 => ∃ i : Nat, i ≤ n ∧ t6 = .int .i64 i ∧ ∃ l, Hid (l = longM (rows.take i)) ∧ ∃ ao' cap' m, t5 = .slice ao' m cap' ∧ Hid (m = l.length) ∧ Hid (RowV T w q t5 l)) (fun _ t6 => n - (intOf t6).toNat)
  case atStart => exact ⟨0, Nat.zero_le _, rfl, [], Lib.hid rfl, none, 0, 0, rfl, Lib.hid rfl, Lib.hid (rowV_none _ _ _)⟩
  case round =>
    obtain ⟨i, hi, rfl, l, hl, ao', cap', m, rfl, hm, hrv⟩ := hrel
    by_cases hlt : i < n
    · have i1 : (0 : Int) ≤ (i : Int) := by omega
      have i2 : (i : Int) < (n : Int) := by omega
      have i3 : decide ((i : Int) < (n : Int)) = true := decide_eq_true i2
      obtain ⟨r, hr⟩ : ∃ r, rows[i]? = some r := ⟨_, List.getElem?_eq_getElem (by rw [← HN.out]; exact hlt)⟩
      obtain ⟨v, hvi, hrow⟩ := HV.out.2 i r hr
      obtain ⟨ao2, cap2, b2, o2, rfl, hs2, ht2⟩ := id hrow
      obtain ⟨m2, hm2⟩ : ∃ m, m = r.length := ⟨_, rfl⟩
      rw [← hm2] at hvi hrow
      have c2 := HS.out.cell i _ hvi
      have HR := Lib.hid hr
      have HM2 := Lib.hid hm2
      have HROW := Lib.hid hrow
      clear hr hm2 hs2 ht2 hvi hrow
      by_cases hmm : m < m2
      · have u1 : (m : Int) < (m2 : Int) := by omega
        go_wp2_with fail
        go_round
        case rel =>
          refine ⟨i + 1, by omega, by go_num, r, Lib.hid ?_, ao2, cap2, m2, rfl, HM2, HROW⟩
          rw [take_snoc HR.out, longM_snoc, ← hl.out, if_pos (by rw [← hm.out, ← HM2.out]; exact hmm)]
        case measure => simp [intOf]; omega
      · have u1 : ¬ (m : Int) < (m2 : Int) := by omega
        go_wp2_with fail
        go_round
        case rel =>
          refine ⟨i + 1, by omega, by go_num, l, Lib.hid ?_, ao', cap', m, rfl, hm, hrv⟩
          rw [take_snoc HR.out, longM_snoc, ← hl.out, if_neg (by rw [← hm.out, ← HM2.out]; exact hmm)]
        case measure => simp [intOf]; omega
    · have i2 : ¬ (i : Int) < (n : Int) := by omega
      have i3 : decide ((i : Int) < (n : Int)) = false := decide_eq_false i2
      have HE := Lib.hid (show i = n by omega)
      go_wp2
      go_ret
      have e : l = longM rows := by rw [hl.out, HE.out, HN.out, List.take_length]
      rw [← e]
      exact ⟨_, rfl, hrv.out, rfl⟩
theorem rof_any (T : Nat → Prop) (q k : Nat) (M : Nat → List (List Int)) (L : Nat → List Int) (w : World) (h : RefAt T w q M) (hk : k ≤ 255) (hn : ∀ j, (M j).length ≤ 1000) (hR : Rel L M) : Calls Try.prog 31 #[.pointer (some ⟨q, 0, none⟩), .int .u8 k] w (ROfPost T q (keyL L k) w) := by
  by_cases hk8 : k < 8
  · have := rof_in T q k M w h hk8 (hn k)
    rw [(hR k hk8).long] at this
    rw [show keyL L k = L k from if_pos hk8]
    exact this
  · rw [show keyL L k = [] from if_neg hk8]
    exact rof_out T q k w (by omega)
/-- Place of the document: below 0, if it is nowhere -/
theorem rplace_any (T : Nat → Prop) (q k : Nat) (M : Nat → List (List Int)) (L : Nat → List Int) (v : Int) (w : World) (h : RefAt T w q M) (hk : k ≤ 255) (hn : ∀ j, (M j).length ≤ 1000) (hR : Rel L M) (h32 : (keyL L k).length ≤ 32) :
    Calls Try.prog 32 #[.pointer (some ⟨q, 0, none⟩), .int .u8 k, .int .u16 v] w fun e w' => e = .returned (.int .i64 (ix (keyL L k) v)) ∧ Qt w w' := by
  have HO := Lib.hid (rof_any T q k M L w h hk hn hR)
  obtain ⟨l, hl⟩ : ∃ l, l = keyL L k := ⟨_, rfl⟩
  rw [← hl] at HO h32 ⊢
  obtain ⟨n, hnn⟩ : ∃ n, n = l.length := ⟨_, rfl⟩
  have HN := Lib.hid hnn
  rw [← hnn] at h32
  clear h hR hl hnn
  go_enter Try.func32, Try.ntmps32
  go_wp2_with fail
  refine HO.out.mono ?_
  rintro e w1 ⟨vo, rfl, ⟨ao, cap, b, o, rfl, hs, _⟩, rfl⟩
  rw [← HN.out] at hs ⊢
  have hidx := hs.idx (P := Try.prog) (t := 22) Try.underlying22 size37 (by decide)
  have HS := Lib.hid hs
  clear hs
  go_wp2_with fail
  go_loopw [8] (fun t8 wr => ∃ i : Nat, i ≤ n ∧ t8 = .int .i64 i ∧ Hid (v ∉ l.take i) ∧ Hid (Qt w wr)) (fun t8 _ => n - (intOf t8).toNat)
  case atStart => exact ⟨0, Nat.zero_le _, rfl, Lib.hid (by simp), Lib.hid (Qt.refl w)⟩
  case round =>
    obtain ⟨i, hi, rfl, hno, hqt⟩ := hrel
    by_cases hlt : i < n
    · have i1 : (0 : Int) ≤ (i : Int) := by omega
      have i2 : (i : Int) < (n : Int) := by omega
      obtain ⟨x, hx⟩ : ∃ x, l[i]? = some x := ⟨_, List.getElem?_eq_getElem (by rw [← HN.out]; exact hlt)⟩
      have c2 := val_at (HS.out.below hqt.out.below) hx
      have HX := Lib.hid hx
      clear hx
      by_cases he : x = v
      · subst he
        go_wp2
        go_ret
        exact ⟨by rw [ix_hit HX.out hno.out]; rfl, hqt.out⟩
      · have hf : (x == v) = false := by simpa using he
        go_wp2_with fail
        go_round
        case rel =>
          refine ⟨i + 1, by omega, by go_num, Lib.hid ?_, hqt⟩
          rw [take_snoc HX.out]
          simp only [List.mem_append, List.mem_singleton, not_or]
          exact ⟨hno.out, fun e => he e.symm⟩
        case measure => simp [intOf]; omega
    · have i2 : ¬ (i : Int) < (n : Int) := by omega
      have HE := Lib.hid (show i = n by omega)
      go_wp2
      go_ret
      have h1 := hno.out
      rw [HE.out, HN.out, List.take_length] at h1
      exact ⟨by rw [ix_none h1]; rfl, hqt.out⟩
end Go.Proofs.Ytggbcailaeebfaa
