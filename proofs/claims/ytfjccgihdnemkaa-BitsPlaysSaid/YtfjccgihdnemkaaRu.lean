/- The document's Union (umpireref15), and umpirelaw15's listed: contracts. Printed from Ru.tmpl. -/
import Derived.Test.YtfjccgihdnemkaaRw
namespace Go.Proofs.Ytfjccgihdnemkaa
open Go.RowKit Go.Um
set_option linter.unusedSimpArgs false
set_option linter.unusedVariables false
set_option maxHeartbeats 4000000
set_option maxRecDepth 100000
def uniL (L M : List Nat) : List Nat := M.foldl (fun a (x : Nat) => rins a (x : Int)) L
theorem uniL_snoc (L M : List Nat) (x : Nat) : uniL L (M ++ [x]) = rins (uniL L M) (x : Int) := by simp [uniL]
theorem rins_len (L : List Nat) (n : Int) : (rins L n).length ≤ L.length + 1 := by
  unfold rins
  split
  · exact insL_len _ _
  · omega
theorem uniL_len (L : List Nat) : ∀ (M : List Nat), (uniL L M).length ≤ L.length + M.length := by
  intro M
  unfold uniL
  induction M generalizing L with
  | nil => simp
  | cons x M ih =>
    have h1 := ih (rins L (x : Int))
    have h2 := rins_len L (x : Int)
    simp only [List.foldl_cons, List.length_cons]
    omega
theorem runion_any (v u : Value) (L M : List Nat) (w : World) (h : LisAt w v L) (h' : LisAt w u M) (hmax : L.length + M.length ≤ 70000) :
    Calls Try.prog 34 #[v, u] w (LisPost (uniL L M) w) := by
  obtain ⟨ao, cap, b, o, rfl, hs⟩ := h'
  have hidx := hs.idx (P := Try.prog) (t := 22) Try.underlying22 size3i (by decide)
  obtain ⟨m, hm⟩ : ∃ m, m = M.length := ⟨_, rfl⟩
  rw [← hm] at hidx hmax hs ⊢
  have HL := Lib.hid hm
  have HS := Lib.hid hs
  have HI0 : Hid (LisAt w v (uniL L (M.take 0)) ∧ Below w.heap.size w w) := Lib.hid ⟨h, bz w⟩
  have HLEN : Hid (∀ i, i ≤ m → (uniL L (M.take i)).length ≤ 70000) := Lib.hid (fun i hi => by
    have := uniL_len L (M.take i)
    rw [List.length_take] at this
    omega)
  clear hm hs h
  go_enter Try.func34, Try.ntmps34
  go_wp2_with fail
  go_loopw [0, 5] (fun t0 t5 wr => ∃ i : Nat, i ≤ m ∧ t5 = .int .i64 i ∧ Hid (LisAt wr t0 (uniL L (M.take i)) ∧ Below w.heap.size w wr)) (fun _ t5 _ => m - (intOf t5).toNat)
  case atStart => exact ⟨0, Nat.zero_le _, rfl, HI0⟩
  case round =>
    obtain ⟨i, hi, rfl, HI⟩ := hrel
    clear HI0
    by_cases hlt : i < m
    · have i1 : (0 : Int) ≤ (i : Int) := by omega
      have i2 : (i : Int) < (m : Int) := by omega
      obtain ⟨x, hx⟩ : ∃ x, M[i]? = some x := ⟨_, List.getElem?_eq_getElem (by rw [← HL.out]; exact hlt)⟩
      have g0 := (HS.out.below HI.out.2).cell i _ (i64s_at hx)
      have HX : Hid (uniL L (M.take (i + 1)) = rins (uniL L (M.take i)) (x : Int)) := Lib.hid (by rw [take_snoc M i x hx, uniL_snoc])
      have HC := Lib.hid (rwith_any _ _ (x : Int) wr HI.out.1 (HLEN.out i hi))
      rw [← HX.out] at HC
      clear hx
      go_wp2_with fail
      refine HC.out.mono ?_
      rintro e w1 ⟨v1, rfl, hl1, hb1⟩
      have HI1 : Hid (LisAt w1 v1 (uniL L (M.take (i + 1))) ∧ Below w.heap.size w w1) := Lib.hid ⟨hl1, bt HI.out.2 hb1⟩
      clear hl1 hb1 HC
      go_wp2_with fail
      go_roundw
      case rel => exact ⟨i + 1, by omega, by go_num, HI1⟩
      case measure => simp [intOf]; omega
    · have i2 : ¬ (i : Int) < (m : Int) := by omega
      obtain rfl : i = m := by omega
      go_wp2
      go_ret
      have h1 := HI.out.1
      rw [HL.out, List.take_length] at h1
      exact ⟨u0, rfl, h1, HI.out.2⟩
theorem listed_any (xs : List Int) (n : Nat) (hn : n = xs.length) (ao : Option Addr) (cap b o : Nat) (w : World) (hs : SlAt w 1 n (xs.map (Value.int .i64)) ao cap b o) (hmax : n ≤ 70000) :
    Calls Try.prog 35 #[.slice ao n cap] w (LisPost (lisOf xs) w) := by
  have hidx := hs.idx (P := Try.prog) (t := 22) Try.underlying22 size3i (by decide)
  have HL := Lib.hid hn
  have HS := Lib.hid hs
  have HI0 : Hid (LisAt w (.slice none 0 0) (lisOf (xs.take 0)) ∧ Below w.heap.size w w) := Lib.hid ⟨LisAt.nil w, bz w⟩
  have HLEN : Hid (∀ i, i ≤ n → (lisOf (xs.take i)).length ≤ 70000) := Lib.hid (fun i hi => by
    have := lisOf_len (xs.take i)
    rw [List.length_take] at this
    omega)
  clear hn hs
  go_enter Try.func35, Try.ntmps35
  go_wp2_with fail
  go_loopw [3, 4] (fun t3 t4 wr => ∃ i : Nat, i ≤ n ∧ t4 = .int .i64 i ∧ Hid (LisAt wr t3 (lisOf (xs.take i)) ∧ Below w.heap.size w wr)) (fun _ t4 _ => n - (intOf t4).toNat)
  case atStart => exact ⟨0, Nat.zero_le _, rfl, HI0⟩
  case round =>
    obtain ⟨i, hi, rfl, HI⟩ := hrel
    clear HI0
    by_cases hlt : i < n
    · have i1 : (0 : Int) ≤ (i : Int) := by omega
      have i2 : (i : Int) < (n : Int) := by omega
      obtain ⟨x, hx⟩ : ∃ x, xs[i]? = some x := ⟨_, List.getElem?_eq_getElem (by rw [← HL.out]; exact hlt)⟩
      have g0 := (HS.out.below HI.out.2).cell i (.int .i64 x) (by simp [hx])
      have HX : Hid (lisOf (xs.take (i + 1)) = rins (lisOf (xs.take i)) x) := Lib.hid (by rw [take_snoc xs i x hx, lisOf_snoc])
      have HC := Lib.hid (rwith_any _ _ x wr HI.out.1 (HLEN.out i hi))
      rw [← HX.out] at HC
      clear hx
      go_wp2_with fail
      refine HC.out.mono ?_
      rintro e w1 ⟨v1, rfl, hl1, hb1⟩
      have HI1 : Hid (LisAt w1 v1 (lisOf (xs.take (i + 1))) ∧ Below w.heap.size w w1) := Lib.hid ⟨hl1, bt HI.out.2 hb1⟩
      clear hl1 hb1 HC
      go_wp2_with fail
      go_roundw
      case rel => exact ⟨i + 1, by omega, by go_num, HI1⟩
      case measure => simp [intOf]; omega
    · have i2 : ¬ (i : Int) < (n : Int) := by omega
      obtain rfl : i = n := by omega
      go_wp2
      go_ret
      have h1 := HI.out.1
      rw [HL.out, List.take_length] at h1
      exact ⟨u3, rfl, h1, HI.out.2⟩
end Go.Proofs.Ytfjccgihdnemkaa
