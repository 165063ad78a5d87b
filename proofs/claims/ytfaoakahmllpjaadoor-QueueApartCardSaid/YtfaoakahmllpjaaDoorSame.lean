/- Two lists of values, held against each other: the document's Same, slices.Equal, has. -/
import Derived.Test.YtfaoakahmllpjaaDoorLeaf
import Derived.BigQuiet
namespace Go.Proofs.YtfaoakahmllpjaaDoor
open Go.RowKit Go.Um
set_option maxHeartbeats 1000000

def SamePost (xs ys : List Int) (w : World) (e : Ending) (w' : World) : Prop := e = .returned (.bool (decide (xs = ys))) ∧ Below w.heap.size w w'

theorem val_at {w : World} {l : List Int} {ao : Option Addr} {n cap b o k : Nat} {x : Int} (h : SlAt w 1 n (us l) ao cap b o) (hx : l[k]? = some x) :
    w.cell? ⟨b, o + k, none⟩ = some (.int .u16 x) := h.cell k _ (us_at hx)

theorem rsame_any (xs ys : List Int) (ao ao' : Option Addr) (cap b o cap' b' o' : Nat) (w : World) (h : SlAt w 1 xs.length (us xs) ao cap b o) (h' : SlAt w 1 ys.length (us ys) ao' cap' b' o') (hlen : xs.length ≤ 100000) :
    Calls Tryd.prog 14 #[.slice ao xs.length cap, .slice ao' ys.length cap'] w (SamePost xs ys w) := by
  have hidx := h.idx (P := Tryd.prog) (t := 22) Tryd.underlying22 size23 (by decide)
  have hidx' := h'.idx (P := Tryd.prog) (t := 22) Tryd.underlying22 size23 (by decide)
  by_cases hl : xs.length = ys.length
  · have hl1 : ((xs.length : Int) != (ys.length : Int)) = false := by simp [hl]
    have Hl := Lib.hid hl
    clear hl
    go_enter Tryd.func14, Tryd.ntmps14
    go_wp2
    go_loopw [5] (fun t5 wr => ∃ k : Nat, k ≤ xs.length ∧ t5 = .int .i64 k ∧ Hid (xs.take k = ys.take k) ∧ Below w.heap.size w wr) (fun t5 _ => xs.length - (intOf t5).toNat)
    case atStart => exact ⟨0, Nat.zero_le _, rfl, by simp [Hid], Below.refl _ _⟩
    case round =>
      obtain ⟨k, hk, rfl, ht, hbel⟩ := hrel
      by_cases hlt : k < xs.length
      · have hlt' : k < ys.length := by have := Hl.out; omega
        have hwr := h.below' hbel h.lt
        have hwr' := h'.below' hbel h'.lt
        obtain ⟨x, hx⟩ : ∃ x, xs[k]? = some x := ⟨_, List.getElem?_eq_getElem hlt⟩
        obtain ⟨y, hy⟩ : ∃ y, ys[k]? = some y := ⟨_, List.getElem?_eq_getElem hlt'⟩
        have g0 := val_at hwr hx
        have g0' := val_at hwr' hy
        have Hx := Lib.hid hx
        have Hy := Lib.hid hy
        clear hx hy
        have b1 : (0 : Int) ≤ (k : Int) := by omega
        have b2 : (k : Int) < (xs.length : Int) := by omega
        have b3 : (k : Int) < (ys.length : Int) := by omega
        by_cases hxy : x = y
        · have t1 : (x != y) = false := by simp [hxy]
          have Hxy := Lib.hid hxy
          clear hxy
          go_wp2_with fail
          go_quiet (fail)
          go_wp2_with fail
          go_roundw
          case rel =>
            refine ⟨k + 1, by omega, by go_num, ?_, below_drewN hbel _⟩
            have h1 := ht.out
            have h2 := Hxy.out
            show xs.take (k + 1) = ys.take (k + 1)
            rw [List.take_add_one, List.take_add_one, h1, Hx.out, Hy.out, h2]
          case measure => simp [intOf]; omega
        · have t1 : (x != y) = true := by simp [hxy]
          have Hxy := Lib.hid hxy
          clear hxy
          go_wp2_with fail
          go_quiet (fail)
          go_wp2_with fail
          go_ret
          refine ⟨?_, below_drewN hbel _⟩
          have : ¬ xs = ys := fun e => Hxy.out (by have h1 := Hx.out; have h2 := Hy.out; rw [e, h2] at h1; exact (Option.some.inj h1).symm)
          simp [this]
      · have hk' : xs.length = k := by omega
        have Hk := Lib.hid hk'
        clear hk'
        go_wp2
        go_ret
        refine ⟨?_, hbel⟩
        have h1 := ht.out
        have h2 := Hl.out
        have h3 := Hk.out
        rw [List.take_of_length_le (by omega), List.take_of_length_le (by omega)] at h1
        simp [h1]
  · have hl1 : ((xs.length : Int) != (ys.length : Int)) = true := by rw [bne_iff_ne]; omega
    have Hl := Lib.hid hl
    clear hl
    go_enter Tryd.func14, Tryd.ntmps14
    go_wp2
    go_ret
    refine ⟨?_, Below.refl _ _⟩
    have : ¬ xs = ys := fun e => Hl.out (by rw [e])
    simp [this]

theorem equal_any (xs ys : List Int) (ao ao' : Option Addr) (cap b o cap' b' o' : Nat) (w : World) (h : SlAt w 1 xs.length (us xs) ao cap b o) (h' : SlAt w 1 ys.length (us ys) ao' cap' b' o') (hlen : xs.length ≤ 100000) :
    Calls Tryd.prog 34 #[.slice ao xs.length cap, .slice ao' ys.length cap'] w (SamePost xs ys w) := by
  have hidx := h.idx (P := Tryd.prog) (t := 22) Tryd.underlying22 size23 (by decide)
  have hidx' := h'.idx (P := Tryd.prog) (t := 22) Tryd.underlying22 size23 (by decide)
  by_cases hl : xs.length = ys.length
  · have hl1 : ((xs.length : Int) != (ys.length : Int)) = false := by simp [hl]
    have Hl := Lib.hid hl
    clear hl
    go_enter Tryd.func34, Tryd.ntmps34
    go_wp2
    go_loopw [13] (fun t13 wr => ∃ k : Nat, k ≤ xs.length ∧ t13 = .int .i64 k ∧ Hid (xs.take k = ys.take k) ∧ Below w.heap.size w wr) (fun t13 _ => xs.length - (intOf t13).toNat)
    case atStart => exact ⟨0, Nat.zero_le _, rfl, by simp [Hid], Below.refl _ _⟩
    case round =>
      obtain ⟨k, hk, rfl, ht, hbel⟩ := hrel
      by_cases hlt : k < xs.length
      · have hlt' : k < ys.length := by have := Hl.out; omega
        have hwr := h.below' hbel h.lt
        have hwr' := h'.below' hbel h'.lt
        obtain ⟨x, hx⟩ : ∃ x, xs[k]? = some x := ⟨_, List.getElem?_eq_getElem hlt⟩
        obtain ⟨y, hy⟩ : ∃ y, ys[k]? = some y := ⟨_, List.getElem?_eq_getElem hlt'⟩
        have g0 := val_at hwr hx
        have g0' := val_at hwr' hy
        have Hx := Lib.hid hx
        have Hy := Lib.hid hy
        clear hx hy
        have b1 : (0 : Int) ≤ (k : Int) := by omega
        have b2 : (k : Int) < (xs.length : Int) := by omega
        have b3 : (k : Int) < (ys.length : Int) := by omega
        by_cases hxy : x = y
        · have t1 : (x != y) = false := by simp [hxy]
          have Hxy := Lib.hid hxy
          clear hxy
          go_wp2_with fail
          go_quiet (fail)
          go_wp2_with fail
          go_roundw
          case rel =>
            refine ⟨k + 1, by omega, by go_num, ?_, below_drewN hbel _⟩
            have h1 := ht.out
            have h2 := Hxy.out
            show xs.take (k + 1) = ys.take (k + 1)
            rw [List.take_add_one, List.take_add_one, h1, Hx.out, Hy.out, h2]
          case measure => simp [intOf]; omega
        · have t1 : (x != y) = true := by simp [hxy]
          have Hxy := Lib.hid hxy
          clear hxy
          go_wp2_with fail
          go_quiet (fail)
          go_wp2_with fail
          go_ret
          refine ⟨?_, below_drewN hbel _⟩
          have : ¬ xs = ys := fun e => Hxy.out (by have h1 := Hx.out; have h2 := Hy.out; rw [e, h2] at h1; exact (Option.some.inj h1).symm)
          simp [this]
      · have hk' : xs.length = k := by omega
        have Hk := Lib.hid hk'
        clear hk'
        go_wp2
        go_ret
        refine ⟨?_, hbel⟩
        have h1 := ht.out
        have h2 := Hl.out
        have h3 := Hk.out
        rw [List.take_of_length_le (by omega), List.take_of_length_le (by omega)] at h1
        simp [h1]
  · have hl1 : ((xs.length : Int) != (ys.length : Int)) = true := by rw [bne_iff_ne]; omega
    have Hl := Lib.hid hl
    clear hl
    go_enter Tryd.func34, Tryd.ntmps34
    go_wp2
    go_ret
    refine ⟨?_, Below.refl _ _⟩
    have : ¬ xs = ys := fun e => Hl.out (by rw [e])
    simp [this]

/-- has a state these values? -/
theorem has_any (xs ys : List Int) (v : Value) (ao' : Option Addr) (cap' b' o' : Nat) (w : World) (hv : Lies w xs v) (h' : SlAt w 1 ys.length (us ys) ao' cap' b' o') (hlen : xs.length ≤ 100000) :
    Calls Tryd.prog 20 #[.agg #[v], .slice ao' ys.length cap'] w (SamePost xs ys w) := by
  have hidx' := h'.idx (P := Tryd.prog) (t := 22) Tryd.underlying22 size23 (by decide)
  have HV := Lib.hid hv
  obtain ⟨aov, capv, bv, ov, rfl, hsv⟩ := hv
  clear hsv
  by_cases hl : xs.length = ys.length
  · have hl1 : ((xs.length : Int) != (ys.length : Int)) = false := by simp [hl]
    have Hl := Lib.hid hl
    clear hl
    go_enter Tryd.func20, Tryd.ntmps20
    go_wp2_with fail
    refine (values_any xs _ _ (HV.out.below (ba (bz w) _)) hlen).mono ?_
    rintro e w1 ⟨v1, rfl, hown, hb1⟩
    obtain ⟨ao, cap, b, o, rfl, h, hbase⟩ := SlAt.owned hown
    have hB := bt (ba (bz w) _) hb1
    have h1' := h'.below hB
    have hidx := h.idx (P := Tryd.prog) (t := 22) Tryd.underlying22 size23 (by decide)
    have HB := Lib.hid hB
    have H1 := Lib.hid h
    have H2 := Lib.hid h1'
    clear hown hB h h1' hb1 hbase
    go_wp2
    go_loopw [6] (fun t6 wr => ∃ k : Nat, k ≤ xs.length ∧ t6 = .int .i64 k ∧ Hid (xs.take k = ys.take k) ∧ Below w1.heap.size w1 wr) (fun t6 _ => xs.length - (intOf t6).toNat)
    case atStart => exact ⟨0, Nat.zero_le _, rfl, by simp [Hid], Below.refl _ _⟩
    case round =>
      obtain ⟨k, hk, rfl, ht, hbel⟩ := hrel
      by_cases hlt : k < xs.length
      · have hlt' : k < ys.length := by have := Hl.out; omega
        obtain ⟨x, hx⟩ : ∃ x, xs[k]? = some x := ⟨_, List.getElem?_eq_getElem hlt⟩
        obtain ⟨y, hy⟩ : ∃ y, ys[k]? = some y := ⟨_, List.getElem?_eq_getElem hlt'⟩
        have g0 := val_at (H1.out.below hbel) hx
        have g0' := val_at (H2.out.below hbel) hy
        have Hx := Lib.hid hx
        have Hy := Lib.hid hy
        clear hx hy
        have b1 : (0 : Int) ≤ (k : Int) := by omega
        have b2 : (k : Int) < (xs.length : Int) := by omega
        have b3 : (k : Int) < (ys.length : Int) := by omega
        by_cases hxy : x = y
        · have t1 : (x != y) = false := by simp [hxy]
          have Hxy := Lib.hid hxy
          clear hxy
          go_wp2_with fail
          go_quiet (fail)
          go_wp2_with fail
          go_roundw
          case rel =>
            refine ⟨k + 1, by omega, by go_num, ?_, below_drewN hbel _⟩
            have h1 := ht.out
            have h2 := Hxy.out
            show xs.take (k + 1) = ys.take (k + 1)
            rw [List.take_add_one, List.take_add_one, h1, Hx.out, Hy.out, h2]
          case measure => simp [intOf]; omega
        · have t1 : (x != y) = true := by simp [hxy]
          have Hxy := Lib.hid hxy
          clear hxy
          go_wp2_with fail
          go_quiet (fail)
          go_wp2_with fail
          go_ret
          refine ⟨?_, below_drewN (bt HB.out hbel) _⟩
          have : ¬ xs = ys := fun e => Hxy.out (by have h1 := Hx.out; have h2 := Hy.out; rw [e, h2] at h1; exact (Option.some.inj h1).symm)
          simp [this]
      · have hk' : xs.length = k := by omega
        have Hk := Lib.hid hk'
        clear hk'
        go_wp2
        go_ret
        refine ⟨?_, bt HB.out hbel⟩
        have h1 := ht.out
        have h2 := Hl.out
        have h3 := Hk.out
        rw [List.take_of_length_le (by omega), List.take_of_length_le (by omega)] at h1
        simp [h1]
  · have hl1 : ((xs.length : Int) != (ys.length : Int)) = true := by rw [bne_iff_ne]; omega
    have Hl := Lib.hid hl
    clear hl
    go_enter Tryd.func20, Tryd.ntmps20
    go_wp2_with fail
    refine (values_any xs _ _ (HV.out.below (ba (bz w) _)) hlen).mono ?_
    rintro e w1 ⟨v1, rfl, hown, hb1⟩
    obtain ⟨ao, cap, b, o, rfl, h, hbase⟩ := SlAt.owned hown
    have hB := bt (ba (bz w) _) hb1
    have HB := Lib.hid hB
    clear hown h hbase hB hb1
    go_wp2
    go_ret
    refine ⟨?_, HB.out⟩
    have : ¬ xs = ys := fun e => Hl.out (by rw [e])
    simp [this]

/-- two states, held against each other -/
theorem same_any (xs ys : List Int) (v v' : Value) (w : World) (hv : Lies w xs v) (hv' : Lies w ys v') (hlen : xs.length ≤ 100000) :
    Calls Tryd.prog 22 #[.agg #[v], .agg #[v']] w (SamePost xs ys w) := by
  obtain ⟨ao, cap, b, o, rfl, hs⟩ := hv
  obtain ⟨ao', cap', b', o', rfl, hs'⟩ := hv'
  go_enter Tryd.func22, Tryd.ntmps22
  go_wp2_with fail
  refine (equal_any xs ys ao ao' cap b o cap' b' o' _ (hs.below (ba (ba (bz w) _) _)) (hs'.below (ba (ba (bz w) _) _)) hlen).mono ?_
  rintro e w1 ⟨rfl, hb1⟩
  go_wp2
  go_ret
  exact ⟨rfl, bt (ba (ba (bz w) _) _) hb1⟩
end Go.Proofs.YtfaoakahmllpjaaDoor
