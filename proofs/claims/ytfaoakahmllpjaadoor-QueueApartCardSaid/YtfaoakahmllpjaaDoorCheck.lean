/- What Check answers, of the program and of the document, at the queue's model. -/
import Derived.Test.YtfaoakahmllpjaaDoorKinds
namespace Go.Proofs.YtfaoakahmllpjaaDoor
open Go.RowKit Go.Um
set_option maxHeartbeats 1000000
theorem model_any (f : Int) (hf : in8 f) (w : World) (h : Kinds w) :
    Calls Tryd.prog 35 #[.int .u8 f] w fun e w' => e = .returned (.tuple #[.int .u8 (kOf f).1, .bool (kOf f).2.2.2]) ∧ Below w.heap.size w w' := by
  go_enter Tryd.func35, Tryd.ntmps35
  go_wp2_with fail
  refine (find_any f hf _ h).mono ?_
  rintro e w1 ⟨rfl, hb1⟩
  unfold kV
  go_wp2
  go_ret2
  exact ⟨rfl, ba hb1 _⟩
/-- an operation, as a value -/
def opV (x : Op5) : Value := .agg #[.int .u8 x.f, .int .u8 x.o, .int .u8 x.k, .int .u16 x.a, .int .u16 x.b]
def mayR (n : Int) (x : Op5) : Bool :=
  decide (x.o < 8) && decide (x.k < 8) && (bits .and .u8 n 1 != 0 || x.k == 0) && (bits .and .u8 n 2 != 0 || x.a == 0) && (bits .and .u8 n 4 != 0 || x.b == 0)
set_option maxRecDepth 100000 in
theorem may_any (x : Op5) (hf : in8 x.f) (w : World) (h : Kinds w) :
    Calls Tryd.prog 36 #[opV x] w fun e w' => e = .returned (.bool ((kOf x.f).2.2.2 && mayR (kOf x.f).2.2.1 x)) ∧ Below w.heap.size w w' := by
  obtain ⟨f, o, k, a, b⟩ := x
  unfold opV
  obtain ⟨kx, hkx⟩ : ∃ kx, kx = kOf f := ⟨_, rfl⟩
  simp only
  rw [← hkx]
  have HK := Lib.hid hkx
  clear hkx
  go_enter Tryd.func36, Tryd.ntmps36
  go_wp2_with fail
  refine (find_any f hf _ (h.below (ba (bz w) _))).mono ?_
  rintro e w1 ⟨rfl, hb1⟩
  have g1 := kc hb1 w.heap.size 1 (.int .u8 o) (by simp [go_sem])
  have g2 := kc hb1 w.heap.size 2 (.int .u8 k) (by simp [go_sem])
  have g3 := kc hb1 w.heap.size 3 (.int .u16 a) (by simp [go_sem])
  have g4 := kc hb1 w.heap.size 4 (.int .u16 b) (by simp [go_sem])
  have hB := fun o => ba (bt (ba (bz w) _) hb1) o
  have hz : w.heap.size < w1.heap.size := by have := hb1.size; simp at this; omega
  rw [← HK.out]
  clear HK
  obtain ⟨m, s, n, y⟩ := kx
  unfold kV
  clear h hb1 hf
  have HB := Lib.hid hB
  clear hB
  cases y
  · go_wp2
    go_ret
    exact ⟨by simp, HB.out _⟩
  · go_wp2
    all_goals go_ret
    all_goals refine ⟨?_, HB.out _⟩
    all_goals first | (simp [mayR, *]; done) | (simp [mayR, *]; intros; omega)

/-- what Check answers at a model -/
def chkR (x : Op5) (m : Int) (y r : Bool) : Int := if (y && r) && x.f == x.f && m == 1 then 0 else 10
set_option maxRecDepth 100000 in
theorem check_raw (x : Op5) (hf : in8 x.f) (w : World) (h : Kinds w) :
    Calls Tryd.prog 30 #[.int .u8 1, opV x] w fun e w' => e = .returned (.int .i64 (chkR x (kOf x.f).1 (kOf x.f).2.2.2 (mayR (kOf x.f).2.2.1 x))) ∧ Below w.heap.size w w' := by
  obtain ⟨f, o, k, a, b⟩ := x
  obtain ⟨kx, hkx⟩ : ∃ kx, kx = kOf f := ⟨_, rfl⟩
  simp only
  rw [← hkx]
  have HK := Lib.hid hkx
  clear hkx
  unfold opV
  go_enter Tryd.func30, Tryd.ntmps30
  go_wp2_with fail
  refine (model_any f hf _ (h.below (ba (bz w) _))).mono ?_
  rintro e w1 ⟨rfl, hb1⟩
  have g0 := kc hb1 w.heap.size 0 (.int .u8 f) (by simp [go_sem])
  have g1 := kc hb1 w.heap.size 1 (.int .u8 o) (by simp [go_sem])
  have g2 := kc hb1 w.heap.size 2 (.int .u8 k) (by simp [go_sem])
  have g3 := kc hb1 w.heap.size 3 (.int .u16 a) (by simp [go_sem])
  have g4 := kc hb1 w.heap.size 4 (.int .u16 b) (by simp [go_sem])
  have hB := bt (ba (bz w) _) hb1
  have h1 := h.below hB
  have HB := Lib.hid hB
  clear hB h hb1
  go_wp2_with fail
  refine (may_any ⟨f, o, k, a, b⟩ hf _ h1).mono ?_
  rintro e w2 ⟨rfl, hb2⟩
  have HB2 := Lib.hid (bt HB.out hb2)
  simp only
  rw [← HK.out]
  clear HK HB hb2 h1 hf
  obtain ⟨m, s, n, y⟩ := kx
  simp only
  obtain ⟨r, hr⟩ : ∃ r, r = (y && mayR n ⟨f, o, k, a, b⟩) := ⟨_, rfl⟩
  have e1 : chkR ⟨f, o, k, a, b⟩ m y (mayR n ⟨f, o, k, a, b⟩) = if r && m == 1 then 0 else 10 := by rw [hr]; simp [chkR]
  rw [← hr]
  have E1 := Lib.hid e1
  clear hr e1
  cases r
  · go_wp2
    go_ret
    exact ⟨by rw [E1.out]; simp, HB2.out⟩
  · by_cases hm : m = 1
    · have t : (m != 1) = false := by simp [hm]
      have Hm := Lib.hid hm
      clear hm
      go_wp2
      go_ret
      exact ⟨by rw [E1.out]; simp [Hm.out], HB2.out⟩
    · have t : (m != 1) = true := by simp [hm]
      have Hm := Lib.hid hm
      clear hm
      go_wp2
      go_ret
      exact ⟨by rw [E1.out]; simp [Hm.out], HB2.out⟩
def rTab : List (Int × List UInt8 × Bool × Bool × Bool × Bool) := [(0, [], false, false, false, false), (0, [114, 101, 97, 100], false, false, false, true), (0, [119, 114, 105, 116, 101], false, true, false, true), (0, [99, 97, 115], false, true, true, true), (1, [101, 110, 113], false, true, false, true), (1, [100, 101, 113], false, false, false, true), (2, [103, 101, 116], true, false, false, true), (2, [112, 117, 116], true, true, false, true), (2, [100, 101, 108], true, false, false, true), (2, [115, 119, 97, 112], true, true, true, true), (3, [97, 99, 113, 117, 105, 114, 101], false, false, false, true), (3, [114, 101, 108, 101, 97, 115, 101], false, false, false, true)]
def rOf (f : Int) : Int × List UInt8 × Bool × Bool × Bool × Bool := rTab.getD f.toNat (0, [], false, false, false, false)
/-- a row of the document's table, as a value -/
def rV (x : Int × List UInt8 × Bool × Bool × Bool × Bool) : Value := .agg #[.int .i64 x.1, .string ⟨x.2.1.toArray⟩, .bool x.2.2.1, .bool x.2.2.2.1, .bool x.2.2.2.2.1]
theorem of_out (f : Int) (hf : f = 0 ∨ 12 ≤ f) (w : World) :
    Calls Tryd.prog 37 #[.int .u8 f] w fun e w' => e = .returned (.tuple #[rV (0, [], false, false, false, false), .bool false]) ∧ Below w.heap.size w w' := by
  have t1 : (f == 1) = false := by rw [beq_eq_false_iff_ne]; omega
  have t2 : (f == 2) = false := by rw [beq_eq_false_iff_ne]; omega
  have t3 : (f == 3) = false := by rw [beq_eq_false_iff_ne]; omega
  have t4 : (f == 4) = false := by rw [beq_eq_false_iff_ne]; omega
  have t5 : (f == 5) = false := by rw [beq_eq_false_iff_ne]; omega
  have t6 : (f == 6) = false := by rw [beq_eq_false_iff_ne]; omega
  have t7 : (f == 7) = false := by rw [beq_eq_false_iff_ne]; omega
  have t8 : (f == 8) = false := by rw [beq_eq_false_iff_ne]; omega
  have t9 : (f == 9) = false := by rw [beq_eq_false_iff_ne]; omega
  have t10 : (f == 10) = false := by rw [beq_eq_false_iff_ne]; omega
  have t11 : (f == 11) = false := by rw [beq_eq_false_iff_ne]; omega
  clear hf
  go_enter Tryd.func37, Tryd.ntmps37
  go_wp2
  refine bodyPost_ret (by simp [results, Tryd.results37, go_sem] <;> rfl) rfl ⟨by simp [rV], ?_⟩
  exact ba (bz w) _
theorem of1 (w : World) :
    Calls Tryd.prog 37 #[.int .u8 1] w fun e w' => e = .returned (.tuple #[rV (rOf 1), .bool (rOf 1).2.2.2.2.2]) ∧ Below w.heap.size w w' := by
  go_enter Tryd.func37, Tryd.ntmps37
  go_wp2
  refine bodyPost_ret (by simp [results, Tryd.results37, go_sem] <;> rfl) rfl ⟨by simp [rOf, rTab, rV], ?_⟩
  exact ba (bz w) _
theorem of2 (w : World) :
    Calls Tryd.prog 37 #[.int .u8 2] w fun e w' => e = .returned (.tuple #[rV (rOf 2), .bool (rOf 2).2.2.2.2.2]) ∧ Below w.heap.size w w' := by
  go_enter Tryd.func37, Tryd.ntmps37
  go_wp2
  refine bodyPost_ret (by simp [results, Tryd.results37, go_sem] <;> rfl) rfl ⟨by simp [rOf, rTab, rV], ?_⟩
  exact ba (bz w) _
theorem of3 (w : World) :
    Calls Tryd.prog 37 #[.int .u8 3] w fun e w' => e = .returned (.tuple #[rV (rOf 3), .bool (rOf 3).2.2.2.2.2]) ∧ Below w.heap.size w w' := by
  go_enter Tryd.func37, Tryd.ntmps37
  go_wp2
  refine bodyPost_ret (by simp [results, Tryd.results37, go_sem] <;> rfl) rfl ⟨by simp [rOf, rTab, rV], ?_⟩
  exact ba (bz w) _
theorem of4 (w : World) :
    Calls Tryd.prog 37 #[.int .u8 4] w fun e w' => e = .returned (.tuple #[rV (rOf 4), .bool (rOf 4).2.2.2.2.2]) ∧ Below w.heap.size w w' := by
  go_enter Tryd.func37, Tryd.ntmps37
  go_wp2
  refine bodyPost_ret (by simp [results, Tryd.results37, go_sem] <;> rfl) rfl ⟨by simp [rOf, rTab, rV], ?_⟩
  exact ba (bz w) _
theorem of5 (w : World) :
    Calls Tryd.prog 37 #[.int .u8 5] w fun e w' => e = .returned (.tuple #[rV (rOf 5), .bool (rOf 5).2.2.2.2.2]) ∧ Below w.heap.size w w' := by
  go_enter Tryd.func37, Tryd.ntmps37
  go_wp2
  refine bodyPost_ret (by simp [results, Tryd.results37, go_sem] <;> rfl) rfl ⟨by simp [rOf, rTab, rV], ?_⟩
  exact ba (bz w) _
theorem of6 (w : World) :
    Calls Tryd.prog 37 #[.int .u8 6] w fun e w' => e = .returned (.tuple #[rV (rOf 6), .bool (rOf 6).2.2.2.2.2]) ∧ Below w.heap.size w w' := by
  go_enter Tryd.func37, Tryd.ntmps37
  go_wp2
  refine bodyPost_ret (by simp [results, Tryd.results37, go_sem] <;> rfl) rfl ⟨by simp [rOf, rTab, rV], ?_⟩
  exact ba (bz w) _
theorem of7 (w : World) :
    Calls Tryd.prog 37 #[.int .u8 7] w fun e w' => e = .returned (.tuple #[rV (rOf 7), .bool (rOf 7).2.2.2.2.2]) ∧ Below w.heap.size w w' := by
  go_enter Tryd.func37, Tryd.ntmps37
  go_wp2
  refine bodyPost_ret (by simp [results, Tryd.results37, go_sem] <;> rfl) rfl ⟨by simp [rOf, rTab, rV], ?_⟩
  exact ba (bz w) _
theorem of8 (w : World) :
    Calls Tryd.prog 37 #[.int .u8 8] w fun e w' => e = .returned (.tuple #[rV (rOf 8), .bool (rOf 8).2.2.2.2.2]) ∧ Below w.heap.size w w' := by
  go_enter Tryd.func37, Tryd.ntmps37
  go_wp2
  refine bodyPost_ret (by simp [results, Tryd.results37, go_sem] <;> rfl) rfl ⟨by simp [rOf, rTab, rV], ?_⟩
  exact ba (bz w) _
theorem of9 (w : World) :
    Calls Tryd.prog 37 #[.int .u8 9] w fun e w' => e = .returned (.tuple #[rV (rOf 9), .bool (rOf 9).2.2.2.2.2]) ∧ Below w.heap.size w w' := by
  go_enter Tryd.func37, Tryd.ntmps37
  go_wp2
  refine bodyPost_ret (by simp [results, Tryd.results37, go_sem] <;> rfl) rfl ⟨by simp [rOf, rTab, rV], ?_⟩
  exact ba (bz w) _
theorem of10 (w : World) :
    Calls Tryd.prog 37 #[.int .u8 10] w fun e w' => e = .returned (.tuple #[rV (rOf 10), .bool (rOf 10).2.2.2.2.2]) ∧ Below w.heap.size w w' := by
  go_enter Tryd.func37, Tryd.ntmps37
  go_wp2
  refine bodyPost_ret (by simp [results, Tryd.results37, go_sem] <;> rfl) rfl ⟨by simp [rOf, rTab, rV], ?_⟩
  exact ba (bz w) _
theorem of11 (w : World) :
    Calls Tryd.prog 37 #[.int .u8 11] w fun e w' => e = .returned (.tuple #[rV (rOf 11), .bool (rOf 11).2.2.2.2.2]) ∧ Below w.heap.size w w' := by
  go_enter Tryd.func37, Tryd.ntmps37
  go_wp2
  refine bodyPost_ret (by simp [results, Tryd.results37, go_sem] <;> rfl) rfl ⟨by simp [rOf, rTab, rV], ?_⟩
  exact ba (bz w) _
theorem of_any (f : Int) (hf : in8 f) (w : World) :
    Calls Tryd.prog 37 #[.int .u8 f] w fun e w' => e = .returned (.tuple #[rV (rOf f), .bool (rOf f).2.2.2.2.2]) ∧ Below w.heap.size w w' := by
  have hc : f = 0 ∨ 12 ≤ f ∨ f = 1 ∨ f = 2 ∨ f = 3 ∨ f = 4 ∨ f = 5 ∨ f = 6 ∨ f = 7 ∨ f = 8 ∨ f = 9 ∨ f = 10 ∨ f = 11 := by have h0 := hf.1; omega
  rcases hc with rfl | hc | rfl | rfl | rfl | rfl | rfl | rfl | rfl | rfl | rfl | rfl | rfl
  · exact of_out 0 (Or.inl rfl) w
  · have e : rOf f = (0, [], false, false, false, false) := by
      unfold rOf
      rw [List.getD_eq_getElem?_getD, List.getElem?_eq_none (by show 12 ≤ f.toNat; omega)]
      rfl
    rw [e]
    exact of_out f (Or.inr hc) w
  · exact of1 w
  · exact of2 w
  · exact of3 w
  · exact of4 w
  · exact of5 w
  · exact of6 w
  · exact of7 w
  · exact of8 w
  · exact of9 w
  · exact of10 w
  · exact of11 w

def rmayR (x : Op5) (p q r : Bool) : Bool := decide (x.o ≤ 7) && decide (x.k ≤ 7) && (p || x.k == 0) && (q || x.a == 0) && (r || x.b == 0)
set_option maxRecDepth 100000 in
theorem rmay_any (x : Op5) (hf : in8 x.f) (w : World) :
    Calls Tryd.prog 38 #[opV x] w fun e w' => e = .returned (.bool ((rOf x.f).2.2.2.2.2 && rmayR x (rOf x.f).2.2.1 (rOf x.f).2.2.2.1 (rOf x.f).2.2.2.2.1)) ∧ Below w.heap.size w w' := by
  obtain ⟨f, o, k, a, b⟩ := x
  unfold opV
  obtain ⟨kx, hkx⟩ : ∃ kx, kx = rOf f := ⟨_, rfl⟩
  simp only
  rw [← hkx]
  have HK := Lib.hid hkx
  clear hkx
  go_enter Tryd.func38, Tryd.ntmps38
  go_wp2_with fail
  refine (of_any f hf _).mono ?_
  rintro e w1 ⟨rfl, hb1⟩
  have g1 := kc hb1 w.heap.size 1 (.int .u8 o) (by simp [go_sem])
  have g2 := kc hb1 w.heap.size 2 (.int .u8 k) (by simp [go_sem])
  have g3 := kc hb1 w.heap.size 3 (.int .u16 a) (by simp [go_sem])
  have g4 := kc hb1 w.heap.size 4 (.int .u16 b) (by simp [go_sem])
  have hB := fun o => ba (bt (ba (bz w) _) hb1) o
  have hz : w.heap.size < w1.heap.size := by have := hb1.size; simp at this; omega
  rw [← HK.out]
  clear HK
  obtain ⟨m, s, p, q, r, y⟩ := kx
  unfold rV
  clear hb1 hf
  have HB := Lib.hid hB
  clear hB
  cases y
  · go_wp2
    go_ret
    exact ⟨by simp, HB.out _⟩
  · go_wp2
    all_goals go_ret
    all_goals refine ⟨?_, HB.out _⟩
    all_goals first | (simp [rmayR, *]; done) | (simp [rmayR, *]; intros; omega)

set_option maxRecDepth 100000 in
theorem rcheck_raw (x : Op5) (hf : in8 x.f) (w : World) :
    Calls Tryd.prog 33 #[.int .u8 1, opV x] w fun e w' => e = .returned (.int .i64 (chkR x (rOf x.f).1 (rOf x.f).2.2.2.2.2 (rmayR x (rOf x.f).2.2.1 (rOf x.f).2.2.2.1 (rOf x.f).2.2.2.2.1))) ∧ Below w.heap.size w w' := by
  obtain ⟨f, o, k, a, b⟩ := x
  obtain ⟨kx, hkx⟩ : ∃ kx, kx = rOf f := ⟨_, rfl⟩
  simp only
  rw [← hkx]
  have HK := Lib.hid hkx
  clear hkx
  unfold opV
  go_enter Tryd.func33, Tryd.ntmps33
  go_wp2_with fail
  refine (of_any f hf _).mono ?_
  rintro e w1 ⟨rfl, hb1⟩
  have g0 := kc hb1 w.heap.size 0 (.int .u8 f) (by simp [go_sem])
  have g1 := kc hb1 w.heap.size 1 (.int .u8 o) (by simp [go_sem])
  have g2 := kc hb1 w.heap.size 2 (.int .u8 k) (by simp [go_sem])
  have g3 := kc hb1 w.heap.size 3 (.int .u16 a) (by simp [go_sem])
  have g4 := kc hb1 w.heap.size 4 (.int .u16 b) (by simp [go_sem])
  have hB := fun o => ba (bt (ba (bz w) _) hb1) o
  have hz : w.heap.size < w1.heap.size := by have := hb1.size; simp at this; omega
  have HB := Lib.hid hB
  rw [← HK.out]
  have HK2 := HK
  clear hB hb1 HK
  obtain ⟨m, s, p, q, r, y⟩ := kx
  unfold rV
  go_wp2_with fail
  refine (rmay_any ⟨f, o, k, a, b⟩ hf _).mono ?_
  rintro e w2 ⟨rfl, hb2⟩
  have gm := kc hb2 w1.heap.size 0 (.int .i64 m) (by simp [go_sem])
  have HB2 := Lib.hid (bt (HB.out _) hb2)
  simp only
  rw [← HK2.out]
  clear HK2 HB hb2 hf
  simp only
  obtain ⟨t, hr⟩ : ∃ t, t = (y && rmayR ⟨f, o, k, a, b⟩ p q r) := ⟨_, rfl⟩
  have e1 : chkR ⟨f, o, k, a, b⟩ m y (rmayR ⟨f, o, k, a, b⟩ p q r) = if t && m == 1 then 0 else 10 := by rw [hr]; simp [chkR]
  rw [← hr]
  have E1 := Lib.hid e1
  clear hr e1
  cases t
  · go_wp2
    go_ret
    exact ⟨by rw [E1.out]; simp, HB2.out⟩
  · by_cases hm : m = 1
    · have t : (m != 1) = false := by simp [hm]
      have Hm := Lib.hid hm
      clear hm
      go_wp2
      go_ret
      exact ⟨by rw [E1.out]; simp [Hm.out], HB2.out⟩
    · have t : (m != 1) = true := by simp [hm]
      have Hm := Lib.hid hm
      clear hm
      go_wp2
      go_ret
      exact ⟨by rw [E1.out]; simp [Hm.out], HB2.out⟩

/-- is it one of the queue's operations? -/
def good (x : Op5) : Bool := (x.f == 4 && decide (x.o < 8) && x.k == 0 && x.b == 0) || (x.f == 5 && decide (x.o < 8) && x.k == 0 && x.a == 0 && x.b == 0)
def errOf (x : Op5) : Int := if good x then 0 else 10

theorem chk_law (x : Op5) (hx : x.ok) : chkR x (kOf x.f).1 (kOf x.f).2.2.2 (mayR (kOf x.f).2.2.1 x) = errOf x := by
  obtain ⟨f, o, k, a, b⟩ := x
  have hf := hx.f
  have hk : (k < 8 ∧ k = 0) ↔ k = 0 := by omega
  simp only at hf ⊢
  have hc : f = 0 ∨ 12 ≤ f ∨ f = 1 ∨ f = 2 ∨ f = 3 ∨ f = 4 ∨ f = 5 ∨ f = 6 ∨ f = 7 ∨ f = 8 ∨ f = 9 ∨ f = 10 ∨ f = 11 := by have h0 := hf.1; omega
  rcases hc with rfl | hc | rfl | rfl | rfl | rfl | rfl | rfl | rfl | rfl | rfl | rfl | rfl
  · simp [chkR, kOf, kTab, errOf, good]
  · have e : kOf f = (0, [], 0, false) := by
      unfold kOf
      rw [List.getD_eq_getElem?_getD, List.getElem?_eq_none (by show 12 ≤ f.toNat; omega)]
      rfl
    rw [e]
    have h4 : ¬ f = 4 := by omega
    have h5 : ¬ f = 5 := by omega
    simp [chkR, errOf, good, h4, h5]
  · simp [chkR, kOf, kTab, errOf, good]
  · simp [chkR, kOf, kTab, errOf, good]
  · simp [chkR, kOf, kTab, errOf, good]
  · have b1 : bits .and .u8 2 1 = 0 := by decide
    have b2 : bits .and .u8 2 2 = 2 := by decide
    have b4 : bits .and .u8 2 4 = 0 := by decide
    simp [chkR, kOf, kTab, errOf, good, mayR, b1, b2, b4]
    by_cases h0 : k = 0 <;> simp [h0]
  · have b1 : bits .and .u8 0 1 = 0 := by decide
    have b2 : bits .and .u8 0 2 = 0 := by decide
    have b4 : bits .and .u8 0 4 = 0 := by decide
    simp [chkR, kOf, kTab, errOf, good, mayR, b1, b2, b4]
    by_cases h0 : k = 0 <;> simp [h0]
  · simp [chkR, kOf, kTab, errOf, good]
  · simp [chkR, kOf, kTab, errOf, good]
  · simp [chkR, kOf, kTab, errOf, good]
  · simp [chkR, kOf, kTab, errOf, good]
  · simp [chkR, kOf, kTab, errOf, good]
  · simp [chkR, kOf, kTab, errOf, good]
theorem rchk_law (x : Op5) (hx : x.ok) : chkR x (rOf x.f).1 (rOf x.f).2.2.2.2.2 (rmayR x (rOf x.f).2.2.1 (rOf x.f).2.2.2.1 (rOf x.f).2.2.2.2.1) = errOf x := by
  obtain ⟨f, o, k, a, b⟩ := x
  have hf := hx.f
  have ho : decide (o ≤ 7) = decide (o < 8) := by rw [decide_eq_decide]; omega
  have hk : decide (k ≤ 7) = decide (k < 8) := by rw [decide_eq_decide]; omega
  simp only at hf ⊢
  have hc : f = 0 ∨ 12 ≤ f ∨ f = 1 ∨ f = 2 ∨ f = 3 ∨ f = 4 ∨ f = 5 ∨ f = 6 ∨ f = 7 ∨ f = 8 ∨ f = 9 ∨ f = 10 ∨ f = 11 := by have h0 := hf.1; omega
  rcases hc with rfl | hc | rfl | rfl | rfl | rfl | rfl | rfl | rfl | rfl | rfl | rfl | rfl
  · simp [chkR, rOf, rTab, errOf, good]
  · have e : rOf f = (0, [], false, false, false, false) := by
      unfold rOf
      rw [List.getD_eq_getElem?_getD, List.getElem?_eq_none (by show 12 ≤ f.toNat; omega)]
      rfl
    rw [e]
    have h4 : ¬ f = 4 := by omega
    have h5 : ¬ f = 5 := by omega
    simp [chkR, errOf, good, h4, h5]
  · simp [chkR, rOf, rTab, errOf, good]
  · simp [chkR, rOf, rTab, errOf, good]
  · simp [chkR, rOf, rTab, errOf, good]
  · simp only [rmayR, ho, hk]
    simp [chkR, rOf, rTab, errOf, good]
    by_cases h0 : k = 0 <;> simp [h0]
  · simp only [rmayR, ho, hk]
    simp [chkR, rOf, rTab, errOf, good]
    by_cases h0 : k = 0 <;> simp [h0]
  · simp [chkR, rOf, rTab, errOf, good]
  · simp [chkR, rOf, rTab, errOf, good]
  · simp [chkR, rOf, rTab, errOf, good]
  · simp [chkR, rOf, rTab, errOf, good]
  · simp [chkR, rOf, rTab, errOf, good]
  · simp [chkR, rOf, rTab, errOf, good]

theorem check_any (x : Op5) (hx : x.ok) (w : World) (h : Kinds w) :
    Calls Tryd.prog 30 #[.int .u8 1, opV x] w fun e w' => e = .returned (.int .i64 (errOf x)) ∧ Below w.heap.size w w' := by
  rw [← chk_law x hx]; exact check_raw x hx.f w h
theorem rcheck_any (x : Op5) (hx : x.ok) (w : World) :
    Calls Tryd.prog 33 #[.int .u8 1, opV x] w fun e w' => e = .returned (.int .i64 (errOf x)) ∧ Below w.heap.size w w' := by
  rw [← rchk_law x hx]; exact rcheck_raw x hx.f w
end Go.Proofs.YtfaoakahmllpjaaDoor
