/- The document's table: Find, Count, Before. Printed by gen_trc.py. -/
import Derived.Test.YtjmanajbdkbkdaaTri
import Derived.Test.YtjmanajbdkbkdaaTw
namespace Go.Proofs.Ytjmanajbdkbkdaa
open Go.RowKit Go.Um
set_option linter.unusedSimpArgs false
set_option linter.unusedVariables false
set_option maxHeartbeats 4000000
set_option maxRecDepth 100000
theorem rrowc_new (w : World) (x : Rw) : RowC (w.alloc (.cells #[.int .u8 x.cl, .int .u16 x.id, .int .u8 x.f, .int .u8 x.ob, .int .u8 x.ke, .int .u16 x.a, .int .u16 x.b, .int .u8 x.k, .int .u16 x.v, .int .u8 x.st, .int .i64 x.fr, .int .i64 x.to] 54)) w.heap.size 0 x := ⟨by simp [go_sem], by simp [go_sem], by simp [go_sem], by simp [go_sem], by simp [go_sem], by simp [go_sem], by simp [go_sem], by simp [go_sem], by simp [go_sem], by simp [go_sem], by simp [go_sem], by simp [go_sem]⟩
theorem rfind_any {base : Nat} {w : World} {p : Nat} {v : Value} {L : List Rw} {nx : Int} (id : Int) (h : RTab base w p v L nx) (hlen : L.length ≤ 1000) :
    Calls Try.prog 23 #[.pointer (some ⟨p, 0, none⟩), .int .u16 id] w fun e w' => e = .returned (.tuple #[(findR L id).val, .bool (decide (0 ≤ ixF L id))]) ∧ Below w.heap.size w w' := by
  have HW := Lib.hid (fun W (hb : Below w.heap.size w W) => rat_b id (h.below hb) (by omega))
  obtain ⟨ao, cap, b, o, rfl, hs⟩ := h.slat
  have c0 := h.c0
  rcases ixF_cases L id with hi | ⟨i, x, hi, hx, hxid⟩
  · rw [hi] at HW
    have e1 : findR L id = Rw.zero := by unfold findR; rw [hi]; split <;> simp
    rw [e1, hi]
    clear h hs hi e1
    go_enter Try.func23, Try.ntmps23
    go_wp2_with fail
    refine (HW.out _ (ba (bz w) _)).mono ?_
    rintro e w2 ⟨rfl, hb2⟩
    have HB2 := Lib.hid (bt (ba (bz w) _) hb2)
    have RZ := (rrowc_new w Rw.zero).below hb2
    obtain ⟨z0, z1, z2, z3, z4, z5, z6, z7, z8, z9, z10, z11⟩ := RZ
    have fz := fun j => kf hb2 w.heap.size j (by simp) (show (w.alloc (.cells #[.int .u8 0, .int .u16 0, .int .u8 0, .int .u8 0, .int .u8 0, .int .u16 0, .int .u16 0, .int .u8 0, .int .u16 0, .int .u8 0, .int .i64 0, .int .i64 0] 54)).frozen? ⟨w.heap.size, j, none⟩ = false from frozen_new _ _ _ _)
    have fz0 := fz 0
    have fz1 := fz 1
    have fz2 := fz 2
    have fz3 := fz 3
    have fz4 := fz 4
    have fz5 := fz 5
    have fz6 := fz 6
    have fz7 := fz 7
    have fz8 := fz 8
    have fz9 := fz 9
    have fz10 := fz 10
    have fz11 := fz 11
    simp only [Nat.zero_add] at z0 z1 z2 z3 z4 z5 z6 z7 z8 z9 z10 z11
    unfold Rw.zero at z0 z1 z2 z3 z4 z5 z6 z7 z8 z9 z10 z11
    dsimp only at z0 z1 z2 z3 z4 z5 z6 z7 z8 z9 z10 z11
    have HB2' := Lib.hid hb2
    have HFZ := Lib.hid fz
    clear hb2 fz
    go_wp2
    have hF := (RowF.mk (w := w2) (c := w.heap.size) (x := Rw.zero) ((rrowc_new w Rw.zero).below (HB2'.out)) (fun j _ => HFZ.out j)).put Rw.zero
    obtain ⟨q0, q1, q2, q3, q4, q5, q6, q7, q8, q9, q10, q11⟩ := hF.row
    simp only [Nat.zero_add] at q0 q1 q2 q3 q4 q5 q6 q7 q8 q9 q10 q11
    change bodyPost _ _ _ _ _ (put12 w2 w.heap.size Rw.zero)
    refine bodyPost_ret (v := .tuple #[Rw.zero.val, .bool false]) ?_ rfl ⟨rfl, put12_below HB2.out (Nat.le_refl _) _⟩
    simp [results, Try.f23, go_sem, q0, q1, q2, q3, q4, q5, q6, q7, q8, q9, q10, q11, Rw.val]
  · rw [hi] at HW
    have hil := (List.getElem?_eq_some_iff.1 hx).1
    have e1 : findR L id = x := by unfold findR; rw [hi, Int.toNat_natCast, hx]; simp
    have e2 : decide (0 ≤ (i : Int)) = true := decide_eq_true (by omega)
    rw [e1, hi, e2]
    have hidx := hs.idx (P := Try.prog) (t := 58) (e := 54) (by kernel_rfl) size54 (by decide)
    have HRW := Lib.hid (fun W (hb : Below w.heap.size w W) => And.intro (row_at (hs.below hb) hx) (cell_past hb c0))
    obtain ⟨n, hn⟩ : ∃ n, n = L.length := ⟨_, rfl⟩
    rw [← hn] at hidx hil HRW
    have HN := Lib.hid hn
    have i1 : (0 : Int) ≤ (i : Int) := by omega
    have i2 : (i : Int) < (n : Int) := by omega
    have i3 : decide ((i : Int) < 0) = false := decide_eq_false (by omega)
    clear h hs hi hx hn e1 e2 c0 hxid
    go_enter Try.func23, Try.ntmps23
    go_wp2_with fail
    refine (HW.out _ (ba (bz w) _)).mono ?_
    rintro e w2 ⟨rfl, hb2⟩
    have HB2 := Lib.hid (bt (ba (bz w) _) hb2)
    have RZ := (rrowc_new w Rw.zero).below hb2
    have HB2' := Lib.hid hb2
    have fz := fun j => kf hb2 w.heap.size j (by simp) (show (w.alloc (.cells #[.int .u8 0, .int .u16 0, .int .u8 0, .int .u8 0, .int .u8 0, .int .u16 0, .int .u16 0, .int .u8 0, .int .u16 0, .int .u8 0, .int .i64 0, .int .i64 0] 54)).frozen? ⟨w.heap.size, j, none⟩ = false from frozen_new _ _ _ _)
    have fz0 := fz 0
    have fz1 := fz 1
    have fz2 := fz 2
    have fz3 := fz 3
    have fz4 := fz 4
    have fz5 := fz 5
    have fz6 := fz 6
    have fz7 := fz 7
    have fz8 := fz 8
    have fz9 := fz 9
    have fz10 := fz 10
    have fz11 := fz 11
    have HFZ := Lib.hid fz
    obtain ⟨z0, z1, z2, z3, z4, z5, z6, z7, z8, z9, z10, z11⟩ := RZ
    simp only [Nat.zero_add] at z0 z1 z2 z3 z4 z5 z6 z7 z8 z9 z10 z11
    unfold Rw.zero at z0 z1 z2 z3 z4 z5 z6 z7 z8 z9 z10 z11
    dsimp only at z0 z1 z2 z3 z4 z5 z6 z7 z8 z9 z10 z11
    obtain ⟨⟨g0, g1, g2, g3, g4, g5, g6, g7, g8, g9, g10, g11⟩, d0⟩ := HRW.out _ HB2.out
    clear hb2 fz HW
    go_wp2
    have hF := (RowF.mk (w := w2) (c := w.heap.size) (x := Rw.zero) ((rrowc_new w Rw.zero).below (HB2'.out)) (fun j _ => HFZ.out j)).put x
    obtain ⟨q0, q1, q2, q3, q4, q5, q6, q7, q8, q9, q10, q11⟩ := hF.row
    simp only [Nat.zero_add] at q0 q1 q2 q3 q4 q5 q6 q7 q8 q9 q10 q11
    change bodyPost _ _ _ _ _ (put12 w2 w.heap.size x)
    refine bodyPost_ret (v := .tuple #[x.val, .bool true]) ?_ rfl ⟨rfl, put12_below HB2.out (Nat.le_refl _) _⟩
    simp [results, Try.f23, go_sem, q0, q1, q2, q3, q4, q5, q6, q7, q8, q9, q10, q11, Rw.val]
theorem rcount_any {base : Nat} {w : World} {q : Nat} {v : Value} {L : List Rw} {nx : Int} (s : Int) (h : RTab base w q v L nx) (hlen : L.length ≤ 1000) :
    Calls Try.prog 24 #[.pointer (some ⟨q, 0, none⟩), .int .u8 s] w fun e w' => e = .returned (.int .i64 (cntR L s : Nat)) ∧ w = w' := by
  obtain ⟨ao, cap, b, o, rfl, hs⟩ := h.slat
  have c0 := h.c0
  have hidx := hs.idx (P := Try.prog) (t := 58) (e := 54) (by kernel_rfl) size54 (by decide)
  obtain ⟨n, hn⟩ : ∃ n, n = L.length := ⟨_, rfl⟩
  rw [← hn] at hidx hlen c0
  have HS := Lib.hid hs
  have HN := Lib.hid hn
  obtain ⟨R, hR⟩ : ∃ R, R = cntR L s := ⟨_, rfl⟩
  rw [← hR]
  have HR := Lib.hid hR
  clear h hs hn hR
  go_enter Try.func24, Try.ntmps24
  go_wp2_with fail
  go_loop [5, 6] (fun t5 t6 => ∃ i : Nat, i ≤ n ∧ t6 = .int .i64 i ∧ t5 = .int .i64 (cntR (L.take i) s : Nat)) (fun _ t6 => n - (intOf t6).toNat)
  case atStart => exact ⟨0, Nat.zero_le _, rfl, by simp [cntR]⟩
  case round =>
    obtain ⟨i, hi, rfl, rfl⟩ := hrel
    obtain ⟨c, hc⟩ : ∃ c, c = cntR (L.take i) s := ⟨_, rfl⟩
    have hcl : c ≤ n := by rw [hc]; exact Nat.le_trans (cnt_le _ _) (by rw [List.length_take]; omega)
    have HCC := Lib.hid hc
    rw [← hc]
    clear hc
    by_cases hlt : i < n
    · have i1 : (0 : Int) ≤ (i : Int) := by omega
      have i2 : (i : Int) < (n : Int) := by omega
      have i3 : decide ((i : Int) < (n : Int)) = true := decide_eq_true i2
      obtain ⟨x, hx⟩ : ∃ x, L[i]? = some x := ⟨_, List.getElem?_eq_getElem (by rw [← HN.out]; exact hlt)⟩
      have g9 := (row_at HS.out hx).c9
      have HCS := Lib.hid (cnt_snoc hx s)
      have hwc : IntKind.i64.wrap ((c : Int) + 1) = (c : Int) + 1 := IntWalk.i64_in _ (by omega)
      clear hx
      by_cases he : x.st = s
      · have t1 : (x.st == s) = true := by simpa using he
        rw [t1] at HCS
        clear he
        go_wp2_with fail
        go_round
        case rel =>
          refine ⟨i + 1, by omega, by go_num, ?_⟩
          rw [HCS.out, ← HCC.out]
          simp
        case measure => simp [intOf]; omega
      · have t1 : (x.st == s) = false := by simpa using he
        rw [t1] at HCS
        clear he
        go_wp2_with fail
        go_round
        case rel =>
          refine ⟨i + 1, by omega, by go_num, ?_⟩
          rw [HCS.out, ← HCC.out]
          simp
        case measure => simp [intOf]; omega
    · have i2 : ¬ (i : Int) < (n : Int) := by omega
      have i3 : decide ((i : Int) < (n : Int)) = false := decide_eq_false i2
      have HI := Lib.hid (show i = n by omega)
      go_wp2
      go_ret
      refine ⟨?_, rfl⟩
      rw [HR.out, HCC.out, HI.out, HN.out, List.take_length]
      rfl
theorem rbefore_any (x y : Rw) (w : World) : Calls Try.prog 25 #[x.val, y.val] w fun e w' => e = .returned (.bool (bef x y)) ∧ Below w.heap.size w w' := by
  unfold Rw.val
  by_cases h1 : x.st = 1
  · have t1 : (x.st == 1) = true := by simpa using h1
    have e1 : bef x y = decide (x.to < y.fr) := by unfold bef; rw [decide_eq_true h1]; rfl
    rw [e1]
    clear h1 e1
    go_enter Try.func25, Try.ntmps25
    go_wp2
    go_ret
    exact ⟨rfl, ba (ba (bz w) _) _⟩
  · have t1 : (x.st == 1) = false := by simpa using h1
    have e1 : bef x y = false := by unfold bef; rw [decide_eq_false h1]; rfl
    rw [e1]
    clear h1 e1
    go_enter Try.func25, Try.ntmps25
    go_wp2
    go_ret
    exact ⟨rfl, ba (ba (bz w) _) _⟩
end Go.Proofs.Ytjmanajbdkbkdaa
