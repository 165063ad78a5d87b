/- TablePlays: same. -/
import Derived.Test.YtjmanajbdkbkdaaTrf
import Derived.Test.YtjmanajbdkbkdaaTx
import Derived.BigQuiet
import Derived.Test.YtjmanajbdkbkdaaTq
namespace Go.Proofs.Ytjmanajbdkbkdaa
open Go.RowKit Go.Um
set_option linter.unusedSimpArgs false
set_option linter.unusedVariables false
set_option maxHeartbeats 4000000
set_option maxRecDepth 100000
theorem ne54 (x : Rw) (W : World) : (binOp .neq 54 x.val x.val).run Try.prog W = .ok (.bool false) W := by
  unfold Rw.val
  simp [go_sem, eq29, eq31s]
theorem same_any {base base' : Nat} {w : World} {p q : Nat} {v v' : Value} {L : List Rw} {nx nx' : Int} (h : TabAt base w p v L nx) (hr : RTab base' w q v' L nx') (hlen : L.length ≤ 1000) :
    Calls Try.prog 22 #[.pointer (some ⟨p, 0, none⟩), .pointer (some ⟨q, 0, none⟩)] w fun e w' => e = .returned (.bool true) ∧ Below w.heap.size w w' := by
  have HR := Lib.hid (rows_any h hlen)
  obtain ⟨ao, cap, b, o, rfl, hs⟩ := hr.slat
  have c0 := hr.c0
  have hidx := hs.idx (P := Try.prog) (t := 58) (e := 54) (by kernel_rfl) size54 (by decide)
  have HS := Lib.hid (fun W (hb : Below w.heap.size w W) => hs.below hb)
  obtain ⟨n, hn⟩ : ∃ n, n = L.length := ⟨_, rfl⟩
  rw [← hn] at hidx hlen c0
  have HN := Lib.hid hn
  clear h hr hs hn
  go_enter Try.func22, Try.ntmps22
  go_wp2_with fail
  refine HR.out.mono ?_
  rintro e w2 ⟨v5, rfl, hown, hb⟩
  obtain ⟨ao5, cap5, b5, o5, rfl, hs5, _⟩ := SlAt.owned hown
  have hidx5 := hs5.idx (P := Try.prog) (t := 38) (e := 41) (by kernel_rfl) size41 (by decide)
  rw [← HN.out] at hidx5 ⊢
  have HS5 := Lib.hid hs5
  have HS2 := Lib.hid (HS.out _ hb)
  have d0 := cell_past hb c0
  have HB := Lib.hid hb
  clear hown hb hs5 c0 HS
  have hnn : ((n : Int) != (n : Int)) = false := by simp
  go_wp2_with fail
  go_loopw [6] (fun t6 wr => ∃ i : Nat, i ≤ n ∧ t6 = .int .i64 i ∧ Hid (Below w2.heap.size w2 wr)) (fun t6 _ => n - (intOf t6).toNat)
  case atStart => exact ⟨0, Nat.zero_le _, rfl, Lib.hid (bz _)⟩
  case round =>
    obtain ⟨i, hi, rfl, hbel⟩ := hrel
    have HS5 := Lib.hid (HS5.out.below hbel.out)
    have HS2 := Lib.hid (HS2.out.below hbel.out)
    have d0 := cell_past hbel.out d0
    by_cases hlt : i < n
    · have i1 : (0 : Int) ≤ (i : Int) := by omega
      have i2 : (i : Int) < (n : Int) := by omega
      have i3 : decide ((i : Int) < (n : Int)) = true := decide_eq_true i2
      obtain ⟨x, hx⟩ : ∃ x, L[i]? = some x := ⟨_, List.getElem?_eq_getElem (by rw [← HN.out]; exact hlt)⟩
      obtain ⟨g0, g1, g2, g3, g4, g5, g6, g7, g8, g9, g10, g11⟩ := row_at HS5.out hx
      obtain ⟨k0, k1, k2, k3, k4, k5, k6, k7, k8, k9, k10, k11⟩ := row_at HS2.out hx
      have hne := ne54 x
      unfold Rw.val at hne
      clear hx
      go_wp2_with fail
      go_quiet (fail)
      go_wp2_with fail
      go_roundw
      case rel => exact ⟨i + 1, by omega, by go_num, Lib.hid (by repeat (first | (with_reducible exact hbel.out) | (with_reducible apply Below.drew) | (with_reducible apply below_drewN)))⟩
      case measure => simp [intOf]; omega
    · have i2 : ¬ (i : Int) < (n : Int) := by omega
      have i3 : decide ((i : Int) < (n : Int)) = false := decide_eq_false i2
      go_wp2
      go_ret
      exact ⟨rfl, bt HB.out hbel.out⟩
end Go.Proofs.Ytjmanajbdkbkdaa
