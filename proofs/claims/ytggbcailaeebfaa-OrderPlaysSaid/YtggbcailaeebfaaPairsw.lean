/- Orders: Pairs' iterator over a key's list. -/
import Derived.Test.YtggbcailaeebfaaCopyw
import Derived.Test.YtggbcailaeebfaaStt
namespace Go.Proofs.Ytggbcailaeebfaa
open Go.RowKit Go.Um Go.Shelf
attribute [local go_sem] Oper.semAt_some
set_option linter.unusedSimpArgs false
set_option linter.unusedVariables false
set_option maxHeartbeats 4000000
set_option maxRecDepth 100000
/-- a place in a list behind which there is another one -/
abbrev Px (l : List Int) := { i : Nat // i + 1 < l.length }
def pxs {l : List Int} (pre : List (Px l)) : List Nat := pre.map Subtype.val
theorem pxs_snoc {l : List Int} (pre : List (Px l)) (x : Px l) : pxs (pre ++ [x]) = pxs pre ++ [x.1] := by simp [pxs]
def pxv (l : List Int) (x : Px l) : Array Value := #[.int .u16 ((l[x.1]?).getD 0), .int .u16 ((l[x.1 + 1]?).getD 0)]
theorem getD_at {l : List Int} {i : Nat} (h : i < l.length) : l[i]? = some ((l[i]?).getD 0) := by
  rw [List.getElem?_eq_getElem h]; rfl
theorem pairs_stops (S : Nat → Prop) (p k B1 n₀ : Nat) (L : Nat → List Int) (w : World) (h : OrdAt S w p L) (hk : k ≤ 255) (hp : p < n₀) (hS : ∀ b, S b → b < n₀) (hn₀ : n₀ ≤ w.heap.size) (hB1 : B1 + 1 < w.heap.size)
    (h1 : w.cell? ⟨B1, 0, none⟩ = some (.pointer (some ⟨p, 0, none⟩))) (h2 : w.cell? ⟨B1 + 1, 0, none⟩ = some (.int .u8 k)) (l : List Int) (hl : l = keyL L k) :
    SeqStopsK Fence.wide 3 Try.prog 34 #[.pointer (some ⟨B1, 0, none⟩), .pointer (some ⟨B1 + 1, 0, none⟩)] (pxv l) (Below n₀) (fun ys => pxs ys = List.range (l.length - 1)) (fun pre => ∃ t, pxs pre = List.range t) 40 w := fun lb J Jx W hW hJab _ hY h0 => by
  have c1 := (hW.cell (p := ⟨B1, 0, none⟩) (by show B1 < w.heap.size; omega)).trans h1
  have c2 := (hW.cell (p := ⟨B1 + 1, 0, none⟩) (by show B1 + 1 < w.heap.size; omega)).trans h2
  have HO := Lib.hid (order_any S p k L W (h.below hW) hk)
  rw [← hl] at HO
  have HNW : Hid (n₀ ≤ W.heap.size) := Lib.hid (Nat.le_trans hn₀ hW.size)
  clear h1 h2 h hW hl
  refine callsIn_of_wp Try.func34 rfl trivial ?_ rfl
  simp only [Try.ntmps34, List.size_toArray, List.length_cons, List.length_nil, Nat.reduceAdd, Nat.reduceSub, Array.replicate_succ, Array.replicate_zero, List.push_toArray, List.append_toArray, List.nil_append, List.cons_append]
  gi_wp2_with fail
  refine ⟨trivial, ?_⟩
  refine (callsIn_wide.2 HO.out).mono ?_
  rintro e w1 ⟨ao, cap, b, o, rfl, hs, hb, h32, rfl⟩
  have hidx := hs.idx (P := Try.prog) (t := 22) Try.underlying22 size37 (by decide)
  obtain ⟨n, hn⟩ : ∃ n, n = l.length := ⟨_, rfl⟩
  rw [← hn] at hidx h32 ⊢
  have HS := Lib.hid hs
  have HN := Lib.hid hn
  have hbn : Hid (0 < n → b < n₀) := Lib.hid (fun h0 => hS b (hb (by omega)).1)
  have hw1 : IntKind.i64.wrap ((n : Int) - 1) = (n : Int) - 1 := IntWalk.i64_in _ (by omega)
  clear hs hb hn c1 c2
  gi_wp2_with fail
  gi_loopw [12] (fun t12 wr => ∃ (i : Nat) (pre : List (Px l)), (i = 0 ∨ i + 1 ≤ n) ∧ t12 = .int .i64 i ∧ Hid (pxs pre = List.range i) ∧ J pre wr ∧ Below n₀ W wr) (fun t12 _ => n - (intOf t12).toNat)
  case atStart => exact ⟨0, [], .inl rfl, rfl, Lib.hid rfl, h0, Below.refl _ _⟩
  case round =>
    obtain ⟨i, pre, hi, rfl, hpre, hJs, hnx⟩ := hrel
    clear h0
    by_cases hlt : i + 1 < n
    · have i1 : (0 : Int) ≤ (i : Int) := by omega
      have i2 : (i : Int) < (n : Int) := by omega
      have i3 : (i : Int) < (n : Int) - 1 := by omega
      have j1 : (0 : Int) ≤ (i : Int) + 1 := by omega
      have j2 : (i : Int) + 1 < (n : Int) := by omega
      have j3 : IntKind.i64.wrap ((i : Int) + 1) = (i : Int) + 1 := IntWalk.i64_in _ (by omega)
      have g0 := (hnx.cell (p := ⟨b, o + i, none⟩) (hbn.out (by omega))).trans (HS.out.cell i _ (us_at (getD_at (by have := HN.out; omega))))
      have g1 := (hnx.cell (p := ⟨b, o + (i + 1), none⟩) (hbn.out (by omega))).trans (HS.out.cell (i + 1) _ (us_at (getD_at (by have := HN.out; omega))))
      have hto : ((i : Int) + 1).toNat = i + 1 := by omega
      have hix1 := hidx ((i : Int) + 1) j1 j2
      rw [hto] at hix1
      have hlen : pre.length < 40 := by
        have h1 := congrArg List.length hpre.out
        simp only [pxs, List.length_map, List.length_range] at h1
        omega
      have hg : wr.grownBy wr.drew none := ⟨rfl, rfl, rfl, Nat.le_refl _, fun _ _ _ => rfl⟩
      have hJd : J pre wr.drew := hJab pre wr wr.drew none hJs hg (fun r e => by cases e)
      have hY1 := hY pre ⟨i, by have := HN.out; omega⟩ wr.drew hJd hlen
      unfold pxv at hY1
      dsimp only at hY1
      obtain ⟨fn, tmps, assign, body, hy, hR⟩ := hY1
      have HV : Hid (pxs (pre ++ [⟨i, by have := HN.out; omega⟩]) = List.range (i + 1)) := Lib.hid (by rw [pxs_snoc, hpre.out, List.range_succ])
      have HNX : Hid (Below n₀ W wr.drew) := Lib.hid hnx.drew
      have g0' : wr.drew.cell? ⟨b, o + i, none⟩ = some (.int .u16 ((l[i]?).getD 0)) := g0
      have g1' : wr.drew.cell? ⟨b, o + (i + 1), none⟩ = some (.int .u16 ((l[i + 1]?).getD 0)) := g1
      have hix0 := hidx (i : Int) i1 i2
      rw [Int.toNat_natCast] at hix0
      clear hY hidx
      gi_wp2
      refine wpIn_region_still_tail 10 (by kernel_rfl) (by kernel_rfl) (by rfl) ?_
      simp only [List.take_succ_cons, List.take_zero, List.drop_succ_cons, List.drop_zero]
      repeat still_step
      try refine wpStill_nil ?_
      change wpListIn _ _ _ _ _ _ _ wr.drew
      gi_wp2
      refine hR.mono ?_
      rintro e W3 (⟨rfl, hJ3, hk3⟩ | ⟨rfl, hJx3⟩)
      · gi_wp2
        go_roundw
        case rel => exact ⟨i + 1, _, .inr (by omega), by go_num, HV, hJ3, HNX.out.trans hk3⟩
        case measure => simp [intOf]; omega
      · gi_wp2
        refine bodyPost_ret (results_none rfl _ _ _) rfl ?_
        exact ⟨⟨_, rfl⟩, .inr ⟨_, ⟨_, HV.out⟩, hJx3⟩⟩
    · have i3 : ¬ (i : Int) < (n : Int) - 1 := by omega
      have hni : l.length - 1 = i := by have := HN.out; omega
      have HNI := Lib.hid hni
      clear hni
      gi_wp2
      go_end0
      exact ⟨⟨_, rfl⟩, .inl ⟨pre, by rw [HNI.out]; exact hpre.out, hJs⟩⟩
end Go.Proofs.Ytggbcailaeebfaa
