/- Orders: Place, At, Copy, Pairs; orders that are none. -/
import Derived.Test.YtggbcailaeebfaaWorks
import Derived.RangeFuncNested
import Derived.RangeFuncBound
import Derived.RangeFuncCalls
import Derived.RangeFuncLeaves
import Derived.Shelf.Abstract
import Derived.Shelf.RegionOpen
import Derived.WalkKit
import Derived.OwnWalkIn
import Derived.TacticsInMore
import Derived.LoopNIn
import Derived.LoopIn
namespace Go.Proofs.Ytggbcailaeebfaa
open Go.RowKit Go.Um Go.Shelf
attribute [local go_sem] Oper.semAt_some
set_option linter.unusedSimpArgs false
set_option linter.unusedVariables false
set_option maxHeartbeats 4000000
set_option maxRecDepth 100000
theorem place_any (S : Nat → Prop) (p k : Nat) (L : Nat → List Int) (v : Int) (w : World) (h : OrdAt S w p L) (hk : k ≤ 255) :
    Calls Try.prog 22 #[.pointer (some ⟨p, 0, none⟩), .int .u8 k, .int .u16 v] w fun e w' => e = .returned (.tuple #[.int .i64 (max (ix (keyL L k) v) 0), .bool (decide (v ∈ keyL L k))]) ∧ w = w' := by
  have ho := order_any S p k L w h hk
  obtain ⟨l, hl⟩ : ∃ l, l = keyL L k := ⟨_, rfl⟩
  rw [← hl] at ho ⊢
  have HO := Lib.hid ho
  have HG := Lib.hid (ix_ge l v)
  have HI := Lib.hid (fun ao cap b o W (hs : SlAt W 1 l.length (us l) ao cap b o) (h32 : l.length ≤ 32) => index_any l v ao cap b o W hs (by omega))
  obtain ⟨I, hI⟩ : ∃ I, I = ix l v := ⟨_, rfl⟩
  rw [← hI] at HG HI ⊢
  obtain ⟨B, hB⟩ : ∃ B, B = decide (v ∈ l) := ⟨_, rfl⟩
  rw [← hB] at HG ⊢
  clear ho hl h hI hB
  go_enter Try.func22, Try.ntmps22
  go_wp2_with fail
  refine HO.out.mono ?_
  rintro e w1 ⟨ao, cap, b, o, rfl, hs, _, h32, rfl⟩
  have HS := Lib.hid (HI.out ao cap b o w hs h32)
  clear hs
  go_wp2_with fail
  refine HS.out.mono ?_
  rintro e w1 ⟨rfl, rfl⟩
  have hg := HG.out
  have hmx : ∀ w, (Builtin.max_ #[3, 3] 3 #[.int .i64 I, .int .i64 0]).run Try.prog w = .ok (.int .i64 (max I 0)) w := fun w => by simp [go_sem]; split <;> omega
  go_wp2
  exact bodyPost_ret (v := .tuple #[.int .i64 (max I 0), .bool B]) (by simp [results, Try.results22, go_sem]) rfl ⟨rfl, rfl⟩
theorem at_in (S : Nat → Prop) (p k : Nat) (L : Nat → List Int) (j : Nat) (x : Int) (w : World) (h : OrdAt S w p L) (hk : k ≤ 255) (hx : (keyL L k)[j]? = some x) :
    Calls Try.prog 23 #[.pointer (some ⟨p, 0, none⟩), .int .u8 k, .int .i64 j] w fun e w' => e = .returned (.tuple #[.int .u16 x, .bool true]) ∧ w = w' := by
  have ho := order_any S p k L w h hk
  obtain ⟨l, hl⟩ : ∃ l, l = keyL L k := ⟨_, rfl⟩
  rw [← hl] at ho hx
  have HO := Lib.hid ho
  have HX := Lib.hid hx
  have hj : j < l.length := (List.getElem?_eq_some_iff.1 hx).1
  obtain ⟨n, hn⟩ : ∃ n, n = l.length := ⟨_, rfl⟩
  have j0 : (0 : Int) ≤ (j : Int) := by omega
  have j1 : (j : Int) < (n : Int) := by omega
  have j2 : ¬ (j : Int) < 0 := by omega
  have j3 : ¬ (n : Int) ≤ (j : Int) := by omega
  have HN := Lib.hid hn
  clear ho hl h hx hj hn
  go_enter Try.func23, Try.ntmps23
  go_wp2_with fail
  refine HO.out.mono ?_
  rintro e w1 ⟨ao, cap, b, o, rfl, hs, _, h32, rfl⟩
  have hidx := hs.idx (P := Try.prog) (t := 22) Try.underlying22 size37 (by decide)
  have g0 := val_at hs HX.out
  rw [← HN.out] at hidx ⊢
  clear hs h32
  go_wp2_with fail
  exact bodyPost_ret (v := .tuple #[.int .u16 x, .bool true]) (by simp [results, Try.results23, go_sem]) rfl ⟨rfl, rfl⟩
theorem at_out (S : Nat → Prop) (p k : Nat) (L : Nat → List Int) (i : Int) (w : World) (h : OrdAt S w p L) (hk : k ≤ 255) (hx : i < 0 ∨ (0 ≤ i ∧ ((keyL L k).length : Int) ≤ i)) :
    Calls Try.prog 23 #[.pointer (some ⟨p, 0, none⟩), .int .u8 k, .int .i64 i] w fun e w' => e = .returned (.tuple #[.int .u16 0, .bool false]) ∧ w = w' := by
  have ho := order_any S p k L w h hk
  obtain ⟨l, hl⟩ : ∃ l, l = keyL L k := ⟨_, rfl⟩
  rw [← hl] at ho hx
  have HO := Lib.hid ho
  obtain ⟨n, hn⟩ : ∃ n, n = l.length := ⟨_, rfl⟩
  rw [← hn] at hx
  have HN := Lib.hid hn
  clear ho hl h hn
  rcases hx with j0 | ⟨j0, j1⟩
  all_goals
    try have j2 : ¬ i < 0 := by omega
    go_enter Try.func23, Try.ntmps23
    go_wp2_with fail
    refine HO.out.mono ?_
    rintro e w1 ⟨ao, cap, b, o, rfl, hs, _, h32, rfl⟩
    rw [← HN.out]
    clear hs h32
    go_wp2_with fail
    exact bodyPost_ret (v := .tuple #[.int .u16 0, .bool false]) (by simp [results, Try.results23, go_sem]) rfl ⟨rfl, rfl⟩
/-! ### orders that are none -/
def ZeroAt (w : World) (q : Nat) : Prop := w.cell? ⟨q, 0, none⟩ = some (.bool false)
theorem is_zero (q : Nat) (w : World) (h : ZeroAt w q) : Calls Try.prog 28 #[.pointer (some ⟨q, 0, none⟩)] w fun e w' => e = .returned (.bool false) ∧ w = w' := by
  unfold ZeroAt at h
  go_enter Try.func28, Try.ntmps28
  go_wp2
  go_ret
  exact ⟨rfl, rfl⟩
theorem take_zero (q : Nat) (k : Int) (v : Value) (w : World) (h : ZeroAt w q) : Calls Try.prog 15 #[.pointer (some ⟨q, 0, none⟩), .int .u8 k, v] w fun e w' => e = .returned (.tuple #[.bool false, .int .i64 1]) ∧ w = w' := by
  have H := Lib.hid (is_zero q w h)
  clear h
  go_enter Try.func15, Try.ntmps15
  go_wp2_with fail
  refine H.out.mono ?_
  rintro e w1 ⟨rfl, rfl⟩
  go_wp2
  go_ret2
  exact ⟨rfl, rfl⟩
theorem order_zero (q : Nat) (k : Int) (w : World) (h : ZeroAt w q) : Calls Try.prog 27 #[.pointer (some ⟨q, 0, none⟩), .int .u8 k] w fun e w' => e = .returned (.slice none 0 0) ∧ w = w' := by
  have H := Lib.hid (is_zero q w h)
  clear h
  go_enter Try.func27, Try.ntmps27
  go_wp2_with fail
  refine H.out.mono ?_
  rintro e w1 ⟨rfl, rfl⟩
  go_wp2
  go_ret
  exact ⟨rfl, rfl⟩
theorem order_nil (k : Int) (w : World) : Calls Try.prog 27 #[.pointer none, .int .u8 k] w fun e w' => e = .returned (.slice none 0 0) ∧ w = w' := by
  go_enter Try.func27, Try.ntmps27
  go_wp2_with fail
  refine (is_nil w).mono ?_
  rintro e w1 ⟨rfl, rfl⟩
  go_wp2
  go_ret
  exact ⟨rfl, rfl⟩
theorem at_nil (k i : Int) (w : World) (hi : 0 ≤ i) : Calls Try.prog 23 #[.pointer none, .int .u8 k, .int .i64 i] w fun e w' => e = .returned (.tuple #[.int .u16 0, .bool false]) ∧ w = w' := by
  have j2 : ¬ i < 0 := by omega
  go_enter Try.func23, Try.ntmps23
  go_wp2_with fail
  refine (order_nil k w).mono ?_
  rintro e w1 ⟨rfl, rfl⟩
  go_wp2_with fail
  exact bodyPost_ret (v := .tuple #[.int .u16 0, .bool false]) (by simp [results, Try.results23, go_sem]) rfl ⟨rfl, rfl⟩
theorem of_zero (q : Nat) (k : Int) (w : World) (h : ZeroAt w q) : Calls Try.prog 14 #[.pointer (some ⟨q, 0, none⟩), .int .u8 k] w (OwnPost [] w) := by
  have H := Lib.hid (order_zero q k w h)
  clear h
  go_enter Try.func14, Try.ntmps14
  go_wp2_with fail
  refine H.out.mono ?_
  rintro e w1 ⟨rfl, rfl⟩
  go_wp2_with fail
  refine (clone_any [] none 0 0 0 w (slat_none w) (by decide)).mono ?_
  rintro e w1 ⟨v, rfl, hown, hb⟩
  go_wp2
  go_ret
  exact ⟨_, rfl, hown, hb⟩
theorem copy_nil (w : World) : Calls Try.prog 17 #[.pointer none] w fun e w' => e = .returned (.pointer none) ∧ w = w' := by
  go_enter Try.func17, Try.ntmps17
  go_wp2_with fail
  refine (is_nil w).mono ?_
  rintro e w1 ⟨rfl, rfl⟩
  go_wp2
  go_ret
  exact ⟨rfl, rfl⟩
theorem copy_zero (q : Nat) (w : World) (h : ZeroAt w q) : Calls Try.prog 17 #[.pointer (some ⟨q, 0, none⟩)] w fun e w' => e = .returned (.pointer none) ∧ w = w' := by
  have H := Lib.hid (is_zero q w h)
  clear h
  go_enter Try.func17, Try.ntmps17
  go_wp2_with fail
  refine H.out.mono ?_
  rintro e w1 ⟨rfl, rfl⟩
  go_wp2
  go_ret
  exact ⟨rfl, rfl⟩
/-- Pairs: the iterator's value -/
theorem pairs_in (F : Fence) (n : Nat) (hall : F.fn 24) (hro : F.round = none) (pv : Option Addr) (k : Int) (w : World) :
    CallsIn F n Try.prog 24 #[.pointer pv, .int .u8 k] w fun e w' => e = .returned (.func (.func 34) #[] #[.pointer (some ⟨w.heap.size, 0, none⟩), .pointer (some ⟨w.heap.size + 1, 0, none⟩)]) ∧ w' = (w.alloc (.cells #[.pointer pv] 27)).alloc (.cells #[.int .u8 k] 5) := by
  refine callsIn_of_wp Try.func24 rfl hall ?_ hro
  simp only [Try.ntmps24, List.size_toArray, List.length_cons, List.length_nil, Nat.reduceAdd, Nat.reduceSub, Array.replicate_succ, Array.replicate_zero, List.push_toArray, List.append_toArray, List.nil_append, List.cons_append]
  gi_wp2
  go_ret
  exact ⟨rfl, rfl⟩
theorem pairs0_stops (B1 q n₀ : Nat) (w : World) (hq : q < w.heap.size) (hB1 : B1 + 1 < w.heap.size) (h1 : w.cell? ⟨B1, 0, none⟩ = some (.pointer (some ⟨q, 0, none⟩))) (h2 : w.cell? ⟨B1 + 1, 0, none⟩ = some (.int .u8 0)) (hz : ZeroAt w q) :
    SeqStopsK Fence.wide 3 Try.prog 34 #[.pointer (some ⟨B1, 0, none⟩), .pointer (some ⟨B1 + 1, 0, none⟩)] (fun x : Empty => x.elim) (Below n₀) (fun ys => True) (fun pre => False) 0 w := fun l J Jx W hW _ _ hY h0 => by
  have c1 := (hW.cell (p := ⟨B1, 0, none⟩) (by show B1 < w.heap.size; omega)).trans h1
  have c2 := (hW.cell (p := ⟨B1 + 1, 0, none⟩) (by show B1 + 1 < w.heap.size; omega)).trans h2
  have HZ : Hid (ZeroAt W q) := Lib.hid ((hW.cell (p := ⟨q, 0, none⟩) hq).trans hz)
  clear h1 h2 hz hW hY
  refine callsIn_of_wp Try.func34 rfl trivial ?_ rfl
  simp only [Try.ntmps34, List.size_toArray, List.length_cons, List.length_nil, Nat.reduceAdd, Nat.reduceSub, Array.replicate_succ, Array.replicate_zero, List.push_toArray, List.append_toArray, List.nil_append, List.cons_append]
  gi_wp2_with fail
  refine ⟨trivial, ?_⟩
  refine (callsIn_wide.2 (order_zero q 0 W HZ.out)).mono ?_
  rintro e w1 ⟨rfl, rfl⟩
  gi_wp2_with fail
  gi_loopw [12] (fun t12 wr => t12 = .int .i64 0 ∧ wr = W) (fun _ _ => 0)
  case atStart => exact ⟨rfl, rfl⟩
  case round =>
    obtain ⟨rfl, rfl⟩ := hrel
    gi_wp2
    go_end0
    exact ⟨⟨_, rfl⟩, .inl ⟨[], trivial, h0⟩⟩
end Go.Proofs.Ytggbcailaeebfaa
