/- The steps of the map, a key at a time: printed by gen_leafb.py. -/
import Derived.Test.YtoidbmgoofbcfaaLeaf
namespace Go.Proofs.Ytoidbmgoofbcfaa
open Go.RowKit Go.Um
set_option linter.unusedSimpArgs false
set_option linter.unusedVariables false
set_option maxHeartbeats 4000000

theorem is_any (k v : Int) (w : World) : Calls Try.prog 17 #[.int .u8 k, .int .u16 v] w fun e w' => e = .returned (.agg #[.int .u8 k, .int .u16 v]) ∧ Below w.heap.size w w' := by
  go_enter Try.func17, Try.ntmps17
  go_wp2
  exact bodyPost_ret (v := .agg #[.int .u8 k, .int .u16 v]) (by simp [results, Try.results17, go_sem]) rfl ⟨rfl, ba (bz w) _⟩
theorem op_any (f k a b : Int) (w : World) : Calls Try.prog 28 #[.int .u8 f, .int .u8 k, .int .u16 a, .int .u16 b] w fun e w' => e = .returned (.agg #[.int .u8 f, .int .u8 0, .int .u8 k, .int .u16 a, .int .u16 b]) ∧ Below w.heap.size w w' := by
  go_enter Try.func28, Try.ntmps28
  go_wp2
  exact bodyPost_ret (v := .agg #[.int .u8 f, .int .u8 0, .int .u8 k, .int .u16 a, .int .u16 b]) (by simp [results, Try.results28, go_sem]) rfl ⟨rfl, ba (bz w) _⟩
theorem new_any (w : World) : Calls Try.prog 16 #[] w fun e w' => e = .returned KV.zero.val ∧ Below w.heap.size w w' := by
  go_enter Try.func16, Try.ntmps16
  go_wp2
  exact bodyPost_ret (v := KV.zero.val) (by simp [results, Try.results16, go_sem, KV.zero, KV.val]) rfl ⟨rfl, ba (bz w) _⟩
theorem idle_any (f : Int) (w : World) : Calls Try.prog 29 #[.int .u8 f] w fun e w' => e = .returned (.bool (f == 6)) ∧ w = w' := by
  go_enter Try.func29, Try.ntmps29
  go_wp2
  go_ret
  exact ⟨rfl, rfl⟩
theorem said_any (b : Bool) (w : World) : Calls Try.prog 57 #[.bool b] w fun e w' => e = .returned (.agg #[.int .u8 (if b then 3 else 4), .int .u16 0]) ∧ Below w.heap.size w w' := by
  cases b
  · go_enter Try.func57, Try.ntmps57
    go_wp2
    exact bodyPost_ret (v := .agg #[.int .u8 4, .int .u16 0]) (by simp [results, Try.results57, go_sem]) rfl ⟨rfl, ba (bz w) _⟩
  · go_enter Try.func57, Try.ntmps57
    go_wp2
    exact bodyPost_ret (v := .agg #[.int .u8 3, .int .u16 0]) (by simp [results, Try.results57, go_sem]) rfl ⟨rfl, ba (bz w) _⟩

theorem kept1 {w w2 : World} {p : Nat} (h : Below w.heap.size w w2) (hp : p < w.heap.size) : Kept (fun i => i = p) w w2 := (Kept.refl _ w).trans (Kept.of_below h) (fun i hi e => absurd e (by omega))
end Go.Proofs.Ytoidbmgoofbcfaa
