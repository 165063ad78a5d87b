/- The table: Copy. -/
import Derived.Test.YtjmanajbdkbkdaaTw
namespace Go.Proofs.Ytjmanajbdkbkdaa
open Go.RowKit Go.Um
set_option linter.unusedSimpArgs false
set_option linter.unusedVariables false
set_option maxHeartbeats 4000000
set_option maxRecDepth 100000
/-- a copy has the same rows, laid anew -/
theorem copy_any {base : Nat} {w : World} {p : Nat} {v : Value} {L : List Rw} {nx : Int} (h : TabAt base w p v L nx) (hlen : L.length ≤ 1000) :
    Calls Try.prog 18 #[.pointer (some ⟨p, 0, none⟩)] w fun e w' => ∃ p' v', e = .returned (.pointer (some ⟨p', 0, none⟩)) ∧ w.heap.size ≤ p' ∧ TabAt w.heap.size w' p' v' L nx ∧ Below w.heap.size w w' := by
  have HI := Lib.hid (is_tab h)
  obtain ⟨ao, cap, b, o, rfl, hs⟩ := h.slat
  have c0 := h.c0
  have c1 := h.c1
  have HC := Lib.hid (fun W (hb : Below w.heap.size w W) => clone_any L ao cap b o W (hs.below hb) hlen)
  clear h hs
  go_enter Try.func18, Try.ntmps18
  go_wp2_with fail
  refine HI.out.mono ?_
  rintro e w1 ⟨rfl, rfl⟩
  go_wp2_with fail
  go_region_held3 (fun w' => w'.cell? ⟨p, 0, none⟩ = some (.slice ao L.length cap) ∧ w'.cell? ⟨p, 1, none⟩ = some (.int .i64 nx)) (refine ⟨?_, ?_⟩ <;> (repeat (first | (with_reducible assumption) | (with_reducible apply keep_alloc) | (with_reducible apply keep_drew)))) ((go_at_call 34; refine (HC.out _ (by repeat (first | (with_reducible exact bz w) | (with_reducible apply Below.drew)))).mono ?_; rintro e w2 ⟨v2, rfl, hown, hb⟩; obtain ⟨ao2, cap2, b2, o2, rfl, hs2, _⟩ := SlAt.owned hown; have HO := Lib.hid hown; have hbb : Below w.heap.size w w2 := bt (by repeat (first | (with_reducible exact bz w) | (with_reducible apply Below.drew))) hb; have HBB := Lib.hid hbb; have d0 := cell_past hbb c0; have d1 := cell_past hbb c1; clear hown hb hbb hs2))
  all_goals go_wp2
  all_goals go_ret
  all_goals refine ⟨w2.heap.size, .slice ao2 L.length cap2, rfl, HBB.out.size, ⟨by simp [go_sem], by simp [go_sem], by simp [go_sem], by simp [go_sem], by simp [go_sem], HO.out.alloc _, fun e => ?_⟩, ba HBB.out _⟩
  all_goals
    have := (own_lt HO.out e).2
    omega
end Go.Proofs.Ytjmanajbdkbkdaa
