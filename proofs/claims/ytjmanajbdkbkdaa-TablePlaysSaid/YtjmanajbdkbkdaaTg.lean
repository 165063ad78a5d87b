/- The table: New, Rows, Before; how a state goes on. -/
import Derived.Test.YtjmanajbdkbkdaaTf
namespace Go.Proofs.Ytjmanajbdkbkdaa
open Go.RowKit Go.Um
set_option linter.unusedSimpArgs false
set_option linter.unusedVariables false
set_option maxHeartbeats 4000000
set_option maxRecDepth 100000
theorem new_any (base : Nat) (w : World) (hb : base ≤ w.heap.size) : Calls Try.prog 8 #[] w fun e w' => e = .returned (.pointer (some ⟨w.heap.size, 0, none⟩)) ∧ TabAt base w' w.heap.size (.slice none 0 0) [] 0 ∧ Below w.heap.size w w' ∧ w'.heap.size = w.heap.size + 1 := by
  go_enter Try.func8, Try.ntmps8
  go_wp2
  go_ret
  refine ⟨rfl, ⟨by simp [go_sem], by simp [go_sem], by simp [go_sem], by simp [go_sem], by simp [go_sem], World.ownsRow_nil _ _ _ _, by simp [Value.ownBlock]⟩, ba (bz w) _, by simp⟩
theorem own_of {w w' : World} {base p : Nat} {v : Value} {L : List Rw} {nx : Int} (hT : TabAt base w p v L nx) (hp : base ≤ p) {b : Nat} (h : Own p v b) : base ≤ b := by
  rcases h with rfl | h
  · exact hp
  · exact (own_lt hT.own h).1
/-- a step's end, as the caller wants it -/
theorem TPost.bel {base p : Nat} {v : Value} {L L' : List Rw} {nx nx' E : Int} {W0 w w' : World} {e : Ending} (h : TPost base p v E L' nx' w e w') (hT : TabAt base w p v L nx) (hp : base ≤ p) (h0 : Below base W0 w) (hz : base ≤ w.heap.size) : Below base W0 w' := by
  obtain ⟨_, v', _, hk, _⟩ := h
  exact h0.trans (hk.below (fun k hk' _ ho => by have := own_of (w' := w) hT hp ho; omega) hz)
theorem TPost.far {base p b : Nat} {v v' : Value} {w : World} (hF : Fresh w v v') (hb : b < w.heap.size) (hv : v.ownBlock ≠ some b) : v'.ownBlock ≠ some b := by
  rcases hF with h | ⟨g, h, hg⟩
  · rw [h]; exact hv
  · rw [h]; intro e; have := Option.some.inj e; omega
theorem eql38 (ad : Addr) (n cap : Nat) (w : World) : (binOp .eql 38 (.slice (some ad) n cap) (.slice none 0 0)).run Try.prog w = .ok (.bool false) w := by kernel_rfl
theorem eql38n (n cap : Nat) (w : World) : (binOp .eql 38 (.slice none n cap) (.slice none 0 0)).run Try.prog w = .ok (.bool true) w := by kernel_rfl
/-- the rows are the call's own -/
def OwnPost (L : List Rw) (w : World) (e : Ending) (w' : World) : Prop := ∃ v, e = .returned v ∧ w'.ownsRow w.heap.size 41 12 v L.length (L.flatMap Rw.cells) ∧ Below w.heap.size w w'
theorem rows_len (L : List Rw) : (L.flatMap Rw.cells).length = L.length * 12 := length_flat Rw.twelve L
theorem rows_one {L : List Rw} : ∀ u ∈ L.flatMap Rw.cells, u.oneCell' = true := by
  intro u hu
  obtain ⟨x, _, hx⟩ := List.mem_flatMap.1 hu
  exact x.one u hx
theorem clone_any (L : List Rw) (ao : Option Addr) (cap b o : Nat) (w : World) (h : SlAt w 12 L.length (L.flatMap Rw.cells) ao cap b o) (hlen : L.length ≤ 1000) :
    Calls Try.prog 34 #[.slice ao L.length cap] w (OwnPost L w) := by
  obtain ⟨i0, hi, hz0, hz1, hz2⟩ := info_parts info41
  cases ao with
  | none =>
    have h0 : L.length = 0 := by
      rcases Nat.eq_zero_or_pos L.length with h0 | h0
      · exact h0
      · have := h.addr (by rw [rows_len]; omega)
        cases this
    obtain rfl : L = [] := List.eq_nil_of_length_eq_zero h0
    have hq := eql38n 0 cap
    go_enter Try.func34, Try.ntmps34
    go_wp2
    go_ret
    exact ⟨_, rfl, World.ownsRow_nil _ _ _ _, bz w⟩
  | some ad =>
    rcases Nat.eq_zero_or_pos L.length with h0 | h0
    · obtain rfl : L = [] := List.eq_nil_of_length_eq_zero h0
      have hq := eql38 ad 0 cap
      go_enter Try.func34, Try.ntmps34
      go_wp2
      go_ret
      exact ⟨_, rfl, ⟨rfl, .inr ⟨w.heap.size, 0, #[], rfl, Nat.le_refl _, heap_alloc_new w _, Nat.le_refl _, Nat.zero_le _, rfl, rfl⟩⟩, ba (bz w) _⟩
    · have hn : ∀ j u, (L.flatMap Rw.cells)[j]? = some u → w.cell? (ad.add j) = some u := by
        have ha := h.addr (by rw [rows_len]; omega)
        obtain rfl := Option.some.inj ha
        intro j u hu
        rw [Addr.add_lit]
        exact h.cell j u hu
      have Hl := Lib.hid (rows_len L)
      have hq := eql38 ad L.length cap
      have h1 := Lib.hid (rows_one (L := L))
      go_enter Try.func34, Try.ntmps34
      go_wp2_with (at_builtin; refine wpList_append_grows _ rfl (.tmp 5) (.tmp 6) 38 rfl 41 i0 Rw.zero.val 12 40 Try.underlying38 hi hz0 hz1 hz2 rfl (by decide) (some ⟨w.heap.size, 0, none⟩) 0 0 [] rfl (by simp) rfl (by simp) ad L.length cap (L.flatMap Rw.cells) rfl Hl.out (fun j u hu => by rw [(Below.refl w.heap.size w |>.alloc (Nat.le_refl _) _).cell (World.block_lt_of_cell? w _ (hn j u hu))]; exact hn j u hu) h1.out (by omega) (by unfold maxLen; omega) (by omega) ?_)
      intro v' w' hown hgrow
      go_wp2
      go_ret
      exact ⟨_, rfl, own_base hown (by simp), (ba (bz w) (.cells #[] 41)).grown hgrow (by simp) (fun k hk => by cases hk)⟩
theorem rows_any {base : Nat} {w : World} {p : Nat} {v : Value} {L : List Rw} {nx : Int} (h : TabAt base w p v L nx) (hlen : L.length ≤ 1000) :
    Calls Try.prog 12 #[.pointer (some ⟨p, 0, none⟩)] w (OwnPost L w) := by
  obtain ⟨ao, cap, b, o, rfl, hs⟩ := h.slat
  have c0 := h.c0
  have HI := Lib.hid (is_tab h)
  have HC := Lib.hid (clone_any L ao cap b o w hs hlen)
  clear h hs
  go_enter Try.func12, Try.ntmps12
  go_wp2_with fail
  refine HI.out.mono ?_
  rintro e w1 ⟨rfl, rfl⟩
  go_wp2_with fail
  refine HC.out.mono ?_
  rintro e w2 ⟨v2, rfl, hown, hb⟩
  go_wp2
  go_ret
  exact ⟨v2, rfl, hown, hb⟩
/-- is a row ahead of another one? -/
def bef (x y : Rw) : Bool := decide (x.st = 1) && decide (x.to < y.fr)
theorem before_any (x y : Rw) (w : World) : Calls Try.prog 13 #[x.val, y.val] w fun e w' => e = .returned (.bool (bef x y)) ∧ Below w.heap.size w w' := by
  unfold Rw.val
  by_cases h1 : x.st = 1
  · have t1 : (x.st == 1) = true := by simpa using h1
    have e1 : bef x y = decide (x.to < y.fr) := by unfold bef; rw [decide_eq_true h1]; rfl
    rw [e1]
    clear h1 e1
    go_enter Try.func13, Try.ntmps13
    go_wp2
    go_ret
    exact ⟨rfl, ba (ba (bz w) _) _⟩
  · have t1 : (x.st == 1) = false := by simpa using h1
    have e1 : bef x y = false := by unfold bef; rw [decide_eq_false h1]; rfl
    rw [e1]
    clear h1 e1
    go_enter Try.func13, Try.ntmps13
    go_wp2
    go_ret
    exact ⟨rfl, ba (ba (bz w) _) _⟩
end Go.Proofs.Ytjmanajbdkbkdaa
