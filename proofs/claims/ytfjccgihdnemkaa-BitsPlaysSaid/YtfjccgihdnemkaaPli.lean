/- BitsPlays: the state of the main loop: two rows that grow side by side. -/
import Derived.Test.YtfjccgihdnemkaaPlp
import Derived.Test.YtfjccgihdnemkaaGp
import Derived.Test.YtfjccgihdnemkaaGq
import Derived.Test.YtfjccgihdnemkaaRg
import Derived.Test.YtfjccgihdnemkaaRk
namespace Go.Proofs.Ytfjccgihdnemkaa
open Go.RowKit Go.Um
set_option linter.unusedSimpArgs false
set_option linter.unusedVariables false
set_option maxHeartbeats 4000000
set_option maxRecDepth 100000
theorem lis_has {L : List Nat} {N : Nat} (h : LisN L N) (n : Int) : (L.any fun (x : Nat) => (x : Int) == n) = hasB N n := by
  by_cases hn : 0 ≤ n ∧ n ≤ 65535
  · obtain ⟨k, rfl⟩ : ∃ k : Nat, n = k := ⟨n.toNat, by omega⟩
    rw [any_mem, hasB_nat _ _ (by omega), h.bit]
  · have h1 : hasB N n = false := by
      unfold hasB mayB
      rw [decide_eq_false hn, Bool.false_and]
    rw [h1, Bool.eq_false_iff]
    intro hc
    obtain ⟨x, hx, e⟩ := List.any_eq_true.1 hc
    have := h.bd x hx
    have e2 : (x : Int) = n := by simpa using e
    omega
/-- two rows that grow side by side: of i + 1 sets, of j + 1 lists -/
structure PlI (w : World) (l : List Act3) (i j : Nat) (v3 v4 : Value) (cs3 cs4 : List Value) (wr : World) : Prop where
  own3 : wr.ownsRow w.heap.size 27 1 v3 (i + 1) cs3
  own4 : wr.ownsRow w.heap.size 22 1 v4 (j + 1) cs4
  t3 : RowT Sl wr v3
  t4 : RowT Sl wr v4
  ne : v3.ownBlock ≠ v4.ownBlock
  s3 : ∀ u ∈ cs3, Sl u
  s4 : ∀ u ∈ cs4, Sl u
  sets : ∀ k, k ≤ i → ∃ c, cs3[k]? = some c ∧ SetAt wr (.agg #[c]) (stN l k)
  lists : ∀ k, k ≤ j → ∃ u, cs4[k]? = some u ∧ LisAt wr u (stL l k)
  below : Below w.heap.size w wr
theorem rowt_kept {T : Value → Prop} {W W' : World} {v : Value} {row : Option Nat} (h : RowT T W v) (hg : W.grownBy W' row) (hne : v.ownBlock ≠ row) : RowT T W' v := by
  intro g k c hv
  obtain ⟨cur, e, fz, hc, hall⟩ := h g k c hv
  refine ⟨cur, e, fz, ?_, hall⟩
  rw [hg.block g (Array.getElem?_eq_some_iff.1 hc).1 (by intro e2; apply hne; rw [hv, ← e2]; rfl)]
  exact hc
theorem rowt_below {T : Value → Prop} {W W' : World} {v : Value} (h : RowT T W v) (hb : Below W.heap.size W W') : RowT T W' v := by
  intro g k c hv
  obtain ⟨cur, e, fz, hc, hall⟩ := h g k c hv
  exact ⟨cur, e, fz, by rw [hb.block g (Array.getElem?_eq_some_iff.1 hc).1]; exact hc, hall⟩
theorem own_form {w : World} {base size n : Nat} {e : TypeId} {v : Value} {xs : List Value} (h : w.ownsRow base e size v n xs) : v = .slice none 0 0 ∨ ∃ g k c, v = .slice (some ⟨g, 0, none⟩) k c := by
  rcases h.2 with ⟨rfl, _⟩ | ⟨g, cap, cur, rfl, _⟩
  · exact .inl rfl
  · exact .inr ⟨g, _, _, rfl⟩
theorem own_some {w : World} {base size n : Nat} {e : TypeId} {v : Value} {xs : List Value} (h : w.ownsRow base e size v (n + 1) xs) : ∃ g c, v = .slice (some ⟨g, 0, none⟩) (n + 1) c ∧ base ≤ g ∧ g < w.heap.size := by
  rcases h.2 with ⟨rfl, h2⟩ | ⟨g, cap, cur, rfl, h1, h2, _⟩
  · omega
  · exact ⟨g, _, rfl, h1, (Array.getElem?_eq_some_iff.1 h2).1⟩
section
variable {w : World} {l : List Act3} {i j : Nat} {v3 v4 : Value} {cs3 cs4 : List Value} {W W' : World}
theorem PlI.past (h : PlI w l i j v3 v4 cs3 cs4 W) (hb : Below W.heap.size W W') : PlI w l i j v3 v4 cs3 cs4 W' :=
  ⟨own_past h.own3 hb, own_past h.own4 hb, rowt_below h.t3 hb, rowt_below h.t4 hb, h.ne, h.s3, h.s4,
    fun k hk => (h.sets k hk).imp fun c hc => ⟨hc.1, hc.2.below hb⟩, fun k hk => (h.lists k hk).imp fun c hc => ⟨hc.1, hc.2.below hb⟩, bt h.below hb⟩
theorem PlI.app3 (h : PlI w l i j v3 v4 cs3 cs4 W) {c v3' : Value} (hc : Sl c) (hs : SetAt W (.agg #[c]) (stN l (i + 1))) (ho : W'.ownsRow w.heap.size 27 1 v3' (i + 1 + 1) (cs3 ++ [c])) (hg : W.grownBy W' v3.ownBlock) (ht : RowT Sl W' v3')
    (hb : v3'.ownBlock = v3.ownBlock ∨ v3'.ownBlock = some W.heap.size) : PlI w l (i + 1) j v3' v4 (cs3 ++ [c]) cs4 W' := by
  have hl : cs3.length = i + 1 := by rw [h.own3.1]; omega
  refine ⟨ho, h.own4.kept hg (.inr h.ne.symm), ht, rowt_kept h.t4 hg h.ne.symm, ?_, ?_, h.s4, ?_, ?_, below_own h.below h.own3 hg (Nat.le_refl _) h.below.size⟩
  · rcases hb with hb | hb
    · rw [hb]; exact h.ne
    · rw [hb]
      intro e
      have := (h.own4.lt _ e.symm).2
      omega
  · intro u hu
    rcases List.mem_append.1 hu with hu | hu
    · exact h.s3 u hu
    · rw [List.mem_singleton.1 hu]; exact hc
  · intro k hk
    by_cases e : k ≤ i
    · obtain ⟨d, hd, hds⟩ := h.sets k e
      exact ⟨d, by rw [List.getElem?_append_left (by omega)]; exact hd, set_row hds h.t3 hg (own_form h.own3)⟩
    · have : k = i + 1 := by omega
      subst this
      exact ⟨c, by rw [List.getElem?_append_right (by omega), hl]; simp, set_row hs h.t3 hg (own_form h.own3)⟩
  · intro k hk
    obtain ⟨d, hd, hds⟩ := h.lists k hk
    exact ⟨d, hd, lis_row hds h.t3 hg (own_form h.own3)⟩
theorem PlI.app4 (h : PlI w l i j v3 v4 cs3 cs4 W) {c v4' : Value} (hc : Sl c) (hs : LisAt W c (stL l (j + 1))) (ho : W'.ownsRow w.heap.size 22 1 v4' (j + 1 + 1) (cs4 ++ [c])) (hg : W.grownBy W' v4.ownBlock) (ht : RowT Sl W' v4')
    (hb : v4'.ownBlock = v4.ownBlock ∨ v4'.ownBlock = some W.heap.size) : PlI w l i (j + 1) v3 v4' cs3 (cs4 ++ [c]) W' := by
  have hl : cs4.length = j + 1 := by rw [h.own4.1]; omega
  refine ⟨h.own3.kept hg (.inr h.ne), ho, rowt_kept h.t3 hg h.ne, ht, ?_, h.s3, ?_, ?_, ?_, below_own h.below h.own4 hg (Nat.le_refl _) h.below.size⟩
  · rcases hb with hb | hb
    · rw [hb]; exact h.ne
    · rw [hb]
      intro e
      have := (h.own3.lt _ e).2
      omega
  · intro u hu
    rcases List.mem_append.1 hu with hu | hu
    · exact h.s4 u hu
    · rw [List.mem_singleton.1 hu]; exact hc
  · intro k hk
    obtain ⟨d, hd, hds⟩ := h.sets k hk
    exact ⟨d, hd, set_row hds h.t4 hg (own_form h.own4)⟩
  · intro k hk
    by_cases e : k ≤ j
    · obtain ⟨d, hd, hds⟩ := h.lists k e
      exact ⟨d, by rw [List.getElem?_append_left (by omega)]; exact hd, lis_row hds h.t4 hg (own_form h.own4)⟩
    · have : k = j + 1 := by omega
      subst this
      exact ⟨c, by rw [List.getElem?_append_right (by omega), hl]; simp, lis_row hs h.t4 hg (own_form h.own4)⟩
/-- what a round reads of the rows -/
theorem PlI.cell3 (h : PlI w l i j v3 v4 cs3 cs4 W) {g n p k : Nat} (hv : v3 = .slice (some ⟨g, 0, none⟩) n p) (hk : k ≤ i) : ∃ ao m cap, W.cell? ⟨g, k, none⟩ = some (.slice ao m cap) ∧ SetAt W (.agg #[.slice ao m cap]) (stN l k) := by
  obtain ⟨c, hc, hs⟩ := h.sets k hk
  obtain ⟨ao, m, cap, rfl⟩ := h.s3 c (List.mem_of_getElem? hc)
  have := h.own3.cells (g := g) (by rw [hv]; rfl) k _ hc
  rw [Addr.add_lit, Nat.zero_add] at this
  exact ⟨_, _, _, this, hs⟩
theorem PlI.cell4 (h : PlI w l i j v3 v4 cs3 cs4 W) {g n p k : Nat} (hv : v4 = .slice (some ⟨g, 0, none⟩) n p) (hk : k ≤ j) : ∃ ao m cap, W.cell? ⟨g, k, none⟩ = some (.slice ao m cap) ∧ LisAt W (.slice ao m cap) (stL l k) := by
  obtain ⟨c, hc, hs⟩ := h.lists k hk
  obtain ⟨ao, m, cap, rfl⟩ := h.s4 c (List.mem_of_getElem? hc)
  have := h.own4.cells (g := g) (by rw [hv]; rfl) k _ hc
  rw [Addr.add_lit, Nat.zero_add] at this
  exact ⟨_, _, _, this, hs⟩
end
theorem PlI.first (w : World) (l : List Act3) : PlI w l 0 0 (.slice (some ⟨w.heap.size, 0, none⟩) 1 1) (.slice (some ⟨w.heap.size + 1, 0, none⟩) 1 1) [.slice none 0 0] [.slice none 0 0]
    ((w.alloc (.cells #[.slice none 0 0] 27)).alloc (.cells #[.slice none 0 0] 22)) := by
  have hsl : Sl (.slice none 0 0) := ⟨_, _, _, rfl⟩
  have h0 : ((w.alloc (.cells #[.slice none 0 0] 27)).alloc (.cells #[.slice none 0 0] 22)).heap[w.heap.size]? = some (.cells #[.slice none 0 0] 27 (0, 0)) := (heap_alloc_old _ _ (by simp)).trans (heap_alloc_new w _)
  have h1 : ((w.alloc (.cells #[.slice none 0 0] 27)).alloc (.cells #[.slice none 0 0] 22)).heap[w.heap.size + 1]? = some (.cells #[.slice none 0 0] 22 (0, 0)) := by
    have := heap_alloc_new (w.alloc (.cells #[.slice none 0 0] 27)) (.cells #[.slice none 0 0] 22)
    simpa using this
  refine ⟨⟨by simp, .inr ⟨_, _, _, rfl, Nat.le_refl _, h0, Nat.le_refl _, by decide, by simp, by simp⟩⟩, ⟨by simp, .inr ⟨_, _, _, rfl, by omega, h1, Nat.le_refl _, by decide, by simp, by simp⟩⟩, ?_, ?_, ?_, ?_, ?_, ?_, ?_, ba (ba (bz w) _) _⟩
  · intro g k c hv
    simp only [Value.slice.injEq, Option.some.injEq, Addr.mk.injEq, and_true] at hv
    obtain ⟨rfl, _⟩ := hv
    exact ⟨_, _, _, h0, by simpa using hsl⟩
  · intro g k c hv
    simp only [Value.slice.injEq, Option.some.injEq, Addr.mk.injEq, and_true] at hv
    obtain ⟨rfl, _⟩ := hv
    exact ⟨_, _, _, h1, by simpa using hsl⟩
  · simp [Value.ownBlock]
  · simpa using hsl
  · simpa using hsl
  · intro k hk
    obtain rfl : k = 0 := by omega
    exact ⟨_, rfl, by simpa [stN] using SetAt.zero _⟩
  · intro k hk
    obtain rfl : k = 0 := by omega
    exact ⟨_, rfl, by simpa [stL] using LisAt.nil _⟩
/-- what a round has made -/
structure PlC (wr : World) (c6 : Nat) (c u : Value) (N : Nat) (L : List Nat) (wx : World) : Prop where
  below : Below wr.heap.size wr wx
  cell : wx.cell? ⟨c6, 0, none⟩ = some c
  set : SetAt wx (.agg #[c]) N
  list : LisAt wx u L
  ge : wr.heap.size ≤ c6
end Go.Proofs.Ytfjccgihdnemkaa
