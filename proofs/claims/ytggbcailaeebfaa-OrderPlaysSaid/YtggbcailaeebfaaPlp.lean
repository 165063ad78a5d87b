/- The state of OrderPlays' loop: the orders, the document's, and how they go on. -/
import Derived.Test.YtggbcailaeebfaaShn
import Derived.Test.YtggbcailaeebfaaReads
namespace Go.Proofs.Ytggbcailaeebfaa
open Go.RowKit Go.Um
set_option linter.unusedSimpArgs false
set_option linter.unusedVariables false
set_option maxHeartbeats 4000000
structure PInv (w wr : World) (p q i : Nat) (l : List Rd) (M : Nat → List (List Int)) : Prop where
  ord : OrdAt (fun b => b ≠ q) wr p (ordN l i)
  ref : RefAt (fun b => b ≠ p) wr q M
  rel : Rel (ordN l i) M
  len : ∀ k, (M k).length ≤ i
  wide : ∀ k, k < 8 → ∀ r ∈ M k, r.length ≤ 1000
  ne : p ≠ q
  pw : w.heap.size ≤ p
  qw : w.heap.size ≤ q
  bel : Below w.heap.size w wr
theorem PInv.below {w wr W : World} {p q i : Nat} {l : List Rd} {M : Nat → List (List Int)} (h : PInv w wr p q i l M) (hb : Below wr.heap.size wr W) : PInv w W p q i l M :=
  ⟨h.ord.below hb, h.ref.below hb, h.rel, h.len, h.wide, h.ne, h.pw, h.qw, h.bel.trans (hb.mono h.bel.size)⟩
theorem ord_self {S : Nat → Prop} {w : World} {p : Nat} {L : Nat → List Int} (h : OrdAt S w p L) : OrdAt (fun b => S b ∧ b ≠ p) w p L := by
  refine ⟨h.c0, fun k hk => ?_⟩
  obtain ⟨ao, cap, b, o, h1, h2, h3, h4, h5⟩ := h.row k hk
  exact ⟨ao, cap, b, o, h1, h2, h3, fun hp => ⟨h4 hp, (h4 hp).2⟩, h5⟩
theorem PInv.copy {w wr w1 w2 w3 : World} {p q g i : Nat} {l : List Rd} {M : Nat → List (List Int)} (h : PInv w wr p q i l M) (hg : g = wr.heap.size) (ho : OrdAt (fun b => (b ≠ q ∧ b < wr.heap.size) ∧ b ≠ p) w1 g (ordN l i)) (hb1 : Below wr.heap.size wr w1)
    (hb2 : Below w1.heap.size w1 w2) (hk : Kept (fun b => b = p) w2 w3) : PInv w w3 g q i l M := by
  have hpl := h.ord.lt
  have hql := h.ref.lt
  have hz := h.bel.size
  have hb12 := bt hb1 hb2
  refine ⟨?_, ?_, h.rel, h.len, h.wide, by omega, by omega, h.qw, ?_⟩
  · exact ((ho.below hb2).kept hk (by omega) (fun b _ hb => hb.2)).mono (fun b _ hb => hb.1.1)
  · have h1 := (h.ref.mono (T' := fun b => b ≠ p ∧ b < wr.heap.size) (fun b hb h => ⟨h, hb⟩)).below hb12
    exact (h1.kept hk (by have := h.ne; omega) (fun b _ _ hb => hb.1)).mono (fun b _ hb => by omega)
  · exact kept_new (h.bel.trans (hb12.mono hz)) hk (fun i hi e => by have := h.pw; omega)
theorem PInv.took {w wX w9 w10 w11 w12 w13 : World} {p q i : Nat} {l : List Rd} {M : Nat → List (List Int)} {x : Rd} {K : Nat → Prop} (h : PInv w wX p q i l M) (hx : l[i]? = some x) (hx40 : x.L.length ≤ 40) (hb9 : Below wX.heap.size wX w9)
    (ho : OrdAt (fun b => (b ≠ q ∧ b < wX.heap.size) ∨ w9.heap.size ≤ b) w10 p (takeL (ordN l i) x.key x.L)) (hk10 : Kept (fun b => b = p) w9 w10)
    (hr : RefAt (fun b => (b ≠ p ∧ b < wX.heap.size) ∨ w10.heap.size ≤ b) w11 q (rtakeM M x.key x.L)) (hk11 : Kept (fun b => b = q) w10 w11)
    (hb12 : Below w11.heap.size w11 w12) (hk13 : Kept K w12 w13) (hK : ∀ b, K b → wX.heap.size ≤ b ∧ b < w9.heap.size) : PInv w w13 p q (i + 1) l (rtakeM M x.key x.L) := by
  have hpl := h.ord.lt
  have hql := h.ref.lt
  have hz := h.bel.size
  have hz9 := hb9.size
  have hz10 := hk10.size
  have hne := h.ne
  have hpw := h.pw
  have hqw := h.qw
  refine ⟨?_, ?_, ?_, ?_, ?_, hne, hpw, hqw, ?_⟩
  · rw [ordN_succ hx]
    have h1 := ((ho.kept hk11 (by omega) (fun b _ hb => by rcases hb with hb | hb; exact hb.1; omega)).below hb12).kept hk13 (fun hp => by have := hK p hp; omega) (fun b _ hb hk => by have := hK b hk; omega)
    exact h1.mono (fun b _ hb => by rcases hb with hb | hb; exact hb.1; omega)
  · have h1 := (hr.below hb12).kept hk13 (fun hp => by have := hK q hp; omega) (fun b _ _ hb hk => by have := hK b hk; omega)
    exact h1.mono (fun b _ hb => by rcases hb with hb | hb; exact hb.1; omega)
  · rw [ordN_succ hx]; exact h.rel.step x.key x.L
  · exact rtakeM_len h.len x.key x.L
  · intro k hk r hr
    unfold rtakeM at hr
    split at hr
    · unfold setM at hr
      split at hr
      · rename_i e
        subst e
        rcases List.mem_append.1 hr with hr | hr
        · exact h.wide _ hk r hr
        · rw [List.mem_singleton.1 hr]; omega
      · exact h.wide _ hk r hr
    · exact h.wide _ hk r hr
  · have h1 := h.bel.trans (hb9.mono hz)
    have h2 := kept_new h1 hk10 (fun i hi e => by omega)
    have h3 := kept_new h2 hk11 (fun i hi e => by omega)
    have h4 := h3.trans (hb12.mono h3.size)
    exact kept_new h4 hk13 (fun i hi e => by have := hK i e; omega)
/-! ### a row of numbers that may be written to -/
def NumAt (w : World) (n b o : Nat) : Prop := ∀ k, k < n → ∃ x, w.cell? ⟨b, o + k, none⟩ = some (.int .u16 x) ∧ w.frozen? ⟨b, o + k, none⟩ = false
theorem NumAt.own {w : World} {base n : Nat} {v : Value} {l : List Int} (h : w.ownsRow base 37 1 v n (us l)) (hn : n = l.length) :
    ∃ ao cap b o, v = .slice ao n cap ∧ SlAt w 1 n (us l) ao cap b o ∧ (0 < n → base ≤ b ∧ b < w.heap.size) ∧ NumAt w n b o := by
  rcases h.2 with ⟨rfl, rfl⟩ | ⟨g, cap, cur, rfl, hb, hg, _⟩
  · have hl : l = [] := List.eq_nil_of_length_eq_zero hn.symm
    subst hl
    exact ⟨none, 0, 0, 0, rfl, slat_none w, fun h => absurd h (by decide), fun k hk => absurd hk (by omega)⟩
  · have hgl := (Array.getElem?_eq_some_iff.1 hg).1
    refine ⟨some ⟨g, 0, none⟩, cap, g, 0, rfl, ?_, fun _ => ⟨hb, hgl⟩, fun k hk => ?_⟩
    · obtain ⟨ao', cap', b', o', e, hs, _⟩ := SlAt.owned h
      simp only [Value.slice.injEq, true_and] at e
      obtain ⟨e1, e2⟩ := e
      subst e1 e2
      by_cases h0 : 0 < n
      · have ha := hs.addr (by rw [us_len]; omega)
        simp only [Option.some.injEq, Addr.mk.injEq, and_true] at ha
        obtain ⟨rfl, rfl⟩ := ha
        exact hs
      · have : n = 0 := by omega
        subst this
        have hl : l = [] := List.eq_nil_of_length_eq_zero hn.symm
        subst hl
        exact ⟨rfl, Nat.zero_le _, hs.max, fun h => absurd h (by decide), fun h => absurd h (by decide), fun j u hu => by simp [us] at hu⟩
    · obtain ⟨x, hx⟩ : ∃ x, l[k]? = some x := ⟨_, List.getElem?_eq_getElem (by omega)⟩
      refine ⟨x, ?_, h.frozenAt _⟩
      rw [Nat.zero_add, h.cellAt k (by omega)]
      exact us_at hx
theorem NumAt.set {w : World} {n b o k : Nat} (h : NumAt w n b o) (y : Int) : NumAt (w.setCell ⟨b, o + k, none⟩ (.int .u16 y)) n b o := by
  intro j hj
  obtain ⟨x, h1, h2⟩ := h j hj
  by_cases e : j = k
  · subst e
    exact ⟨y, World.cell?_setCell_same _ _ _ h1, by rw [World.frozen?_setCell]; exact h2⟩
  · exact ⟨x, by rw [World.cell?_setCell_other _ _ _ _ (by simp <;> omega)]; exact h1, by rw [World.frozen?_setCell]; exact h2⟩
theorem NumAt.below {w W : World} {n b o : Nat} (h : NumAt w n b o) (hb : Below w.heap.size w W) : NumAt W n b o := fun k hk => by
  obtain ⟨x, h1, h2⟩ := h k hk
  exact ⟨x, kc hb _ _ _ h1, kf hb _ _ (World.block_lt_of_cell? _ _ h1) h2⟩
theorem NumAt.kept {K : Nat → Prop} {w W : World} {n b o : Nat} (h : NumAt w n b o) (hk : Kept K w W) (hn : ¬ K b) : NumAt W n b o := fun k hl => by
  obtain ⟨x, h1, h2⟩ := h k hl
  exact ⟨x, hk.cell h1 hn, (hk.frozen (World.block_lt_of_cell? _ _ h1) hn).trans h2⟩
end Go.Proofs.Ytggbcailaeebfaa
