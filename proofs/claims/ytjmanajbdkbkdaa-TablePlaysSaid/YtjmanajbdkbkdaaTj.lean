/- TableOrder: the plain law; the state of its loop. -/
import Derived.Test.YtjmanajbdkbkdaaOpa
namespace Go.Proofs.Ytjmanajbdkbkdaa
open Go.RowKit Go.Um
set_option linter.unusedSimpArgs false
set_option linter.unusedVariables false
set_option maxHeartbeats 4000000
set_option maxRecDepth 100000
/-- rows that came one behind the other; none ends ahead of its beginning -/
structure RL (L : List Rw) (nx : Int) : Prop where
  up : L.Pairwise (fun x y => x.fr < y.fr)
  each : ∀ x ∈ L, x.fr < x.to ∧ x.fr < nx
  nx0 : 0 ≤ nx
theorem RL.nil : RL [] 0 := ⟨List.Pairwise.nil, fun x hx => (List.not_mem_nil hx).elim, by decide⟩
theorem RL.invoke {L : List Rw} {nx : Int} (h : RL L nx) {cl id f ob ke a b t : Int} (h1 : nx ≤ t) (h2 : t ≤ 1000000) : RL (invL nx L (newR cl id f ob ke a b t)) (invN nx L (newR cl id f ob ke a b t)) ∧ invN nx L (newR cl id f ob ke a b t) ≤ t + 1 := by
  unfold invL invN
  have hn := h.nx0
  split
  · refine ⟨⟨?_, ?_, ?_⟩, ?_⟩
    · rw [List.pairwise_append]
      refine ⟨h.up, List.pairwise_singleton _ _, fun x hx y hy => ?_⟩
      rw [List.mem_singleton.1 hy]
      have := (h.each x hx).2
      show x.fr < t
      omega
    · intro x hx
      rcases List.mem_append.1 hx with hx | hx
      · have := h.each x hx
        exact ⟨this.1, by show x.fr < t + 1; omega⟩
      · rw [List.mem_singleton.1 hx]
        exact ⟨by show t < 4611686018427387904; omega, by show t < t + 1; omega⟩
    · show 0 ≤ t + 1; omega
    · show t + 1 ≤ t + 1; omega
  · exact ⟨h, by omega⟩
theorem RL.end_ {L : List Rw} {nx : Int} (h : RL L nx) {id t : Int} (how : Rw → Rw) (h1 : nx ≤ t) (hh : ∀ x, x.fr < x.to → x.fr < t → (how x).fr = x.fr ∧ (how x).fr < (how x).to) : RL (endL nx L id t how) (endN nx L id t) ∧ endN nx L id t ≤ t + 1 := by
  unfold endL endN
  have hn := h.nx0
  split
  · split
    · rename_i x hx
      obtain ⟨hi, e⟩ := List.getElem?_eq_some_iff.1 hx
      have hxm : x ∈ L := List.mem_of_getElem? hx
      have hxe := h.each x hxm
      have hhx := hh x hxe.1 (by omega)
      refine ⟨⟨?_, ?_, by omega⟩, by omega⟩
      · rw [List.pairwise_iff_getElem]
        have hp := List.pairwise_iff_getElem.1 h.up
        intro i j hi' hj' hij
        rw [List.length_set] at hi' hj'
        have g := hp i j hi' hj' hij
        rw [List.getElem_set, List.getElem_set]
        split <;> split
        · omega
        · rename_i h1 _; subst h1; rw [e] at g; rw [hhx.1]; exact g
        · rename_i _ h1; subst h1; rw [e] at g; rw [hhx.1]; exact g
        · exact g
      · intro y hy
        rcases List.mem_or_eq_of_mem_set hy with hy | hy
        · have := h.each y hy
          exact ⟨this.1, by omega⟩
        · rw [hy]
          exact ⟨hhx.2, by rw [hhx.1]; omega⟩
    · exact ⟨⟨h.up, fun x hx => ⟨(h.each x hx).1, by have := (h.each x hx).2; omega⟩, by omega⟩, by omega⟩
  · exact ⟨h, by omega⟩
theorem RL.ret {L : List Rw} {nx : Int} (h : RL L nx) {id k v t : Int} (h1 : nx ≤ t) : RL (endL nx L id t (fun x => retR x k v t)) (endN nx L id t) ∧ endN nx L id t ≤ t + 1 :=
  h.end_ _ h1 (fun x _ h2 => ⟨rfl, h2⟩)
theorem RL.info {L : List Rw} {nx : Int} (h : RL L nx) {id t : Int} (h1 : nx ≤ t) : RL (endL nx L id t lostR) (endN nx L id t) ∧ endN nx L id t ≤ t + 1 :=
  h.end_ _ h1 (fun x h1 _ => ⟨rfl, h1⟩)
theorem invL_len (nx : Int) (L : List Rw) (x : Rw) : (invL nx L x).length ≤ L.length + 1 := by
  unfold invL; split
  · simp
  · omega
theorem endL_len (nx : Int) (L : List Rw) (id a : Int) (how : Rw → Rw) : (endL nx L id a how).length = L.length := by
  unfold endL; split
  · split
    · simp
    · rfl
  · rfl
/-- the loop's state -/
structure OI (w wr : World) (p i : Nat) (L : List Rw) (nx now : Int) : Prop where
  tab : ∃ v, TabAt w.heap.size wr p v L nx
  bel : Below w.heap.size w wr
  pw : w.heap.size ≤ p
  rl : RL L nx
  len : L.length ≤ i
  now : nx ≤ now ∧ now ≤ 4 * i
theorem OI.below {w wr W : World} {p i : Nat} {L : List Rw} {nx now : Int} (h : OI w wr p i L nx now) (hb : Below wr.heap.size wr W) : OI w W p i L nx now :=
  ⟨h.tab.imp fun v hv => hv.below hb, h.bel.trans (hb.mono h.bel.size), h.pw, h.rl, h.len, h.now⟩
theorem OI.post {w wo wr w' : World} {p i : Nat} {L L' : List Rw} {nx nx' now E : Int} {v : Value} {e : Ending} (h : OI w wo p i L nx now) (hT : TabAt w.heap.size wo p v L nx) (hwr : Below wo.heap.size wo wr) (ht : TPost w.heap.size p v E L' nx' wr e w') (hr : RL L' nx' ∧ nx' ≤ now + 1) (hl : L'.length ≤ L.length + 1) :
    e = .returned (.int .i64 E) ∧ (∃ L' nx', ∀ r : Int, 0 ≤ r → r ≤ 3 → OI w w' p (i + 1) L' nx' (now + 1 + r)) ∧ ∀ b o u, wo.heap.size ≤ b → wr.cell? ⟨b, o, none⟩ = some u → w'.cell? ⟨b, o, none⟩ = some u := by
  have h2 := h.below hwr
  have hb := ht.bel (hT.below hwr) h2.pw h2.bel h2.bel.size
  obtain ⟨rfl, v', hT', hK, hF⟩ := ht
  refine ⟨rfl, ⟨L', nx', fun r h0 h3 => ⟨⟨v', hT'⟩, hb, h.pw, hr.1, by have := h.len; omega, ?_⟩⟩, fun b o u hb hc => hK.cell hc (fun ho => ?_)⟩
  · have := h.now
    omega
  · rcases ho with rfl | ho
    · have := hT.lt; omega
    · have := (own_lt hT.own ho).2; omega
def OPost (w wo wr : World) (p i : Nat) (now : Int) (e : Ending) (w' : World) : Prop := ∃ E, e = .returned (.int .i64 E) ∧ (∃ L' nx', ∀ r : Int, 0 ≤ r → r ≤ 3 → OI w w' p (i + 1) L' nx' (now + 1 + r)) ∧ ∀ b o u, wo.heap.size ≤ b → wr.cell? ⟨b, o, none⟩ = some u → w'.cell? ⟨b, o, none⟩ = some u
theorem OI.invoke {w wo wr : World} {p i : Nat} {L : List Rw} {nx now : Int} (h : OI w wo p i L nx now) (hwr : Below wo.heap.size wo wr) (hi : i ≤ 100) (cl id f ob ke a b : Int) :
    Calls Try.prog 11 #[.pointer (some ⟨p, 0, none⟩), .int .u8 cl, .int .u16 id, .agg #[.int .u8 f, .int .u8 ob, .int .u8 ke, .int .u16 a, .int .u16 b], .int .i64 now] wr (OPost w wo wr p i now) := by
  obtain ⟨v, hT⟩ := h.tab
  have hn := h.now
  exact (invoke_any cl id f ob ke a b now (hT.below hwr) (by have := h.len; omega) (Nat.le_trans h.bel.size hwr.size) h.rl.nx0).mono fun e w' ht => ⟨_, h.post hT hwr ht (h.rl.invoke hn.1 (by omega)) (invL_len _ _ _)⟩
theorem OI.ret {w wo wr : World} {p i : Nat} {L : List Rw} {nx now : Int} (h : OI w wo p i L nx now) (hwr : Below wo.heap.size wo wr) (hi : i ≤ 100) (id k v : Int) :
    Calls Try.prog 9 #[.pointer (some ⟨p, 0, none⟩), .int .u16 id, .agg #[.int .u8 k, .int .u16 v], .int .i64 now] wr (OPost w wo wr p i now) := by
  obtain ⟨vv, hT⟩ := h.tab
  have hn := h.now
  exact (return_any id k v now (hT.below hwr) (by have := h.len; omega) h.rl.nx0).mono fun e w' ht => ⟨_, h.post hT hwr ht (h.rl.ret hn.1) (by rw [endL_len]; omega)⟩
theorem OI.info {w wo wr : World} {p i : Nat} {L : List Rw} {nx now : Int} (h : OI w wo p i L nx now) (hwr : Below wo.heap.size wo wr) (hi : i ≤ 100) (id : Int) :
    Calls Try.prog 10 #[.pointer (some ⟨p, 0, none⟩), .int .u16 id, .int .i64 now] wr (OPost w wo wr p i now) := by
  obtain ⟨vv, hT⟩ := h.tab
  have hn := h.now
  exact (info_any id now (hT.below hwr) (by have := h.len; omega) h.rl.nx0).mono fun e w' ht => ⟨_, h.post hT hwr ht (h.rl.info hn.1) (by rw [endL_len]; omega)⟩
/-! ### what Before is, among rows -/
theorem bef_iff (x y : Rw) : bef x y = true ↔ x.st = 1 ∧ x.to < y.fr := by simp [bef]
theorem bef_self {L : List Rw} {nx : Int} (h : RL L nx) {a : Rw} (ha : a ∈ L) : bef a a = false := by
  rw [Bool.eq_false_iff]; intro hb
  have := (bef_iff a a).1 hb
  have := (h.each a ha).1
  omega
theorem bef_trans {L : List Rw} {nx : Int} (h : RL L nx) {a b c : Rw} (hb : b ∈ L) (h1 : bef a b = true) (h2 : bef b c = true) : bef a c = true := by
  have g1 := (bef_iff a b).1 h1
  have g2 := (bef_iff b c).1 h2
  have := (h.each b hb).1
  exact (bef_iff a c).2 ⟨g1.1, by omega⟩
theorem bef_asym {L : List Rw} {nx : Int} (h : RL L nx) {a b : Rw} (ha : a ∈ L) (hb : b ∈ L) (h1 : bef a b = true) : bef b a = false := by
  rw [Bool.eq_false_iff]; intro h2
  have g1 := (bef_iff a b).1 h1
  have g2 := (bef_iff b a).1 h2
  have := (h.each b hb).1
  have := (h.each a ha).1
  omega
theorem bef_inter {L : List Rw} {nx : Int} (h : RL L nx) {a b c d : Rw} (h1 : bef a b = true) (h2 : bef c d = true) (h3 : bef a d = false) : bef c b = true := by
  have g1 := (bef_iff a b).1 h1
  have g2 := (bef_iff c d).1 h2
  have g3 : ¬ (a.st = 1 ∧ a.to < d.fr) := fun hc => by have := (bef_iff a d).2 hc; rw [h3] at this; cases this
  have : ¬ a.to < d.fr := fun hc => g3 ⟨g1.1, hc⟩
  exact (bef_iff c b).2 ⟨g2.1, by omega⟩
theorem bef_open {a b : Rw} (h : a.st ≠ 1) : bef a b = false := by
  rw [Bool.eq_false_iff]; intro hb
  exact h ((bef_iff a b).1 hb).1
end Go.Proofs.Ytjmanajbdkbkdaa
