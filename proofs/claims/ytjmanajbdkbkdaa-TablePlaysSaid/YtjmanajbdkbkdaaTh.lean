/- The table: the chapter's example; works. -/
import Derived.Test.YtjmanajbdkbkdaaTg
namespace Go.Proofs.Ytjmanajbdkbkdaa
open Go.RowKit Go.Um
set_option linter.unusedSimpArgs false
set_option linter.unusedVariables false
set_option maxHeartbeats 4000000
set_option maxRecDepth 100000
theorem is_row (x : Rw) (id st fr to : Int) (w : World) (h1 : x.id = id) (h2 : x.st = st) (h3 : x.fr = fr) (h4 : x.to = to) : Calls Try.prog 27 #[x.val, .int .u16 id, .int .u8 st, .int .i64 fr, .int .i64 to] w fun e w' => e = .returned (.bool true) ∧ Below w.heap.size w w' := by
  subst h1 h2 h3 h4
  unfold Rw.val
  go_enter Try.func27, Try.ntmps27
  go_wp2
  go_ret
  exact ⟨rfl, ba (bz w) _⟩
def g1 : Rw := ⟨0, 1, 1, 0, 0, 0, 0, 0, 0, 0, 0, 4611686018427387904⟩
def g1' : Rw := ⟨0, 1, 1, 0, 0, 0, 0, 1, 0, 1, 0, 3⟩
def g2 : Rw := ⟨1, 2, 2, 0, 0, 5, 0, 0, 0, 0, 1, 4611686018427387904⟩
def g2' : Rw := ⟨1, 2, 2, 0, 0, 5, 0, 0, 0, 2, 1, 4611686018427387904⟩
def g3 : Rw := ⟨0, 3, 1, 0, 0, 0, 0, 0, 0, 0, 5, 4611686018427387904⟩
/-- the state behind a call, as the walk holds it -/
structure St (w wr : World) (p xb : Nat) (L : List Rw) (nx : Int) : Prop where
  tab : ∃ v, TabAt w.heap.size wr p v L nx ∧ v.ownBlock ≠ some xb
  bel : Below w.heap.size w wr
  pw : w.heap.size ≤ p
  ne : xb ≠ p
  x : wr.cell? ⟨xb, 0, none⟩ = some (.int .u8 1) ∧ wr.cell? ⟨xb, 1, none⟩ = some (.int .u8 0) ∧ wr.cell? ⟨xb, 2, none⟩ = some (.int .u8 0) ∧ wr.cell? ⟨xb, 3, none⟩ = some (.int .u16 0) ∧ wr.cell? ⟨xb, 4, none⟩ = some (.int .u16 0)
theorem St.next {w wr : World} {p xb : Nat} {L : List Rw} {nx : Int} (h : St w wr p xb L nx) {v : Value} (hT : TabAt w.heap.size wr p v L nx) (hv : v.ownBlock ≠ some xb) {E : Int} {L' : List Rw} {nx' : Int} {e : Ending} {w' : World} (ht : TPost w.heap.size p v E L' nx' wr e w') : e = .returned (.int .i64 E) ∧ St w w' p xb L' nx' := by
  have hxb := World.block_lt_of_cell? _ _ h.x.1
  have hz := h.bel.size
  have hb := ht.bel hT h.pw h.bel hz
  obtain ⟨rfl, v', hT', hK, hF⟩ := ht
  have hno : ¬ Own p v xb := fun ho => ho.elim h.ne hv
  exact ⟨rfl, ⟨v', hT', TPost.far (base := 0) (p := 0) hF hxb hv⟩, hb, h.pw, h.ne, hK.cell h.x.1 hno, hK.cell h.x.2.1 hno, hK.cell h.x.2.2.1 hno, hK.cell h.x.2.2.2.1 hno, hK.cell h.x.2.2.2.2 hno⟩
theorem St.invoke {w wr : World} {p xb : Nat} {L : List Rw} {nx : Int} (h : St w wr p xb L nx) (cl id f ob ke a b t : Int) (hlen : L.length ≤ 1000) (hnx : 0 ≤ nx) {E : Int} {L' : List Rw} {nx' : Int} (e1 : invE nx L id t = E) (e2 : invL nx L (newR cl id f ob ke a b t) = L') (e3 : invN nx L (newR cl id f ob ke a b t) = nx') :
    Calls Try.prog 11 #[.pointer (some ⟨p, 0, none⟩), .int .u8 cl, .int .u16 id, .agg #[.int .u8 f, .int .u8 ob, .int .u8 ke, .int .u16 a, .int .u16 b], .int .i64 t] wr fun e w' => e = .returned (.int .i64 E) ∧ St w w' p xb L' nx' := by
  obtain ⟨v, hT, hv⟩ := h.tab
  subst e1 e2 e3
  exact (invoke_any cl id f ob ke a b t hT hlen h.bel.size hnx).mono fun e w' ht => h.next hT hv ht
theorem St.ret {w wr : World} {p xb : Nat} {L : List Rw} {nx : Int} (h : St w wr p xb L nx) (id k v t : Int) (hlen : L.length ≤ 1000) (hnx : 0 ≤ nx) {E : Int} {L' : List Rw} {nx' : Int} (e1 : endE nx L id t = E) (e2 : endL nx L id t (fun x => retR x k v t) = L') (e3 : endN nx L id t = nx') :
    Calls Try.prog 9 #[.pointer (some ⟨p, 0, none⟩), .int .u16 id, .agg #[.int .u8 k, .int .u16 v], .int .i64 t] wr fun e w' => e = .returned (.int .i64 E) ∧ St w w' p xb L' nx' := by
  obtain ⟨v, hT, hv⟩ := h.tab
  subst e1 e2 e3
  exact (return_any id k _ t hT hlen hnx).mono fun e w' ht => h.next hT hv ht
theorem St.info {w wr : World} {p xb : Nat} {L : List Rw} {nx : Int} (h : St w wr p xb L nx) (id t : Int) (hlen : L.length ≤ 1000) (hnx : 0 ≤ nx) {E : Int} {L' : List Rw} {nx' : Int} (e1 : endE nx L id t = E) (e2 : endL nx L id t lostR = L') (e3 : endN nx L id t = nx') :
    Calls Try.prog 10 #[.pointer (some ⟨p, 0, none⟩), .int .u16 id, .int .i64 t] wr fun e w' => e = .returned (.int .i64 E) ∧ St w w' p xb L' nx' := by
  obtain ⟨v, hT, hv⟩ := h.tab
  subst e1 e2 e3
  exact (info_any id t hT hlen hnx).mono fun e w' ht => h.next hT hv ht
theorem given_any (w : World) : Calls Try.prog 26 #[] w fun e w' => ∃ p, e = .returned (.pointer (some ⟨p, 0, none⟩)) ∧ w.heap.size ≤ p ∧ (∃ v, TabAt w.heap.size w' p v [g1', g2', g3] 6) ∧ Below w.heap.size w w' := by
  go_enter Try.func26, Try.ntmps26
  go_wp2_with fail
  refine (new_any w.heap.size w (Nat.le_refl _)).mono ?_
  rintro e w1 ⟨rfl, hT, hb, hz⟩
  obtain ⟨p, hp⟩ : ∃ p, p = w.heap.size := ⟨_, rfl⟩
  obtain ⟨xb, hxb⟩ : ∃ p, p = w1.heap.size := ⟨_, rfl⟩
  have hS0 : St w (w1.alloc (.cells #[.int .u8 1, .int .u8 0, .int .u8 0, .int .u16 0, .int .u16 0] 29)) p xb [] 0 := by
    subst hp hxb
    exact ⟨⟨_, hT.below (ba (bz w1) _), by simp [Value.ownBlock]⟩, bt hb (ba (bz w1) _), Nat.le_refl _, by omega, by simp [go_sem], by simp [go_sem], by simp [go_sem], by simp [go_sem], by simp [go_sem]⟩
  rw [← hp]
  have hpw : w.heap.size ≤ p := by omega
  have HXB := Lib.hid hxb
  have S0 := Lib.hid hS0
  clear hT hb hz hp hxb hS0
  go_wp2_with fail
  obtain ⟨x0, x1, x2, x3, x4⟩ := S0.out.x
  have C0 := Lib.hid (S0.out.invoke 0 1 1 0 0 0 0 0 (by decide) (by decide) (E := 0) (L' := [g1]) (nx' := 1) (by decide) (by decide) (by decide))
  rw [← HXB.out]
  refine C0.out.mono ?_
  rintro e w2 ⟨rfl, hS1⟩
  have S1 := Lib.hid hS1
  clear hS1 C0 S0 x0 x1 x2 x3 x4
  obtain ⟨x0, x1, x2, x3, x4⟩ := S1.out.x
  have C1 := Lib.hid (S1.out.invoke 1 2 2 0 0 5 0 1 (by decide) (by decide) (E := 0) (L' := [g1, g2]) (nx' := 2) (by decide) (by decide) (by decide))
  go_wp2_with fail
  refine C1.out.mono ?_
  rintro e w3 ⟨rfl, hS2⟩
  have S2 := Lib.hid hS2
  clear hS2 C1 S1 x0 x1 x2 x3 x4
  obtain ⟨x0, x1, x2, x3, x4⟩ := S2.out.x
  have C2 := Lib.hid (S2.out.invoke 0 1 1 0 0 0 0 2 (by decide) (by decide) (E := 8) (L' := [g1, g2]) (nx' := 2) (by decide) (by decide) (by decide))
  go_wp2_with fail
  refine C2.out.mono ?_
  rintro e w4 ⟨rfl, hS3⟩
  have S3 := Lib.hid hS3
  clear hS3 C2 S2 x0 x1 x2 x3 x4
  obtain ⟨x0, x1, x2, x3, x4⟩ := S3.out.x
  have C3 := Lib.hid (S3.out.invoke 0 3 1 0 0 0 0 1 (by decide) (by decide) (E := 2) (L' := [g1, g2]) (nx' := 2) (by decide) (by decide) (by decide))
  go_wp2_with fail
  refine C3.out.mono ?_
  rintro e w5 ⟨rfl, hS4⟩
  have S4 := Lib.hid hS4
  clear hS4 C3 S3 x0 x1 x2 x3 x4
  obtain ⟨x0, x1, x2, x3, x4⟩ := S4.out.x
  have C4 := Lib.hid (S4.out.ret 1 1 0 3 (by decide) (by decide) (E := 0) (L' := [g1', g2]) (nx' := 4) (by decide) (by decide) (by decide))
  go_wp2_with fail
  refine C4.out.mono ?_
  rintro e w6 ⟨rfl, hS5⟩
  have S5 := Lib.hid hS5
  clear hS5 C4 S4 x0 x1 x2 x3 x4
  obtain ⟨x0, x1, x2, x3, x4⟩ := S5.out.x
  have C5 := Lib.hid (S5.out.ret 1 0 0 4 (by decide) (by decide) (E := 7) (L' := [g1', g2]) (nx' := 4) (by decide) (by decide) (by decide))
  go_wp2_with fail
  refine C5.out.mono ?_
  rintro e w7 ⟨rfl, hS6⟩
  have S6 := Lib.hid hS6
  clear hS6 C5 S5 x0 x1 x2 x3 x4
  obtain ⟨x0, x1, x2, x3, x4⟩ := S6.out.x
  have C6 := Lib.hid (S6.out.info 2 4 (by decide) (by decide) (E := 0) (L' := [g1', g2']) (nx' := 5) (by decide) (by decide) (by decide))
  go_wp2_with fail
  refine C6.out.mono ?_
  rintro e w8 ⟨rfl, hS7⟩
  have S7 := Lib.hid hS7
  clear hS7 C6 S6 x0 x1 x2 x3 x4
  obtain ⟨x0, x1, x2, x3, x4⟩ := S7.out.x
  have C7 := Lib.hid (S7.out.invoke 0 3 1 0 0 0 0 5 (by decide) (by decide) (E := 0) (L' := [g1', g2', g3]) (nx' := 6) (by decide) (by decide) (by decide))
  go_wp2_with fail
  refine C7.out.mono ?_
  rintro e w9 ⟨rfl, hS8⟩
  have S8 := Lib.hid hS8
  clear hS8 C7 S7 x0 x1 x2 x3 x4
  go_wp2
  go_ret
  exact ⟨p, rfl, hpw, (S8.out.tab).imp fun v h => h.1, S8.out.bel⟩
end Go.Proofs.Ytjmanajbdkbkdaa
