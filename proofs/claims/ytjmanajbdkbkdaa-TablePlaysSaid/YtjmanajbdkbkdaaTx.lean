/- TableEnds: the state of its loop; how a row is found behind a call. -/
import Derived.Test.YtjmanajbdkbkdaaTw
namespace Go.Proofs.Ytjmanajbdkbkdaa
open Go.RowKit Go.Um
set_option linter.unusedSimpArgs false
set_option linter.unusedVariables false
set_option maxHeartbeats 4000000
set_option maxRecDepth 100000
theorem findR_none {L : List Rw} {id : Int} (h : ixF L id = -1) : findR L id = Rw.zero := by unfold findR; rw [h]; split <;> simp
theorem findR_some {L : List Rw} {id : Int} {i : Nat} {x : Rw} (h : ixF L id = (i : Int)) (hx : L[i]? = some x) : findR L id = x := by unfold findR; rw [h, Int.toNat_natCast, hx]; simp
theorem ixF_ne {L : List Rw} {id : Int} (h : ixF L id = -1) : ∀ y ∈ L, y.id ≠ id := by
  unfold ixF at h
  split at h
  · rename_i i _
    exact absurd h (by omega)
  · rename_i hn
    rw [List.findIdx?_eq_none_iff] at hn
    intro y hy
    simpa using hn y hy
theorem ixF_new {L : List Rw} {id : Int} {x : Rw} (h : ixF L id = -1) (hx : x.id = id) : ixF (L ++ [x]) id = (L.length : Int) :=
  ixF_hit (x := x) (by simp) hx (by rw [List.take_left' rfl]; exact ixF_ne h)
theorem ixF_before {L : List Rw} {id : Int} {i : Nat} (h : ixF L id = (i : Int)) : ∀ y ∈ L.take i, y.id ≠ id := by
  unfold ixF at h
  split at h
  · rename_i k hk
    obtain rfl : k = i := by omega
    rw [List.findIdx?_eq_some_iff_getElem] at hk
    obtain ⟨hi, _, hb⟩ := hk
    intro y hy
    obtain ⟨j, hj, rfl⟩ := List.mem_iff_getElem.1 hy
    rw [List.length_take] at hj
    rw [List.getElem_take]
    simpa using hb j (by omega)
  · omega
theorem ixF_set {L : List Rw} {id : Int} {i : Nat} {x : Rw} (h : ixF L id = (i : Int)) (hi : i < L.length) (hx : x.id = id) : ixF (L.set i x) id = (i : Int) :=
  ixF_hit (x := x) (List.getElem?_set_self hi) hx (by rw [List.take_set_of_le (Nat.le_refl i)]; exact ixF_before h)
structure EI (w wr : World) (p i : Nat) (L : List Rw) (nx : Int) : Prop where
  tab : ∃ v, TabAt w.heap.size wr p v L nx
  bel : Below w.heap.size w wr
  pw : w.heap.size ≤ p
  len : L.length ≤ i
  now : 0 ≤ nx ∧ nx ≤ i
  op : ∀ y ∈ L, y.st = 0 → y.to = 4611686018427387904
theorem EI.below {w wr W : World} {p i : Nat} {L : List Rw} {nx : Int} (h : EI w wr p i L nx) (hb : Below wr.heap.size wr W) : EI w W p i L nx :=
  ⟨h.tab.imp fun v hv => hv.below hb, h.bel.trans (hb.mono h.bel.size), h.pw, h.len, h.now, h.op⟩
theorem EI.up {w wr : World} {p i : Nat} {L : List Rw} {nx : Int} (h : EI w wr p i L nx) : EI w wr p (i + 1) L nx :=
  ⟨h.tab, h.bel, h.pw, by have := h.len; omega, by have := h.now; omega, h.op⟩
theorem EI.find {w wr : World} {p i : Nat} {L : List Rw} {nx : Int} (h : EI w wr p i L nx) (hi : i ≤ 100) (id : Int) :
    Calls Try.prog 14 #[.pointer (some ⟨p, 0, none⟩), .int .u16 id] wr fun e w' => e = .returned (.tuple #[(findR L id).val, .bool (decide (0 ≤ ixF L id))]) ∧ Below wr.heap.size wr w' := by
  obtain ⟨v, hT⟩ := h.tab
  exact find_any id hT (by have := h.len; omega)
/-- a call is over: its answer, the state, and what lay anew ahead of it lies as it lay -/
def EPost (w wo wr : World) (p i : Nat) (E : Int) (L' : List Rw) (e : Ending) (w' : World) : Prop := e = .returned (.int .i64 E) ∧ (∃ nx', EI w w' p (i + 1) L' nx') ∧ ∀ b o u, wo.heap.size ≤ b → wr.cell? ⟨b, o, none⟩ = some u → w'.cell? ⟨b, o, none⟩ = some u
theorem EI.post {w wo wr w' : World} {p i : Nat} {L L' : List Rw} {nx nx' E : Int} {v : Value} {e : Ending} (h : EI w wo p i L nx) (hT : TabAt w.heap.size wo p v L nx) (hwr : Below wo.heap.size wo wr) (ht : TPost w.heap.size p v E L' nx' wr e w') (hn : 0 ≤ nx' ∧ nx' ≤ i + 1) (hl : L'.length ≤ i + 1) (ho : ∀ y ∈ L', y.st = 0 → y.to = 4611686018427387904) : EPost w wo wr p i E L' e w' := by
  have h2 := h.below hwr
  have hb := ht.bel (hT.below hwr) h2.pw h2.bel h2.bel.size
  obtain ⟨rfl, v', hT', hK, hF⟩ := ht
  refine ⟨rfl, ⟨nx', ⟨v', hT'⟩, hb, h.pw, hl, by omega, ho⟩, fun b o u hb hc => hK.cell hc (fun ho => ?_)⟩
  rcases ho with rfl | ho
  · have := hT.lt; omega
  · have := (own_lt hT.own ho).2; omega
theorem moE_now {nx : Int} {i : Nat} (h : nx ≤ i) (hi : i ≤ 100) : moE nx i = 0 := if_neg (by omega)
theorem EI.inv_there {w wo wr : World} {p i : Nat} {L : List Rw} {nx : Int} (h : EI w wo p i L nx) (hwr : Below wo.heap.size wo wr) (hi : i ≤ 100) (cl id f ob ke a b : Int) (hx : 0 ≤ ixF L id) :
    Calls Try.prog 11 #[.pointer (some ⟨p, 0, none⟩), .int .u8 cl, .int .u16 id, .agg #[.int .u8 f, .int .u8 ob, .int .u8 ke, .int .u16 a, .int .u16 b], .int .i64 (i : Int)] wr (EPost w wo wr p i 8 L) := by
  obtain ⟨v, hT⟩ := h.tab
  have hn := h.now
  have e1 : invE nx L id i = 8 := by unfold invE; rw [moE_now hn.2 hi, if_neg (by decide), if_pos hx]
  have := invoke_any cl id f ob ke a b i (hT.below hwr) (by have := h.len; omega) (Nat.le_trans h.bel.size hwr.size) hn.1
  rw [e1, show invL nx L (newR cl id f ob ke a b i) = L from by unfold invL; rw [if_neg (by show ¬ invE nx L id i = 0; rw [e1]; decide)], show invN nx L (newR cl id f ob ke a b i) = nx from by unfold invN; rw [if_neg (by show ¬ invE nx L id i = 0; rw [e1]; decide)]] at this
  exact this.mono fun e w' ht => h.post hT hwr ht (by omega) (by have := h.len; omega) h.op
theorem EI.inv_new {w wo wr : World} {p i : Nat} {L : List Rw} {nx : Int} (h : EI w wo p i L nx) (hwr : Below wo.heap.size wo wr) (hi : i ≤ 100) (cl id f ob ke a b : Int) (hx : ixF L id = -1) :
    Calls Try.prog 11 #[.pointer (some ⟨p, 0, none⟩), .int .u8 cl, .int .u16 id, .agg #[.int .u8 f, .int .u8 ob, .int .u8 ke, .int .u16 a, .int .u16 b], .int .i64 (i : Int)] wr (EPost w wo wr p i 0 (L ++ [newR cl id f ob ke a b i])) := by
  obtain ⟨v, hT⟩ := h.tab
  have hn := h.now
  have e1 : invE nx L id i = 0 := by unfold invE; rw [moE_now hn.2 hi, if_neg (by decide), if_neg (by rw [hx]; decide)]
  have := invoke_any cl id f ob ke a b i (hT.below hwr) (by have := h.len; omega) (Nat.le_trans h.bel.size hwr.size) hn.1
  rw [e1, show invL nx L (newR cl id f ob ke a b i) = L ++ [newR cl id f ob ke a b i] from by unfold invL; rw [if_pos (by show invE nx L id i = 0; exact e1)], show invN nx L (newR cl id f ob ke a b i) = (i : Int) + 1 from by unfold invN; rw [if_pos (by show invE nx L id i = 0; exact e1)]; rfl] at this
  exact this.mono fun e w' ht => h.post hT hwr ht (by omega) (by have := h.len; simp; omega) (fun y hy h0 => by
    rcases List.mem_append.1 hy with hy | hy
    · exact h.op y hy h0
    · rw [List.mem_singleton.1 hy]; rfl)
/-- is there an open one? -/
def isOp (L : List Rw) (id : Int) : Bool := decide (0 ≤ ixF L id) && ((findR L id).st == 0)
def endS (L : List Rw) (id : Int) (how : Rw → Rw) : List Rw := if isOp L id = true then L.set (ixF L id).toNat (how (findR L id)) else L
theorem end_eq {nx : Int} {L : List Rw} {id : Int} {i : Nat} (hm : moE nx i = 0) (how : Rw → Rw) : endE nx L id i = (if isOp L id = true then 0 else 7) ∧ endL nx L id i how = endS L id how := by
  rcases end_cases nx L id i with ⟨h, _⟩ | ⟨_, hx, hE⟩ | ⟨j, x, _, hx, hj, hst, hE⟩ | ⟨j, x, _, _, _, hx, hj, hst, hE⟩
  · rw [h] at hm; cases hm
  · have e : isOp L id = false := by unfold isOp; rw [hx]; rfl
    unfold endL endS
    rw [hE, e]
    exact ⟨rfl, rfl⟩
  · have e : isOp L id = false := by unfold isOp; rw [findR_some hx hj]; simp [hst]
    unfold endL endS
    rw [hE, e]
    exact ⟨rfl, rfl⟩
  · have e : isOp L id = true := by unfold isOp; rw [findR_some hx hj, hx]; simp [hst]
    unfold endL endS
    rw [hE, e, hx, Int.toNat_natCast, hj, findR_some hx hj]
    exact ⟨rfl, rfl⟩
theorem endN_le {nx : Int} {L : List Rw} {id : Int} {i : Nat} (h : 0 ≤ nx ∧ nx ≤ i) : 0 ≤ endN nx L id i ∧ endN nx L id i ≤ i + 1 := by
  unfold endN; split <;> omega
theorem endS_len (L : List Rw) (id : Int) (how : Rw → Rw) : (endS L id how).length = L.length := by unfold endS; split <;> simp
theorem endS_op {L : List Rw} {id : Int} {how : Rw → Rw} (h : ∀ y ∈ L, y.st = 0 → y.to = 4611686018427387904) (hh : ∀ x, ¬ (how x).st = 0) : ∀ y ∈ endS L id how, y.st = 0 → y.to = 4611686018427387904 := by
  intro y hy h0
  unfold endS at hy
  split at hy
  · rcases List.mem_or_eq_of_mem_set hy with hy | hy
    · exact h y hy h0
    · rw [hy] at h0; exact absurd h0 (hh _)
  · exact h y hy h0
theorem find_open {L : List Rw} {id : Int} (h : ∀ y ∈ L, y.st = 0 → y.to = 4611686018427387904) (ho : isOp L id = true) : (findR L id).to = 4611686018427387904 := by
  unfold isOp at ho
  simp only [Bool.and_eq_true, decide_eq_true_eq, beq_iff_eq] at ho
  rcases ixF_cases L id with hx | ⟨j, x, hx, hj, hid⟩
  · rw [hx] at ho; exact absurd ho.1 (by decide)
  · rw [findR_some hx hj] at ho ⊢
    exact h x (List.mem_of_getElem? hj) ho.2
theorem EI.ret {w wo wr : World} {p i : Nat} {L : List Rw} {nx : Int} (h : EI w wo p i L nx) (hwr : Below wo.heap.size wo wr) (hi : i ≤ 100) (id k v : Int) :
    Calls Try.prog 9 #[.pointer (some ⟨p, 0, none⟩), .int .u16 id, .agg #[.int .u8 k, .int .u16 v], .int .i64 (i : Int)] wr (EPost w wo wr p i (if isOp L id = true then 0 else 7) (endS L id (fun x => retR x k v i))) := by
  obtain ⟨vv, hT⟩ := h.tab
  have hn := h.now
  have := return_any id k v i (hT.below hwr) (by have := h.len; omega) hn.1
  obtain ⟨e1, e2⟩ := end_eq (nx := nx) (L := L) (id := id) (moE_now hn.2 hi) (fun x => retR x k v i)
  rw [e1, e2] at this
  exact this.mono fun e w' ht => h.post hT hwr ht (endN_le hn) (by rw [endS_len]; have := h.len; omega) (endS_op h.op (fun x => by show ¬ (1 : Int) = 0; decide))
theorem EI.info {w wo wr : World} {p i : Nat} {L : List Rw} {nx : Int} (h : EI w wo p i L nx) (hwr : Below wo.heap.size wo wr) (hi : i ≤ 100) (id : Int) :
    Calls Try.prog 10 #[.pointer (some ⟨p, 0, none⟩), .int .u16 id, .int .i64 (i : Int)] wr (EPost w wo wr p i (if isOp L id = true then 0 else 7) (endS L id lostR)) := by
  obtain ⟨vv, hT⟩ := h.tab
  have hn := h.now
  have := info_any id i (hT.below hwr) (by have := h.len; omega) hn.1
  obtain ⟨e1, e2⟩ := end_eq (nx := nx) (L := L) (id := id) (moE_now hn.2 hi) lostR
  rw [e1, e2] at this
  exact this.mono fun e w' ht => h.post hT hwr ht (endN_le hn) (by rw [endS_len]; have := h.len; omega) (endS_op h.op (fun x => by show ¬ (2 : Int) = 0; decide))
/-- what is found behind it -/
theorem find_end {L : List Rw} {id : Int} {how : Rw → Rw} (hh : ∀ x, (how x).id = x.id) (ho : isOp L id = true) : findR (endS L id how) id = how (findR L id) := by
  unfold isOp at ho
  simp only [Bool.and_eq_true, decide_eq_true_eq] at ho
  rcases ixF_cases L id with hx | ⟨j, x, hx, hj, hid⟩
  · rw [hx] at ho; exact absurd ho.1 (by decide)
  · have hjl := (List.getElem?_eq_some_iff.1 hj).1
    have e : endS L id how = L.set j (how x) := by
      unfold endS isOp
      rw [if_pos (by simp [ho]), hx, Int.toNat_natCast, findR_some hx hj]
    rw [e, findR_some (ixF_set hx hjl (by rw [hh]; exact hid)) (List.getElem?_set_self hjl), findR_some hx hj]
theorem find_same {L : List Rw} {id : Int} {how : Rw → Rw} (ho : isOp L id = false) : endS L id how = L := by unfold endS; rw [if_neg (by rw [ho]; simp)]
theorem find_new {L : List Rw} {cl id f ob ke a b t : Int} (h : ixF L id = -1) : findR (L ++ [newR cl id f ob ke a b t]) id = newR cl id f ob ke a b t ∧ decide (0 ≤ ixF (L ++ [newR cl id f ob ke a b t]) id) = true := by
  have e := ixF_new (x := newR cl id f ob ke a b t) h rfl
  exact ⟨findR_some e (by simp), by rw [e]; simp⟩
/-! ### two rows held against each other -/
theorem ne41 (x : Rw) (W : World) : (binOp .neq 41 x.val x.val).run Try.prog W = .ok (.bool false) W := by
  simp [go_sem, Rw.val, eq29, eq31s]
theorem ne31 (k v : Int) (W : World) : (binOp .neq 31 (.agg #[.int .u8 k, .int .u16 v]) (.agg #[.int .u8 k, .int .u16 v])).run Try.prog W = .ok (.bool false) W := by
  simp [go_sem]
/-! ### what is settled -/
theorem settled (L : List Rw) : (L.filter (fun x => !(x.st == 1))).length + cntR L 1 = L.length := by
  unfold cntR
  induction L with
  | nil => rfl
  | cons x L ih =>
    simp only [List.filter_cons]
    cases h : (x.st == 1) <;> simp [h] <;> omega
theorem settled0 (L : List Rw) : cntR (L.filter (fun x => !(x.st == 1))) 1 = 0 := by
  unfold cntR
  rw [List.length_eq_zero_iff, List.filter_eq_nil_iff]
  intro x hx
  rw [List.mem_filter] at hx
  simpa using hx.2
theorem rowc_of {wo w3 w4 : World} {c : Nat} {x : Rw} (h : RowC w3 c 0 x) (hc : ∀ b o u, wo.heap.size ≤ b → w3.cell? ⟨b, o, none⟩ = some u → w4.cell? ⟨b, o, none⟩ = some u) (hb : wo.heap.size ≤ c) : RowC w4 c 0 x :=
  ⟨hc _ _ _ hb h.c0, hc _ _ _ hb h.c1, hc _ _ _ hb h.c2, hc _ _ _ hb h.c3, hc _ _ _ hb h.c4, hc _ _ _ hb h.c5, hc _ _ _ hb h.c6, hc _ _ _ hb h.c7, hc _ _ _ hb h.c8, hc _ _ _ hb h.c9, hc _ _ _ hb h.c10, hc _ _ _ hb h.c11⟩
end Go.Proofs.Ytjmanajbdkbkdaa
