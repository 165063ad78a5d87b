/- TableKnown: tables that are none; the state. -/
import Derived.Test.YtjmanajbdkbkdaaTw
namespace Go.Proofs.Ytjmanajbdkbkdaa
open Go.RowKit Go.Um
set_option linter.unusedSimpArgs false
set_option linter.unusedVariables false
set_option maxHeartbeats 4000000
set_option maxRecDepth 100000
theorem is_none (w : World) : Calls Try.prog 33 #[.pointer none] w fun e w' => e = .returned (.bool false) ∧ w = w' := by
  go_enter Try.func33, Try.ntmps33
  go_wp2
  go_ret
  exact ⟨rfl, rfl⟩
def Zr (w : World) (q : Nat) : Prop := w.cell? ⟨q, 2, none⟩ = some (.bool false)
theorem is_zr (q : Nat) (w : World) (h : Zr w q) : Calls Try.prog 33 #[.pointer (some ⟨q, 0, none⟩)] w fun e w' => e = .returned (.bool false) ∧ w = w' := by
  unfold Zr at h
  go_enter Try.func33, Try.ntmps33
  go_wp2
  go_ret
  exact ⟨rfl, rfl⟩
/-- a pointer to no table -/
def NoT (pv : Option Addr) (w : World) : Prop := pv = none ∨ ∃ q, pv = some ⟨q, 0, none⟩ ∧ Zr w q
theorem NoT.below {pv : Option Addr} {w W : World} (h : NoT pv w) (hb : Below w.heap.size w W) : NoT pv W := by
  rcases h with h | ⟨q, h, hz⟩
  · exact .inl h
  · exact .inr ⟨q, h, cell_past hb hz⟩
theorem is_no {pv : Option Addr} {w : World} (h : NoT pv w) : Calls Try.prog 33 #[.pointer pv] w fun e w' => e = .returned (.bool false) ∧ w = w' := by
  rcases h with rfl | ⟨q, rfl, hz⟩
  · exact is_none w
  · exact is_zr q w hz
theorem moment_no {pv : Option Addr} {w : World} (a : Int) (h : NoT pv w) : Calls Try.prog 31 #[.pointer pv, .int .i64 a] w fun e w' => e = .returned (.int .i64 1) ∧ w = w' := by
  have HI := Lib.hid (is_no h)
  clear h
  go_enter Try.func31, Try.ntmps31
  go_wp2_with fail
  refine HI.out.mono ?_
  rintro e w1 ⟨rfl, rfl⟩
  go_wp2
  go_ret
  exact ⟨rfl, rfl⟩
theorem invoke_no {pv : Option Addr} {w : World} (cl id f ob ke a b t : Int) (h : NoT pv w) : Calls Try.prog 11 #[.pointer pv, .int .u8 cl, .int .u16 id, .agg #[.int .u8 f, .int .u8 ob, .int .u8 ke, .int .u16 a, .int .u16 b], .int .i64 t] w fun e w' => e = .returned (.int .i64 1) ∧ Below w.heap.size w w' := by
  have HM := Lib.hid (fun W (hb : Below w.heap.size w W) => moment_no t (h.below hb))
  clear h
  go_enter Try.func11, Try.ntmps11
  go_wp2_with fail
  refine (HM.out _ (ba (bz w) _)).mono ?_
  rintro e w1 ⟨rfl, rfl⟩
  go_wp2
  go_ret
  exact ⟨rfl, ba (bz w) _⟩
theorem end_no {pv : Option Addr} {w : World} (id t : Int) (fv : Value) (h : NoT pv w) : Calls Try.prog 28 #[.pointer pv, .int .u16 id, .int .i64 t, fv] w fun e w' => e = .returned (.int .i64 1) ∧ w = w' := by
  have HM := Lib.hid (moment_no t h)
  clear h
  go_enter Try.func28, Try.ntmps28
  go_wp2_with fail
  refine HM.out.mono ?_
  rintro e w1 ⟨rfl, rfl⟩
  go_wp2
  go_ret
  exact ⟨rfl, rfl⟩
theorem return_no {pv : Option Addr} {w : World} (id k v t : Int) (h : NoT pv w) : Calls Try.prog 9 #[.pointer pv, .int .u16 id, .agg #[.int .u8 k, .int .u16 v], .int .i64 t] w fun e w' => e = .returned (.int .i64 1) ∧ Below w.heap.size w w' := by
  have HM := Lib.hid (fun W (hb : Below w.heap.size w W) fv => end_no id t fv (h.below hb))
  clear h
  go_enter Try.func9, Try.ntmps9
  go_wp2_with fail
  refine (HM.out _ (ba (ba (bz w) _) _) _).mono ?_
  rintro e w1 ⟨rfl, rfl⟩
  go_wp2
  go_ret
  exact ⟨rfl, ba (ba (bz w) _) _⟩
theorem info_no {pv : Option Addr} {w : World} (id t : Int) (h : NoT pv w) : Calls Try.prog 10 #[.pointer pv, .int .u16 id, .int .i64 t] w fun e w' => e = .returned (.int .i64 1) ∧ w = w' := by
  have HM := Lib.hid (fun fv => end_no id t fv h)
  clear h
  go_enter Try.func10, Try.ntmps10
  go_wp2_with fail
  refine (HM.out _).mono ?_
  rintro e w1 ⟨rfl, rfl⟩
  go_wp2
  go_ret
  exact ⟨rfl, rfl⟩
theorem remove_no {pv : Option Addr} {w : World} (id : Int) (h : NoT pv w) : Calls Try.prog 20 #[.pointer pv, .int .u16 id] w fun e w' => e = .returned (.int .i64 1) ∧ w = w' := by
  have HM := Lib.hid (is_no h)
  clear h
  go_enter Try.func20, Try.ntmps20
  go_wp2_with fail
  refine HM.out.mono ?_
  rintro e w1 ⟨rfl, rfl⟩
  go_wp2
  go_ret
  exact ⟨rfl, rfl⟩
theorem settle_no {pv : Option Addr} {w : World} (h : NoT pv w) : Calls Try.prog 16 #[.pointer pv] w fun e w' => e = .returned (.int .i64 0) ∧ w = w' := by
  have HD : Hid (Calls Try.prog 35 #[.pointer pv, .func (.func 36) #[] #[]] w fun e w' => e = .returned (.int .i64 0) ∧ w = w') := by
    have HM := Lib.hid (is_no h)
    clear h
    show Calls _ _ _ _ _
    go_enter Try.func35, Try.ntmps35
    go_wp2_with fail
    refine HM.out.mono ?_
    rintro e w1 ⟨rfl, rfl⟩
    go_wp2
    go_ret
    exact ⟨rfl, rfl⟩
  clear h
  go_enter Try.func16, Try.ntmps16
  go_wp2_with fail
  refine HD.out.mono ?_
  rintro e w1 ⟨rfl, rfl⟩
  go_wp2
  go_ret
  exact ⟨rfl, rfl⟩
theorem rows_no {pv : Option Addr} {w : World} (h : NoT pv w) : Calls Try.prog 12 #[.pointer pv] w fun e w' => e = .returned (.slice none 0 0) ∧ w = w' := by
  have HM := Lib.hid (is_no h)
  clear h
  go_enter Try.func12, Try.ntmps12
  go_wp2_with fail
  refine HM.out.mono ?_
  rintro e w1 ⟨rfl, rfl⟩
  go_wp2
  go_ret
  exact ⟨rfl, rfl⟩
theorem count_no {pv : Option Addr} {w : World} (s : Int) (h : NoT pv w) : Calls Try.prog 15 #[.pointer pv, .int .u8 s] w fun e w' => e = .returned (.int .i64 0) ∧ w = w' := by
  have HM := Lib.hid (rows_no h)
  clear h
  go_enter Try.func15, Try.ntmps15
  go_wp2_with fail
  refine HM.out.mono ?_
  rintro e w1 ⟨rfl, rfl⟩
  go_wp2_with fail
  go_loop [4, 10] (fun t4 t10 => t4 = .int .i64 0 ∧ t10 = .int .i64 0) (fun _ _ => 0)
  case atStart => exact ⟨rfl, rfl⟩
  case round =>
    obtain ⟨rfl, rfl⟩ := hrel
    go_wp2
    go_ret
    exact ⟨rfl, rfl⟩
theorem copy_no {pv : Option Addr} {w : World} (h : NoT pv w) : Calls Try.prog 18 #[.pointer pv] w fun e w' => e = .returned (.pointer none) ∧ w = w' := by
  have HM := Lib.hid (is_no h)
  clear h
  go_enter Try.func18, Try.ntmps18
  go_wp2_with fail
  refine HM.out.mono ?_
  rintro e w1 ⟨rfl, rfl⟩
  go_wp2
  go_ret
  exact ⟨rfl, rfl⟩
theorem where_no {pv : Option Addr} {w : World} (id : Int) (h : NoT pv w) : Calls Try.prog 32 #[.pointer pv, .int .u16 id] w fun e w' => e = .returned (.int .i64 (-1)) ∧ Below w.heap.size w w' := by
  have HM := Lib.hid (fun W (hb : Below w.heap.size w W) => is_no (h.below hb))
  clear h
  go_enter Try.func32, Try.ntmps32
  go_wp2_with fail
  refine (HM.out _ (ba (bz w) _)).mono ?_
  rintro e w1 ⟨rfl, rfl⟩
  go_wp2
  go_ret
  exact ⟨rfl, ba (bz w) _⟩
theorem find_no {pv : Option Addr} {w : World} (id : Int) (h : NoT pv w) : Calls Try.prog 14 #[.pointer pv, .int .u16 id] w fun e w' => e = .returned (.tuple #[Rw.zero.val, .bool false]) ∧ Below w.heap.size w w' := by
  have HW := Lib.hid (fun W (hb : Below w.heap.size w W) => where_no id (h.below hb))
  clear h
  go_enter Try.func14, Try.ntmps14
  go_wp2_with fail
  refine (HW.out _ (ba (bz w) _)).mono ?_
  rintro e w2 ⟨rfl, hb2⟩
  have HB2 := Lib.hid (bt (ba (bz w) _) hb2)
  have RZ := (rowc_new w Rw.zero).below hb2
  obtain ⟨z0, z1, z2, z3, z4, z5, z6, z7, z8, z9, z10, z11⟩ := RZ
  have fz := fun j => kf hb2 w.heap.size j (by simp) (show (w.alloc (.cells #[.int .u8 0, .int .u16 0, .int .u8 0, .int .u8 0, .int .u8 0, .int .u16 0, .int .u16 0, .int .u8 0, .int .u16 0, .int .u8 0, .int .i64 0, .int .i64 0] 41)).frozen? ⟨w.heap.size, j, none⟩ = false from frozen_new _ _ _ _)
  have fz0 := fz 0
  have fz1 := fz 1
  have fz2 := fz 2
  have fz3 := fz 3
  have fz4 := fz 4
  have fz5 := fz 5
  have fz6 := fz 6
  have fz7 := fz 7
  have fz8 := fz 8
  have fz9 := fz 9
  have fz10 := fz 10
  have fz11 := fz 11
  simp only [Nat.zero_add] at z0 z1 z2 z3 z4 z5 z6 z7 z8 z9 z10 z11
  unfold Rw.zero at z0 z1 z2 z3 z4 z5 z6 z7 z8 z9 z10 z11
  dsimp only at z0 z1 z2 z3 z4 z5 z6 z7 z8 z9 z10 z11
  have HB2' := Lib.hid hb2
  have HFZ := Lib.hid fz
  clear hb2 fz
  go_wp2
  have hF := (RowF.mk (w := w2) (c := w.heap.size) (x := Rw.zero) ((rowc_new w Rw.zero).below (HB2'.out)) (fun j _ => HFZ.out j)).put Rw.zero
  obtain ⟨q0, q1, q2, q3, q4, q5, q6, q7, q8, q9, q10, q11⟩ := hF.row
  simp only [Nat.zero_add] at q0 q1 q2 q3 q4 q5 q6 q7 q8 q9 q10 q11
  change bodyPost _ _ _ _ _ (put12 w2 w.heap.size Rw.zero)
  refine bodyPost_ret (v := .tuple #[Rw.zero.val, .bool false]) ?_ rfl ⟨rfl, put12_below HB2.out (Nat.le_refl _) _⟩
  simp [results, Try.f14, go_sem, q0, q1, q2, q3, q4, q5, q6, q7, q8, q9, q10, q11, Rw.val]
/-! ### the table that is given, as it goes on -/
structure KI (w wr : World) (p : Nat) (L : List Rw) (nx : Int) : Prop where
  tab : ∃ v, TabAt w.heap.size wr p v L nx
  bel : Below w.heap.size w wr
  pw : w.heap.size ≤ p
theorem KI.below {w wr W : World} {p : Nat} {L : List Rw} {nx : Int} (h : KI w wr p L nx) (hb : Below wr.heap.size wr W) : KI w W p L nx :=
  ⟨h.tab.imp fun v hv => hv.below hb, h.bel.trans (hb.mono h.bel.size), h.pw⟩
theorem KI.tp {w wr w' : World} {p : Nat} {L L' : List Rw} {nx nx' E : Int} {v : Value} {e : Ending} (h : KI w wr p L nx) (hT : TabAt w.heap.size wr p v L nx) (ht : TPost w.heap.size p v E L' nx' wr e w') : e = .returned (.int .i64 E) ∧ KI w w' p L' nx' := by
  have hb := ht.bel hT h.pw h.bel h.bel.size
  obtain ⟨rfl, v', hT', hK, hF⟩ := ht
  exact ⟨rfl, ⟨v', hT'⟩, hb, h.pw⟩
theorem KI.rm {w wr w' : World} {p : Nat} {L L' : List Rw} {nx nx' E : Int} {v : Value} {e : Ending} (h : KI w wr p L nx) (hT : TabAt w.heap.size wr p v L nx) (ht : RmPost w.heap.size p v E L' nx' wr e w') : e = .returned (.int .i64 E) ∧ KI w w' p L' nx' := by
  obtain ⟨rfl, v', hT', hK, _⟩ := ht
  exact ⟨rfl, ⟨v', hT'⟩, h.bel.trans (hK.below (fun k hk' _ ho => by have := own_of (w' := w') hT h.pw ho; omega) h.bel.size), h.pw⟩
theorem KI.invoke {w wr : World} {p : Nat} {L : List Rw} {nx : Int} (h : KI w wr p L nx) (cl id f ob ke a b t : Int) (hlen : L.length ≤ 1000) (hnx : 0 ≤ nx) {E : Int} {L' : List Rw} {nx' : Int} (e1 : invE nx L id t = E) (e2 : invL nx L (newR cl id f ob ke a b t) = L') (e3 : invN nx L (newR cl id f ob ke a b t) = nx') :
    Calls Try.prog 11 #[.pointer (some ⟨p, 0, none⟩), .int .u8 cl, .int .u16 id, .agg #[.int .u8 f, .int .u8 ob, .int .u8 ke, .int .u16 a, .int .u16 b], .int .i64 t] wr fun e w' => e = .returned (.int .i64 E) ∧ KI w w' p L' nx' := by
  obtain ⟨v, hT⟩ := h.tab
  subst e1 e2 e3
  exact (invoke_any cl id f ob ke a b t hT hlen h.bel.size hnx).mono fun e w' ht => h.tp hT ht
theorem KI.ret {w wr : World} {p : Nat} {L : List Rw} {nx : Int} (h : KI w wr p L nx) (id k v t : Int) (hlen : L.length ≤ 1000) (hnx : 0 ≤ nx) {E : Int} {L' : List Rw} {nx' : Int} (e1 : endE nx L id t = E) (e2 : endL nx L id t (fun x => retR x k v t) = L') (e3 : endN nx L id t = nx') :
    Calls Try.prog 9 #[.pointer (some ⟨p, 0, none⟩), .int .u16 id, .agg #[.int .u8 k, .int .u16 v], .int .i64 t] wr fun e w' => e = .returned (.int .i64 E) ∧ KI w w' p L' nx' := by
  obtain ⟨vv, hT⟩ := h.tab
  subst e1 e2 e3
  exact (return_any id k _ t hT hlen hnx).mono fun e w' ht => h.tp hT ht
theorem KI.settle {w wr : World} {p : Nat} {L : List Rw} {nx : Int} (h : KI w wr p L nx) (hlen : L.length ≤ 1000) {E : Int} {L' : List Rw} (e1 : (L.length : Int) - (L.filter (fun x => !(x.st == 1))).length = E) (e2 : L.filter (fun x => !(x.st == 1)) = L') :
    Calls Try.prog 16 #[.pointer (some ⟨p, 0, none⟩)] wr fun e w' => e = .returned (.int .i64 E) ∧ KI w w' p L' nx := by
  obtain ⟨vv, hT⟩ := h.tab
  subst e1 e2
  exact (settle_any hT hlen).mono fun e w' ht => h.rm hT ht
theorem KI.remove {w wr : World} {p : Nat} {L : List Rw} {nx : Int} (h : KI w wr p L nx) (id : Int) (hlen : L.length ≤ 1000) {E : Int} {L' : List Rw} (e1 : (if (L.filter (fun x => !(x.id == id))).length = L.length then (7 : Int) else 0) = E) (e2 : L.filter (fun x => !(x.id == id)) = L') :
    Calls Try.prog 20 #[.pointer (some ⟨p, 0, none⟩), .int .u16 id] wr fun e w' => e = .returned (.int .i64 E) ∧ KI w w' p L' nx := by
  obtain ⟨vv, hT⟩ := h.tab
  subst e1 e2
  exact (remove_any id hT hlen).mono fun e w' ht => h.rm hT ht
theorem KI.count {w wr : World} {p : Nat} {L : List Rw} {nx : Int} (h : KI w wr p L nx) (s : Int) (hlen : L.length ≤ 1000) {E : Int} (e1 : ((cntR L s : Nat) : Int) = E) :
    Calls Try.prog 15 #[.pointer (some ⟨p, 0, none⟩), .int .u8 s] wr fun e w' => e = .returned (.int .i64 E) ∧ KI w w' p L nx := by
  obtain ⟨vv, hT⟩ := h.tab
  subst e1
  exact (count_any s hT hlen).mono fun e w' ht => ⟨ht.1, h.below ht.2⟩
end Go.Proofs.Ytjmanajbdkbkdaa
