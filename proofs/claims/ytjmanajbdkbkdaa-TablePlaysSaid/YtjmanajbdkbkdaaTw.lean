/- The table: Settle, Remove, Find, Count, Copy. Printed by gen_tw.py. -/
import Derived.Test.YtjmanajbdkbkdaaTv
import Derived.Test.YtjmanajbdkbkdaaTq
namespace Go.Proofs.Ytjmanajbdkbkdaa
open Go.RowKit Go.Um
set_option linter.unusedSimpArgs false
set_option linter.unusedVariables false
set_option maxHeartbeats 4000000
set_option maxRecDepth 100000
theorem frozen_new (w : World) (cs : Array Value) (t : TypeId) (j : Nat) : (w.alloc (.cells cs t)).frozen? ⟨w.heap.size, j, none⟩ = false := by simp [go_sem]
/-- rows are taken away: how many, and what is left -/
def RmPost (base : Nat) (p : Nat) (v : Value) (E : Int) (L' : List Rw) (nx : Int) (w : World) (e : Ending) (w' : World) : Prop :=
  e = .returned (.int .i64 E) ∧ ∃ v', TabAt base w' p v' L' nx ∧ Kept (Own p v) w w' ∧ v'.ownBlock = v.ownBlock
theorem drop_done {base : Nat} {w : World} {p : Nat} {v : Value} {L : List Rw} {nx : Int} (h : TabAt base w p v L nx) (hlen : L.length ≤ 1000) :
    Calls Try.prog 35 #[.pointer (some ⟨p, 0, none⟩), .func (.func 36) #[] #[]] w (RmPost base p v ((L.length : Int) - (L.filter (fun x => !(fun x : Rw => x.st == 1) x)).length) (L.filter (fun x => !(fun x : Rw => x.st == 1) x)) nx w) := by
  have HI := Lib.hid (is_tab h)
  have HD := Lib.hid (delete_done base v L w h.own hlen)
  obtain ⟨ao, cap, b, o, hv, hs⟩ := h.slat
  obtain ⟨F, hF⟩ : ∃ F, F = L.filter (fun x => !(fun x : Rw => x.st == 1) x) := ⟨_, rfl⟩
  rw [← hF] at HD ⊢
  have hfl : F.length ≤ L.length := by rw [hF]; exact List.length_filter_le _ _
  have c0 := h.c0
  have c1 := h.c1
  have c2 := h.c2
  have f0 := h.f0
  have f1 := h.f1
  have hne := h.ne
  have hpl := h.lt
  obtain ⟨m, hm⟩ : ∃ m, m = F.length := ⟨_, rfl⟩
  obtain ⟨n, hn⟩ : ∃ n, n = L.length := ⟨_, rfl⟩
  have HM := Lib.hid hm
  have HN := Lib.hid hn
  rw [← hm, ← hn] at hfl ⊢
  rw [← hn] at hlen hv
  have hw1 : IntKind.i64.wrap ((n : Int) - (m : Int)) = (n : Int) - (m : Int) := IntWalk.i64_in _ (by omega)
  subst hv
  clear h hs hm hn hF
  go_enter Try.func35, Try.ntmps35
  go_wp2_with fail
  refine HI.out.mono ?_
  rintro e w1 ⟨rfl, rfl⟩
  clear HI
  go_wp2_with fail
  refine HD.out.mono ?_
  rintro e w2 ⟨v2, rfl, hown, hob, hk⟩
  obtain ⟨ao2, cap2, b2, o2, rfl, hs2, _⟩ := SlAt.owned hown
  have hn2 : ¬ ((Value.slice ao n cap).ownBlock = some p) := hne
  have d0 := hk.cell c0 hn2
  have d1 := hk.cell c1 hn2
  have d2 := hk.cell c2 hn2
  have e0 := (hk.frozen (o := 0) hpl hn2).trans f0
  have e1 := (hk.frozen (o := 1) hpl hn2).trans f1
  have HO2 := Lib.hid hown
  have HK2 := Lib.hid hk
  have HOB := Lib.hid hob
  rw [← HM.out] at HOB ⊢
  clear hown hob hk hs2 HD c0 c1 c2 f0 f1 hn2
  go_wp2
  go_ret
  have hne2 : (Value.slice ao2 m cap2).ownBlock ≠ some p := by rw [HOB.out]; exact hne
  refine ⟨rfl, .slice ao2 m cap2, ⟨World.cell?_setCell_same _ _ _ d0, by rw [World.frozen?_setCell]; exact e0, ?_, by rw [World.frozen?_setCell]; exact e1, ?_, ?_, hne2⟩, ?_, HOB.out⟩
  · rw [World.cell?_setCell_other _ _ _ _ (by simp)]; exact d1
  · rw [World.cell?_setCell_other _ _ _ _ (by simp)]; exact d2
  · have := own_setCell HO2.out (a := ⟨p, 0, none⟩) (by rw [HM.out] at hne2; exact hne2) (.slice ao2 m cap2)
    rw [← HM.out] at this ⊢
    exact this
  · exact (HK2.out.mono (S' := Own p (.slice ao n cap)) (fun i _ h => .inr h)).setCell (p := ⟨p, 0, none⟩) (fun _ => .inl rfl) _
theorem drop_named {base : Nat} {w : World} {p : Nat} {v : Value} {L : List Rw} {nx : Int} (id : Int) (h : TabAt base w p v L nx) (hlen : L.length ≤ 1000) :
    Calls Try.prog 35 #[.pointer (some ⟨p, 0, none⟩), .func (.func 37) #[.int .u16 id] #[]] w (RmPost base p v ((L.length : Int) - (L.filter (fun x => !(fun x : Rw => x.id == id) x)).length) (L.filter (fun x => !(fun x : Rw => x.id == id) x)) nx w) := by
  have HI := Lib.hid (is_tab h)
  have HD := Lib.hid (delete_named base v L id w h.own hlen)
  obtain ⟨ao, cap, b, o, hv, hs⟩ := h.slat
  obtain ⟨F, hF⟩ : ∃ F, F = L.filter (fun x => !(fun x : Rw => x.id == id) x) := ⟨_, rfl⟩
  rw [← hF] at HD ⊢
  have hfl : F.length ≤ L.length := by rw [hF]; exact List.length_filter_le _ _
  have c0 := h.c0
  have c1 := h.c1
  have c2 := h.c2
  have f0 := h.f0
  have f1 := h.f1
  have hne := h.ne
  have hpl := h.lt
  obtain ⟨m, hm⟩ : ∃ m, m = F.length := ⟨_, rfl⟩
  obtain ⟨n, hn⟩ : ∃ n, n = L.length := ⟨_, rfl⟩
  have HM := Lib.hid hm
  have HN := Lib.hid hn
  rw [← hm, ← hn] at hfl ⊢
  rw [← hn] at hlen hv
  have hw1 : IntKind.i64.wrap ((n : Int) - (m : Int)) = (n : Int) - (m : Int) := IntWalk.i64_in _ (by omega)
  subst hv
  clear h hs hm hn hF
  go_enter Try.func35, Try.ntmps35
  go_wp2_with fail
  refine HI.out.mono ?_
  rintro e w1 ⟨rfl, rfl⟩
  clear HI
  go_wp2_with fail
  refine HD.out.mono ?_
  rintro e w2 ⟨v2, rfl, hown, hob, hk⟩
  obtain ⟨ao2, cap2, b2, o2, rfl, hs2, _⟩ := SlAt.owned hown
  have hn2 : ¬ ((Value.slice ao n cap).ownBlock = some p) := hne
  have d0 := hk.cell c0 hn2
  have d1 := hk.cell c1 hn2
  have d2 := hk.cell c2 hn2
  have e0 := (hk.frozen (o := 0) hpl hn2).trans f0
  have e1 := (hk.frozen (o := 1) hpl hn2).trans f1
  have HO2 := Lib.hid hown
  have HK2 := Lib.hid hk
  have HOB := Lib.hid hob
  rw [← HM.out] at HOB ⊢
  clear hown hob hk hs2 HD c0 c1 c2 f0 f1 hn2
  go_wp2
  go_ret
  have hne2 : (Value.slice ao2 m cap2).ownBlock ≠ some p := by rw [HOB.out]; exact hne
  refine ⟨rfl, .slice ao2 m cap2, ⟨World.cell?_setCell_same _ _ _ d0, by rw [World.frozen?_setCell]; exact e0, ?_, by rw [World.frozen?_setCell]; exact e1, ?_, ?_, hne2⟩, ?_, HOB.out⟩
  · rw [World.cell?_setCell_other _ _ _ _ (by simp)]; exact d1
  · rw [World.cell?_setCell_other _ _ _ _ (by simp)]; exact d2
  · have := own_setCell HO2.out (a := ⟨p, 0, none⟩) (by rw [HM.out] at hne2; exact hne2) (.slice ao2 m cap2)
    rw [← HM.out] at this ⊢
    exact this
  · exact (HK2.out.mono (S' := Own p (.slice ao n cap)) (fun i _ h => .inr h)).setCell (p := ⟨p, 0, none⟩) (fun _ => .inl rfl) _
theorem settle_any {base : Nat} {w : World} {p : Nat} {v : Value} {L : List Rw} {nx : Int} (h : TabAt base w p v L nx) (hlen : L.length ≤ 1000) :
    Calls Try.prog 16 #[.pointer (some ⟨p, 0, none⟩)] w (RmPost base p v ((L.length : Int) - (L.filter (fun x => !(x.st == 1))).length) (L.filter (fun x => !(x.st == 1))) nx w) := by
  have HD := Lib.hid (drop_done h hlen)
  clear h
  go_enter Try.func16, Try.ntmps16
  go_wp2_with fail
  refine HD.out.mono ?_
  rintro e w3 ⟨rfl, h⟩
  go_wp2
  go_ret
  exact ⟨rfl, h⟩
theorem remove_any {base : Nat} {w : World} {p : Nat} {v : Value} {L : List Rw} {nx : Int} (id : Int) (h : TabAt base w p v L nx) (hlen : L.length ≤ 1000) :
    Calls Try.prog 20 #[.pointer (some ⟨p, 0, none⟩), .int .u16 id] w (RmPost base p v (if (L.filter (fun x => !(x.id == id))).length = L.length then 7 else 0) (L.filter (fun x => !(x.id == id))) nx w) := by
  have HI := Lib.hid (is_tab h)
  have HD := Lib.hid (drop_named id h hlen)
  have hfl : (L.filter (fun x => !(x.id == id))).length ≤ L.length := List.length_filter_le _ _
  clear h
  by_cases he : (L.filter (fun x => !(x.id == id))).length = L.length
  · have t1 : (((L.length : Int) - ((L.filter (fun x => !(x.id == id))).length : Int)) == 0) = true := by rw [he]; simp
    rw [if_pos he]
    have HE := Lib.hid t1
    obtain ⟨d, hd⟩ : ∃ d, d = (L.length : Int) - ((L.filter (fun x => !(x.id == id))).length : Int) := ⟨_, rfl⟩
    rw [← hd] at t1 HD
    clear he hd hfl
    go_enter Try.func20, Try.ntmps20
    go_wp2_with fail
    refine HI.out.mono ?_
    rintro e w1 ⟨rfl, rfl⟩
    go_wp2_with fail
    refine HD.out.mono ?_
    rintro e w3 ⟨rfl, h⟩
    go_wp2
    go_ret
    exact ⟨rfl, h⟩
  · have t1 : (((L.length : Int) - ((L.filter (fun x => !(x.id == id))).length : Int)) == 0) = false := by simp; omega
    rw [if_neg he]
    obtain ⟨d, hd⟩ : ∃ d, d = (L.length : Int) - ((L.filter (fun x => !(x.id == id))).length : Int) := ⟨_, rfl⟩
    rw [← hd] at t1 HD
    clear he hd hfl
    go_enter Try.func20, Try.ntmps20
    go_wp2_with fail
    refine HI.out.mono ?_
    rintro e w1 ⟨rfl, rfl⟩
    go_wp2_with fail
    refine HD.out.mono ?_
    rintro e w3 ⟨rfl, h⟩
    go_wp2
    go_ret
    exact ⟨rfl, h⟩
/-- the row that has an ID, and whether there is one -/
def findR (L : List Rw) (id : Int) : Rw := match L[(ixF L id).toNat]? with | some x => if 0 ≤ ixF L id then x else Rw.zero | none => Rw.zero
theorem find_any {base : Nat} {w : World} {p : Nat} {v : Value} {L : List Rw} {nx : Int} (id : Int) (h : TabAt base w p v L nx) (hlen : L.length ≤ 1000) :
    Calls Try.prog 14 #[.pointer (some ⟨p, 0, none⟩), .int .u16 id] w fun e w' => e = .returned (.tuple #[(findR L id).val, .bool (decide (0 ≤ ixF L id))]) ∧ Below w.heap.size w w' := by
  have HW := Lib.hid (fun W (hb : Below w.heap.size w W) => where_any id (h.below hb) (by omega))
  obtain ⟨ao, cap, b, o, rfl, hs⟩ := h.slat
  have c0 := h.c0
  rcases ixF_cases L id with hi | ⟨i, x, hi, hx, hxid⟩
  · rw [hi] at HW
    have e1 : findR L id = Rw.zero := by unfold findR; rw [hi]; split <;> simp
    rw [e1, hi]
    clear h hs hi e1
    go_enter Try.func14, Try.ntmps14
    go_wp2_with fail
    refine (HW.out _ (ba (bz w) _)).mono ?_
    rintro e w2 ⟨rfl, hb2⟩
    have HB2 := Lib.hid (bt (ba (bz w) _) hb2)
    have RZ := (rowc_new w Rw.zero).below hb2
    obtain ⟨z0, z1, z2, z3, z4, z5, z6, z7, z8, z9, z10, z11⟩ := RZ
    have fz := fun j => kf hb2 w.heap.size j (by simp) (show (w.alloc (.cells #[.int .u8 0, .int .u16 0, .int .u8 0, .int .u8 0, .int .u8 0, .int .u16 0, .int .u16 0, .int .u8 0, .int .u16 0, .int .u8 0, .int .i64 0, .int .i64 0] 41)).frozen? ⟨w.heap.size, j, none⟩ = false from frozen_new _ _ _ _)
    have fz0 := fz 0
    have fz1 := fz 1
    have fz2 := fz 2
    have fz3 := fz 3
    have fz4 := fz 4
    have fz5 := fz 5
    have fz6 := fz 6
    have fz7 := fz 7
    have fz8 := fz 8
    have fz9 := fz 9
    have fz10 := fz 10
    have fz11 := fz 11
    simp only [Nat.zero_add] at z0 z1 z2 z3 z4 z5 z6 z7 z8 z9 z10 z11
    unfold Rw.zero at z0 z1 z2 z3 z4 z5 z6 z7 z8 z9 z10 z11
    dsimp only at z0 z1 z2 z3 z4 z5 z6 z7 z8 z9 z10 z11
    have HB2' := Lib.hid hb2
    have HFZ := Lib.hid fz
    clear hb2 fz
    go_wp2
    have hF := (RowF.mk (w := w2) (c := w.heap.size) (x := Rw.zero) ((rowc_new w Rw.zero).below (HB2'.out)) (fun j _ => HFZ.out j)).put Rw.zero
    obtain ⟨q0, q1, q2, q3, q4, q5, q6, q7, q8, q9, q10, q11⟩ := hF.row
    simp only [Nat.zero_add] at q0 q1 q2 q3 q4 q5 q6 q7 q8 q9 q10 q11
    change bodyPost _ _ _ _ _ (put12 w2 w.heap.size Rw.zero)
    refine bodyPost_ret (v := .tuple #[Rw.zero.val, .bool false]) ?_ rfl ⟨rfl, put12_below HB2.out (Nat.le_refl _) _⟩
    simp [results, Try.f14, go_sem, q0, q1, q2, q3, q4, q5, q6, q7, q8, q9, q10, q11, Rw.val]
  · rw [hi] at HW
    have hil := (List.getElem?_eq_some_iff.1 hx).1
    have e1 : findR L id = x := by unfold findR; rw [hi, Int.toNat_natCast, hx]; simp
    have e2 : decide (0 ≤ (i : Int)) = true := decide_eq_true (by omega)
    rw [e1, hi, e2]
    have hidx := hs.idx (P := Try.prog) (t := 38) (e := 41) (by kernel_rfl) size41 (by decide)
    have HRW := Lib.hid (fun W (hb : Below w.heap.size w W) => And.intro (row_at (hs.below hb) hx) (cell_past hb c0))
    obtain ⟨n, hn⟩ : ∃ n, n = L.length := ⟨_, rfl⟩
    rw [← hn] at hidx hil HRW
    have HN := Lib.hid hn
    have i1 : (0 : Int) ≤ (i : Int) := by omega
    have i2 : (i : Int) < (n : Int) := by omega
    have i3 : decide ((i : Int) < 0) = false := decide_eq_false (by omega)
    clear h hs hi hx hn e1 e2 c0 hxid
    go_enter Try.func14, Try.ntmps14
    go_wp2_with fail
    refine (HW.out _ (ba (bz w) _)).mono ?_
    rintro e w2 ⟨rfl, hb2⟩
    have HB2 := Lib.hid (bt (ba (bz w) _) hb2)
    have RZ := (rowc_new w Rw.zero).below hb2
    have HB2' := Lib.hid hb2
    have fz := fun j => kf hb2 w.heap.size j (by simp) (show (w.alloc (.cells #[.int .u8 0, .int .u16 0, .int .u8 0, .int .u8 0, .int .u8 0, .int .u16 0, .int .u16 0, .int .u8 0, .int .u16 0, .int .u8 0, .int .i64 0, .int .i64 0] 41)).frozen? ⟨w.heap.size, j, none⟩ = false from frozen_new _ _ _ _)
    have fz0 := fz 0
    have fz1 := fz 1
    have fz2 := fz 2
    have fz3 := fz 3
    have fz4 := fz 4
    have fz5 := fz 5
    have fz6 := fz 6
    have fz7 := fz 7
    have fz8 := fz 8
    have fz9 := fz 9
    have fz10 := fz 10
    have fz11 := fz 11
    have HFZ := Lib.hid fz
    obtain ⟨z0, z1, z2, z3, z4, z5, z6, z7, z8, z9, z10, z11⟩ := RZ
    simp only [Nat.zero_add] at z0 z1 z2 z3 z4 z5 z6 z7 z8 z9 z10 z11
    unfold Rw.zero at z0 z1 z2 z3 z4 z5 z6 z7 z8 z9 z10 z11
    dsimp only at z0 z1 z2 z3 z4 z5 z6 z7 z8 z9 z10 z11
    obtain ⟨⟨g0, g1, g2, g3, g4, g5, g6, g7, g8, g9, g10, g11⟩, d0⟩ := HRW.out _ HB2.out
    clear hb2 fz HW
    go_wp2
    have hF := (RowF.mk (w := w2) (c := w.heap.size) (x := Rw.zero) ((rowc_new w Rw.zero).below (HB2'.out)) (fun j _ => HFZ.out j)).put x
    obtain ⟨q0, q1, q2, q3, q4, q5, q6, q7, q8, q9, q10, q11⟩ := hF.row
    simp only [Nat.zero_add] at q0 q1 q2 q3 q4 q5 q6 q7 q8 q9 q10 q11
    change bodyPost _ _ _ _ _ (put12 w2 w.heap.size x)
    refine bodyPost_ret (v := .tuple #[x.val, .bool true]) ?_ rfl ⟨rfl, put12_below HB2.out (Nat.le_refl _) _⟩
    simp [results, Try.f14, go_sem, q0, q1, q2, q3, q4, q5, q6, q7, q8, q9, q10, q11, Rw.val]
/-- how many rows have a status -/
def cntR (L : List Rw) (s : Int) : Nat := (L.filter (fun x => x.st == s)).length
theorem eq29 (d : Nat) (f ob ke a b : Int) (W : World) : (Op.equalIn (d + 2) 29 (.agg #[.int .u8 f, .int .u8 ob, .int .u8 ke, .int .u16 a, .int .u16 b]) (.agg #[.int .u8 f, .int .u8 ob, .int .u8 ke, .int .u16 a, .int .u16 b])).run Try.prog W = .ok true W := by
  simp [go_sem]
theorem eq31s (d : Nat) (k v : Int) (W : World) : (Op.equalIn (d + 2) 31 (.agg #[.int .u8 k, .int .u16 v]) (.agg #[.int .u8 k, .int .u16 v])).run Try.prog W = .ok true W := by
  simp [go_sem]
theorem eq41 (cl id f ob ke a b k v st fr to st' : Int) (W : World) : (binOp .eql 41 (.agg #[.int .u8 cl, .int .u16 id, .int .u8 f, .int .u8 ob, .int .u8 ke, .int .u16 a, .int .u16 b, .int .u8 k, .int .u16 v, .int .u8 st, .int .i64 fr, .int .i64 to]) (.agg #[.int .u8 cl, .int .u16 id, .int .u8 f, .int .u8 ob, .int .u8 ke, .int .u16 a, .int .u16 b, .int .u8 k, .int .u16 v, .int .u8 st', .int .i64 fr, .int .i64 to])).run Try.prog W = .ok (.bool (st == st')) W := by
  by_cases e : st = st'
  · simp [go_sem, e, eq29, eq31s]
  · simp [go_sem, e, eq29, eq31s]
theorem cnt_snoc {L : List Rw} {i : Nat} {x : Rw} (h : L[i]? = some x) (s : Int) : cntR (L.take (i + 1)) s = cntR (L.take i) s + if x.st == s then 1 else 0 := by
  unfold cntR
  rw [take_snoc h, List.filter_append, List.length_append]
  congr 1
  simp only [List.filter_cons, List.filter_nil]
  split <;> rfl
theorem cnt_le (L : List Rw) (s : Int) : cntR L s ≤ L.length := List.length_filter_le _ _
theorem count_any {base : Nat} {w : World} {p : Nat} {v : Value} {L : List Rw} {nx : Int} (s : Int) (h : TabAt base w p v L nx) (hlen : L.length ≤ 1000) :
    Calls Try.prog 15 #[.pointer (some ⟨p, 0, none⟩), .int .u8 s] w fun e w' => e = .returned (.int .i64 (cntR L s : Nat)) ∧ Below w.heap.size w w' := by
  have HR := Lib.hid (rows_any h hlen)
  clear h
  obtain ⟨R, hR⟩ : ∃ R, R = cntR L s := ⟨_, rfl⟩
  rw [← hR]
  have HRR := Lib.hid hR
  clear hR
  go_enter Try.func15, Try.ntmps15
  go_wp2_with fail
  refine HR.out.mono ?_
  rintro e w1 ⟨v1, rfl, hown, hb1⟩
  obtain ⟨ao, cap, b, o, rfl, hs, _⟩ := SlAt.owned hown
  have hidx := hs.idx (P := Try.prog) (t := 38) (e := 41) (by kernel_rfl) size41 (by decide)
  obtain ⟨n, hn⟩ : ∃ n, n = L.length := ⟨_, rfl⟩
  rw [← hn] at hidx hlen ⊢
  have HS := Lib.hid hs
  have HN := Lib.hid hn
  have HB1 := Lib.hid hb1
  clear hown hs hn hb1 HR
  go_wp2_with fail
  go_loopw [4, 10] (fun t4 t10 wr => ∃ i : Nat, i ≤ n ∧ t10 = .int .i64 i ∧ t4 = .int .i64 (cntR (L.take i) s : Nat) ∧ Hid (Below w1.heap.size w1 wr)) (fun _ t10 _ => n - (intOf t10).toNat)
  case atStart => exact ⟨0, Nat.zero_le _, rfl, by simp [cntR], Lib.hid (bz w1)⟩
  case round =>
    obtain ⟨i, hi, rfl, rfl, hbel⟩ := hrel
    obtain ⟨c, hc⟩ : ∃ c, c = cntR (L.take i) s := ⟨_, rfl⟩
    have hcl : c ≤ n := by rw [hc]; exact Nat.le_trans (cnt_le _ _) (by rw [List.length_take]; omega)
    have HCC := Lib.hid hc
    rw [← hc]
    clear hc
    by_cases hlt : i < n
    · have i1 : (0 : Int) ≤ (i : Int) := by omega
      have i2 : (i : Int) < (n : Int) := by omega
      have i3 : decide ((i : Int) < (n : Int)) = true := decide_eq_true i2
      obtain ⟨x, hx⟩ : ∃ x, L[i]? = some x := ⟨_, List.getElem?_eq_getElem (by rw [← HN.out]; exact hlt)⟩
      obtain ⟨g0, g1, g2, g3, g4, g5, g6, g7, g8, g9, g10, g11⟩ := row_at (HS.out.below hbel.out) hx
      have HCS := Lib.hid (cnt_snoc hx s)
      have heq := fun W => eq41 x.cl x.id x.f x.ob x.ke x.a x.b x.k x.v x.st x.fr x.to s W
      obtain ⟨B, hB⟩ : ∃ B : Bool, B = (x.st == s) := ⟨_, rfl⟩
      rw [← hB] at heq HCS
      have HBB := Lib.hid (ba hbel.out (.cells #[.int .u8 x.cl, .int .u16 x.id, .int .u8 x.f, .int .u8 x.ob, .int .u8 x.ke, .int .u16 x.a, .int .u16 x.b, .int .u8 x.k, .int .u16 x.v, .int .u8 x.st, .int .i64 x.fr, .int .i64 x.to] 41))
      have hwc : IntKind.i64.wrap ((c : Int) + 1) = (c : Int) + 1 := IntWalk.i64_in _ (by omega)
      clear hx hB
      cases B with
      | true =>
        go_wp2_with fail
        go_roundw
        case rel =>
          refine ⟨i + 1, by omega, by go_num, ?_, HBB⟩
          rw [HCS.out, ← HCC.out]
          simp
        case measure => simp [intOf]; omega
      | false =>
        go_wp2_with fail
        go_roundw
        case rel =>
          refine ⟨i + 1, by omega, by go_num, ?_, HBB⟩
          rw [HCS.out, ← HCC.out]
          simp
        case measure => simp [intOf]; omega
    · have i2 : ¬ (i : Int) < (n : Int) := by omega
      have i3 : decide ((i : Int) < (n : Int)) = false := decide_eq_false i2
      have HI := Lib.hid (show i = n by omega)
      go_wp2
      go_ret
      refine ⟨?_, bt HB1.out hbel.out⟩
      have : c = R := by rw [HCC.out, HRR.out, HI.out, HN.out, List.take_length]
      rw [this]; rfl
end Go.Proofs.Ytjmanajbdkbkdaa
