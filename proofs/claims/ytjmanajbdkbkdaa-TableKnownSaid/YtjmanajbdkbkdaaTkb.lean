/- TableKnown: the walk. Printed by gen_tkb.py. -/
import Derived.Test.YtjmanajbdkbkdaaTka
import Derived.Test.YtjmanajbdkbkdaaTp
namespace Go.Proofs.Ytjmanajbdkbkdaa
open Go.RowKit Go.Um
set_option linter.unusedSimpArgs false
set_option linter.unusedVariables false
set_option maxHeartbeats 4000000
set_option maxRecDepth 100000
def r9 : Rw := ⟨0, 9, 0, 0, 0, 0, 0, 0, 0, 0, 2305843009213693952, 4611686018427387904⟩
/-- the table as it goes on, and the three rows that were handed out -/
structure KR (w wr : World) (p g : Nat) (L : List Rw) (nx : Int) : Prop where
  tab : ∃ v, TabAt w.heap.size wr p v L nx ∧ v.ownBlock ≠ some g
  bel : Below w.heap.size w wr
  pw : w.heap.size ≤ p
  ne : g ≠ p
  r1 : RowC wr g (0 * 12) g1'
  r2 : RowC wr g (1 * 12) g2'
  r3 : RowC wr g (2 * 12) g3
theorem RowC.kept {K : Nat → Prop} {w W : World} {b o : Nat} {x : Rw} (h : RowC w b o x) (hk : Kept K w W) (hn : ¬ K b) : RowC W b o x :=
  ⟨hk.cell h.c0 hn, hk.cell h.c1 hn, hk.cell h.c2 hn, hk.cell h.c3 hn, hk.cell h.c4 hn, hk.cell h.c5 hn, hk.cell h.c6 hn, hk.cell h.c7 hn, hk.cell h.c8 hn, hk.cell h.c9 hn, hk.cell h.c10 hn, hk.cell h.c11 hn⟩
theorem KR.below {w wr W : World} {p g : Nat} {L : List Rw} {nx : Int} (h : KR w wr p g L nx) (hb : Below wr.heap.size wr W) : KR w W p g L nx :=
  ⟨h.tab.imp fun v hv => ⟨hv.1.below hb, hv.2⟩, h.bel.trans (hb.mono h.bel.size), h.pw, h.ne, h.r1.below hb, h.r2.below hb, h.r3.below hb⟩
theorem KR.step {w wr w' : World} {p g : Nat} {L L' : List Rw} {nx nx' : Int} {v v' : Value} (h : KR w wr p g L nx) (hT : TabAt w.heap.size wr p v L nx) (hv : v.ownBlock ≠ some g) (hT' : TabAt w.heap.size w' p v' L' nx') (hK : Kept (Own p v) wr w') (hF : Fresh wr v v') : KR w w' p g L' nx' := by
  have hn : ¬ Own p v g := fun ho => ho.elim h.ne hv
  have hg := World.block_lt_of_cell? _ _ h.r1.c0
  exact ⟨⟨v', hT', TPost.far (base := 0) (p := 0) hF hg hv⟩, h.bel.trans (hK.below (fun k hk' _ ho => by have := own_of (w' := w') hT h.pw ho; omega) h.bel.size), h.pw, h.ne, h.r1.kept hK hn, h.r2.kept hK hn, h.r3.kept hK hn⟩
theorem KR.invoke {w wr : World} {p g : Nat} {L : List Rw} {nx : Int} (h : KR w wr p g L nx) (cl id f ob ke a b t : Int) (hlen : L.length ≤ 1000) (hnx : 0 ≤ nx) {E : Int} {L' : List Rw} {nx' : Int} (e1 : invE nx L id t = E) (e2 : invL nx L (newR cl id f ob ke a b t) = L') (e3 : invN nx L (newR cl id f ob ke a b t) = nx') :
    Calls Try.prog 11 #[.pointer (some ⟨p, 0, none⟩), .int .u8 cl, .int .u16 id, .agg #[.int .u8 f, .int .u8 ob, .int .u8 ke, .int .u16 a, .int .u16 b], .int .i64 t] wr fun e w' => e = .returned (.int .i64 E) ∧ KR w w' p g L' nx' := by
  obtain ⟨v, hT, hv⟩ := h.tab
  subst e1 e2 e3
  exact (invoke_any cl id f ob ke a b t hT hlen h.bel.size hnx).mono fun e w' ⟨he, v', h1, h2, h3⟩ => ⟨he, h.step hT hv h1 h2 h3⟩
theorem KR.ret {w wr : World} {p g : Nat} {L : List Rw} {nx : Int} (h : KR w wr p g L nx) (id k v t : Int) (hlen : L.length ≤ 1000) (hnx : 0 ≤ nx) {E : Int} {L' : List Rw} {nx' : Int} (e1 : endE nx L id t = E) (e2 : endL nx L id t (fun x => retR x k v t) = L') (e3 : endN nx L id t = nx') :
    Calls Try.prog 9 #[.pointer (some ⟨p, 0, none⟩), .int .u16 id, .agg #[.int .u8 k, .int .u16 v], .int .i64 t] wr fun e w' => e = .returned (.int .i64 E) ∧ KR w w' p g L' nx' := by
  obtain ⟨vv, hT, hv⟩ := h.tab
  subst e1 e2 e3
  exact (return_any id k _ t hT hlen hnx).mono fun e w' ⟨he, v', h1, h2, h3⟩ => ⟨he, h.step hT hv h1 h2 h3⟩
theorem KR.settle {w wr : World} {p g : Nat} {L : List Rw} {nx : Int} (h : KR w wr p g L nx) (hlen : L.length ≤ 1000) {E : Int} {L' : List Rw} (e1 : (L.length : Int) - (L.filter (fun x => !(x.st == 1))).length = E) (e2 : L.filter (fun x => !(x.st == 1)) = L') :
    Calls Try.prog 16 #[.pointer (some ⟨p, 0, none⟩)] wr fun e w' => e = .returned (.int .i64 E) ∧ KR w w' p g L' nx := by
  obtain ⟨vv, hT, hv⟩ := h.tab
  subst e1 e2
  exact (settle_any hT hlen).mono fun e w' ⟨he, v', h1, h2, h3⟩ => ⟨he, h.step hT hv h1 h2 (.inl h3)⟩
theorem KR.remove {w wr : World} {p g : Nat} {L : List Rw} {nx : Int} (h : KR w wr p g L nx) (id : Int) (hlen : L.length ≤ 1000) {E : Int} {L' : List Rw} (e1 : (if (L.filter (fun x => !(x.id == id))).length = L.length then (7 : Int) else 0) = E) (e2 : L.filter (fun x => !(x.id == id)) = L') :
    Calls Try.prog 20 #[.pointer (some ⟨p, 0, none⟩), .int .u16 id] wr fun e w' => e = .returned (.int .i64 E) ∧ KR w w' p g L' nx := by
  obtain ⟨vv, hT, hv⟩ := h.tab
  subst e1 e2
  exact (remove_any id hT hlen).mono fun e w' ⟨he, v', h1, h2, h3⟩ => ⟨he, h.step hT hv h1 h2 (.inl h3)⟩
theorem KR.count {w wr : World} {p g : Nat} {L : List Rw} {nx : Int} (h : KR w wr p g L nx) (s : Int) (hlen : L.length ≤ 1000) {E : Int} (e1 : ((cntR L s : Nat) : Int) = E) :
    Calls Try.prog 15 #[.pointer (some ⟨p, 0, none⟩), .int .u8 s] wr fun e w' => e = .returned (.int .i64 E) ∧ KR w w' p g L nx := by
  obtain ⟨vv, hT, hv⟩ := h.tab
  subst e1
  exact (count_any s hT hlen).mono fun e w' ht => ⟨ht.1, h.below ht.2⟩
theorem known_any (w : World) : Calls Try.prog 6 #[] w fun e w' => e = .returned (.bool true) ∧ Below w.heap.size w w' := by
  go_enter Try.func6, Try.ntmps6
  go_wp2_with fail
  refine (given_any w).mono ?_
  rintro e w1 ⟨p, rfl, hp, ⟨v, hT⟩, hb1⟩
  have HR := Lib.hid (rows_any hT (by decide))
  have HT := Lib.hid hT
  have HB1 := Lib.hid hb1
  clear hT hb1
  go_wp2_with fail
  refine HR.out.mono ?_
  rintro e w2 ⟨v2, rfl, hown, hb2⟩
  obtain ⟨g, cap, rfl, hs, hg⟩ := own_rows hown (by decide)
  have hidx := hs.idx (P := Try.prog) (t := 38) (e := 41) (by kernel_rfl) size41 (by decide)
  have r1 : RowC w2 g (0 * 12) g1' := by have := row_at (k := 0) (x := g1') hs rfl; simpa only [Nat.zero_add] using this
  have r2 : RowC w2 g (1 * 12) g2' := by have := row_at (k := 1) (x := g2') hs rfl; simpa only [Nat.zero_add] using this
  have r3 : RowC w2 g (2 * 12) g3 := by have := row_at (k := 2) (x := g3) hs rfl; simpa only [Nat.zero_add] using this
  have hpl := HT.out.lt
  have K2 : Hid (KR w w2.drew p g [g1', g2', g3] 6) := Lib.hid (KR.below ⟨⟨v, HT.out.below hb2, fun e => by have := (own_lt HT.out.own e).2; omega⟩, bt HB1.out hb2, hp, by omega, r1, r2, r3⟩ (bz w2).drew)
  simp only [List.length_cons, List.length_nil, Nat.zero_add, Nat.reduceAdd] at hidx ⊢
  clear hown hs hb2 HR HT HB1 r1 r2 r3 hg hp hpl
  go_wp2_with fail
  try simp only [List.append_eq, List.cons_append, List.nil_append]
  refine wp_region_held_drew (S := (fun w' => RowC w' g (0 * 12) g1' ∧ RowC w' g (1 * 12) g2' ∧ RowC w' g (2 * 12) g3)) (by kernel_rfl) (by exact ⟨K2.out.r1, K2.out.r2, K2.out.r3⟩) (fun hHeld => ?_)
  refine wpAnyH_ready (rs := [0]) (by kernel_rfl) (by simp) ?_
  refine AllReadyH.cons rfl (fun K hK => ?_) AllReadyH.nil
  go_simp
  refine (works_any _).mono ?_
  rintro e x0 ⟨rfl, hb0⟩
  have K3 := Lib.hid (K2.out.below hb0)
  clear K2 hb0
  have K2 := K3
  clear K3
  go_wp2_with fail
  refine hK.out _ _ (by exact ⟨K2.out.r1, K2.out.r2, K2.out.r3⟩) (fun hHeld2 => ?_)
  clear hK K
  clear hHeld
  have hHeld := hHeld2
  clear hHeld2
  try simp only [Act.put, List.setIfInBounds_toArray, List.set_cons_zero, List.set_cons_succ]
  refine takeD (i := 1) (v := ?zva1) (some 11) rfl rfl (by kernel_rfl) (by kernel_rfl) (by kernel_rfl) (fun _ _ _ h => h) (Or.inl ⟨by rfl, ?zya1⟩) (by assumption) ?zra1
  case zya1 => (intro w hSw; clear hSw; go_simp; try with_reducible rfl)
  try simp only [Act.put, List.setIfInBounds_toArray, List.set_cons_zero, List.set_cons_succ]
  refine takeD (i := 2) (v := ?zva2) (some 12) rfl rfl (by kernel_rfl) (by kernel_rfl) (by kernel_rfl) (fun _ _ _ h => h) (Or.inl ⟨by rfl, ?zya2⟩) (by assumption) ?zra2
  case zya2 => (intro w hSw; clear hSw; go_simp; try with_reducible rfl)
  try simp only [Act.put, List.setIfInBounds_toArray, List.set_cons_zero, List.set_cons_succ]
  refine takeD (i := 3) (v := ?zva3) (some 13) rfl rfl (by kernel_rfl) (by kernel_rfl) (by kernel_rfl) (fun _ _ _ h => h) (Or.inl ⟨by rfl, ?zya3⟩) (by assumption) ?zra3
  case zya3 => (intro w hSw; clear hSw; go_simp; try with_reducible rfl)
  try simp only [Act.put, List.setIfInBounds_toArray, List.set_cons_zero, List.set_cons_succ]
  refine takeD (i := 4) (v := ?zva4) (some 14) rfl rfl (by kernel_rfl) (by kernel_rfl) (by kernel_rfl) (fun _ _ _ h => h) (Or.inl ⟨by rfl, ?zya4⟩) (by assumption) ?zra4
  case zya4 => (intro w hSw; refine idx_row (g := g) (n := 3) (cap := cap) hidx (k := 0) (by decide) ?_ ?_ <;> rfl)
  try simp only [Act.put, List.setIfInBounds_toArray, List.set_cons_zero, List.set_cons_succ]
  refine takeD (i := 5) (v := ?zva5) (some 15) rfl rfl (by kernel_rfl) (by kernel_rfl) (by kernel_rfl) (fun _ _ _ h => h) (Or.inl ⟨by rfl, ?zya5⟩) (by assumption) ?zra5
  case zya5 => (intro w hSw; refine load_row (hSw.1) ?_; rfl)
  try simp only [Act.put, List.setIfInBounds_toArray, List.set_cons_zero, List.set_cons_succ]
  refine takeD (i := 6) (v := ?zva6) (some 16) rfl rfl (by kernel_rfl) (by kernel_rfl) (by kernel_rfl) (fun _ _ _ h => h) (Or.inl ⟨by rfl, ?zya6⟩) (by assumption) ?zra6
  case zya6 => (intro w hSw; clear hSw; go_simp; try with_reducible rfl)
  try simp only [Act.put, List.setIfInBounds_toArray, List.set_cons_zero, List.set_cons_succ]
  refine takeD (i := 7) (v := ?zva7) (some 17) rfl rfl (by kernel_rfl) (by kernel_rfl) (by kernel_rfl) (fun _ _ _ h => h) (Or.inl ⟨by rfl, ?zya7⟩) (by assumption) ?zra7
  case zya7 => (intro w hSw; refine idx_row (g := g) (n := 3) (cap := cap) hidx (k := 1) (by decide) ?_ ?_ <;> rfl)
  try simp only [Act.put, List.setIfInBounds_toArray, List.set_cons_zero, List.set_cons_succ]
  refine takeD (i := 8) (v := ?zva8) (some 18) rfl rfl (by kernel_rfl) (by kernel_rfl) (by kernel_rfl) (fun _ _ _ h => h) (Or.inl ⟨by rfl, ?zya8⟩) (by assumption) ?zra8
  case zya8 => (intro w hSw; refine load_row (hSw.2.1) ?_; rfl)
  try simp only [Act.put, List.setIfInBounds_toArray, List.set_cons_zero, List.set_cons_succ]
  refine wpAnyH_ready (rs := [9]) (by kernel_rfl) (by simp) ?_
  refine AllReadyH.cons rfl (fun K hK => ?_) AllReadyH.nil
  go_simp
  have e1 : bef g1' g2' = false := by decide
  refine (before_any g1' g2' _).mono ?_
  rintro e x1 ⟨rfl, hb1⟩
  have K3 := Lib.hid (K2.out.below hb1)
  clear K2 hb1
  have K2 := K3
  clear K3
  rw [e1]
  clear e1
  go_wp2_with fail
  refine hK.out _ _ (by exact ⟨K2.out.r1, K2.out.r2, K2.out.r3⟩) (fun hHeld2 => ?_)
  clear hK K
  clear hHeld
  have hHeld := hHeld2
  clear hHeld2
  try simp only [Act.put, List.setIfInBounds_toArray, List.set_cons_zero, List.set_cons_succ]
  refine takeD (i := 10) (v := ?zva10) (some 20) rfl rfl (by kernel_rfl) (by kernel_rfl) (by kernel_rfl) (fun _ _ _ h => h) (Or.inl ⟨by rfl, ?zya10⟩) (by assumption) ?zra10
  case zya10 => (intro w hSw; clear hSw; go_simp; try with_reducible rfl)
  try simp only [Act.put, List.setIfInBounds_toArray, List.set_cons_zero, List.set_cons_succ]
  refine takeD (i := 11) (v := ?zva11) (some 21) rfl rfl (by kernel_rfl) (by kernel_rfl) (by kernel_rfl) (fun _ _ _ h => h) (Or.inl ⟨by rfl, ?zya11⟩) (by assumption) ?zra11
  case zya11 => (intro w hSw; clear hSw; go_simp; try with_reducible rfl)
  try simp only [Act.put, List.setIfInBounds_toArray, List.set_cons_zero, List.set_cons_succ]
  refine takeD (i := 12) (v := ?zva12) (some 22) rfl rfl (by kernel_rfl) (by kernel_rfl) (by kernel_rfl) (fun _ _ _ h => h) (Or.inl ⟨by rfl, ?zya12⟩) (by assumption) ?zra12
  case zya12 => (intro w hSw; clear hSw; go_simp; try with_reducible rfl)
  try simp only [Act.put, List.setIfInBounds_toArray, List.set_cons_zero, List.set_cons_succ]
  refine takeD (i := 13) (v := ?zva13) (some 23) rfl rfl (by kernel_rfl) (by kernel_rfl) (by kernel_rfl) (fun _ _ _ h => h) (Or.inl ⟨by rfl, ?zya13⟩) (by assumption) ?zra13
  case zya13 => (intro w hSw; refine idx_row (g := g) (n := 3) (cap := cap) hidx (k := 2) (by decide) ?_ ?_ <;> rfl)
  try simp only [Act.put, List.setIfInBounds_toArray, List.set_cons_zero, List.set_cons_succ]
  refine takeD (i := 14) (v := ?zva14) (some 24) rfl rfl (by kernel_rfl) (by kernel_rfl) (by kernel_rfl) (fun _ _ _ h => h) (Or.inl ⟨by rfl, ?zya14⟩) (by assumption) ?zra14
  case zya14 => (intro w hSw; refine load_row (hSw.2.2) ?_; rfl)
  try simp only [Act.put, List.setIfInBounds_toArray, List.set_cons_zero, List.set_cons_succ]
  refine takeD (i := 15) (v := ?zva15) (some 25) rfl rfl (by kernel_rfl) (by kernel_rfl) (by kernel_rfl) (fun _ _ _ h => h) (Or.inl ⟨by rfl, ?zya15⟩) (by assumption) ?zra15
  case zya15 => (intro w hSw; clear hSw; go_simp; try with_reducible rfl)
  try simp only [Act.put, List.setIfInBounds_toArray, List.set_cons_zero, List.set_cons_succ]
  refine takeD (i := 16) (v := ?zva16) (some 26) rfl rfl (by kernel_rfl) (by kernel_rfl) (by kernel_rfl) (fun _ _ _ h => h) (Or.inl ⟨by rfl, ?zya16⟩) (by assumption) ?zra16
  case zya16 => (intro w hSw; refine idx_row (g := g) (n := 3) (cap := cap) hidx (k := 0) (by decide) ?_ ?_ <;> rfl)
  try simp only [Act.put, List.setIfInBounds_toArray, List.set_cons_zero, List.set_cons_succ]
  refine takeD (i := 17) (v := ?zva17) (some 27) rfl rfl (by kernel_rfl) (by kernel_rfl) (by kernel_rfl) (fun _ _ _ h => h) (Or.inl ⟨by rfl, ?zya17⟩) (by assumption) ?zra17
  case zya17 => (intro w hSw; refine load_row (hSw.1) ?_; rfl)
  try simp only [Act.put, List.setIfInBounds_toArray, List.set_cons_zero, List.set_cons_succ]
  refine wpAnyH_ready (rs := [18]) (by kernel_rfl) (by simp) ?_
  refine AllReadyH.cons rfl (fun K hK => ?_) AllReadyH.nil
  go_simp
  have e2 : bef g3 g1' = false := by decide
  refine (before_any g3 g1' _).mono ?_
  rintro e x2 ⟨rfl, hb2⟩
  have K3 := Lib.hid (K2.out.below hb2)
  clear K2 hb2
  have K2 := K3
  clear K3
  rw [e2]
  clear e2
  go_wp2_with fail
  refine hK.out _ _ (by exact ⟨K2.out.r1, K2.out.r2, K2.out.r3⟩) (fun hHeld2 => ?_)
  clear hK K
  clear hHeld
  have hHeld := hHeld2
  clear hHeld2
  try simp only [Act.put, List.setIfInBounds_toArray, List.set_cons_zero, List.set_cons_succ]
  refine takeD (i := 19) (v := ?zva19) (some 29) rfl rfl (by kernel_rfl) (by kernel_rfl) (by kernel_rfl) (fun _ _ _ h => h) (Or.inl ⟨by rfl, ?zya19⟩) (by assumption) ?zra19
  case zya19 => (intro w hSw; clear hSw; go_simp; try with_reducible rfl)
  try simp only [Act.put, List.setIfInBounds_toArray, List.set_cons_zero, List.set_cons_succ]
  refine takeD (i := 20) (v := ?zva20) (some 30) rfl rfl (by kernel_rfl) (by kernel_rfl) (by kernel_rfl) (fun _ _ _ h => h) (Or.inl ⟨by rfl, ?zya20⟩) (by assumption) ?zra20
  case zya20 => (intro w hSw; clear hSw; go_simp; try with_reducible rfl)
  try simp only [Act.put, List.setIfInBounds_toArray, List.set_cons_zero, List.set_cons_succ]
  refine takeD (i := 21) (v := ?zva21) (some 31) rfl rfl (by kernel_rfl) (by kernel_rfl) (by kernel_rfl) (fun _ _ _ h => h) (Or.inl ⟨by rfl, ?zya21⟩) (by assumption) ?zra21
  case zya21 => (intro w hSw; clear hSw; go_simp; try with_reducible rfl)
  try simp only [Act.put, List.setIfInBounds_toArray, List.set_cons_zero, List.set_cons_succ]
  refine takeD (i := 22) (v := ?zva22) (some 32) rfl rfl (by kernel_rfl) (by kernel_rfl) (by kernel_rfl) (fun _ _ _ h => h) (Or.inl ⟨by rfl, ?zya22⟩) (by assumption) ?zra22
  case zya22 => (intro w hSw; refine idx_row (g := g) (n := 3) (cap := cap) hidx (k := 1) (by decide) ?_ ?_ <;> rfl)
  try simp only [Act.put, List.setIfInBounds_toArray, List.set_cons_zero, List.set_cons_succ]
  refine takeD (i := 23) (v := ?zva23) (some 33) rfl rfl (by kernel_rfl) (by kernel_rfl) (by kernel_rfl) (fun _ _ _ h => h) (Or.inl ⟨by rfl, ?zya23⟩) (by assumption) ?zra23
  case zya23 => (intro w hSw; refine load_row (hSw.2.1) ?_; rfl)
  try simp only [Act.put, List.setIfInBounds_toArray, List.set_cons_zero, List.set_cons_succ]
  refine takeD (i := 24) (v := ?zva24) (some 34) rfl rfl (by kernel_rfl) (by kernel_rfl) (by kernel_rfl) (fun _ _ _ h => h) (Or.inl ⟨by rfl, ?zya24⟩) (by assumption) ?zra24
  case zya24 => (intro w hSw; clear hSw; go_simp; try with_reducible rfl)
  try simp only [Act.put, List.setIfInBounds_toArray, List.set_cons_zero, List.set_cons_succ]
  refine takeD (i := 25) (v := ?zva25) (some 35) rfl rfl (by kernel_rfl) (by kernel_rfl) (by kernel_rfl) (fun _ _ _ h => h) (Or.inl ⟨by rfl, ?zya25⟩) (by assumption) ?zra25
  case zya25 => (intro w hSw; refine idx_row (g := g) (n := 3) (cap := cap) hidx (k := 2) (by decide) ?_ ?_ <;> rfl)
  try simp only [Act.put, List.setIfInBounds_toArray, List.set_cons_zero, List.set_cons_succ]
  refine takeD (i := 26) (v := ?zva26) (some 36) rfl rfl (by kernel_rfl) (by kernel_rfl) (by kernel_rfl) (fun _ _ _ h => h) (Or.inl ⟨by rfl, ?zya26⟩) (by assumption) ?zra26
  case zya26 => (intro w hSw; refine load_row (hSw.2.2) ?_; rfl)
  try simp only [Act.put, List.setIfInBounds_toArray, List.set_cons_zero, List.set_cons_succ]
  refine wpAnyH_ready (rs := [27]) (by kernel_rfl) (by simp) ?_
  refine AllReadyH.cons rfl (fun K hK => ?_) AllReadyH.nil
  go_simp
  have e3 : bef g2' g3 = false := by decide
  refine (before_any g2' g3 _).mono ?_
  rintro e x3 ⟨rfl, hb3⟩
  have K3 := Lib.hid (K2.out.below hb3)
  clear K2 hb3
  have K2 := K3
  clear K3
  rw [e3]
  clear e3
  go_wp2_with fail
  refine hK.out _ _ (by exact ⟨K2.out.r1, K2.out.r2, K2.out.r3⟩) (fun hHeld2 => ?_)
  clear hK K
  clear hHeld
  have hHeld := hHeld2
  clear hHeld2
  try simp only [Act.put, List.setIfInBounds_toArray, List.set_cons_zero, List.set_cons_succ]
  refine takeD (i := 28) (v := ?zva28) (some 38) rfl rfl (by kernel_rfl) (by kernel_rfl) (by kernel_rfl) (fun _ _ _ h => h) (Or.inl ⟨by rfl, ?zya28⟩) (by assumption) ?zra28
  case zya28 => (intro w hSw; clear hSw; go_simp; try with_reducible rfl)
  try simp only [Act.put, List.setIfInBounds_toArray, List.set_cons_zero, List.set_cons_succ]
  refine takeD (i := 29) (v := ?zva29) (some 39) rfl rfl (by kernel_rfl) (by kernel_rfl) (by kernel_rfl) (fun _ _ _ h => h) (Or.inl ⟨by rfl, ?zya29⟩) (by assumption) ?zra29
  case zya29 => (intro w hSw; clear hSw; go_simp; try with_reducible rfl)
  try simp only [Act.put, List.setIfInBounds_toArray, List.set_cons_zero, List.set_cons_succ]
  refine takeD (i := 30) (v := ?zva30) (some 40) rfl rfl (by kernel_rfl) (by kernel_rfl) (by kernel_rfl) (fun _ _ _ h => h) (Or.inl ⟨by rfl, ?zya30⟩) (by assumption) ?zra30
  case zya30 => (intro w hSw; clear hSw; go_simp; try with_reducible rfl)
  try simp only [Act.put, List.setIfInBounds_toArray, List.set_cons_zero, List.set_cons_succ]
  refine wpAnyH_ready (rs := [31]) (by kernel_rfl) (by simp) ?_
  refine AllReadyH.cons rfl (fun K hK => ?_) AllReadyH.nil
  go_simp
  refine (K2.out.settle (by decide) (E := 1) (L' := [g2', g3]) (by decide) (by decide)).mono ?_
  rintro e x4 ⟨rfl, hK4⟩
  clear K2
  have K2 := Lib.hid hK4
  clear hK4
  go_wp2_with fail
  refine hK.out _ _ (by exact ⟨K2.out.r1, K2.out.r2, K2.out.r3⟩) (fun hHeld2 => ?_)
  clear hK K
  clear hHeld
  have hHeld := hHeld2
  clear hHeld2
  try simp only [Act.put, List.setIfInBounds_toArray, List.set_cons_zero, List.set_cons_succ]
  refine takeD (i := 32) (v := ?zva32) (some 42) rfl rfl (by kernel_rfl) (by kernel_rfl) (by kernel_rfl) (fun _ _ _ h => h) (Or.inl ⟨by rfl, ?zya32⟩) (by assumption) ?zra32
  case zya32 => (intro w hSw; clear hSw; go_simp; try with_reducible rfl)
  try simp only [Act.put, List.setIfInBounds_toArray, List.set_cons_zero, List.set_cons_succ]
  refine takeD (i := 33) (v := ?zva33) (some 43) rfl rfl (by kernel_rfl) (by kernel_rfl) (by kernel_rfl) (fun _ _ _ h => h) (Or.inl ⟨by rfl, ?zya33⟩) (by assumption) ?zra33
  case zya33 => (intro w hSw; clear hSw; go_simp; try with_reducible rfl)
  try simp only [Act.put, List.setIfInBounds_toArray, List.set_cons_zero, List.set_cons_succ]
  refine takeD (i := 34) (v := ?zva34) (some 44) rfl rfl (by kernel_rfl) (by kernel_rfl) (by kernel_rfl) (fun _ _ _ h => h) (Or.inl ⟨by rfl, ?zya34⟩) (by assumption) ?zra34
  case zya34 => (intro w hSw; clear hSw; go_simp; try with_reducible rfl)
  try simp only [Act.put, List.setIfInBounds_toArray, List.set_cons_zero, List.set_cons_succ]
  refine takeD (i := 35) (v := ?zva35) (some 45) rfl rfl (by kernel_rfl) (by kernel_rfl) (by kernel_rfl) (fun _ _ _ h => h) (Or.inl ⟨by rfl, ?zya35⟩) (by assumption) ?zra35
  case zya35 => (intro w hSw; clear hSw; go_simp; try with_reducible rfl)
  try simp only [Act.put, List.setIfInBounds_toArray, List.set_cons_zero, List.set_cons_succ]
  refine wpAnyH_ready (rs := [36]) (by kernel_rfl) (by simp) ?_
  refine AllReadyH.cons rfl (fun K hK => ?_) AllReadyH.nil
  go_simp
  refine (K2.out.remove 2 (by decide) (E := 0) (L' := [g3]) (by decide) (by decide)).mono ?_
  rintro e x5 ⟨rfl, hK5⟩
  clear K2
  have K2 := Lib.hid hK5
  clear hK5
  go_wp2_with fail
  refine hK.out _ _ (by exact ⟨K2.out.r1, K2.out.r2, K2.out.r3⟩) (fun hHeld2 => ?_)
  clear hK K
  clear hHeld
  have hHeld := hHeld2
  clear hHeld2
  try simp only [Act.put, List.setIfInBounds_toArray, List.set_cons_zero, List.set_cons_succ]
  refine takeD (i := 37) (v := ?zva37) (some 47) rfl rfl (by kernel_rfl) (by kernel_rfl) (by kernel_rfl) (fun _ _ _ h => h) (Or.inl ⟨by rfl, ?zya37⟩) (by assumption) ?zra37
  case zya37 => (intro w hSw; clear hSw; go_simp; try with_reducible rfl)
  try simp only [Act.put, List.setIfInBounds_toArray, List.set_cons_zero, List.set_cons_succ]
  refine takeD (i := 38) (v := ?zva38) (some 48) rfl rfl (by kernel_rfl) (by kernel_rfl) (by kernel_rfl) (fun _ _ _ h => h) (Or.inl ⟨by rfl, ?zya38⟩) (by assumption) ?zra38
  case zya38 => (intro w hSw; clear hSw; go_simp; try with_reducible rfl)
  try simp only [Act.put, List.setIfInBounds_toArray, List.set_cons_zero, List.set_cons_succ]
  refine takeD (i := 39) (v := ?zva39) (some 49) rfl rfl (by kernel_rfl) (by kernel_rfl) (by kernel_rfl) (fun _ _ _ h => h) (Or.inl ⟨by rfl, ?zya39⟩) (by assumption) ?zra39
  case zya39 => (intro w hSw; clear hSw; go_simp; try with_reducible rfl)
  try simp only [Act.put, List.setIfInBounds_toArray, List.set_cons_zero, List.set_cons_succ]
  refine takeD (i := 40) (v := ?zva40) (some 50) rfl rfl (by kernel_rfl) (by kernel_rfl) (by kernel_rfl) (fun _ _ _ h => h) (Or.inl ⟨by rfl, ?zya40⟩) (by assumption) ?zra40
  case zya40 => (intro w hSw; clear hSw; go_simp; try with_reducible rfl)
  try simp only [Act.put, List.setIfInBounds_toArray, List.set_cons_zero, List.set_cons_succ]
  refine wpAnyH_ready (rs := [41]) (by kernel_rfl) (by simp) ?_
  refine AllReadyH.cons rfl (fun K hK => ?_) AllReadyH.nil
  go_simp
  refine (K2.out.remove 2 (by decide) (E := 7) (L' := [g3]) (by decide) (by decide)).mono ?_
  rintro e x6 ⟨rfl, hK6⟩
  clear K2
  have K2 := Lib.hid hK6
  clear hK6
  go_wp2_with fail
  refine hK.out _ _ (by exact ⟨K2.out.r1, K2.out.r2, K2.out.r3⟩) (fun hHeld2 => ?_)
  clear hK K
  clear hHeld
  have hHeld := hHeld2
  clear hHeld2
  try simp only [Act.put, List.setIfInBounds_toArray, List.set_cons_zero, List.set_cons_succ]
  refine takeD (i := 42) (v := ?zva42) (some 52) rfl rfl (by kernel_rfl) (by kernel_rfl) (by kernel_rfl) (fun _ _ _ h => h) (Or.inl ⟨by rfl, ?zya42⟩) (by assumption) ?zra42
  case zya42 => (intro w hSw; clear hSw; go_simp; try with_reducible rfl)
  try simp only [Act.put, List.setIfInBounds_toArray, List.set_cons_zero, List.set_cons_succ]
  refine takeD (i := 43) (v := ?zva43) (some 53) rfl rfl (by kernel_rfl) (by kernel_rfl) (by kernel_rfl) (fun _ _ _ h => h) (Or.inl ⟨by rfl, ?zya43⟩) (by assumption) ?zra43
  case zya43 => (intro w hSw; clear hSw; go_simp; try with_reducible rfl)
  try simp only [Act.put, List.setIfInBounds_toArray, List.set_cons_zero, List.set_cons_succ]
  refine takeD (i := 44) (v := ?zva44) (some 54) rfl rfl (by kernel_rfl) (by kernel_rfl) (by kernel_rfl) (fun _ _ _ h => h) (Or.inl ⟨by rfl, ?zya44⟩) (by assumption) ?zra44
  case zya44 => (intro w hSw; clear hSw; go_simp; try with_reducible rfl)
  try simp only [Act.put, List.setIfInBounds_toArray, List.set_cons_zero, List.set_cons_succ]
  refine takeD (i := 45) (v := ?zva45) (some 55) rfl rfl (by kernel_rfl) (by kernel_rfl) (by kernel_rfl) (fun _ _ _ h => h) (Or.inl ⟨by rfl, ?zya45⟩) (by assumption) ?zra45
  case zya45 => (intro w hSw; clear hSw; go_simp; try with_reducible rfl)
  try simp only [Act.put, List.setIfInBounds_toArray, List.set_cons_zero, List.set_cons_succ]
  refine wpAnyH_ready (rs := [46]) (by kernel_rfl) (by simp) ?_
  refine AllReadyH.cons rfl (fun K hK => ?_) AllReadyH.nil
  go_simp
  refine (K2.out.count 0 (by decide) (E := 1) (by decide)).mono ?_
  rintro e x7 ⟨rfl, hK7⟩
  clear K2
  have K2 := Lib.hid hK7
  clear hK7
  go_wp2_with fail
  refine hK.out _ _ (by exact ⟨K2.out.r1, K2.out.r2, K2.out.r3⟩) (fun hHeld2 => ?_)
  clear hK K
  clear hHeld
  have hHeld := hHeld2
  clear hHeld2
  try simp only [Act.put, List.setIfInBounds_toArray, List.set_cons_zero, List.set_cons_succ]
  refine takeD (i := 47) (v := ?zva47) (some 57) rfl rfl (by kernel_rfl) (by kernel_rfl) (by kernel_rfl) (fun _ _ _ h => h) (Or.inl ⟨by rfl, ?zya47⟩) (by assumption) ?zra47
  case zya47 => (intro w hSw; clear hSw; go_simp; try with_reducible rfl)
  try simp only [Act.put, List.setIfInBounds_toArray, List.set_cons_zero, List.set_cons_succ]
  refine takeD (i := 48) (v := ?zva48) (some 58) rfl rfl (by kernel_rfl) (by kernel_rfl) (by kernel_rfl) (fun _ _ _ h => h) (Or.inl ⟨by rfl, ?zya48⟩) (by assumption) ?zra48
  case zya48 => (intro w hSw; clear hSw; go_simp; try with_reducible rfl)
  try simp only [Act.put, List.setIfInBounds_toArray, List.set_cons_zero, List.set_cons_succ]
  refine takeD (i := 49) (v := ?zva49) (some 59) rfl rfl (by kernel_rfl) (by kernel_rfl) (by kernel_rfl) (fun _ _ _ h => h) (Or.inl ⟨by rfl, ?zya49⟩) (by assumption) ?zra49
  case zya49 => (intro w hSw; clear hSw; go_simp; try with_reducible rfl)
  try simp only [Act.put, List.setIfInBounds_toArray, List.set_cons_zero, List.set_cons_succ]
  refine takeD (i := 50) (v := ?zva50) (some 60) rfl rfl (by kernel_rfl) (by kernel_rfl) (by kernel_rfl) (fun _ _ _ h => h) (Or.inl ⟨by rfl, ?zya50⟩) (by assumption) ?zra50
  case zya50 => (intro w hSw; clear hSw; go_simp; try with_reducible rfl)
  try simp only [Act.put, List.setIfInBounds_toArray, List.set_cons_zero, List.set_cons_succ]
  refine takeD (i := 51) (v := ?zva51) (some 61) rfl rfl (by kernel_rfl) (by kernel_rfl) (by kernel_rfl) (fun _ _ _ h => h) (Or.inl ⟨by rfl, ?zya51⟩) (by assumption) ?zra51
  case zya51 => (intro w hSw; clear hSw; go_simp; try with_reducible rfl)
  try simp only [Act.put, List.setIfInBounds_toArray, List.set_cons_zero, List.set_cons_succ]
  refine wpAnyH_ready (rs := [52]) (by kernel_rfl) (by simp) ?_
  refine AllReadyH.cons rfl (fun K hK => ?_) AllReadyH.nil
  go_simp
  refine (K2.out.invoke 0 9 0 0 0 0 0 2305843009213693953 (by decide) (by decide) (E := 2) (L' := [g3]) (nx' := 6) (by decide) (by decide) (by decide)).mono ?_
  rintro e x8 ⟨rfl, hK8⟩
  clear K2
  have K2 := Lib.hid hK8
  clear hK8
  go_wp2_with fail
  refine hK.out _ _ (by exact ⟨K2.out.r1, K2.out.r2, K2.out.r3⟩) (fun hHeld2 => ?_)
  clear hK K
  clear hHeld
  have hHeld := hHeld2
  clear hHeld2
  try simp only [Act.put, List.setIfInBounds_toArray, List.set_cons_zero, List.set_cons_succ]
  refine takeD (i := 53) (v := ?zva53) (some 63) rfl rfl (by kernel_rfl) (by kernel_rfl) (by kernel_rfl) (fun _ _ _ h => h) (Or.inl ⟨by rfl, ?zya53⟩) (by assumption) ?zra53
  case zya53 => (intro w hSw; clear hSw; go_simp; try with_reducible rfl)
  try simp only [Act.put, List.setIfInBounds_toArray, List.set_cons_zero, List.set_cons_succ]
  refine takeD (i := 54) (v := ?zva54) (some 64) rfl rfl (by kernel_rfl) (by kernel_rfl) (by kernel_rfl) (fun _ _ _ h => h) (Or.inl ⟨by rfl, ?zya54⟩) (by assumption) ?zra54
  case zya54 => (intro w hSw; clear hSw; go_simp; try with_reducible rfl)
  try simp only [Act.put, List.setIfInBounds_toArray, List.set_cons_zero, List.set_cons_succ]
  refine takeD (i := 55) (v := ?zva55) (some 65) rfl rfl (by kernel_rfl) (by kernel_rfl) (by kernel_rfl) (fun _ _ _ h => h) (Or.inl ⟨by rfl, ?zya55⟩) (by assumption) ?zra55
  case zya55 => (intro w hSw; clear hSw; go_simp; try with_reducible rfl)
  try simp only [Act.put, List.setIfInBounds_toArray, List.set_cons_zero, List.set_cons_succ]
  refine takeD (i := 56) (v := ?zva56) (some 66) rfl rfl (by kernel_rfl) (by kernel_rfl) (by kernel_rfl) (fun _ _ _ h => h) (Or.inl ⟨by rfl, ?zya56⟩) (by assumption) ?zra56
  case zya56 => (intro w hSw; clear hSw; go_simp; try with_reducible rfl)
  try simp only [Act.put, List.setIfInBounds_toArray, List.set_cons_zero, List.set_cons_succ]
  refine takeD (i := 57) (v := ?zva57) (some 67) rfl rfl (by kernel_rfl) (by kernel_rfl) (by kernel_rfl) (fun _ _ _ h => h) (Or.inl ⟨by rfl, ?zya57⟩) (by assumption) ?zra57
  case zya57 => (intro w hSw; clear hSw; go_simp; try with_reducible rfl)
  try simp only [Act.put, List.setIfInBounds_toArray, List.set_cons_zero, List.set_cons_succ]
  refine wpAnyH_ready (rs := [58]) (by kernel_rfl) (by simp) ?_
  refine AllReadyH.cons rfl (fun K hK => ?_) AllReadyH.nil
  go_simp
  refine (K2.out.invoke 0 9 0 0 0 0 0 (-1) (by decide) (by decide) (E := 2) (L' := [g3]) (nx' := 6) (by decide) (by decide) (by decide)).mono ?_
  rintro e x9 ⟨rfl, hK9⟩
  clear K2
  have K2 := Lib.hid hK9
  clear hK9
  go_wp2_with fail
  refine hK.out _ _ (by exact ⟨K2.out.r1, K2.out.r2, K2.out.r3⟩) (fun hHeld2 => ?_)
  clear hK K
  clear hHeld
  have hHeld := hHeld2
  clear hHeld2
  try simp only [Act.put, List.setIfInBounds_toArray, List.set_cons_zero, List.set_cons_succ]
  refine takeD (i := 59) (v := ?zva59) (some 69) rfl rfl (by kernel_rfl) (by kernel_rfl) (by kernel_rfl) (fun _ _ _ h => h) (Or.inl ⟨by rfl, ?zya59⟩) (by assumption) ?zra59
  case zya59 => (intro w hSw; clear hSw; go_simp; try with_reducible rfl)
  try simp only [Act.put, List.setIfInBounds_toArray, List.set_cons_zero, List.set_cons_succ]
  refine takeD (i := 60) (v := ?zva60) (some 70) rfl rfl (by kernel_rfl) (by kernel_rfl) (by kernel_rfl) (fun _ _ _ h => h) (Or.inl ⟨by rfl, ?zya60⟩) (by assumption) ?zra60
  case zya60 => (intro w hSw; clear hSw; go_simp; try with_reducible rfl)
  try simp only [Act.put, List.setIfInBounds_toArray, List.set_cons_zero, List.set_cons_succ]
  refine takeD (i := 61) (v := ?zva61) (some 71) rfl rfl (by kernel_rfl) (by kernel_rfl) (by kernel_rfl) (fun _ _ _ h => h) (Or.inl ⟨by rfl, ?zya61⟩) (by assumption) ?zra61
  case zya61 => (intro w hSw; clear hSw; go_simp; try with_reducible rfl)
  try simp only [Act.put, List.setIfInBounds_toArray, List.set_cons_zero, List.set_cons_succ]
  refine takeD (i := 62) (v := ?zva62) (some 72) rfl rfl (by kernel_rfl) (by kernel_rfl) (by kernel_rfl) (fun _ _ _ h => h) (Or.inl ⟨by rfl, ?zya62⟩) (by assumption) ?zra62
  case zya62 => (intro w hSw; clear hSw; go_simp; try with_reducible rfl)
  try simp only [Act.put, List.setIfInBounds_toArray, List.set_cons_zero, List.set_cons_succ]
  refine takeD (i := 63) (v := ?zva63) (some 73) rfl rfl (by kernel_rfl) (by kernel_rfl) (by kernel_rfl) (fun _ _ _ h => h) (Or.inl ⟨by rfl, ?zya63⟩) (by assumption) ?zra63
  case zya63 => (intro w hSw; clear hSw; go_simp; try with_reducible rfl)
  try simp only [Act.put, List.setIfInBounds_toArray, List.set_cons_zero, List.set_cons_succ]
  refine wpAnyH_ready (rs := [64]) (by kernel_rfl) (by simp) ?_
  refine AllReadyH.cons rfl (fun K hK => ?_) AllReadyH.nil
  go_simp
  refine (K2.out.invoke 0 9 0 0 0 0 0 2305843009213693952 (by decide) (by decide) (E := 0) (L' := [g3, r9]) (nx' := 2305843009213693953) (by decide) (by decide) (by decide)).mono ?_
  rintro e x10 ⟨rfl, hK10⟩
  clear K2
  have K2 := Lib.hid hK10
  clear hK10
  go_wp2_with fail
  refine hK.out _ _ (by exact ⟨K2.out.r1, K2.out.r2, K2.out.r3⟩) (fun hHeld2 => ?_)
  clear hK K
  clear hHeld
  have hHeld := hHeld2
  clear hHeld2
  try simp only [Act.put, List.setIfInBounds_toArray, List.set_cons_zero, List.set_cons_succ]
  refine takeD (i := 65) (v := ?zva65) (some 75) rfl rfl (by kernel_rfl) (by kernel_rfl) (by kernel_rfl) (fun _ _ _ h => h) (Or.inl ⟨by rfl, ?zya65⟩) (by assumption) ?zra65
  case zya65 => (intro w hSw; clear hSw; go_simp; try with_reducible rfl)
  try simp only [Act.put, List.setIfInBounds_toArray, List.set_cons_zero, List.set_cons_succ]
  refine takeD (i := 66) (v := ?zva66) (some 76) rfl rfl (by kernel_rfl) (by kernel_rfl) (by kernel_rfl) (fun _ _ _ h => h) (Or.inl ⟨by rfl, ?zya66⟩) (by assumption) ?zra66
  case zya66 => (intro w hSw; clear hSw; go_simp; try with_reducible rfl)
  try simp only [Act.put, List.setIfInBounds_toArray, List.set_cons_zero, List.set_cons_succ]
  refine takeD (i := 67) (v := ?zva67) (some 77) rfl rfl (by kernel_rfl) (by kernel_rfl) (by kernel_rfl) (fun _ _ _ h => h) (Or.inl ⟨by rfl, ?zya67⟩) (by assumption) ?zra67
  case zya67 => (intro w hSw; clear hSw; go_simp; try with_reducible rfl)
  try simp only [Act.put, List.setIfInBounds_toArray, List.set_cons_zero, List.set_cons_succ]
  refine takeD (i := 68) (v := ?zva68) (some 78) rfl rfl (by kernel_rfl) (by kernel_rfl) (by kernel_rfl) (fun _ _ _ h => h) (Or.inl ⟨by rfl, ?zya68⟩) (by assumption) ?zra68
  case zya68 => (intro w hSw; clear hSw; go_simp; try with_reducible rfl)
  try simp only [Act.put, List.setIfInBounds_toArray, List.set_cons_zero, List.set_cons_succ]
  refine takeD (i := 69) (v := ?zva69) (some 79) rfl rfl (by kernel_rfl) (by kernel_rfl) (by kernel_rfl) (fun _ _ _ h => h) (Or.inl ⟨by rfl, ?zya69⟩) (by assumption) ?zra69
  case zya69 => (intro w hSw; clear hSw; go_simp; try with_reducible rfl)
  try simp only [Act.put, List.setIfInBounds_toArray, List.set_cons_zero, List.set_cons_succ]
  refine wpAnyH_ready (rs := [70]) (by kernel_rfl) (by simp) ?_
  refine AllReadyH.cons rfl (fun K hK => ?_) AllReadyH.nil
  go_simp
  refine (K2.out.ret 9 0 0 2305843009213693952 (by decide) (by decide) (E := 2) (L' := [g3, r9]) (nx' := 2305843009213693953) (by decide) (by decide) (by decide)).mono ?_
  rintro e x11 ⟨rfl, hK11⟩
  clear K2
  have K2 := Lib.hid hK11
  clear hK11
  go_wp2_with fail
  refine hK.out _ _ (by exact ⟨K2.out.r1, K2.out.r2, K2.out.r3⟩) (fun hHeld2 => ?_)
  clear hK K
  clear hHeld
  have hHeld := hHeld2
  clear hHeld2
  try simp only [Act.put, List.setIfInBounds_toArray, List.set_cons_zero, List.set_cons_succ]
  refine takeD (i := 71) (v := ?zva71) (some 81) rfl rfl (by kernel_rfl) (by kernel_rfl) (by kernel_rfl) (fun _ _ _ h => h) (Or.inl ⟨by rfl, ?zya71⟩) (by assumption) ?zra71
  case zya71 => (intro w hSw; clear hSw; go_simp; try with_reducible rfl)
  try simp only [Act.put, List.setIfInBounds_toArray, List.set_cons_zero, List.set_cons_succ]
  refine takeD (i := 72) (v := ?zva72) (some 82) rfl rfl (by kernel_rfl) (by kernel_rfl) (by kernel_rfl) (fun _ _ _ h => h) (Or.inl ⟨by rfl, ?zya72⟩) (by assumption) ?zra72
  case zya72 => (intro w hSw; clear hSw; go_simp; try with_reducible rfl)
  try simp only [Act.put, List.setIfInBounds_toArray, List.set_cons_zero, List.set_cons_succ]
  refine wpAnyH_done (by kernel_rfl) ?_ _
  have HB := Lib.hid K2.out.bel
  clear K2
  go_wp2_with fail
  obtain ⟨q, hq⟩ : ∃ q, q = x11.heap.size := ⟨_, rfl⟩
  obtain ⟨wq, hwq⟩ : ∃ wq, wq = x11.alloc (.cells #[.slice none 0 0, .int .i64 0, .bool false] 62) := ⟨_, rfl⟩
  have HZ : Hid (NoT (some ⟨q, 0, none⟩) wq) := Lib.hid (.inr ⟨q, rfl, by unfold Zr; rw [hwq, hq]; simp [go_sem]⟩)
  have HBQ := Lib.hid (show Below w.heap.size w wq by rw [hwq]; exact bt HB.out (ba (bz x11) _))
  rw [← hwq, ← hq]
  have HQ := Lib.hid hq
  have hf := find_no (pv := none) (w := wq) 1 (.inl rfl)
  simp only [Rw.val, Rw.zero] at hf
  have HF := Lib.hid hf
  clear hf hq hwq HB
  refine HF.out.mono ?_
  rintro e y0 ⟨rfl, hb⟩
  have HY := Lib.hid hb
  clear hb HF
  go_wp2_with fail
  refine (invoke_no 0 1 0 0 0 0 0 0 (.inl rfl)).mono ?_
  rintro e y1 ⟨rfl, hb⟩
  have HY1 := Lib.hid (bt HY.out (bt (ba (bz y0) _) hb))
  clear hb HY
  have C := Lib.hid (return_no 1 0 0 0 (HZ.out.below HY1.out))
  go_wp2_with fail
  refine C.out.mono ?_
  rintro e y2 ⟨rfl, hb⟩
  have HY2 := Lib.hid (bt HY1.out hb)
  clear hb HY1 C
  go_wp2_with fail
  refine (info_no 1 0 (.inl rfl)).mono ?_
  rintro e y3 ⟨rfl, rfl⟩
  have C := Lib.hid (remove_no 1 (HZ.out.below HY2.out))
  go_wp2_with fail
  refine C.out.mono ?_
  rintro e y4 ⟨rfl, rfl⟩
  clear C
  go_wp2_with fail
  refine (settle_no (.inl rfl)).mono ?_
  rintro e y5 ⟨rfl, rfl⟩
  have C := Lib.hid (rows_no (HZ.out.below HY2.out))
  go_wp2_with fail
  refine C.out.mono ?_
  rintro e y6 ⟨rfl, rfl⟩
  clear C
  go_wp2_with fail
  refine (count_no 0 (.inl rfl)).mono ?_
  rintro e y7 ⟨rfl, rfl⟩
  have C := Lib.hid (copy_no (HZ.out.below HY2.out))
  go_wp2_with fail
  refine C.out.mono ?_
  rintro e y8 ⟨rfl, rfl⟩
  clear C
  go_wp2_with fail
  refine (works_any _).mono ?_
  rintro e y9 ⟨rfl, hb⟩
  have HB := Lib.hid (bt HBQ.out (bt HY2.out hb))
  clear hb
  go_wp2
  go_ret
  exact ⟨rfl, HB.out⟩
end Go.Proofs.Ytjmanajbdkbkdaa
