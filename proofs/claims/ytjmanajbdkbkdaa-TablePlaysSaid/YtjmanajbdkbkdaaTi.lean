/- The table: works. -/
import Derived.Test.YtjmanajbdkbkdaaTh
namespace Go.Proofs.Ytjmanajbdkbkdaa
open Go.RowKit Go.Um
set_option linter.unusedSimpArgs false
set_option linter.unusedVariables false
set_option maxHeartbeats 4000000
set_option maxRecDepth 100000
theorem RowC.below {w W : World} {b o : Nat} {x : Rw} (h : RowC w b o x) (hb : Below w.heap.size w W) : RowC W b o x :=
  ⟨cell_past hb h.c0, cell_past hb h.c1, cell_past hb h.c2, cell_past hb h.c3, cell_past hb h.c4, cell_past hb h.c5, cell_past hb h.c6, cell_past hb h.c7, cell_past hb h.c8, cell_past hb h.c9, cell_past hb h.c10, cell_past hb h.c11⟩
theorem idx_row {g n cap k : Nat} (h : ∀ (i : Int), 0 ≤ i → i < n → ∀ w, (Instr.indexAt 38 (.slice (some ⟨g, 0, none⟩) n cap) (.int .i64 i)).run Try.prog w = .ok (.pointer (some ⟨g, i.toNat * 12, none⟩)) w)
    (hk : k < n) {w : World} {ev : Operand → Value} {x y : Operand} (hx : ev x = .slice (some ⟨g, 0, none⟩) n cap) (hy : ev y = .int .i64 (k : Int)) {d : Option Tmp} {ty : TypeId} {ps : String} {af : Array Edge} {gg : Option (Nat × Bool)} :
    (execOp ev { dst := d, op := .indexAddr 38 x y, type := ty, pos := ps, after := af, guard := gg }).run Try.prog w = .ok (.value (.pointer (some ⟨g, k * 12, none⟩))) w := by
  have h' := h k (by omega) (by omega) w
  rw [Int.toNat_natCast] at h'
  simp [execOp, hx, hy, go_sem, h']
theorem load_row {w : World} {b o : Nat} {x : Rw} (h : RowC w b o x) {ev : Operand → Value} {y : Operand} (hy : ev y = .pointer (some ⟨b, o, none⟩)) {d : Option Tmp} {ty : TypeId} {ps : String} {af : Array Edge} {g : Option (Nat × Bool)} :
    (execOp ev { dst := d, op := .load 41 y, type := ty, pos := ps, after := af, guard := g }).run Try.prog w = .ok (.value x.val) w := by
  obtain ⟨c0, c1, c2, c3, c4, c5, c6, c7, c8, c9, c10, c11⟩ := h
  simp [execOp, hy, go_sem, c0, c1, c2, c3, c4, c5, c6, c7, c8, c9, c10, c11, Rw.val]
theorem load_res {w : World} {b o : Nat} {x : Rw} (h : RowC w b o x) {ev : Operand → Value} {y : Operand} (hy : ev y = .pointer (some ⟨b, o + 7, none⟩)) {d : Option Tmp} {ty : TypeId} {ps : String} {af : Array Edge} {g : Option (Nat × Bool)} :
    (execOp ev { dst := d, op := .load 31 y, type := ty, pos := ps, after := af, guard := g }).run Try.prog w = .ok (.value (.agg #[.int .u8 x.k, .int .u16 x.v])) w := by
  obtain ⟨c0, c1, c2, c3, c4, c5, c6, c7, c8, c9, c10, c11⟩ := h
  simp [execOp, hy, go_sem, c7, c8]
theorem eq31 (w : World) : (binOp .eql 31 (.agg #[.int .u8 1, .int .u16 0]) (.agg #[.int .u8 1, .int .u16 0])).run Try.prog w = .ok (.bool true) w := by kernel_rfl
theorem eq_res {w : World} {ev : Operand → Value} {x y : Operand} (hx : ev x = .agg #[.int .u8 1, .int .u16 0]) (hy : ev y = .agg #[.int .u8 1, .int .u16 0]) {d : Option Tmp} {ty : TypeId} {ps : String} {af : Array Edge} {g : Option (Nat × Bool)} :
    (execOp ev { dst := d, op := .binOp .eql 31 x y 31, type := ty, pos := ps, after := af, guard := g }).run Try.prog w = .ok (.value (.bool true)) w := by
  have h := eq31 w
  simp [execOp, hx, hy, go_sem, h]
theorem own_rows {w : World} {base : Nat} {v : Value} {L : List Rw} (h : w.ownsRow base 41 12 v L.length (L.flatMap Rw.cells)) (hn : 0 < L.length) :
    ∃ g cap, v = .slice (some ⟨g, 0, none⟩) L.length cap ∧ SlAt w 12 L.length (L.flatMap Rw.cells) (some ⟨g, 0, none⟩) cap g 0 ∧ base ≤ g := by
  obtain ⟨g, cap, hv, hb, hl⟩ := h.form hn
  subst hv
  obtain ⟨ao', cap', b, o, hv, hs, _⟩ := SlAt.owned h
  simp only [Value.slice.injEq, true_and] at hv
  obtain ⟨hv1, hv2⟩ := hv
  subst hv1 hv2
  have hao := hs.addr (by rw [rows_len]; omega)
  simp only [Option.some.injEq, Addr.mk.injEq, and_true] at hao
  obtain ⟨rfl, rfl⟩ := hao
  exact ⟨g, cap, rfl, hs, hb⟩
theorem works_any (w : World) : Calls Try.prog 7 #[] w fun e w' => e = .returned (.bool true) ∧ Below w.heap.size w w' := by
  go_enter Try.func7, Try.ntmps7
  go_wp2_with fail
  refine (given_any w).mono ?_
  rintro e w1 ⟨p, rfl, hp, ⟨v, hT⟩, hb1⟩
  have HR := Lib.hid (rows_any hT (by decide))
  have HB1 := Lib.hid hb1
  clear hT hb1
  go_wp2_with fail
  refine HR.out.mono ?_
  rintro e w2 ⟨v2, rfl, hown, hb2⟩
  obtain ⟨g, cap, rfl, hs, hg⟩ := own_rows hown (by decide)
  have hidx := hs.idx (P := Try.prog) (t := 38) (e := 41) (by kernel_rfl) size41 (by decide)
  have r1 : RowC w2 g (0 * 12) g1' := by have := row_at (k := 0) (x := g1') hs rfl; simpa only [Nat.zero_add] using this
  have r2 : RowC w2 g (1 * 12) g2' := by have := row_at (k := 1) (x := g2') hs rfl; simpa only [Nat.zero_add] using this
  have r3 : RowC w2 g (2 * 12) g3 := by have := row_at (k := 2) (x := g3) hs rfl; simpa only [Nat.zero_add] using this
  have HBX := Lib.hid (bt HB1.out hb2)
  simp only [List.length_cons, List.length_nil, Nat.zero_add, Nat.reduceAdd] at hidx ⊢
  clear hown hs hb2 HR HB1
  replace r1 := r1.below (bz w2).drew
  replace r2 := r2.below (bz w2).drew
  replace r3 := r3.below (bz w2).drew
  replace HBX := Lib.hid (show Below w.heap.size w w2.drew from HBX.out.drew)
  go_wp2_with fail
  refine wp_region_held_drew (S := (fun w' => RowC w' g (0 * 12) g1' ∧ RowC w' g (1 * 12) g2' ∧ RowC w' g (2 * 12) g3)) (by kernel_rfl) (by exact ⟨r1, r2, r3⟩) (fun hHeld => ?_)
  refine takeD (i := 0) (v := ?zva0) (some 4) rfl rfl (by kernel_rfl) (by kernel_rfl) (by kernel_rfl) (fun _ _ _ h => h) (Or.inl ⟨by rfl, ?zya0⟩) (by assumption) ?zra0
  case zya0 => (intro w hSw; clear hSw; go_simp; try with_reducible rfl)
  try simp only [Act.put, List.setIfInBounds_toArray, List.set_cons_zero, List.set_cons_succ]
  refine takeD (i := 1) (v := ?zva1) (some 5) rfl rfl (by kernel_rfl) (by kernel_rfl) (by kernel_rfl) (fun _ _ _ h => h) (Or.inl ⟨by rfl, ?zya1⟩) (by assumption) ?zra1
  case zya1 => (intro w hSw; clear hSw; go_simp; try with_reducible rfl)
  try simp only [Act.put, List.setIfInBounds_toArray, List.set_cons_zero, List.set_cons_succ]
  refine takeD (i := 2) (v := ?zva2) (some 6) rfl rfl (by kernel_rfl) (by kernel_rfl) (by kernel_rfl) (fun _ _ _ h => h) (Or.inl ⟨by rfl, ?zya2⟩) (by assumption) ?zra2
  case zya2 => (intro w hSw; clear hSw; go_simp; try with_reducible rfl)
  try simp only [Act.put, List.setIfInBounds_toArray, List.set_cons_zero, List.set_cons_succ]
  refine takeD (i := 3) (v := ?zva3) (some 7) rfl rfl (by kernel_rfl) (by kernel_rfl) (by kernel_rfl) (fun _ _ _ h => h) (Or.inl ⟨by rfl, ?zya3⟩) (by assumption) ?zra3
  case zya3 => (intro w hSw; clear hSw; go_simp; try with_reducible rfl)
  try simp only [Act.put, List.setIfInBounds_toArray, List.set_cons_zero, List.set_cons_succ]
  refine takeD (i := 4) (v := ?zva4) (some 8) rfl rfl (by kernel_rfl) (by kernel_rfl) (by kernel_rfl) (fun _ _ _ h => h) (Or.inl ⟨by rfl, ?zya4⟩) (by assumption) ?zra4
  case zya4 => (intro w hSw; clear hSw; go_simp; try with_reducible rfl)
  try simp only [Act.put, List.setIfInBounds_toArray, List.set_cons_zero, List.set_cons_succ]
  refine takeD (i := 5) (v := ?zva5) (some 9) rfl rfl (by kernel_rfl) (by kernel_rfl) (by kernel_rfl) (fun _ _ _ h => h) (Or.inl ⟨by rfl, ?zya5⟩) (by assumption) ?zra5
  case zya5 => (intro w hSw; refine idx_row (g := g) (n := 3) (cap := cap) hidx (k := 0) (by decide) ?_ ?_ <;> rfl)
  try simp only [Act.put, List.setIfInBounds_toArray, List.set_cons_zero, List.set_cons_succ]
  refine takeD (i := 6) (v := ?zva6) (some 10) rfl rfl (by kernel_rfl) (by kernel_rfl) (by kernel_rfl) (fun _ _ _ h => h) (Or.inl ⟨by rfl, ?zya6⟩) (by assumption) ?zra6
  case zya6 => (intro w hSw; refine load_row (hSw.1) ?_; rfl)
  try simp only [Act.put, List.setIfInBounds_toArray, List.set_cons_zero, List.set_cons_succ]
  refine wpAnyH_ready (rs := [7]) (by kernel_rfl) (by simp) ?_
  refine AllReadyH.cons rfl (fun K hK => ?_) AllReadyH.nil
  go_simp
  refine (is_row g1' 1 1 0 3 _ rfl rfl rfl rfl).mono ?_
  rintro e w11 ⟨rfl, hb11⟩
  have r1 := r1.below hb11
  have r2 := r2.below hb11
  have r3 := r3.below hb11
  have HB11 := Lib.hid (bt HBX.out hb11)
  have HBX := HB11
  clear HB11 hb11
  go_wp2_with fail
  refine hK.out _ _ (by exact ⟨r1, r2, r3⟩) (fun hHeld2 => ?_)
  clear hK K
  clear hHeld
  have hHeld := hHeld2
  clear hHeld2
  try simp only [Act.put, List.setIfInBounds_toArray, List.set_cons_zero, List.set_cons_succ]
  refine takeD (i := 8) (v := ?zva8) (some 12) rfl rfl (by kernel_rfl) (by kernel_rfl) (by kernel_rfl) (fun _ _ _ h => h) (Or.inl ⟨by rfl, ?zya8⟩) (by assumption) ?zra8
  case zya8 => (intro w hSw; clear hSw; go_simp; try with_reducible rfl)
  try simp only [Act.put, List.setIfInBounds_toArray, List.set_cons_zero, List.set_cons_succ]
  refine takeD (i := 9) (v := ?zva9) (some 13) rfl rfl (by kernel_rfl) (by kernel_rfl) (by kernel_rfl) (fun _ _ _ h => h) (Or.inl ⟨by rfl, ?zya9⟩) (by assumption) ?zra9
  case zya9 => (intro w hSw; clear hSw; go_simp; try with_reducible rfl)
  try simp only [Act.put, List.setIfInBounds_toArray, List.set_cons_zero, List.set_cons_succ]
  refine takeD (i := 10) (v := ?zva10) (some 14) rfl rfl (by kernel_rfl) (by kernel_rfl) (by kernel_rfl) (fun _ _ _ h => h) (Or.inl ⟨by rfl, ?zya10⟩) (by assumption) ?zra10
  case zya10 => (intro w hSw; clear hSw; go_simp; try with_reducible rfl)
  try simp only [Act.put, List.setIfInBounds_toArray, List.set_cons_zero, List.set_cons_succ]
  refine takeD (i := 11) (v := ?zva11) (some 15) rfl rfl (by kernel_rfl) (by kernel_rfl) (by kernel_rfl) (fun _ _ _ h => h) (Or.inl ⟨by rfl, ?zya11⟩) (by assumption) ?zra11
  case zya11 => (intro w hSw; refine idx_row (g := g) (n := 3) (cap := cap) hidx (k := 1) (by decide) ?_ ?_ <;> rfl)
  try simp only [Act.put, List.setIfInBounds_toArray, List.set_cons_zero, List.set_cons_succ]
  refine takeD (i := 12) (v := ?zva12) (some 16) rfl rfl (by kernel_rfl) (by kernel_rfl) (by kernel_rfl) (fun _ _ _ h => h) (Or.inl ⟨by rfl, ?zya12⟩) (by assumption) ?zra12
  case zya12 => (intro w hSw; refine load_row (hSw.2.1) ?_; rfl)
  try simp only [Act.put, List.setIfInBounds_toArray, List.set_cons_zero, List.set_cons_succ]
  refine wpAnyH_ready (rs := [13]) (by kernel_rfl) (by simp) ?_
  refine AllReadyH.cons rfl (fun K hK => ?_) AllReadyH.nil
  go_simp
  refine (is_row g2' 2 2 1 4611686018427387904 _ rfl rfl rfl rfl).mono ?_
  rintro e w12 ⟨rfl, hb12⟩
  have r1 := r1.below hb12
  have r2 := r2.below hb12
  have r3 := r3.below hb12
  have HB12 := Lib.hid (bt HBX.out hb12)
  have HBX := HB12
  clear HB12 hb12
  go_wp2_with fail
  refine hK.out _ _ (by exact ⟨r1, r2, r3⟩) (fun hHeld2 => ?_)
  clear hK K
  clear hHeld
  have hHeld := hHeld2
  clear hHeld2
  try simp only [Act.put, List.setIfInBounds_toArray, List.set_cons_zero, List.set_cons_succ]
  refine takeD (i := 14) (v := ?zva14) (some 18) rfl rfl (by kernel_rfl) (by kernel_rfl) (by kernel_rfl) (fun _ _ _ h => h) (Or.inl ⟨by rfl, ?zya14⟩) (by assumption) ?zra14
  case zya14 => (intro w hSw; clear hSw; go_simp; try with_reducible rfl)
  try simp only [Act.put, List.setIfInBounds_toArray, List.set_cons_zero, List.set_cons_succ]
  refine takeD (i := 15) (v := ?zva15) (some 19) rfl rfl (by kernel_rfl) (by kernel_rfl) (by kernel_rfl) (fun _ _ _ h => h) (Or.inl ⟨by rfl, ?zya15⟩) (by assumption) ?zra15
  case zya15 => (intro w hSw; clear hSw; go_simp; try with_reducible rfl)
  try simp only [Act.put, List.setIfInBounds_toArray, List.set_cons_zero, List.set_cons_succ]
  refine takeD (i := 16) (v := ?zva16) (some 20) rfl rfl (by kernel_rfl) (by kernel_rfl) (by kernel_rfl) (fun _ _ _ h => h) (Or.inl ⟨by rfl, ?zya16⟩) (by assumption) ?zra16
  case zya16 => (intro w hSw; clear hSw; go_simp; try with_reducible rfl)
  try simp only [Act.put, List.setIfInBounds_toArray, List.set_cons_zero, List.set_cons_succ]
  refine takeD (i := 17) (v := ?zva17) (some 21) rfl rfl (by kernel_rfl) (by kernel_rfl) (by kernel_rfl) (fun _ _ _ h => h) (Or.inl ⟨by rfl, ?zya17⟩) (by assumption) ?zra17
  case zya17 => (intro w hSw; refine idx_row (g := g) (n := 3) (cap := cap) hidx (k := 2) (by decide) ?_ ?_ <;> rfl)
  try simp only [Act.put, List.setIfInBounds_toArray, List.set_cons_zero, List.set_cons_succ]
  refine takeD (i := 18) (v := ?zva18) (some 22) rfl rfl (by kernel_rfl) (by kernel_rfl) (by kernel_rfl) (fun _ _ _ h => h) (Or.inl ⟨by rfl, ?zya18⟩) (by assumption) ?zra18
  case zya18 => (intro w hSw; refine load_row (hSw.2.2) ?_; rfl)
  try simp only [Act.put, List.setIfInBounds_toArray, List.set_cons_zero, List.set_cons_succ]
  refine wpAnyH_ready (rs := [19]) (by kernel_rfl) (by simp) ?_
  refine AllReadyH.cons rfl (fun K hK => ?_) AllReadyH.nil
  go_simp
  refine (is_row g3 3 0 5 4611686018427387904 _ rfl rfl rfl rfl).mono ?_
  rintro e w13 ⟨rfl, hb13⟩
  have r1 := r1.below hb13
  have r2 := r2.below hb13
  have r3 := r3.below hb13
  have HB13 := Lib.hid (bt HBX.out hb13)
  have HBX := HB13
  clear HB13 hb13
  go_wp2_with fail
  refine hK.out _ _ (by exact ⟨r1, r2, r3⟩) (fun hHeld2 => ?_)
  clear hK K
  clear hHeld
  have hHeld := hHeld2
  clear hHeld2
  try simp only [Act.put, List.setIfInBounds_toArray, List.set_cons_zero, List.set_cons_succ]
  refine takeD (i := 20) (v := ?zva20) (some 24) rfl rfl (by kernel_rfl) (by kernel_rfl) (by kernel_rfl) (fun _ _ _ h => h) (Or.inl ⟨by rfl, ?zya20⟩) (by assumption) ?zra20
  case zya20 => (intro w hSw; clear hSw; go_simp; try with_reducible rfl)
  try simp only [Act.put, List.setIfInBounds_toArray, List.set_cons_zero, List.set_cons_succ]
  refine takeD (i := 21) (v := ?zva21) (some 25) rfl rfl (by kernel_rfl) (by kernel_rfl) (by kernel_rfl) (fun _ _ _ h => h) (Or.inl ⟨by rfl, ?zya21⟩) (by assumption) ?zra21
  case zya21 => (intro w hSw; clear hSw; go_simp; try with_reducible rfl)
  try simp only [Act.put, List.setIfInBounds_toArray, List.set_cons_zero, List.set_cons_succ]
  refine takeD (i := 22) (v := ?zva22) (some 26) rfl rfl (by kernel_rfl) (by kernel_rfl) (by kernel_rfl) (fun _ _ _ h => h) (Or.inl ⟨by rfl, ?zya22⟩) (by assumption) ?zra22
  case zya22 => (intro w hSw; clear hSw; go_simp; try with_reducible rfl)
  try simp only [Act.put, List.setIfInBounds_toArray, List.set_cons_zero, List.set_cons_succ]
  refine takeD (i := 23) (v := ?zva23) (some 27) rfl rfl (by kernel_rfl) (by kernel_rfl) (by kernel_rfl) (fun _ _ _ h => h) (Or.inl ⟨by rfl, ?zya23⟩) (by assumption) ?zra23
  case zya23 => (intro w hSw; refine idx_row (g := g) (n := 3) (cap := cap) hidx (k := 0) (by decide) ?_ ?_ <;> rfl)
  try simp only [Act.put, List.setIfInBounds_toArray, List.set_cons_zero, List.set_cons_succ]
  refine takeD (i := 24) (v := ?zva24) (some 28) rfl rfl (by kernel_rfl) (by kernel_rfl) (by kernel_rfl) (fun _ _ _ h => h) (Or.inl ⟨by rfl, ?zya24⟩) (by assumption) ?zra24
  case zya24 => (intro w hSw; clear hSw; go_simp; try with_reducible rfl)
  try simp only [Act.put, List.setIfInBounds_toArray, List.set_cons_zero, List.set_cons_succ]
  refine takeD (i := 25) (v := ?zva25) (some 29) rfl rfl (by kernel_rfl) (by kernel_rfl) (by kernel_rfl) (fun _ _ _ h => h) (Or.inl ⟨by rfl, ?zya25⟩) (by assumption) ?zra25
  case zya25 => (intro w hSw; refine load_res (hSw.1) ?_; rfl)
  try simp only [Act.put, List.setIfInBounds_toArray, List.set_cons_zero, List.set_cons_succ]
  refine takeD (i := 26) (v := ?zva26) (some 30) rfl rfl (by kernel_rfl) (by kernel_rfl) (by kernel_rfl) (fun _ _ _ h => h) (Or.inl ⟨by rfl, ?zya26⟩) (by assumption) ?zra26
  case zya26 => (intro w hSw; clear hSw; go_simp; try with_reducible rfl)
  try simp only [Act.put, List.setIfInBounds_toArray, List.set_cons_zero, List.set_cons_succ]
  refine takeD (i := 27) (v := ?zva27) (some 31) rfl rfl (by kernel_rfl) (by kernel_rfl) (by kernel_rfl) (fun _ _ _ h => h) (Or.inl ⟨by rfl, ?zya27⟩) (by assumption) ?zra27
  case zya27 => (intro w hSw; refine eq_res ?_ ?_ <;> rfl)
  try simp only [Act.put, List.setIfInBounds_toArray, List.set_cons_zero, List.set_cons_succ]
  refine takeD (i := 28) (v := ?zva28) (some 32) rfl rfl (by kernel_rfl) (by kernel_rfl) (by kernel_rfl) (fun _ _ _ h => h) (Or.inl ⟨by rfl, ?zya28⟩) (by assumption) ?zra28
  case zya28 => (intro w hSw; clear hSw; go_simp; try with_reducible rfl)
  try simp only [Act.put, List.setIfInBounds_toArray, List.set_cons_zero, List.set_cons_succ]
  refine takeD (i := 29) (v := ?zva29) (some 33) rfl rfl (by kernel_rfl) (by kernel_rfl) (by kernel_rfl) (fun _ _ _ h => h) (Or.inl ⟨by rfl, ?zya29⟩) (by assumption) ?zra29
  case zya29 => (intro w hSw; clear hSw; go_simp; try with_reducible rfl)
  try simp only [Act.put, List.setIfInBounds_toArray, List.set_cons_zero, List.set_cons_succ]
  refine takeD (i := 30) (v := ?zva30) (some 34) rfl rfl (by kernel_rfl) (by kernel_rfl) (by kernel_rfl) (fun _ _ _ h => h) (Or.inl ⟨by rfl, ?zya30⟩) (by assumption) ?zra30
  case zya30 => (intro w hSw; clear hSw; go_simp; try with_reducible rfl)
  try simp only [Act.put, List.setIfInBounds_toArray, List.set_cons_zero, List.set_cons_succ]
  refine takeD (i := 31) (v := ?zva31) (some 35) rfl rfl (by kernel_rfl) (by kernel_rfl) (by kernel_rfl) (fun _ _ _ h => h) (Or.inl ⟨by rfl, ?zya31⟩) (by assumption) ?zra31
  case zya31 => (intro w hSw; refine idx_row (g := g) (n := 3) (cap := cap) hidx (k := 0) (by decide) ?_ ?_ <;> rfl)
  try simp only [Act.put, List.setIfInBounds_toArray, List.set_cons_zero, List.set_cons_succ]
  refine takeD (i := 32) (v := ?zva32) (some 36) rfl rfl (by kernel_rfl) (by kernel_rfl) (by kernel_rfl) (fun _ _ _ h => h) (Or.inl ⟨by rfl, ?zya32⟩) (by assumption) ?zra32
  case zya32 => (intro w hSw; refine load_row (hSw.1) ?_; rfl)
  try simp only [Act.put, List.setIfInBounds_toArray, List.set_cons_zero, List.set_cons_succ]
  refine takeD (i := 33) (v := ?zva33) (some 37) rfl rfl (by kernel_rfl) (by kernel_rfl) (by kernel_rfl) (fun _ _ _ h => h) (Or.inl ⟨by rfl, ?zya33⟩) (by assumption) ?zra33
  case zya33 => (intro w hSw; clear hSw; go_simp; try with_reducible rfl)
  try simp only [Act.put, List.setIfInBounds_toArray, List.set_cons_zero, List.set_cons_succ]
  refine takeD (i := 34) (v := ?zva34) (some 38) rfl rfl (by kernel_rfl) (by kernel_rfl) (by kernel_rfl) (fun _ _ _ h => h) (Or.inl ⟨by rfl, ?zya34⟩) (by assumption) ?zra34
  case zya34 => (intro w hSw; refine idx_row (g := g) (n := 3) (cap := cap) hidx (k := 2) (by decide) ?_ ?_ <;> rfl)
  try simp only [Act.put, List.setIfInBounds_toArray, List.set_cons_zero, List.set_cons_succ]
  refine takeD (i := 35) (v := ?zva35) (some 39) rfl rfl (by kernel_rfl) (by kernel_rfl) (by kernel_rfl) (fun _ _ _ h => h) (Or.inl ⟨by rfl, ?zya35⟩) (by assumption) ?zra35
  case zya35 => (intro w hSw; refine load_row (hSw.2.2) ?_; rfl)
  try simp only [Act.put, List.setIfInBounds_toArray, List.set_cons_zero, List.set_cons_succ]
  refine wpAnyH_ready (rs := [36]) (by kernel_rfl) (by simp) ?_
  refine AllReadyH.cons rfl (fun K hK => ?_) AllReadyH.nil
  go_simp
  refine (before_any g1' g3 _).mono ?_
  rintro e w14 ⟨rfl, hb14⟩
  have r1 := r1.below hb14
  have r2 := r2.below hb14
  have r3 := r3.below hb14
  have HB14 := Lib.hid (bt HBX.out hb14)
  have HBX := HB14
  clear HB14 hb14
  go_wp2_with fail
  refine hK.out _ _ (by exact ⟨r1, r2, r3⟩) (fun hHeld2 => ?_)
  clear hK K
  clear hHeld
  have hHeld := hHeld2
  clear hHeld2
  try simp only [Act.put, List.setIfInBounds_toArray, List.set_cons_zero, List.set_cons_succ]
  refine takeD (i := 37) (v := ?zva37) (some 41) rfl rfl (by kernel_rfl) (by kernel_rfl) (by kernel_rfl) (fun _ _ _ h => h) (Or.inl ⟨by rfl, ?zya37⟩) (by assumption) ?zra37
  case zya37 => (intro w hSw; clear hSw; go_simp; try with_reducible rfl)
  try simp only [Act.put, List.setIfInBounds_toArray, List.set_cons_zero, List.set_cons_succ]
  refine takeD (i := 38) (v := ?zva38) (some 0) rfl rfl (by kernel_rfl) (by kernel_rfl) (by kernel_rfl) (fun _ _ _ h => h) (Or.inl ⟨by rfl, ?zya38⟩) (by assumption) ?zra38
  case zya38 => (intro w hSw; clear hSw; go_simp; try with_reducible rfl)
  try simp only [Act.put, List.setIfInBounds_toArray, List.set_cons_zero, List.set_cons_succ]
  refine wpAnyH_done (by kernel_rfl) ?_ _
  go_wp2
  go_ret
  exact ⟨rfl, HBX.out⟩
end Go.Proofs.Ytjmanajbdkbkdaa
