/- What is read of any bytes, in any order, is the document's (CodecReads, f4). Printed by gen_reads.py. -/
import Derived.Test.YtehnkljaoaehjaaOne
import Derived.Test.YtehnkljaoaehjaaAwake
import Derived.Test.YtehnkljaoaehjaaOpena
import Derived.Deep.RegionHeld3
namespace Go.Um
theorem takeD {P : Program} {ops : Array Oper} {Q : Exit → Act → World → Prop} {md : Region.Mode} {S : World → Prop} {i : Nat} {oi : Oper} {v : Value} {fuel : Nat} {listed : Array Bool} {a : Act} {w : World} (d : Option Tmp) (hi : ops[i]? = some oi) (hd : oi.dst = d)
    (hs : Region.noSelect ops = true) (hf : Region.free md ops listed i = true) (hr : (Region.ready md ops listed).contains i = true)
    (hQ : ∀ c a w, Q (.panic c) (a.put oi.dst v) w → Q (.panic c) a w) (hy : YieldsIf P ops S oi v a) (hS : S w)
    (h : wpAnyH P md ops Q S fuel (listed.setIfInBounds i true) (a.put d v) w) : wpAnyH P md ops Q S (fuel + 1) listed a w := by
  subst hd
  exact wpAnyH_take hi hs hf hr hQ hy hS h
/-- what is held may be made stronger on the way -/
theorem wpAnyH_mono {P : Program} {ops : Array Oper} {Q : Exit → Act → World → Prop} {md : Region.Mode} {S1 S2 : World → Prop} (hS : ∀ w, S2 w → S1 w) :
    ∀ (fuel : Nat) (listed : Array Bool) (a : Act) (w : World), wpAnyH P md ops Q S2 fuel listed a w → wpAnyH P md ops Q S1 fuel listed a w
  | 0, _, _, _, h => h
  | fuel + 1, _, _, _, h => ⟨h.1, fun i hi => wpOp_mono (fun a' w' h' => ⟨hS _ h'.1, wpAnyH_mono hS fuel _ a' w' h'.2⟩) (h.2 i hi)⟩
end Go.Um
namespace Go.Proofs.Ytehnkljaoaehjaa
open Go.RowKit Go.Um
set_option linter.unusedSimpArgs false
set_option linter.unusedVariables false
set_option maxHeartbeats 4000000
set_option maxRecDepth 100000

theorem size48 : (Try.prog.info? 48).map (·.size) = some 2 := by kernel_rfl
theorem load_ask {w : World} {b a : Nat} {u v : Value} (h0 : w.cell? ⟨b, a, none⟩ = some u) (h1 : w.cell? ⟨b, a + 1, none⟩ = some v) {ev : Operand → Value} {x : Operand} (hx : ev x = .pointer (some ⟨b, a, none⟩)) {d : Option Tmp} {ty : TypeId} {ps : String} {af : Array Edge} {g : Option (Nat × Bool)} :
    (execOp ev { dst := d, op := .load 48 x, type := ty, pos := ps, after := af, guard := g }).run Try.prog w = .ok (.value (.agg #[u, v])) w := by
  simp [execOp, hx, go_sem, h0, h1]
theorem load_num {w : World} {b a : Nat} {u : Value} (h0 : w.cell? ⟨b, a, none⟩ = some u) {ev : Operand → Value} {x : Operand} (hx : ev x = .pointer (some ⟨b, a, none⟩)) {d : Option Tmp} {ty : TypeId} {ps : String} {af : Array Edge} {g : Option (Nat × Bool)} :
    (execOp ev { dst := d, op := .load 3 x, type := ty, pos := ps, after := af, guard := g }).run Try.prog w = .ok (.value u) w := by
  simp [execOp, hx, go_sem, h0]
theorem load_str {w : World} {b a : Nat} {T : ByteArray} (h0 : w.cell? ⟨b, a, none⟩ = some (.string T)) {ev : Operand → Value} {x : Operand} (hx : ev x = .pointer (some ⟨b, a, none⟩)) {d : Option Tmp} {ty : TypeId} {ps : String} {af : Array Edge} {g : Option (Nat × Bool)} :
    (execOp ev { dst := d, op := .load 9 x, type := ty, pos := ps, after := af, guard := g }).run Try.prog w = .ok (.value (.string T)) w := by
  simp [execOp, hx, go_sem, h0]
theorem idx_ask {n cap b o k : Nat} {ao : Option Addr} (h : ∀ (i : Int), 0 ≤ i → i < n → ∀ w, (Instr.indexAt 40 (.slice ao n cap) (.int .i64 i)).run Try.prog w = .ok (.pointer (some ⟨b, o + i.toNat * 2, none⟩)) w)
    (i1 : (0 : Int) ≤ (k : Int)) (i2 : (k : Int) < (n : Int)) {w : World} {ev : Operand → Value} {x y : Operand} (hx : ev x = .slice ao n cap) (hy : ev y = .int .i64 k) {d : Option Tmp} {ty : TypeId} {ps : String} {af : Array Edge} {g : Option (Nat × Bool)} :
    (execOp ev { dst := d, op := .indexAddr 40 x y, type := ty, pos := ps, after := af, guard := g }).run Try.prog w = .ok (.value (.pointer (some ⟨b, o + k * 2, none⟩))) w := by
  have h' := h k i1 i2 w
  rw [Int.toNat_natCast] at h'
  simp [execOp, hx, hy, go_sem, h']
theorem dd (w : World) (a b : Nat) : (w.drewN a).drewN b = w.drewN (a + b) := by simp [World.drewN, Nat.add_assoc]
theorem bdd (w : World) (a b : Nat) : Below (w.drewN a).heap.size (w.drewN a) (w.drewN (a + b)) := by
  rw [← dd]; exact below_drewN (bz _) _
theorem bdd2 {B a : Nat} {v w : World} (h : Below B v (w.drewN a)) (b : Nat) : Below B v (w.drewN (a + b)) := by
  rw [← dd]; exact below_drewN h _
theorem next_ok (s : ByteArray) (r : Rs) (n : Nat) (h : r.e = 0 ∨ r.e = 5) : (r.next s n).e = 0 ∨ (r.next s n).e = 5 := by
  unfold Rs.next
  split
  · split
    · exact .inr rfl
    · exact .inl rfl
  · exact h
theorem list_ok (s : ByteArray) (r : Rs) (h : r.e = 0 ∨ r.e = 5) : (listS s r).e = 0 ∨ (listS s r).e = 5 := by
  unfold listS
  split
  · split
    · exact .inl rfl
    · exact .inr rfl
  · exact h
theorem list_le (s : ByteArray) (r : Rs) (h : r.k ≤ s.size) : (listS s r).k ≤ s.size := by
  unfold listS
  split
  · split
    · rename_i hw
      simp only [whole, Bool.and_eq_true, decide_eq_true_eq] at hw
      exact hw.2
    · exact h
  · exact h
theorem ask_ok (s : ByteArray) (r : Rs) (kind n : Int) (h : r.e = 0 ∨ r.e = 5) : (askS s r kind n).e = 0 ∨ (askS s r kind n).e = 5 := by
  unfold askS
  repeat (split; (· exact next_ok s r _ h))
  exact list_ok s r h
theorem ask_le (s : ByteArray) (r : Rs) (kind n : Int) (h : r.k ≤ s.size) : (askS s r kind n).k ≤ s.size := by
  unfold askS
  repeat (split; (· exact Rs.next_le h))
  exact list_le s r h

structure RInv (w : World) (p q : Nat) (s : ByteArray) (wr : World) (R : Rs) : Prop where
  ok : R.e = 0 ∨ R.e = 5
  rd : RdAt wr p s R
  rf : RfAt wr q s R
  below : Below w.heap.size w wr

theorem reads_more (s : ByteArray) (n : Nat) (ao : Option Addr) (cap : Nat) (w : World) (hs : 3000 < s.size) : Calls Try.prog 4 #[.string s, .slice ao n cap] w fun e w' => e = .returned (.bool true) ∧ Below w.heap.size w w' := by
  have t1 : decide ((3000 : Int) < (s.size : Int)) = true := by rw [decide_eq_true_iff]; omega
  have t2 : (3000 : Int) < (s.size : Int) := by omega
  go_enter Try.func4, Try.ntmps4
  go_wp2_with fail
  refine (awake_any _).mono ?_
  rintro e w1 ⟨rfl, hb⟩
  go_wp2
  go_ret
  exact ⟨rfl, hb⟩
theorem reads_long (s : ByteArray) (n : Nat) (ao : Option Addr) (cap : Nat) (w : World) (hs : ¬ 3000 < s.size) (hn : 100 < n) : Calls Try.prog 4 #[.string s, .slice ao n cap] w fun e w' => e = .returned (.bool true) ∧ Below w.heap.size w w' := by
  have t1 : decide ((3000 : Int) < (s.size : Int)) = false := by rw [decide_eq_false_iff_not]; omega
  have t2 : ¬ (3000 : Int) < (s.size : Int) := by omega
  have t3 : decide ((100 : Int) < (n : Int)) = true := by rw [decide_eq_true_iff]; omega
  have t4 : (100 : Int) < (n : Int) := by omega
  go_enter Try.func4, Try.ntmps4
  go_wp2_with fail
  refine (awake_any _).mono ?_
  rintro e w1 ⟨rfl, hb⟩
  go_wp2
  go_ret
  exact ⟨rfl, hb⟩
theorem reads_short (s : ByteArray) (l : List Ask2) (n : Nat) (hln : n = l.length) (ao : Option Addr) (cap b o : Nat) (w : World) (hsl : SlAt w 2 n (l.flatMap Ask2.cells) ao cap b o) (hx : ∀ x ∈ l, in8 x.kind) (hs0 : ¬ 3000 < s.size) (hn : ¬ 100 < n) : Calls Try.prog 4 #[.string s, .slice ao n cap] w fun e w' => e = .returned (.bool true) ∧ Below w.heap.size w w' := by
  have t1 : decide ((3000 : Int) < (s.size : Int)) = false := by rw [decide_eq_false_iff_not]; omega
  have t2 : ¬ (3000 : Int) < (s.size : Int) := by omega
  have t3 : decide ((100 : Int) < (n : Int)) = false := by rw [decide_eq_false_iff_not]; omega
  have t4 : ¬ (100 : Int) < (n : Int) := by omega
  have hs : s.size ≤ 1000000 := by omega
  have hidx := hsl.idx (P := Try.prog) (t := 40) Try.underlying40 size48 (by decide)
  have HL := Lib.hid hln
  have HX := Lib.hid hx
  have HS := Lib.hid hsl
  clear hln hx hsl
  go_enter Try.func4, Try.ntmps4
  go_wp2_with fail
  refine (over_any s _).mono ?_
  rintro e w1 ⟨rfl, hw1⟩
  have HP0 : Hid (RdAt w1 w.heap.size s ⟨0, 0⟩) := Lib.hid (by rw [hw1]; exact RdAt.new w s)
  have HB0 : Hid (Below w.heap.size w w1) := Lib.hid (by rw [hw1]; exact ba (bz w) _)
  have hq1 : Hid (w1.heap.size = w.heap.size + 1) := Lib.hid (by rw [hw1]; simp)
  clear hw1
  obtain ⟨p, hp⟩ : ∃ p, p = w.heap.size := ⟨_, rfl⟩
  rw [← hp] at HP0 ⊢
  have hpw := Lib.hid hp
  clear hp
  go_wp2_with fail
  have HI0 : Hid (RInv w p w1.heap.size s (w1.alloc (.cells #[.string s, .int .i64 0, .int .i64 0] 45)) ⟨0, 0⟩) := Lib.hid ⟨.inl rfl, HP0.out.below (ba (bz w1) _), RfAt.new w1 s, ba HB0.out _⟩
  obtain ⟨q, hq⟩ : ∃ q, q = w1.heap.size := ⟨_, rfl⟩
  rw [← hq] at HI0 ⊢
  have hpq : p ≠ q := by have := hq1.out; have := hpw.out; omega
  have hqw : w.heap.size ≤ q := by have := hq1.out; omega
  obtain ⟨Y, hY⟩ : ∃ Y, Y = w1.alloc (.cells #[.string s, .int .i64 0, .int .i64 0] 45) := ⟨_, rfl⟩
  rw [← hY] at HI0 ⊢
  clear hY HP0 HB0 hq hq1
  go_loopw [7] (fun t7 wr => ∃ k : Nat, k ≤ n ∧ t7 = .int .i64 k ∧ Hid (∃ R, RInv w p q s wr R)) (fun t7 _ => n - (intOf t7).toNat)
  case atStart => exact ⟨0, Nat.zero_le _, rfl, Lib.hid ⟨_, HI0.out⟩⟩
  case round =>
    obtain ⟨k, hk, rfl, hI⟩ := hrel
    obtain ⟨R, hok, hrd, hrf, hb⟩ := hI.out
    clear hI
    have HP := Lib.hid hrd
    have HQ := Lib.hid hrf
    have HB := Lib.hid hb
    clear hrd hrf hb HI0
    by_cases hlt : k < n
    · have hkl : k < l.length := by rw [← HL.out]; exact hlt
      obtain ⟨x, hxk⟩ : ∃ x, l[k]? = some x := ⟨_, List.getElem?_eq_getElem hkl⟩
      have hx0 : Hid (0 ≤ x.kind) := Lib.hid ((HX.out x (List.mem_of_getElem? hxk)).1)
      have hpos : 0 < (l.flatMap Ask2.cells).length := by rw [length_flat Ask2.two]; omega
      have hbl := HS.out.lt hpos
      have hbn : ¬ (b = p ∨ b = q) := by have := hpw.out; omega
      have SB := HS.out.below HB.out
      have g0 := SB.cell (k * 2 + 0) (.int .u8 x.kind) (by rw [cell_of Ask2.two l k x hxk 0 (by decide)]; rfl)
      have g1 := SB.cell (k * 2 + 1) (.int .i64 x.n) (by rw [cell_of Ask2.two l k x hxk 1 (by decide)]; rfl)
      rw [Nat.add_zero] at g0
      rw [← Nat.add_assoc] at g1
      have i1 : (0 : Int) ≤ (k : Int) := by omega
      have i2 : (k : Int) < (n : Int) := by omega
      clear hxk hkl SB
      obtain ⟨R1, hR1⟩ : ∃ R1, R1 = askS s R x.kind x.n := ⟨_, rfl⟩
      have hle1 : R1.k ≤ s.size := by rw [hR1]; exact ask_le s R x.kind x.n HP.out.le
      have hok1 : R1.e = 0 ∨ R1.e = 5 := by rw [hR1]; exact ask_ok s R x.kind x.n hok
      obtain ⟨T, hT0⟩ : ∃ T, s.extract R1.k s.size = T := ⟨_, rfl⟩
      have hT : (s.size : Int) - R1.k = (T.size : Int) := by rw [← hT0, extr_size]; omega
      have HN : Hid (∀ W, RdAt W p s R → RfAt W q s R → Calls Try.prog 12 #[.pointer (some ⟨p, 0, none⟩), .pointer (some ⟨q, 0, none⟩), .agg #[.int .u8 x.kind, .int .i64 x.n]] W (OnePost p q s R1 W)) := Lib.hid (fun W h1 h2 => by rw [hR1]; exact one_any p q s R x.kind x.n W h1 h2 hpq hs hx0.out)
      clear hR1 hok
      go_wp2_with fail
      refine wp_region_held_drew (S := (fun w' => w'.cell? ⟨b, o + k * 2, none⟩ = some (.int .u8 x.kind) ∧ w'.cell? ⟨b, o + k * 2 + 1, none⟩ = some (.int .i64 x.n))) (by kernel_rfl) (by exact ⟨g0, g1⟩) (fun hHeld => ?_)
      refine takeD (i := 0) (v := ?zvz0) (some 30) rfl rfl (by kernel_rfl) (by kernel_rfl) (by kernel_rfl) (fun _ _ _ h => h) (Or.inl ⟨by rfl, ?zyz0⟩) (by assumption) ?zrz0
      case zyz0 => (intro w hSw; clear hSw; go_simp; try with_reducible rfl)
      try simp only [Act.put, List.setIfInBounds_toArray, List.set_cons_zero, List.set_cons_succ]
      refine takeD (i := 1) (v := ?zvz1) (some 31) rfl rfl (by kernel_rfl) (by kernel_rfl) (by kernel_rfl) (fun _ _ _ h => h) (Or.inl ⟨by rfl, ?zyz1⟩) (by assumption) ?zrz1
      case zyz1 => (intro w hSw; clear hSw; go_simp; try with_reducible rfl)
      try simp only [Act.put, List.setIfInBounds_toArray, List.set_cons_zero, List.set_cons_succ]
      refine takeD (i := 2) (v := ?zvz2) (some 32) rfl rfl (by kernel_rfl) (by kernel_rfl) (by kernel_rfl) (fun _ _ _ h => h) (Or.inl ⟨by rfl, ?zyz2⟩) (by assumption) ?zrz2
      case zyz2 => (intro w hSw; clear hSw; go_simp; try with_reducible rfl)
      try simp only [Act.put, List.setIfInBounds_toArray, List.set_cons_zero, List.set_cons_succ]
      refine takeD (i := 3) (v := ?zvz3) (some 33) rfl rfl (by kernel_rfl) (by kernel_rfl) (by kernel_rfl) (fun _ _ _ h => h) (Or.inl ⟨by rfl, ?zyz3⟩) (by assumption) ?zrz3
      case zyz3 => (intro w hSw; clear hSw; go_simp; try with_reducible rfl)
      try simp only [Act.put, List.setIfInBounds_toArray, List.set_cons_zero, List.set_cons_succ]
      refine takeD (i := 4) (v := ?zvz4) (some 34) rfl rfl (by kernel_rfl) (by kernel_rfl) (by kernel_rfl) (fun _ _ _ h => h) (Or.inl ⟨by rfl, ?zyz4⟩) (by assumption) ?zrz4
      case zyz4 => (intro w hSw; refine idx_ask hidx i1 i2 ?_ ?_ <;> rfl)
      try simp only [Act.put, List.setIfInBounds_toArray, List.set_cons_zero, List.set_cons_succ]
      refine takeD (i := 5) (v := ?zvz5) (some 35) rfl rfl (by kernel_rfl) (by kernel_rfl) (by kernel_rfl) (fun _ _ _ h => h) (Or.inl ⟨by rfl, ?zyz5⟩) (by assumption) ?zrz5
      case zyz5 => (intro w hSw; refine load_ask hSw.1 hSw.2 ?_; rfl)
      try simp only [Act.put, List.setIfInBounds_toArray, List.set_cons_zero, List.set_cons_succ]
      refine wpAnyH_ready (rs := [6]) (by kernel_rfl) (by simp) ?_
      refine AllReadyH.cons rfl (fun K hK => ?_) AllReadyH.nil
      go_simp
      refine (HN.out _ (HP.out.below (by repeat (first | (with_reducible exact bz _) | (with_reducible apply ba) | (with_reducible apply Below.drew)))) (HQ.out.below (by repeat (first | (with_reducible exact bz _) | (with_reducible apply ba) | (with_reducible apply Below.drew))))).mono ?_
      rintro e w1 ⟨rfl, hr1, hr2, hk⟩
      replace HB := Lib.hid ((below_drewN HB.out 1).trans (hk.below (fun i hi _ e => by have := hpw.out; rcases e with e | e <;> omega) (by have := HB.out.size; simpa using this)))
      go_wp2_with fail
      refine hK.out _ _ (by exact ⟨hk.cell hHeld.1 hbn, hk.cell hHeld.2 hbn⟩) (fun hHeld2 => ?_)
      clear hK K
      clear hHeld
      have hHeld := hHeld2
      clear hHeld2
      try simp only [Act.put, List.setIfInBounds_toArray, List.set_cons_zero, List.set_cons_succ]
      replace hHeld : (fun w' => (w'.cell? ⟨b, o + k * 2, none⟩ = some (.int .u8 x.kind) ∧ w'.cell? ⟨b, o + k * 2 + 1, none⟩ = some (.int .i64 x.n)) ∧ RdAt w' p s R1 ∧ RfAt w' q s R1) w1 := ⟨hHeld, hr1, hr2⟩
      clear hr1 hr2 hk HP HQ
      refine wpAnyH_mono (S2 := (fun w' => (w'.cell? ⟨b, o + k * 2, none⟩ = some (.int .u8 x.kind) ∧ w'.cell? ⟨b, o + k * 2 + 1, none⟩ = some (.int .i64 x.n)) ∧ RdAt w' p s R1 ∧ RfAt w' q s R1)) (fun w h => h.1) _ _ _ _ ?_
      refine takeD (i := 7) (v := ?zvz7) (some 37) rfl rfl (by kernel_rfl) (by kernel_rfl) (by kernel_rfl) (fun _ _ _ h => h) (Or.inl ⟨by rfl, ?zyz7⟩) (by assumption) ?zrz7
      case zyz7 => (intro w hSw; clear hSw; go_simp; try with_reducible rfl)
      try simp only [Act.put, List.setIfInBounds_toArray, List.set_cons_zero, List.set_cons_succ]
      refine takeD (i := 8) (v := ?zvz8) (some 38) rfl rfl (by kernel_rfl) (by kernel_rfl) (by kernel_rfl) (fun _ _ _ h => h) (Or.inl ⟨by rfl, ?zyz8⟩) (by assumption) ?zrz8
      case zyz8 => (intro w hSw; clear hSw; go_simp; try with_reducible rfl)
      try simp only [Act.put, List.setIfInBounds_toArray, List.set_cons_zero, List.set_cons_succ]
      refine takeD (i := 9) (v := ?zvz9) (some 39) rfl rfl (by kernel_rfl) (by kernel_rfl) (by kernel_rfl) (fun _ _ _ h => h) (Or.inl ⟨by rfl, ?zyz9⟩) (by assumption) ?zrz9
      case zyz9 => (intro w hSw; clear hSw; go_simp; try with_reducible rfl)
      try simp only [Act.put, List.setIfInBounds_toArray, List.set_cons_zero, List.set_cons_succ]
      refine takeD (i := 11) (v := ?zvz11) (some 41) rfl rfl (by kernel_rfl) (by kernel_rfl) (by kernel_rfl) (fun _ _ _ h => h) (Or.inl ⟨by rfl, ?zyz11⟩) (by assumption) ?zrz11
      case zyz11 => (intro w hSw; clear hSw; go_simp; try with_reducible rfl)
      try simp only [Act.put, List.setIfInBounds_toArray, List.set_cons_zero, List.set_cons_succ]
      refine takeD (i := 12) (v := ?zvz12) (some 42) rfl rfl (by kernel_rfl) (by kernel_rfl) (by kernel_rfl) (fun _ _ _ h => h) (Or.inl ⟨by rfl, ?zyz12⟩) (by assumption) ?zrz12
      case zyz12 => (intro w hSw; clear hSw; go_simp; try with_reducible rfl)
      try simp only [Act.put, List.setIfInBounds_toArray, List.set_cons_zero, List.set_cons_succ]
      refine takeD (i := 13) (v := ?zvz13) (some 43) rfl rfl (by kernel_rfl) (by kernel_rfl) (by kernel_rfl) (fun _ _ _ h => h) (Or.inl ⟨by rfl, ?zyz13⟩) (by assumption) ?zrz13
      case zyz13 => (intro w hSw; clear hSw; go_simp; try with_reducible rfl)
      try simp only [Act.put, List.setIfInBounds_toArray, List.set_cons_zero, List.set_cons_succ]
      refine takeD (i := 14) (v := ?zvz14) (some 44) rfl rfl (by kernel_rfl) (by kernel_rfl) (by kernel_rfl) (fun _ _ _ h => h) (Or.inl ⟨by rfl, ?zyz14⟩) (by assumption) ?zrz14
      case zyz14 => (intro w hSw; refine load_num hSw.2.2.e ?_; rfl)
      try simp only [Act.put, List.setIfInBounds_toArray, List.set_cons_zero, List.set_cons_succ]
      refine wpAnyH_ready (rs := [10]) (by kernel_rfl) (by simp) ?_
      refine AllReadyH.cons rfl (fun K hK => ?_) AllReadyH.nil
      go_simp
      refine (err_any p R1.e _ hHeld.2.1.e).mono ?_
      rintro e wX ⟨rfl, rfl⟩
      go_wp2_with fail
      refine hK.out _ _ (by exact hHeld) (fun hHeld2 => ?_)
      clear hK K
      clear hHeld
      have hHeld := hHeld2
      clear hHeld2
      try simp only [Act.put, List.setIfInBounds_toArray, List.set_cons_zero, List.set_cons_succ]
      refine takeD (i := 15) (v := ?zvz15) (some 45) rfl rfl (by kernel_rfl) (by kernel_rfl) (by kernel_rfl) (fun _ _ _ h => h) (Or.inl ⟨by rfl, ?zyz15⟩) (by assumption) ?zrz15
      case zyz15 => (intro w hSw; clear hSw; go_simp; try with_reducible rfl)
      try simp only [Act.put, List.setIfInBounds_toArray, List.set_cons_zero, List.set_cons_succ]
      refine takeD (i := 16) (v := ?zvz16) (some 46) rfl rfl (by kernel_rfl) (by kernel_rfl) (by kernel_rfl) (fun _ _ _ h => h) (Or.inl ⟨by rfl, ?zyz16⟩) (by assumption) ?zrz16
      case zyz16 => (intro w hSw; clear hSw; go_simp; try with_reducible rfl)
      try simp only [Act.put, List.setIfInBounds_toArray, List.set_cons_zero, List.set_cons_succ]
      refine takeD (i := 17) (v := ?zvz17) (some 47) rfl rfl (by kernel_rfl) (by kernel_rfl) (by kernel_rfl) (fun _ _ _ h => h) (Or.inl ⟨by rfl, ?zyz17⟩) (by assumption) ?zrz17
      case zyz17 => (intro w hSw; clear hSw; go_simp; try with_reducible rfl)
      try simp only [Act.put, List.setIfInBounds_toArray, List.set_cons_zero, List.set_cons_succ]
      refine takeD (i := 18) (v := ?zvz18) (some 48) rfl rfl (by kernel_rfl) (by kernel_rfl) (by kernel_rfl) (fun _ _ _ h => h) (Or.inl ⟨by rfl, ?zyz18⟩) (by assumption) ?zrz18
      case zyz18 => (intro w hSw; clear hSw; go_simp; try with_reducible rfl)
      try simp only [Act.put, List.setIfInBounds_toArray, List.set_cons_zero, List.set_cons_succ]
      refine takeD (i := 20) (v := ?zvz20) (some 50) rfl rfl (by kernel_rfl) (by kernel_rfl) (by kernel_rfl) (fun _ _ _ h => h) (Or.inl ⟨by rfl, ?zyz20⟩) (by assumption) ?zrz20
      case zyz20 => (intro w hSw; clear hSw; go_simp; try with_reducible rfl)
      try simp only [Act.put, List.setIfInBounds_toArray, List.set_cons_zero, List.set_cons_succ]
      refine takeD (i := 21) (v := ?zvz21) (some 51) rfl rfl (by kernel_rfl) (by kernel_rfl) (by kernel_rfl) (fun _ _ _ h => h) (Or.inl ⟨by rfl, ?zyz21⟩) (by assumption) ?zrz21
      case zyz21 => (intro w hSw; clear hSw; go_simp; try with_reducible rfl)
      try simp only [Act.put, List.setIfInBounds_toArray, List.set_cons_zero, List.set_cons_succ]
      refine takeD (i := 22) (v := ?zvz22) (some 52) rfl rfl (by kernel_rfl) (by kernel_rfl) (by kernel_rfl) (fun _ _ _ h => h) (Or.inl ⟨by rfl, ?zyz22⟩) (by assumption) ?zrz22
      case zyz22 => (intro w hSw; clear hSw; go_simp; try with_reducible rfl)
      try simp only [Act.put, List.setIfInBounds_toArray, List.set_cons_zero, List.set_cons_succ]
      refine takeD (i := 23) (v := ?zvz23) (some 53) rfl rfl (by kernel_rfl) (by kernel_rfl) (by kernel_rfl) (fun _ _ _ h => h) (Or.inl ⟨by rfl, ?zyz23⟩) (by assumption) ?zrz23
      case zyz23 => (intro w hSw; refine load_num hSw.2.2.past ?_; rfl)
      try simp only [Act.put, List.setIfInBounds_toArray, List.set_cons_zero, List.set_cons_succ]
      refine wpAnyH_ready (rs := [19]) (by kernel_rfl) (by simp) ?_
      refine AllReadyH.cons rfl (fun K hK => ?_) AllReadyH.nil
      go_simp
      refine (at_any p R1.k _ hHeld.2.1.at_).mono ?_
      rintro e wX ⟨rfl, rfl⟩
      go_wp2_with fail
      refine hK.out _ _ (by exact hHeld) (fun hHeld2 => ?_)
      clear hK K
      clear hHeld
      have hHeld := hHeld2
      clear hHeld2
      try simp only [Act.put, List.setIfInBounds_toArray, List.set_cons_zero, List.set_cons_succ]
      refine takeD (i := 24) (v := ?zvz24) (some 54) rfl rfl (by kernel_rfl) (by kernel_rfl) (by kernel_rfl) (fun _ _ _ h => h) (Or.inl ⟨by rfl, ?zyz24⟩) (by assumption) ?zrz24
      case zyz24 => (intro w hSw; clear hSw; go_simp; try with_reducible rfl)
      try simp only [Act.put, List.setIfInBounds_toArray, List.set_cons_zero, List.set_cons_succ]
      refine takeD (i := 25) (v := ?zvz25) (some 55) rfl rfl (by kernel_rfl) (by kernel_rfl) (by kernel_rfl) (fun _ _ _ h => h) (Or.inl ⟨by rfl, ?zyz25⟩) (by assumption) ?zrz25
      case zyz25 => (intro w hSw; clear hSw; go_simp; try with_reducible rfl)
      try simp only [Act.put, List.setIfInBounds_toArray, List.set_cons_zero, List.set_cons_succ]
      refine takeD (i := 26) (v := ?zvz26) (some 56) rfl rfl (by kernel_rfl) (by kernel_rfl) (by kernel_rfl) (fun _ _ _ h => h) (Or.inl ⟨by rfl, ?zyz26⟩) (by assumption) ?zrz26
      case zyz26 => (intro w hSw; clear hSw; go_simp; try with_reducible rfl)
      try simp only [Act.put, List.setIfInBounds_toArray, List.set_cons_zero, List.set_cons_succ]
      refine takeD (i := 27) (v := ?zvz27) (some 57) rfl rfl (by kernel_rfl) (by kernel_rfl) (by kernel_rfl) (fun _ _ _ h => h) (Or.inl ⟨by rfl, ?zyz27⟩) (by assumption) ?zrz27
      case zyz27 => (intro w hSw; clear hSw; go_simp; try with_reducible rfl)
      try simp only [Act.put, List.setIfInBounds_toArray, List.set_cons_zero, List.set_cons_succ]
      refine takeD (i := 29) (v := ?zvz29) (some 59) rfl rfl (by kernel_rfl) (by kernel_rfl) (by kernel_rfl) (fun _ _ _ h => h) (Or.inl ⟨by rfl, ?zyz29⟩) (by assumption) ?zrz29
      case zyz29 => (intro w hSw; clear hSw; go_simp; try with_reducible rfl)
      try simp only [Act.put, List.setIfInBounds_toArray, List.set_cons_zero, List.set_cons_succ]
      refine takeD (i := 30) (v := ?zvz30) (some 60) rfl rfl (by kernel_rfl) (by kernel_rfl) (by kernel_rfl) (fun _ _ _ h => h) (Or.inl ⟨by rfl, ?zyz30⟩) (by assumption) ?zrz30
      case zyz30 => (intro w hSw; clear hSw; go_simp; try with_reducible rfl)
      try simp only [Act.put, List.setIfInBounds_toArray, List.set_cons_zero, List.set_cons_succ]
      refine takeD (i := 31) (v := ?zvz31) (some 61) rfl rfl (by kernel_rfl) (by kernel_rfl) (by kernel_rfl) (fun _ _ _ h => h) (Or.inl ⟨by rfl, ?zyz31⟩) (by assumption) ?zrz31
      case zyz31 => (intro w hSw; clear hSw; go_simp; try with_reducible rfl)
      try simp only [Act.put, List.setIfInBounds_toArray, List.set_cons_zero, List.set_cons_succ]
      refine takeD (i := 32) (v := ?zvz32) (some 62) rfl rfl (by kernel_rfl) (by kernel_rfl) (by kernel_rfl) (fun _ _ _ h => h) (Or.inl ⟨by rfl, ?zyz32⟩) (by assumption) ?zrz32
      case zyz32 => (intro w hSw; refine load_str (T := T) (by have hc := hSw.2.2.str; rw [hT0] at hc; exact hc) ?_; rfl)
      try simp only [Act.put, List.setIfInBounds_toArray, List.set_cons_zero, List.set_cons_succ]
      refine takeD (i := 33) (v := ?zvz33) (some 63) rfl rfl (by kernel_rfl) (by kernel_rfl) (by kernel_rfl) (fun _ _ _ h => h) (Or.inl ⟨by rfl, ?zyz33⟩) (by assumption) ?zrz33
      case zyz33 => (intro w hSw; clear hSw; go_simp; try with_reducible rfl)
      try simp only [Act.put, List.setIfInBounds_toArray, List.set_cons_zero, List.set_cons_succ]
      refine wpAnyH_ready (rs := [28]) (by kernel_rfl) (by simp) ?_
      refine AllReadyH.cons rfl (fun K hK => ?_) AllReadyH.nil
      go_simp
      refine (left_any p s R1.k _ hHeld.2.1.str hHeld.2.1.at_ hle1 hs).mono ?_
      rintro e wX ⟨rfl, m1, rfl⟩
      rw [hT]
      replace HB := Lib.hid (below_drewN HB.out m1)
      go_wp2_with fail
      refine hK.out _ _ (by exact ⟨⟨hHeld.1.1, hHeld.1.2⟩, hHeld.2.1.below (below_drewN (bz _) _), hHeld.2.2.below (below_drewN (bz _) _)⟩) (fun hHeld2 => ?_)
      clear hK K
      clear hHeld
      have hHeld := hHeld2
      clear hHeld2
      try simp only [Act.put, List.setIfInBounds_toArray, List.set_cons_zero, List.set_cons_succ]
      refine takeD (i := 34) (v := ?zvz34) (some 64) rfl rfl (by kernel_rfl) (by kernel_rfl) (by kernel_rfl) (fun _ _ _ h => h) (Or.inl ⟨by rfl, ?zyz34⟩) (by assumption) ?zrz34
      case zyz34 => (intro w hSw; clear hSw; go_simp; try with_reducible rfl)
      try simp only [Act.put, List.setIfInBounds_toArray, List.set_cons_zero, List.set_cons_succ]
      refine takeD (i := 35) (v := ?zvz35) (some 65) rfl rfl (by kernel_rfl) (by kernel_rfl) (by kernel_rfl) (fun _ _ _ h => h) (Or.inl ⟨by rfl, ?zyz35⟩) (by assumption) ?zrz35
      case zyz35 => (intro w hSw; clear hSw; go_simp; try with_reducible rfl)
      try simp only [Act.put, List.setIfInBounds_toArray, List.set_cons_zero, List.set_cons_succ]
      refine takeD (i := 36) (v := ?zvz36) (some 66) rfl rfl (by kernel_rfl) (by kernel_rfl) (by kernel_rfl) (fun _ _ _ h => h) (Or.inl ⟨by rfl, ?zyz36⟩) (by assumption) ?zrz36
      case zyz36 => (intro w hSw; clear hSw; go_simp; try with_reducible rfl)
      try simp only [Act.put, List.setIfInBounds_toArray, List.set_cons_zero, List.set_cons_succ]
      refine takeD (i := 37) (v := ?zvz37) (some 67) rfl rfl (by kernel_rfl) (by kernel_rfl) (by kernel_rfl) (fun _ _ _ h => h) (Or.inl ⟨by rfl, ?zyz37⟩) (by assumption) ?zrz37
      case zyz37 => (intro w hSw; clear hSw; go_simp; try with_reducible rfl)
      try simp only [Act.put, List.setIfInBounds_toArray, List.set_cons_zero, List.set_cons_succ]
      refine takeD (i := 39) (v := ?zvz39) (some 69) rfl rfl (by kernel_rfl) (by kernel_rfl) (by kernel_rfl) (fun _ _ _ h => h) (Or.inl ⟨by rfl, ?zyz39⟩) (by assumption) ?zrz39
      case zyz39 => (intro w hSw; clear hSw; go_simp; try with_reducible rfl)
      try simp only [Act.put, List.setIfInBounds_toArray, List.set_cons_zero, List.set_cons_succ]
      refine wpAnyH_ready (rs := [38]) (by kernel_rfl) (by simp) ?_
      refine AllReadyH.cons rfl (fun K hK => ?_) AllReadyH.nil
      go_simp
      refine (close_any p s R1 _ hHeld.2.1 hs).mono ?_
      rintro e wX ⟨rfl, m2, rfl⟩
      replace HB := Lib.hid (bdd2 HB.out m2)
      go_wp2_with fail
      refine hK.out _ _ (by exact ⟨⟨hHeld.1.1, hHeld.1.2⟩, hHeld.2.1.below (bdd _ _ _), hHeld.2.2.below (bdd _ _ _)⟩) (fun hHeld2 => ?_)
      clear hK K
      clear hHeld
      have hHeld := hHeld2
      clear hHeld2
      try simp only [Act.put, List.setIfInBounds_toArray, List.set_cons_zero, List.set_cons_succ]
      refine wpAnyH_ready (rs := [40]) (by kernel_rfl) (by simp) ?_
      refine AllReadyH.cons rfl (fun K hK => ?_) AllReadyH.nil
      go_simp
      refine (refclose_any q s R1 _ hHeld.2.2 hs).mono ?_
      rintro e wX ⟨rfl, rfl⟩
      go_wp2_with fail
      refine hK.out _ _ (by exact hHeld) (fun hHeld2 => ?_)
      clear hK K
      clear hHeld
      have hHeld := hHeld2
      clear hHeld2
      try simp only [Act.put, List.setIfInBounds_toArray, List.set_cons_zero, List.set_cons_succ]
      refine takeD (i := 41) (v := ?zvz41) (some 71) rfl rfl (by kernel_rfl) (by kernel_rfl) (by kernel_rfl) (fun _ _ _ h => h) (Or.inl ⟨by rfl, ?zyz41⟩) (by assumption) ?zrz41
      case zyz41 => (intro w hSw; clear hSw; go_simp; try with_reducible rfl)
      try simp only [Act.put, List.setIfInBounds_toArray, List.set_cons_zero, List.set_cons_succ]
      refine takeD (i := 42) (v := ?zvz42) (some 72) rfl rfl (by kernel_rfl) (by kernel_rfl) (by kernel_rfl) (fun _ _ _ h => h) (Or.inl ⟨by rfl, ?zyz42⟩) (by assumption) ?zrz42
      case zyz42 => (intro w hSw; clear hSw; go_simp; try with_reducible rfl)
      try simp only [Act.put, List.setIfInBounds_toArray, List.set_cons_zero, List.set_cons_succ]
      refine wpAnyH_done (by kernel_rfl) ?_ _
      go_wp2_with fail
      go_roundw
      case rel => exact ⟨k + 1, by omega, by go_num, Lib.hid ⟨R1, hok1, hHeld.2.1, hHeld.2.2, HB.out⟩⟩
      case measure => simp [intOf]; omega
    · have kk1 : ¬ ((k : Int) < (n : Int)) := by omega
      have t5 : (R.e != 1) = true := by rcases hok with h | h <;> rw [h] <;> decide
      have t6 : (R.e == 1) = false := by rcases hok with h | h <;> rw [h] <;> decide
      obtain ⟨er, her⟩ : ∃ x, x = R.e := ⟨_, rfl⟩
      have HE := Lib.hid (HP.out.e)
      rw [← her] at t5 t6 HE
      clear her hok
      go_wp2_with fail
      refine (err_any p er _ HE.out).mono ?_
      rintro e wX ⟨rfl, rfl⟩
      go_wp2_with fail
      refine (awake_any _).mono ?_
      rintro e wY ⟨rfl, hb2⟩
      go_wp2
      go_ret
      exact ⟨rfl, bt HB.out hb2⟩
theorem reads_any (s : ByteArray) (l : List Ask2) (ao : Option Addr) (cap b o : Nat) (w : World) (hsl : SlAt w 2 l.length (l.flatMap Ask2.cells) ao cap b o) (hx : ∀ x ∈ l, in8 x.kind) : Calls Try.prog 4 #[.string s, .slice ao l.length cap] w fun e w' => e = .returned (.bool true) ∧ Below w.heap.size w w' := by
  by_cases h1 : 3000 < s.size
  · exact reads_more s _ ao cap w h1
  · by_cases h2 : 100 < l.length
    · exact reads_long s _ ao cap w h1 h2
    · exact reads_short s l _ rfl ao cap b o w hsl hx h1 h2
end Go.Proofs.Ytehnkljaoaehjaa
