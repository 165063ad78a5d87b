/- What a memo tells of any configurations is the document's (MemoPlays, f3). -/
import Derived.Test.YtgpfnlbhclefgaaAw
import Derived.Deep.DeepCutAuto
namespace Go.Proofs.Ytgpfnlbhclefgaa
open Go.RowKit Go.Um
set_option linter.unusedSimpArgs false
set_option linter.unusedVariables false
set_option maxHeartbeats 8000000
set_option maxRecDepth 100000
theorem cell_past {a b : World} (h : Below a.heap.size a b) {p : Addr} {v : Value} (hc : a.cell? p = some v) : b.cell? p = some v := by
  rw [h.cell (World.block_lt_of_cell? a p hc)]; exact hc
theorem keep_alloc {w : World} {a : Addr} {v : Value} (h : w.cell? a = some v) (o : Obj) : (w.alloc o).cell? a = some v := cell_past (ba (bz w) o) h
theorem keep_drew {w : World} {a : Addr} {v : Value} (h : w.cell? a = some v) : w.drew.cell? a = some v := h
theorem keep_set {w : World} {b j : Nat} {p : Addr} {u v : Value} (h : w.cell? ⟨b, j, none⟩ = some v) (hne : ¬ p.block = b) : (w.setCell p u).cell? ⟨b, j, none⟩ = some v := by
  rw [World.cell?_setCell_other (h := fun e => hne (by rw [e]))]; exact h
theorem past {W w1 : World} (hb : Below W.heap.size W w1) : (∀ b o, b < W.heap.size → w1.cell? ⟨b, o, none⟩ = W.cell? ⟨b, o, none⟩) ∧ (∀ b o, b < W.heap.size → w1.frozen? ⟨b, o, none⟩ = W.frozen? ⟨b, o, none⟩) ∧ (∀ k, k < W.heap.size → k < w1.heap.size) ∧ (∀ k, k < W.heap.size → ¬ k = w1.heap.size) :=
  ⟨fun b o h => hb.cell (p := ⟨b, o, none⟩) h, fun b o h => hb.frozen (p := ⟨b, o, none⟩) h, fun _ h => Nat.lt_of_lt_of_le h hb.size, fun _ h e => absurd (Nat.lt_of_lt_of_le h hb.size) (by omega)⟩
theorem key_list (xs : List Int) : ∃ S, keyN (ofN xs) S ∧ S.size ≤ 8192 := by
  have hL := lisOf_n xs
  obtain ⟨K, hK⟩ : ∃ K, K = 8192 := ⟨_, rfl⟩
  have hlt : ofN xs < 2 ^ (8 * K) := by
    apply lt_of_bits
    intro n hn
    rw [hL.bit]
    simp only [decide_eq_false_iff_not]
    intro h
    have := hL.bd n h
    omega
  obtain ⟨t, ht, hnt⟩ := needs_ex K hlt
  exact ⟨_, ⟨bytesN (ofN xs) t, ⟨t, rfl, hnt⟩, rfl⟩, by rw [strOfNums_size, List.length_map, bytesN_len]; omega⟩
theorem idx_act {n cap b o k : Nat} {ao : Option Addr} (h : ∀ (i : Int), 0 ≤ i → i < n → ∀ w, (Instr.indexAt 22 (.slice ao n cap) (.int .i64 i)).run Try.prog w = .ok (.pointer (some ⟨b, o + i.toNat * 3, none⟩)) w)
    (i1 : (0 : Int) ≤ (k : Int)) (i2 : (k : Int) < (n : Int)) {w : World} {ev : Operand → Value} {x y : Operand} (hx : ev x = .slice ao n cap) (hy : ev y = .int .i64 k) {d : Option Tmp} {ty : TypeId} {ps : String} {af : Array Edge} {g : Option (Nat × Bool)} :
    (execOp ev { dst := d, op := .indexAddr 22 x y, type := ty, pos := ps, after := af, guard := g }).run Try.prog w = .ok (.value (.pointer (some ⟨b, o + k * 3, none⟩))) w := by
  have h' := h k i1 i2 w
  rw [Int.toNat_natCast] at h'
  simp [execOp, hx, hy, go_sem, h']
theorem load_one35 {w : World} {b a : Nat} {u : Value} (h0 : w.cell? ⟨b, a, none⟩ = some u) {ev : Operand → Value} {x : Operand} (hx : ev x = .pointer (some ⟨b, a, none⟩)) {d : Option Tmp} {ty : TypeId} {ps : String} {af : Array Edge} {g : Option (Nat × Bool)} :
    (execOp ev { dst := d, op := .load 35 x, type := ty, pos := ps, after := af, guard := g }).run Try.prog w = .ok (.value u) w := by
  simp [execOp, hx, go_sem, h0]
theorem load_one9 {w : World} {b a : Nat} {u : Value} (h0 : w.cell? ⟨b, a, none⟩ = some u) {ev : Operand → Value} {x : Operand} (hx : ev x = .pointer (some ⟨b, a, none⟩)) {d : Option Tmp} {ty : TypeId} {ps : String} {af : Array Edge} {g : Option (Nat × Bool)} :
    (execOp ev { dst := d, op := .load 9 x, type := ty, pos := ps, after := af, guard := g }).run Try.prog w = .ok (.value u) w := by
  simp [execOp, hx, go_sem, h0]
/-- the state of both memos, in step -/
structure PlInv (w : World) (p q : Nat) (ob : Option Nat) (ks : List Cfg) (T sv : Nat) (vl : Value) (wr : World) : Prop where
  m : MmAt wr p ob ks T sv
  r : RmAt wr q ob.isSome ks vl sv
  below : Below w.heap.size w wr
  gp : w.heap.size ≤ p
  gq : p < q
  gb : ∀ b, ob = some b → w.heap.size ≤ b ∧ b < q
  len : ks.length ≤ T
  le : sv ≤ T
theorem addK_len (ks : List Cfg) (k : Cfg) : (addK ks k).length ≤ ks.length + 1 := by
  unfold addK; split
  · omega
  · simp
theorem addS_le (ks : List Cfg) (k : Cfg) (sv : Nat) : addS ks k sv ≤ sv + 1 := by
  unfold addS; split <;> omega
/-- Add of both memos: the same answer, and they stay in step -/
theorem adds_any (p q : Nat) (ob : Option Nat) (ks : List Cfg) (T sv : Nat) (vl : Value) (N : Nat) (S s : ByteArray) (hoff : ob = none → ks = [] ∧ sv = 0) (hK : keyN N S) (h1 : S.size ≤ maxLen) (h2 : s.size ≤ maxLen) (hT : T ≤ 1000) (hlen : ks.length ≤ T) (hsv : sv ≤ T) :
    ∃ (R : Bool) (ks' : List Cfg) (sv' : Nat), ks'.length ≤ T + 1 ∧ sv' ≤ T + 1 ∧
      (∀ (W : World) (v : Value), MmAt W p ob ks T sv → SetAt W v N → Calls Try.prog 17 #[.pointer (some ⟨p, 0, none⟩), v, .string s] W (MmPost p ob ks' (T + 1) sv' (.bool R) W)) ∧
      (∀ W : World, RmAt W q ob.isSome ks vl sv → Calls Try.prog 18 #[.pointer (some ⟨q, 0, none⟩), .agg #[.string S, .string s]] W (RaPost q ob.isSome ks' vl sv' (.bool R) W)) := by
  classical
  cases ob with
  | none =>
    obtain ⟨rfl, rfl⟩ := hoff rfl
    refine ⟨true, [], 0, by simp, by omega, fun W v hm hv => ?_, fun W hr => ?_⟩
    · refine (add_off p T v N s W hm hv).mono fun e w' ⟨he, hb⟩ => ⟨he, ?_, (Kept.of_below hb).mono (fun i hi e => absurd hi (by omega))⟩
      obtain ⟨a1, a2, a3, a4, a5, a6⟩ := hm.below hb
      exact ⟨a1, a2, a3, (fun b e => by cases e), a5, a6⟩
    · exact (radd_off q [] vl 0 S s W hr).mono fun e w' ⟨he, hb⟩ => ⟨vl, he, hr.below hb, (Kept.of_below hb).mono (fun i hi e => absurd hi (by omega)), fun g e => .inl e⟩
  | some b =>
    obtain ⟨B, hB⟩ : ∃ B : Bool, (B = true ↔ (S, s) ∈ ks) := ⟨decide ((S, s) ∈ ks), decide_eq_true_iff⟩
    refine ⟨!B, addK ks (S, s), addS ks (S, s) sv, ?_, ?_, fun W v hm hv => add_on p b ks T sv v N S s W hm hv hK h1 h2 (by omega) (by omega) B hB, fun W hr => radd_any q ks vl sv S s W hr (by omega) (by omega) B hB⟩
    · have := addK_len ks (S, s); omega
    · have := addS_le ks (S, s) sv; omega
/-- what is laid for a round -/
structure PlCut (wr : World) (N : Nat) (S s : ByteArray) (c8 c9 : Nat) (wx : World) : Prop where
  below : Below wr.heap.size wr wx
  set : ∃ u, wx.cell? ⟨c8, 0, none⟩ = some u ∧ SetAt wx (.agg #[u]) N
  k0 : wx.cell? ⟨c9, 0, none⟩ = some (.string S)
  k1 : wx.cell? ⟨c9, 1, none⟩ = some (.string s)
  g8 : wr.heap.size ≤ c8
  g9 : wr.heap.size ≤ c9
theorem plays_any (on : Bool) (l : List Act3) (n : Nat) (hn : n = l.length) (ao : Option Addr) (cap b o : Nat) (w : World) (hsl : SlAt w 3 n (l.flatMap Act3.cells) ao cap b o) (hx : ∀ x ∈ l, x.ok w) :
    Calls Try.prog 3 #[.bool on, .slice ao n cap] w fun e w' => e = .returned (.bool true) ∧ Below w.heap.size w w' := by
  have hidx := hsl.idx (P := Try.prog) (t := 22) (e := 37) (by kernel_rfl) size37 (by decide)
  have HL := Lib.hid hn
  have HS := Lib.hid hsl
  have HX := Lib.hid hx
  clear hn hsl hx
  go_enter Try.func3, Try.ntmps3
  go_wp2_with fail
  refine (few_any l n HL.out ao cap b o _ HS.out).mono ?_
  rintro e w0 ⟨B, rfl, rfl, hB⟩
  have HFew := Lib.hid hB
  clear hB
  cases B
  · go_wp2_with fail
    refine (awake_any _).mono ?_
    rintro e w1 ⟨rfl, hb1⟩
    go_wp2
    go_ret
    exact ⟨rfl, hb1⟩
  · have h100 : n ≤ 100 := by rw [HL.out]; exact (HFew.out (by first | rfl | trivial)).1
    go_wp2_with fail
    refine (new_any on w).mono ?_
    rintro e w1 ⟨p, ob, rfl, hm1, hob, hb1, hp1, hg1⟩
    have HI0 : Hid (PlInv w p w1.heap.size ob [] 0 0 (.slice none 0 0) (w1.alloc (.cells #[.bool on, .slice none 0 0, .int .i64 0] 30))) := Lib.hid ⟨hm1.below (ba (bz _) _), ⟨by rw [hob]; simp [go_sem], by simp [go_sem], by simp [go_sem], by simp [go_sem], by simp [go_sem], World.ownsRow_nil _ _ _ _⟩, ba hb1 _, hp1, hm1.lt, fun b e => ⟨hg1 b e, (hm1.m b e).1.lt⟩, Nat.le_refl _, Nat.le_refl _⟩
    have HOB := Lib.hid hob
    clear hm1 hob hb1 hp1 hg1
    go_wp2_with fail
    obtain ⟨q, hq⟩ : ∃ q, q = w1.heap.size := ⟨_, rfl⟩
    rw [← hq] at HI0 ⊢
    generalize w1.alloc (.cells #[.bool on, .slice none 0 0, .int .i64 0] 30) = W1 at *
    clear hq
    refine (on_any p ob _ HI0.out.m.c0).mono ?_
    rintro e w2 ⟨rfl, rfl⟩
    rw [HOB.out]
    go_wp2_with fail
    go_loopw [7] (fun t7 wr => ∃ i : Nat, i ≤ n ∧ t7 = .int .i64 i ∧ Hid (∃ ks T sv vl, T ≤ i ∧ PlInv w p q ob ks T sv vl wr)) (fun t7 _ => n - (intOf t7).toNat)
    case atStart => exact ⟨0, Nat.zero_le _, rfl, Lib.hid ⟨_, _, _, _, Nat.le_refl _, HI0.out⟩⟩
    case round =>
      obtain ⟨i, hi, rfl, hI⟩ := hrel
      obtain ⟨ks, T, sv, vl, hT, hI2⟩ := hI.out
      have HI := Lib.hid hI2
      clear hI hI2 HI0
      by_cases hlt : i < n
      · have i1 : (0 : Int) ≤ (i : Int) := by omega
        have i2 : (i : Int) < (n : Int) := by omega
        obtain ⟨x, hxk⟩ : ∃ x, l[i]? = some x := ⟨_, List.getElem?_eq_getElem (by rw [← HL.out]; exact hlt)⟩
        have SB := HS.out.below HI.out.below
        have g0 := SB.cell (i * 3 + 0) (.int .u8 x.what) (by rw [cell_of Act3.three l i x hxk 0 (by decide)]; rfl)
        have g1 := SB.cell (i * 3 + 1) (.slice x.ao x.l.length x.cap) (by rw [cell_of Act3.three l i x hxk 1 (by decide)]; rfl)
        have g2 := SB.cell (i * 3 + 2) (.string x.s) (by rw [cell_of Act3.three l i x hxk 2 (by decide)]; rfl)
        rw [Nat.add_zero] at g0
        rw [← Nat.add_assoc] at g1 g2
        have hsm := (HFew.out (by first | rfl | trivial)).2 i x hxk
        have hok := act_below (HX.out x (List.mem_of_getElem? hxk)) HI.out.below
        obtain ⟨S, hS, hSs⟩ := key_list x.l
        have HSK := Lib.hid (And.intro hS hSs)
        have HOF : Hid (∀ W, Below wr.heap.size wr W → Calls Try.prog 11 #[.slice x.ao x.l.length x.cap] W (SetPost (ofN x.l) W)) := Lib.hid (fun W hW => of_any x.l x.l.length rfl x.ao x.cap x.b x.o W (hok.l.below hW) (by omega))
        have HRO : Hid (∀ W, Below wr.heap.size wr W → Calls Try.prog 12 #[.slice x.ao x.l.length x.cap, .string x.s] W (OfPost S x.s W)) := Lib.hid (fun W hW => rof_any x.l x.l.length rfl x.ao x.cap x.b x.o S x.s W (hok.l.below hW) (by omega) hS)
        have HSM := Lib.hid hsm
        have HWH : Hid (in8 x.what) := Lib.hid hok.what
        have hcb : b < wr.heap.size := SB.lt (by rw [length_flat Act3.three]; have := HL.out; omega)
        clear SB hxk hsm hok hS hSs
        go_upto_region 9 with fail
        go_cut [8, 9] (fun t8 t9 wx => ∃ c8 c9 : Nat, t8 = .pointer (some ⟨c8, 0, none⟩) ∧ t9 = .pointer (some ⟨c9, 0, none⟩) ∧ Hid (PlCut wr (ofN x.l) S x.s c8 c9 wx))
        case first =>
          refine wp_region_held_drew (S := (fun W => W.cell? ⟨b, o + i * 3 + 1, none⟩ = some (.slice x.ao x.l.length x.cap) ∧ W.cell? ⟨b, o + i * 3 + 2, none⟩ = some (.string x.s))) (by kernel_rfl) (by exact ⟨g1, g2⟩) (fun hHeld => ?_)
          refine takeD (i := 0) (v := ?zvpl0) (some 34) rfl rfl (by kernel_rfl) (by kernel_rfl) (by kernel_rfl) (fun _ _ _ h => h) (Or.inl ⟨by rfl, ?zypl0⟩) (by assumption) ?zrpl0
          case zypl0 => (intro w hSw; clear hSw; go_simp; try with_reducible rfl)
          try simp only [Act.put, List.setIfInBounds_toArray, List.set_cons_zero, List.set_cons_succ]
          refine takeD (i := 1) (v := ?zvpl1) (some 35) rfl rfl (by kernel_rfl) (by kernel_rfl) (by kernel_rfl) (fun _ _ _ h => h) (Or.inl ⟨by rfl, ?zypl1⟩) (by assumption) ?zrpl1
          case zypl1 => (intro w hSw; clear hSw; go_simp; try with_reducible rfl)
          try simp only [Act.put, List.setIfInBounds_toArray, List.set_cons_zero, List.set_cons_succ]
          refine takeD (i := 2) (v := ?zvpl2) (some 36) rfl rfl (by kernel_rfl) (by kernel_rfl) (by kernel_rfl) (fun _ _ _ h => h) (Or.inl ⟨by rfl, ?zypl2⟩) (by assumption) ?zrpl2
          case zypl2 => (intro w hSw; refine idx_act hidx i1 i2 ?_ ?_ <;> rfl)
          try simp only [Act.put, List.setIfInBounds_toArray, List.set_cons_zero, List.set_cons_succ]
          refine takeD (i := 3) (v := ?zvpl3) (some 37) rfl rfl (by kernel_rfl) (by kernel_rfl) (by kernel_rfl) (fun _ _ _ h => h) (Or.inl ⟨by rfl, ?zypl3⟩) (by assumption) ?zrpl3
          case zypl3 => (intro w hSw; clear hSw; go_simp; try with_reducible rfl)
          try simp only [Act.put, List.setIfInBounds_toArray, List.set_cons_zero, List.set_cons_succ]
          refine takeD (i := 4) (v := ?zvpl4) (some 38) rfl rfl (by kernel_rfl) (by kernel_rfl) (by kernel_rfl) (fun _ _ _ h => h) (Or.inl ⟨by rfl, ?zypl4⟩) (by assumption) ?zrpl4
          case zypl4 => (intro w hSw; refine load_one35 hSw.1 ?_; rfl)
          try simp only [Act.put, List.setIfInBounds_toArray, List.set_cons_zero, List.set_cons_succ]
          refine takeD (i := 6) (v := ?zvpl6) (some 40) rfl rfl (by kernel_rfl) (by kernel_rfl) (by kernel_rfl) (fun _ _ _ h => h) (Or.inl ⟨by rfl, ?zypl6⟩) (by assumption) ?zrpl6
          case zypl6 => (intro w hSw; clear hSw; go_simp; try with_reducible rfl)
          try simp only [Act.put, List.setIfInBounds_toArray, List.set_cons_zero, List.set_cons_succ]
          refine takeD (i := 7) (v := ?zvpl7) (some 41) rfl rfl (by kernel_rfl) (by kernel_rfl) (by kernel_rfl) (fun _ _ _ h => h) (Or.inl ⟨by rfl, ?zypl7⟩) (by assumption) ?zrpl7
          case zypl7 => (intro w hSw; clear hSw; go_simp; try with_reducible rfl)
          try simp only [Act.put, List.setIfInBounds_toArray, List.set_cons_zero, List.set_cons_succ]
          refine takeD (i := 8) (v := ?zvpl8) (some 42) rfl rfl (by kernel_rfl) (by kernel_rfl) (by kernel_rfl) (fun _ _ _ h => h) (Or.inl ⟨by rfl, ?zypl8⟩) (by assumption) ?zrpl8
          case zypl8 => (intro w hSw; refine idx_act hidx i1 i2 ?_ ?_ <;> rfl)
          try simp only [Act.put, List.setIfInBounds_toArray, List.set_cons_zero, List.set_cons_succ]
          refine takeD (i := 9) (v := ?zvpl9) (some 43) rfl rfl (by kernel_rfl) (by kernel_rfl) (by kernel_rfl) (fun _ _ _ h => h) (Or.inl ⟨by rfl, ?zypl9⟩) (by assumption) ?zrpl9
          case zypl9 => (intro w hSw; clear hSw; go_simp; try with_reducible rfl)
          try simp only [Act.put, List.setIfInBounds_toArray, List.set_cons_zero, List.set_cons_succ]
          refine takeD (i := 10) (v := ?zvpl10) (some 44) rfl rfl (by kernel_rfl) (by kernel_rfl) (by kernel_rfl) (fun _ _ _ h => h) (Or.inl ⟨by rfl, ?zypl10⟩) (by assumption) ?zrpl10
          case zypl10 => (intro w hSw; refine load_one35 hSw.1 ?_; rfl)
          try simp only [Act.put, List.setIfInBounds_toArray, List.set_cons_zero, List.set_cons_succ]
          refine takeD (i := 11) (v := ?zvpl11) (some 45) rfl rfl (by kernel_rfl) (by kernel_rfl) (by kernel_rfl) (fun _ _ _ h => h) (Or.inl ⟨by rfl, ?zypl11⟩) (by assumption) ?zrpl11
          case zypl11 => (intro w hSw; clear hSw; go_simp; try with_reducible rfl)
          try simp only [Act.put, List.setIfInBounds_toArray, List.set_cons_zero, List.set_cons_succ]
          refine takeD (i := 12) (v := ?zvpl12) (some 46) rfl rfl (by kernel_rfl) (by kernel_rfl) (by kernel_rfl) (fun _ _ _ h => h) (Or.inl ⟨by rfl, ?zypl12⟩) (by assumption) ?zrpl12
          case zypl12 => (intro w hSw; clear hSw; go_simp; try with_reducible rfl)
          try simp only [Act.put, List.setIfInBounds_toArray, List.set_cons_zero, List.set_cons_succ]
          refine takeD (i := 13) (v := ?zvpl13) (some 47) rfl rfl (by kernel_rfl) (by kernel_rfl) (by kernel_rfl) (fun _ _ _ h => h) (Or.inl ⟨by rfl, ?zypl13⟩) (by assumption) ?zrpl13
          case zypl13 => (intro w hSw; refine idx_act hidx i1 i2 ?_ ?_ <;> rfl)
          try simp only [Act.put, List.setIfInBounds_toArray, List.set_cons_zero, List.set_cons_succ]
          refine takeD (i := 14) (v := ?zvpl14) (some 48) rfl rfl (by kernel_rfl) (by kernel_rfl) (by kernel_rfl) (fun _ _ _ h => h) (Or.inl ⟨by rfl, ?zypl14⟩) (by assumption) ?zrpl14
          case zypl14 => (intro w hSw; clear hSw; go_simp; try with_reducible rfl)
          try simp only [Act.put, List.setIfInBounds_toArray, List.set_cons_zero, List.set_cons_succ]
          refine takeD (i := 15) (v := ?zvpl15) (some 49) rfl rfl (by kernel_rfl) (by kernel_rfl) (by kernel_rfl) (fun _ _ _ h => h) (Or.inl ⟨by rfl, ?zypl15⟩) (by assumption) ?zrpl15
          case zypl15 => (intro w hSw; refine load_one9 hSw.2 ?_; rfl)
          try simp only [Act.put, List.setIfInBounds_toArray, List.set_cons_zero, List.set_cons_succ]
          have hBW : Below wr.heap.size wr wr.drew := (bz wr).drew
          replace g1 := keep_drew g1
          replace g2 := keep_drew g2
          clear g0
          generalize wr.drew = W0 at *
          refine wpAnyH_ready (rs := [5, 17, 18]) (by kernel_rfl) (by simp) ?_
          refine AllReadyH.cons rfl (fun K hK => ?t1n5) (AllReadyH.cons rfl (fun K hK => ?t1n17) (AllReadyH.cons rfl (fun K hK => ?t1n18) AllReadyH.nil))
          case t1n5 =>
            go_simp
            refine (HOF.out W0 hBW).mono ?_
            rintro e W1 ⟨v3, rfl, hset, hb⟩
            obtain ⟨m3, ao3, cap3, b3, o3, rfl, _⟩ := id hset
            replace g1 := cell_past hb g1
            replace g2 := cell_past hb g2
            replace hBW := bt hBW hb
            clear hb
            go_wp2_with fail
            refine hK.out _ _ (by exact ⟨g1, g2⟩) (fun hHeld2 => ?_)
            clear hK K
            clear hHeld
            have hHeld := hHeld2
            clear hHeld2
            try simp only [Act.put, List.setIfInBounds_toArray, List.set_cons_zero, List.set_cons_succ]
            refine wpAnyH_ready (rs := [16, 17, 18]) (by kernel_rfl) (by simp) ?_
            refine AllReadyH.cons rfl (fun K hK => ?t2n16) (AllReadyH.cons rfl (fun K hK => ?t2n17) (AllReadyH.cons rfl (fun K hK => ?t2n18) AllReadyH.nil))
            case t2n16 =>
              go_simp
              refine (HRO.out W1 hBW).mono ?_
              rintro e W2 ⟨rfl, hb⟩
              replace g1 := cell_past hb g1
              replace g2 := cell_past hb g2
              replace hBW := bt hBW hb
              replace hset := hset.below hb
              clear hb
              go_wp2_with fail
              refine hK.out _ _ (by exact ⟨g1, g2⟩) (fun hHeld2 => ?_)
              clear hK K
              clear hHeld
              have hHeld := hHeld2
              clear hHeld2
              try simp only [Act.put, List.setIfInBounds_toArray, List.set_cons_zero, List.set_cons_succ]
              refine wpAnyH_ready (rs := [17, 18]) (by kernel_rfl) (by simp) ?_
              refine AllReadyH.cons rfl (fun K hK => ?t3n17) (AllReadyH.cons rfl (fun K hK => ?t3n18) AllReadyH.nil)
              case t3n17 =>
                go_simp
                obtain ⟨c8, hc8⟩ : ∃ c, c = W2.heap.size := ⟨_, rfl⟩
                have hgec8 : wr.heap.size ≤ c8 := by rw [hc8]; exact hBW.size
                refine hK.out _ _ (by exact ⟨keep_alloc g1 _, keep_alloc g2 _⟩) (fun hHeld2 => ?_)
                clear hK K
                clear hHeld
                have hHeld := hHeld2
                clear hHeld2
                try simp only [Act.put, List.setIfInBounds_toArray, List.set_cons_zero, List.set_cons_succ]
                have x8 : (W2.alloc (.cells #[.slice none 0 0] 33)).cell? ⟨c8, 0, none⟩ = some (.slice none 0 0) := by rw [hc8]; simp [go_sem]
                have f8 : (W2.alloc (.cells #[.slice none 0 0] 33)).frozen? ⟨c8, 0, none⟩ = false := by rw [hc8]; simp [go_sem]
                replace g1 := keep_alloc g1 (.cells #[.slice none 0 0] 33)
                replace g2 := keep_alloc g2 (.cells #[.slice none 0 0] 33)
                replace hset := hset.below (ba (bz _) (.cells #[.slice none 0 0] 33))
                replace hBW := ba hBW (.cells #[.slice none 0 0] 33)
                rw [← hc8]
                generalize (W2.alloc (.cells #[.slice none 0 0] 33)) = W3 at *
                clear hc8
                refine wpAnyH_ready (rs := [18]) (by kernel_rfl) (by simp) ?_
                refine AllReadyH.cons rfl (fun K hK => ?_) AllReadyH.nil
                go_simp
                obtain ⟨c9, hc9⟩ : ∃ c, c = W3.heap.size := ⟨_, rfl⟩
                have hgec9 : wr.heap.size ≤ c9 := by rw [hc9]; exact hBW.size
                refine hK.out _ _ (by exact ⟨keep_alloc g1 _, keep_alloc g2 _⟩) (fun hHeld2 => ?_)
                clear hK K
                clear hHeld
                have hHeld := hHeld2
                clear hHeld2
                try simp only [Act.put, List.setIfInBounds_toArray, List.set_cons_zero, List.set_cons_succ]
                have x9 : (W3.alloc (.cells #[.string ⟨#[]⟩, .string ⟨#[]⟩] 39)).cell? ⟨c9, 0, none⟩ = some (.string ⟨#[]⟩) := by rw [hc9]; simp [go_sem]
                have x9b : (W3.alloc (.cells #[.string ⟨#[]⟩, .string ⟨#[]⟩] 39)).cell? ⟨c9, 1, none⟩ = some (.string ⟨#[]⟩) := by rw [hc9]; simp [go_sem]
                have f9 : (W3.alloc (.cells #[.string ⟨#[]⟩, .string ⟨#[]⟩] 39)).frozen? ⟨c9, 0, none⟩ = false := by rw [hc9]; simp [go_sem]
                have f9b : (W3.alloc (.cells #[.string ⟨#[]⟩, .string ⟨#[]⟩] 39)).frozen? ⟨c9, 1, none⟩ = false := by rw [hc9]; simp [go_sem]
                replace g1 := keep_alloc g1 (.cells #[.string ⟨#[]⟩, .string ⟨#[]⟩] 39)
                replace g2 := keep_alloc g2 (.cells #[.string ⟨#[]⟩, .string ⟨#[]⟩] 39)
                have hne89 : ¬ c8 = c9 := by have := World.block_lt_of_cell? _ _ x8; simp only at this; omega
                replace f8 := kf (ba (bz _) (.cells #[.string ⟨#[]⟩, .string ⟨#[]⟩] 39)) _ _ (World.block_lt_of_cell? _ _ x8) f8
                replace x8 := keep_alloc x8 (.cells #[.string ⟨#[]⟩, .string ⟨#[]⟩] 39)
                replace hset := hset.below (ba (bz _) (.cells #[.string ⟨#[]⟩, .string ⟨#[]⟩] 39))
                replace hBW := ba hBW (.cells #[.string ⟨#[]⟩, .string ⟨#[]⟩] 39)
                rw [← hc9]
                generalize (W3.alloc (.cells #[.string ⟨#[]⟩, .string ⟨#[]⟩] 39)) = W4 at *
                clear hc9
                refine wpAnyH_ready (rs := [19]) (by kernel_rfl) (by simp) ?_
                refine AllReadyH.cons rfl (fun K hK => ?_) AllReadyH.nil
                go_simp
                refine hK.out _ _ (by exact ⟨keep_set g1 (by simp; omega), keep_set g2 (by simp; omega)⟩) (fun hHeld2 => ?_)
                clear hK K
                clear hHeld
                have hHeld := hHeld2
                clear hHeld2
                try simp only [Act.put, List.setIfInBounds_toArray, List.set_cons_zero, List.set_cons_succ]
                have y8 : (W4.setCell ⟨c8, 0, none⟩ (.slice ao3 m3 cap3)).cell? ⟨c8, 0, none⟩ = some (.slice ao3 m3 cap3) := by simp [go_sem, x8]
                replace hset := set_other hset x8 (fun _ => by simp) (.slice ao3 m3 cap3)
                replace x9 := keep_set (p := ⟨c8, 0, none⟩) (u := .slice ao3 m3 cap3) x9 hne89
                replace x9b := keep_set (p := ⟨c8, 0, none⟩) (u := .slice ao3 m3 cap3) x9b hne89
                have f9x : (W4.setCell ⟨c8, 0, none⟩ (.slice ao3 m3 cap3)).frozen? ⟨c9, 0, none⟩ = false := by simp [go_sem, f9]
                have f9y : (W4.setCell ⟨c8, 0, none⟩ (.slice ao3 m3 cap3)).frozen? ⟨c9, 1, none⟩ = false := by simp [go_sem, f9b]
                replace hBW := bs hBW (p := ⟨c8, 0, none⟩) hgec8 (.slice ao3 m3 cap3)
                replace g1 := keep_set (p := ⟨c8, 0, none⟩) (u := .slice ao3 m3 cap3) g1 (by simp; omega)
                replace g2 := keep_set (p := ⟨c8, 0, none⟩) (u := .slice ao3 m3 cap3) g2 (by simp; omega)
                clear x8 f8 f9 f9b
                generalize (W4.setCell ⟨c8, 0, none⟩ (.slice ao3 m3 cap3)) = W5 at *
                refine wpAnyH_ready (rs := [20]) (by kernel_rfl) (by simp) ?_
                refine AllReadyH.cons rfl (fun K hK => ?_) AllReadyH.nil
                go_simp
                refine hK.out _ _ (by exact ⟨keep_set (keep_set g1 (by simp; omega)) (by simp; omega), keep_set (keep_set g2 (by simp; omega)) (by simp; omega)⟩) (fun hHeld2 => ?_)
                clear hK K
                refine wpAnyH_done (by kernel_rfl) ?_ _
                go_wp2_with fail
                go_meet
                have hs1 := set_other hset x9 (fun _ => by simp) (.string S)
                have hs2 := set_other hs1 (p := ⟨c9, 1, none⟩) (u0 := .string ⟨#[]⟩) (by simp [go_sem, x9b]) (fun _ => by simp) (.string x.s)
                exact ⟨c8, c9, rfl, rfl, Lib.hid ⟨bs (bs hBW hgec9 _) hgec9 _, ⟨_, keep_set (keep_set y8 (fun e => hne89 e.symm)) (fun e => hne89 e.symm), hs2⟩, by simp [go_sem, x9], by simp [go_sem, x9b], hgec8, hgec9⟩⟩
              case t3n18 =>
                go_simp
                obtain ⟨c9, hc9⟩ : ∃ c, c = W2.heap.size := ⟨_, rfl⟩
                have hgec9 : wr.heap.size ≤ c9 := by rw [hc9]; exact hBW.size
                refine hK.out _ _ (by exact ⟨keep_alloc g1 _, keep_alloc g2 _⟩) (fun hHeld2 => ?_)
                clear hK K
                clear hHeld
                have hHeld := hHeld2
                clear hHeld2
                try simp only [Act.put, List.setIfInBounds_toArray, List.set_cons_zero, List.set_cons_succ]
                have x9 : (W2.alloc (.cells #[.string ⟨#[]⟩, .string ⟨#[]⟩] 39)).cell? ⟨c9, 0, none⟩ = some (.string ⟨#[]⟩) := by rw [hc9]; simp [go_sem]
                have x9b : (W2.alloc (.cells #[.string ⟨#[]⟩, .string ⟨#[]⟩] 39)).cell? ⟨c9, 1, none⟩ = some (.string ⟨#[]⟩) := by rw [hc9]; simp [go_sem]
                have f9 : (W2.alloc (.cells #[.string ⟨#[]⟩, .string ⟨#[]⟩] 39)).frozen? ⟨c9, 0, none⟩ = false := by rw [hc9]; simp [go_sem]
                have f9b : (W2.alloc (.cells #[.string ⟨#[]⟩, .string ⟨#[]⟩] 39)).frozen? ⟨c9, 1, none⟩ = false := by rw [hc9]; simp [go_sem]
                replace g1 := keep_alloc g1 (.cells #[.string ⟨#[]⟩, .string ⟨#[]⟩] 39)
                replace g2 := keep_alloc g2 (.cells #[.string ⟨#[]⟩, .string ⟨#[]⟩] 39)
                replace hset := hset.below (ba (bz _) (.cells #[.string ⟨#[]⟩, .string ⟨#[]⟩] 39))
                replace hBW := ba hBW (.cells #[.string ⟨#[]⟩, .string ⟨#[]⟩] 39)
                rw [← hc9]
                generalize (W2.alloc (.cells #[.string ⟨#[]⟩, .string ⟨#[]⟩] 39)) = W3 at *
                clear hc9
                refine wpAnyH_ready (rs := [17]) (by kernel_rfl) (by simp) ?_
                refine AllReadyH.cons rfl (fun K hK => ?_) AllReadyH.nil
                go_simp
                obtain ⟨c8, hc8⟩ : ∃ c, c = W3.heap.size := ⟨_, rfl⟩
                have hgec8 : wr.heap.size ≤ c8 := by rw [hc8]; exact hBW.size
                refine hK.out _ _ (by exact ⟨keep_alloc g1 _, keep_alloc g2 _⟩) (fun hHeld2 => ?_)
                clear hK K
                clear hHeld
                have hHeld := hHeld2
                clear hHeld2
                try simp only [Act.put, List.setIfInBounds_toArray, List.set_cons_zero, List.set_cons_succ]
                have x8 : (W3.alloc (.cells #[.slice none 0 0] 33)).cell? ⟨c8, 0, none⟩ = some (.slice none 0 0) := by rw [hc8]; simp [go_sem]
                have f8 : (W3.alloc (.cells #[.slice none 0 0] 33)).frozen? ⟨c8, 0, none⟩ = false := by rw [hc8]; simp [go_sem]
                replace g1 := keep_alloc g1 (.cells #[.slice none 0 0] 33)
                replace g2 := keep_alloc g2 (.cells #[.slice none 0 0] 33)
                have hne89 : ¬ c8 = c9 := by have := World.block_lt_of_cell? _ _ x9; simp only at this; omega
                replace f9 := kf (ba (bz _) (.cells #[.slice none 0 0] 33)) _ _ (World.block_lt_of_cell? _ _ x9) f9
                replace f9b := kf (ba (bz _) (.cells #[.slice none 0 0] 33)) _ _ (World.block_lt_of_cell? _ _ x9) f9b
                replace x9 := keep_alloc x9 (.cells #[.slice none 0 0] 33)
                replace x9b := keep_alloc x9b (.cells #[.slice none 0 0] 33)
                replace hset := hset.below (ba (bz _) (.cells #[.slice none 0 0] 33))
                replace hBW := ba hBW (.cells #[.slice none 0 0] 33)
                rw [← hc8]
                generalize (W3.alloc (.cells #[.slice none 0 0] 33)) = W4 at *
                clear hc8
                refine wpAnyH_ready (rs := [19]) (by kernel_rfl) (by simp) ?_
                refine AllReadyH.cons rfl (fun K hK => ?_) AllReadyH.nil
                go_simp
                refine hK.out _ _ (by exact ⟨keep_set g1 (by simp; omega), keep_set g2 (by simp; omega)⟩) (fun hHeld2 => ?_)
                clear hK K
                clear hHeld
                have hHeld := hHeld2
                clear hHeld2
                try simp only [Act.put, List.setIfInBounds_toArray, List.set_cons_zero, List.set_cons_succ]
                have y8 : (W4.setCell ⟨c8, 0, none⟩ (.slice ao3 m3 cap3)).cell? ⟨c8, 0, none⟩ = some (.slice ao3 m3 cap3) := by simp [go_sem, x8]
                replace hset := set_other hset x8 (fun _ => by simp) (.slice ao3 m3 cap3)
                replace x9 := keep_set (p := ⟨c8, 0, none⟩) (u := .slice ao3 m3 cap3) x9 hne89
                replace x9b := keep_set (p := ⟨c8, 0, none⟩) (u := .slice ao3 m3 cap3) x9b hne89
                have f9x : (W4.setCell ⟨c8, 0, none⟩ (.slice ao3 m3 cap3)).frozen? ⟨c9, 0, none⟩ = false := by simp [go_sem, f9]
                have f9y : (W4.setCell ⟨c8, 0, none⟩ (.slice ao3 m3 cap3)).frozen? ⟨c9, 1, none⟩ = false := by simp [go_sem, f9b]
                replace hBW := bs hBW (p := ⟨c8, 0, none⟩) hgec8 (.slice ao3 m3 cap3)
                replace g1 := keep_set (p := ⟨c8, 0, none⟩) (u := .slice ao3 m3 cap3) g1 (by simp; omega)
                replace g2 := keep_set (p := ⟨c8, 0, none⟩) (u := .slice ao3 m3 cap3) g2 (by simp; omega)
                clear x8 f8 f9 f9b
                generalize (W4.setCell ⟨c8, 0, none⟩ (.slice ao3 m3 cap3)) = W5 at *
                refine wpAnyH_ready (rs := [20]) (by kernel_rfl) (by simp) ?_
                refine AllReadyH.cons rfl (fun K hK => ?_) AllReadyH.nil
                go_simp
                refine hK.out _ _ (by exact ⟨keep_set (keep_set g1 (by simp; omega)) (by simp; omega), keep_set (keep_set g2 (by simp; omega)) (by simp; omega)⟩) (fun hHeld2 => ?_)
                clear hK K
                refine wpAnyH_done (by kernel_rfl) ?_ _
                go_wp2_with fail
                go_meet
                have hs1 := set_other hset x9 (fun _ => by simp) (.string S)
                have hs2 := set_other hs1 (p := ⟨c9, 1, none⟩) (u0 := .string ⟨#[]⟩) (by simp [go_sem, x9b]) (fun _ => by simp) (.string x.s)
                exact ⟨c8, c9, rfl, rfl, Lib.hid ⟨bs (bs hBW hgec9 _) hgec9 _, ⟨_, keep_set (keep_set y8 (fun e => hne89 e.symm)) (fun e => hne89 e.symm), hs2⟩, by simp [go_sem, x9], by simp [go_sem, x9b], hgec8, hgec9⟩⟩
            case t2n17 =>
              go_simp
              obtain ⟨c8, hc8⟩ : ∃ c, c = W1.heap.size := ⟨_, rfl⟩
              have hgec8 : wr.heap.size ≤ c8 := by rw [hc8]; exact hBW.size
              refine hK.out _ _ (by exact ⟨keep_alloc g1 _, keep_alloc g2 _⟩) (fun hHeld2 => ?_)
              clear hK K
              clear hHeld
              have hHeld := hHeld2
              clear hHeld2
              try simp only [Act.put, List.setIfInBounds_toArray, List.set_cons_zero, List.set_cons_succ]
              have x8 : (W1.alloc (.cells #[.slice none 0 0] 33)).cell? ⟨c8, 0, none⟩ = some (.slice none 0 0) := by rw [hc8]; simp [go_sem]
              have f8 : (W1.alloc (.cells #[.slice none 0 0] 33)).frozen? ⟨c8, 0, none⟩ = false := by rw [hc8]; simp [go_sem]
              replace g1 := keep_alloc g1 (.cells #[.slice none 0 0] 33)
              replace g2 := keep_alloc g2 (.cells #[.slice none 0 0] 33)
              replace hset := hset.below (ba (bz _) (.cells #[.slice none 0 0] 33))
              replace hBW := ba hBW (.cells #[.slice none 0 0] 33)
              rw [← hc8]
              generalize (W1.alloc (.cells #[.slice none 0 0] 33)) = W2 at *
              clear hc8
              refine wpAnyH_ready (rs := [16, 18]) (by kernel_rfl) (by simp) ?_
              refine AllReadyH.cons rfl (fun K hK => ?t4n16) (AllReadyH.cons rfl (fun K hK => ?t4n18) AllReadyH.nil)
              case t4n16 =>
                go_simp
                refine (HRO.out W2 hBW).mono ?_
                rintro e W3 ⟨rfl, hb⟩
                replace g1 := cell_past hb g1
                replace g2 := cell_past hb g2
                replace hBW := bt hBW hb
                replace hset := hset.below hb
                replace f8 := kf hb _ _ (World.block_lt_of_cell? _ _ x8) f8
                replace x8 := cell_past hb x8
                clear hb
                go_wp2_with fail
                refine hK.out _ _ (by exact ⟨g1, g2⟩) (fun hHeld2 => ?_)
                clear hK K
                clear hHeld
                have hHeld := hHeld2
                clear hHeld2
                try simp only [Act.put, List.setIfInBounds_toArray, List.set_cons_zero, List.set_cons_succ]
                refine wpAnyH_ready (rs := [18]) (by kernel_rfl) (by simp) ?_
                refine AllReadyH.cons rfl (fun K hK => ?_) AllReadyH.nil
                go_simp
                obtain ⟨c9, hc9⟩ : ∃ c, c = W3.heap.size := ⟨_, rfl⟩
                have hgec9 : wr.heap.size ≤ c9 := by rw [hc9]; exact hBW.size
                refine hK.out _ _ (by exact ⟨keep_alloc g1 _, keep_alloc g2 _⟩) (fun hHeld2 => ?_)
                clear hK K
                clear hHeld
                have hHeld := hHeld2
                clear hHeld2
                try simp only [Act.put, List.setIfInBounds_toArray, List.set_cons_zero, List.set_cons_succ]
                have x9 : (W3.alloc (.cells #[.string ⟨#[]⟩, .string ⟨#[]⟩] 39)).cell? ⟨c9, 0, none⟩ = some (.string ⟨#[]⟩) := by rw [hc9]; simp [go_sem]
                have x9b : (W3.alloc (.cells #[.string ⟨#[]⟩, .string ⟨#[]⟩] 39)).cell? ⟨c9, 1, none⟩ = some (.string ⟨#[]⟩) := by rw [hc9]; simp [go_sem]
                have f9 : (W3.alloc (.cells #[.string ⟨#[]⟩, .string ⟨#[]⟩] 39)).frozen? ⟨c9, 0, none⟩ = false := by rw [hc9]; simp [go_sem]
                have f9b : (W3.alloc (.cells #[.string ⟨#[]⟩, .string ⟨#[]⟩] 39)).frozen? ⟨c9, 1, none⟩ = false := by rw [hc9]; simp [go_sem]
                replace g1 := keep_alloc g1 (.cells #[.string ⟨#[]⟩, .string ⟨#[]⟩] 39)
                replace g2 := keep_alloc g2 (.cells #[.string ⟨#[]⟩, .string ⟨#[]⟩] 39)
                have hne89 : ¬ c8 = c9 := by have := World.block_lt_of_cell? _ _ x8; simp only at this; omega
                replace f8 := kf (ba (bz _) (.cells #[.string ⟨#[]⟩, .string ⟨#[]⟩] 39)) _ _ (World.block_lt_of_cell? _ _ x8) f8
                replace x8 := keep_alloc x8 (.cells #[.string ⟨#[]⟩, .string ⟨#[]⟩] 39)
                replace hset := hset.below (ba (bz _) (.cells #[.string ⟨#[]⟩, .string ⟨#[]⟩] 39))
                replace hBW := ba hBW (.cells #[.string ⟨#[]⟩, .string ⟨#[]⟩] 39)
                rw [← hc9]
                generalize (W3.alloc (.cells #[.string ⟨#[]⟩, .string ⟨#[]⟩] 39)) = W4 at *
                clear hc9
                refine wpAnyH_ready (rs := [19]) (by kernel_rfl) (by simp) ?_
                refine AllReadyH.cons rfl (fun K hK => ?_) AllReadyH.nil
                go_simp
                refine hK.out _ _ (by exact ⟨keep_set g1 (by simp; omega), keep_set g2 (by simp; omega)⟩) (fun hHeld2 => ?_)
                clear hK K
                clear hHeld
                have hHeld := hHeld2
                clear hHeld2
                try simp only [Act.put, List.setIfInBounds_toArray, List.set_cons_zero, List.set_cons_succ]
                have y8 : (W4.setCell ⟨c8, 0, none⟩ (.slice ao3 m3 cap3)).cell? ⟨c8, 0, none⟩ = some (.slice ao3 m3 cap3) := by simp [go_sem, x8]
                replace hset := set_other hset x8 (fun _ => by simp) (.slice ao3 m3 cap3)
                replace x9 := keep_set (p := ⟨c8, 0, none⟩) (u := .slice ao3 m3 cap3) x9 hne89
                replace x9b := keep_set (p := ⟨c8, 0, none⟩) (u := .slice ao3 m3 cap3) x9b hne89
                have f9x : (W4.setCell ⟨c8, 0, none⟩ (.slice ao3 m3 cap3)).frozen? ⟨c9, 0, none⟩ = false := by simp [go_sem, f9]
                have f9y : (W4.setCell ⟨c8, 0, none⟩ (.slice ao3 m3 cap3)).frozen? ⟨c9, 1, none⟩ = false := by simp [go_sem, f9b]
                replace hBW := bs hBW (p := ⟨c8, 0, none⟩) hgec8 (.slice ao3 m3 cap3)
                replace g1 := keep_set (p := ⟨c8, 0, none⟩) (u := .slice ao3 m3 cap3) g1 (by simp; omega)
                replace g2 := keep_set (p := ⟨c8, 0, none⟩) (u := .slice ao3 m3 cap3) g2 (by simp; omega)
                clear x8 f8 f9 f9b
                generalize (W4.setCell ⟨c8, 0, none⟩ (.slice ao3 m3 cap3)) = W5 at *
                refine wpAnyH_ready (rs := [20]) (by kernel_rfl) (by simp) ?_
                refine AllReadyH.cons rfl (fun K hK => ?_) AllReadyH.nil
                go_simp
                refine hK.out _ _ (by exact ⟨keep_set (keep_set g1 (by simp; omega)) (by simp; omega), keep_set (keep_set g2 (by simp; omega)) (by simp; omega)⟩) (fun hHeld2 => ?_)
                clear hK K
                refine wpAnyH_done (by kernel_rfl) ?_ _
                go_wp2_with fail
                go_meet
                have hs1 := set_other hset x9 (fun _ => by simp) (.string S)
                have hs2 := set_other hs1 (p := ⟨c9, 1, none⟩) (u0 := .string ⟨#[]⟩) (by simp [go_sem, x9b]) (fun _ => by simp) (.string x.s)
                exact ⟨c8, c9, rfl, rfl, Lib.hid ⟨bs (bs hBW hgec9 _) hgec9 _, ⟨_, keep_set (keep_set y8 (fun e => hne89 e.symm)) (fun e => hne89 e.symm), hs2⟩, by simp [go_sem, x9], by simp [go_sem, x9b], hgec8, hgec9⟩⟩
              case t4n18 =>
                go_simp
                obtain ⟨c9, hc9⟩ : ∃ c, c = W2.heap.size := ⟨_, rfl⟩
                have hgec9 : wr.heap.size ≤ c9 := by rw [hc9]; exact hBW.size
                refine hK.out _ _ (by exact ⟨keep_alloc g1 _, keep_alloc g2 _⟩) (fun hHeld2 => ?_)
                clear hK K
                clear hHeld
                have hHeld := hHeld2
                clear hHeld2
                try simp only [Act.put, List.setIfInBounds_toArray, List.set_cons_zero, List.set_cons_succ]
                have x9 : (W2.alloc (.cells #[.string ⟨#[]⟩, .string ⟨#[]⟩] 39)).cell? ⟨c9, 0, none⟩ = some (.string ⟨#[]⟩) := by rw [hc9]; simp [go_sem]
                have x9b : (W2.alloc (.cells #[.string ⟨#[]⟩, .string ⟨#[]⟩] 39)).cell? ⟨c9, 1, none⟩ = some (.string ⟨#[]⟩) := by rw [hc9]; simp [go_sem]
                have f9 : (W2.alloc (.cells #[.string ⟨#[]⟩, .string ⟨#[]⟩] 39)).frozen? ⟨c9, 0, none⟩ = false := by rw [hc9]; simp [go_sem]
                have f9b : (W2.alloc (.cells #[.string ⟨#[]⟩, .string ⟨#[]⟩] 39)).frozen? ⟨c9, 1, none⟩ = false := by rw [hc9]; simp [go_sem]
                replace g1 := keep_alloc g1 (.cells #[.string ⟨#[]⟩, .string ⟨#[]⟩] 39)
                replace g2 := keep_alloc g2 (.cells #[.string ⟨#[]⟩, .string ⟨#[]⟩] 39)
                have hne89 : ¬ c8 = c9 := by have := World.block_lt_of_cell? _ _ x8; simp only at this; omega
                replace f8 := kf (ba (bz _) (.cells #[.string ⟨#[]⟩, .string ⟨#[]⟩] 39)) _ _ (World.block_lt_of_cell? _ _ x8) f8
                replace x8 := keep_alloc x8 (.cells #[.string ⟨#[]⟩, .string ⟨#[]⟩] 39)
                replace hset := hset.below (ba (bz _) (.cells #[.string ⟨#[]⟩, .string ⟨#[]⟩] 39))
                replace hBW := ba hBW (.cells #[.string ⟨#[]⟩, .string ⟨#[]⟩] 39)
                rw [← hc9]
                generalize (W2.alloc (.cells #[.string ⟨#[]⟩, .string ⟨#[]⟩] 39)) = W3 at *
                clear hc9
                refine wpAnyH_ready (rs := [16]) (by kernel_rfl) (by simp) ?_
                refine AllReadyH.cons rfl (fun K hK => ?_) AllReadyH.nil
                go_simp
                refine (HRO.out W3 hBW).mono ?_
                rintro e W4 ⟨rfl, hb⟩
                replace g1 := cell_past hb g1
                replace g2 := cell_past hb g2
                replace hBW := bt hBW hb
                replace hset := hset.below hb
                replace f8 := kf hb _ _ (World.block_lt_of_cell? _ _ x8) f8
                replace x8 := cell_past hb x8
                replace f9 := kf hb _ _ (World.block_lt_of_cell? _ _ x9) f9
                replace f9b := kf hb _ _ (World.block_lt_of_cell? _ _ x9) f9b
                replace x9 := cell_past hb x9
                replace x9b := cell_past hb x9b
                clear hb
                go_wp2_with fail
                refine hK.out _ _ (by exact ⟨g1, g2⟩) (fun hHeld2 => ?_)
                clear hK K
                clear hHeld
                have hHeld := hHeld2
                clear hHeld2
                try simp only [Act.put, List.setIfInBounds_toArray, List.set_cons_zero, List.set_cons_succ]
                refine wpAnyH_ready (rs := [19]) (by kernel_rfl) (by simp) ?_
                refine AllReadyH.cons rfl (fun K hK => ?_) AllReadyH.nil
                go_simp
                refine hK.out _ _ (by exact ⟨keep_set g1 (by simp; omega), keep_set g2 (by simp; omega)⟩) (fun hHeld2 => ?_)
                clear hK K
                clear hHeld
                have hHeld := hHeld2
                clear hHeld2
                try simp only [Act.put, List.setIfInBounds_toArray, List.set_cons_zero, List.set_cons_succ]
                have y8 : (W4.setCell ⟨c8, 0, none⟩ (.slice ao3 m3 cap3)).cell? ⟨c8, 0, none⟩ = some (.slice ao3 m3 cap3) := by simp [go_sem, x8]
                replace hset := set_other hset x8 (fun _ => by simp) (.slice ao3 m3 cap3)
                replace x9 := keep_set (p := ⟨c8, 0, none⟩) (u := .slice ao3 m3 cap3) x9 hne89
                replace x9b := keep_set (p := ⟨c8, 0, none⟩) (u := .slice ao3 m3 cap3) x9b hne89
                have f9x : (W4.setCell ⟨c8, 0, none⟩ (.slice ao3 m3 cap3)).frozen? ⟨c9, 0, none⟩ = false := by simp [go_sem, f9]
                have f9y : (W4.setCell ⟨c8, 0, none⟩ (.slice ao3 m3 cap3)).frozen? ⟨c9, 1, none⟩ = false := by simp [go_sem, f9b]
                replace hBW := bs hBW (p := ⟨c8, 0, none⟩) hgec8 (.slice ao3 m3 cap3)
                replace g1 := keep_set (p := ⟨c8, 0, none⟩) (u := .slice ao3 m3 cap3) g1 (by simp; omega)
                replace g2 := keep_set (p := ⟨c8, 0, none⟩) (u := .slice ao3 m3 cap3) g2 (by simp; omega)
                clear x8 f8 f9 f9b
                generalize (W4.setCell ⟨c8, 0, none⟩ (.slice ao3 m3 cap3)) = W5 at *
                refine wpAnyH_ready (rs := [20]) (by kernel_rfl) (by simp) ?_
                refine AllReadyH.cons rfl (fun K hK => ?_) AllReadyH.nil
                go_simp
                refine hK.out _ _ (by exact ⟨keep_set (keep_set g1 (by simp; omega)) (by simp; omega), keep_set (keep_set g2 (by simp; omega)) (by simp; omega)⟩) (fun hHeld2 => ?_)
                clear hK K
                refine wpAnyH_done (by kernel_rfl) ?_ _
                go_wp2_with fail
                go_meet
                have hs1 := set_other hset x9 (fun _ => by simp) (.string S)
                have hs2 := set_other hs1 (p := ⟨c9, 1, none⟩) (u0 := .string ⟨#[]⟩) (by simp [go_sem, x9b]) (fun _ => by simp) (.string x.s)
                exact ⟨c8, c9, rfl, rfl, Lib.hid ⟨bs (bs hBW hgec9 _) hgec9 _, ⟨_, keep_set (keep_set y8 (fun e => hne89 e.symm)) (fun e => hne89 e.symm), hs2⟩, by simp [go_sem, x9], by simp [go_sem, x9b], hgec8, hgec9⟩⟩
            case t2n18 =>
              go_simp
              obtain ⟨c9, hc9⟩ : ∃ c, c = W1.heap.size := ⟨_, rfl⟩
              have hgec9 : wr.heap.size ≤ c9 := by rw [hc9]; exact hBW.size
              refine hK.out _ _ (by exact ⟨keep_alloc g1 _, keep_alloc g2 _⟩) (fun hHeld2 => ?_)
              clear hK K
              clear hHeld
              have hHeld := hHeld2
              clear hHeld2
              try simp only [Act.put, List.setIfInBounds_toArray, List.set_cons_zero, List.set_cons_succ]
              have x9 : (W1.alloc (.cells #[.string ⟨#[]⟩, .string ⟨#[]⟩] 39)).cell? ⟨c9, 0, none⟩ = some (.string ⟨#[]⟩) := by rw [hc9]; simp [go_sem]
              have x9b : (W1.alloc (.cells #[.string ⟨#[]⟩, .string ⟨#[]⟩] 39)).cell? ⟨c9, 1, none⟩ = some (.string ⟨#[]⟩) := by rw [hc9]; simp [go_sem]
              have f9 : (W1.alloc (.cells #[.string ⟨#[]⟩, .string ⟨#[]⟩] 39)).frozen? ⟨c9, 0, none⟩ = false := by rw [hc9]; simp [go_sem]
              have f9b : (W1.alloc (.cells #[.string ⟨#[]⟩, .string ⟨#[]⟩] 39)).frozen? ⟨c9, 1, none⟩ = false := by rw [hc9]; simp [go_sem]
              replace g1 := keep_alloc g1 (.cells #[.string ⟨#[]⟩, .string ⟨#[]⟩] 39)
              replace g2 := keep_alloc g2 (.cells #[.string ⟨#[]⟩, .string ⟨#[]⟩] 39)
              replace hset := hset.below (ba (bz _) (.cells #[.string ⟨#[]⟩, .string ⟨#[]⟩] 39))
              replace hBW := ba hBW (.cells #[.string ⟨#[]⟩, .string ⟨#[]⟩] 39)
              rw [← hc9]
              generalize (W1.alloc (.cells #[.string ⟨#[]⟩, .string ⟨#[]⟩] 39)) = W2 at *
              clear hc9
              refine wpAnyH_ready (rs := [16, 17]) (by kernel_rfl) (by simp) ?_
              refine AllReadyH.cons rfl (fun K hK => ?t5n16) (AllReadyH.cons rfl (fun K hK => ?t5n17) AllReadyH.nil)
              case t5n16 =>
                go_simp
                refine (HRO.out W2 hBW).mono ?_
                rintro e W3 ⟨rfl, hb⟩
                replace g1 := cell_past hb g1
                replace g2 := cell_past hb g2
                replace hBW := bt hBW hb
                replace hset := hset.below hb
                replace f9 := kf hb _ _ (World.block_lt_of_cell? _ _ x9) f9
                replace f9b := kf hb _ _ (World.block_lt_of_cell? _ _ x9) f9b
                replace x9 := cell_past hb x9
                replace x9b := cell_past hb x9b
                clear hb
                go_wp2_with fail
                refine hK.out _ _ (by exact ⟨g1, g2⟩) (fun hHeld2 => ?_)
                clear hK K
                clear hHeld
                have hHeld := hHeld2
                clear hHeld2
                try simp only [Act.put, List.setIfInBounds_toArray, List.set_cons_zero, List.set_cons_succ]
                refine wpAnyH_ready (rs := [17]) (by kernel_rfl) (by simp) ?_
                refine AllReadyH.cons rfl (fun K hK => ?_) AllReadyH.nil
                go_simp
                obtain ⟨c8, hc8⟩ : ∃ c, c = W3.heap.size := ⟨_, rfl⟩
                have hgec8 : wr.heap.size ≤ c8 := by rw [hc8]; exact hBW.size
                refine hK.out _ _ (by exact ⟨keep_alloc g1 _, keep_alloc g2 _⟩) (fun hHeld2 => ?_)
                clear hK K
                clear hHeld
                have hHeld := hHeld2
                clear hHeld2
                try simp only [Act.put, List.setIfInBounds_toArray, List.set_cons_zero, List.set_cons_succ]
                have x8 : (W3.alloc (.cells #[.slice none 0 0] 33)).cell? ⟨c8, 0, none⟩ = some (.slice none 0 0) := by rw [hc8]; simp [go_sem]
                have f8 : (W3.alloc (.cells #[.slice none 0 0] 33)).frozen? ⟨c8, 0, none⟩ = false := by rw [hc8]; simp [go_sem]
                replace g1 := keep_alloc g1 (.cells #[.slice none 0 0] 33)
                replace g2 := keep_alloc g2 (.cells #[.slice none 0 0] 33)
                have hne89 : ¬ c8 = c9 := by have := World.block_lt_of_cell? _ _ x9; simp only at this; omega
                replace f9 := kf (ba (bz _) (.cells #[.slice none 0 0] 33)) _ _ (World.block_lt_of_cell? _ _ x9) f9
                replace f9b := kf (ba (bz _) (.cells #[.slice none 0 0] 33)) _ _ (World.block_lt_of_cell? _ _ x9) f9b
                replace x9 := keep_alloc x9 (.cells #[.slice none 0 0] 33)
                replace x9b := keep_alloc x9b (.cells #[.slice none 0 0] 33)
                replace hset := hset.below (ba (bz _) (.cells #[.slice none 0 0] 33))
                replace hBW := ba hBW (.cells #[.slice none 0 0] 33)
                rw [← hc8]
                generalize (W3.alloc (.cells #[.slice none 0 0] 33)) = W4 at *
                clear hc8
                refine wpAnyH_ready (rs := [19]) (by kernel_rfl) (by simp) ?_
                refine AllReadyH.cons rfl (fun K hK => ?_) AllReadyH.nil
                go_simp
                refine hK.out _ _ (by exact ⟨keep_set g1 (by simp; omega), keep_set g2 (by simp; omega)⟩) (fun hHeld2 => ?_)
                clear hK K
                clear hHeld
                have hHeld := hHeld2
                clear hHeld2
                try simp only [Act.put, List.setIfInBounds_toArray, List.set_cons_zero, List.set_cons_succ]
                have y8 : (W4.setCell ⟨c8, 0, none⟩ (.slice ao3 m3 cap3)).cell? ⟨c8, 0, none⟩ = some (.slice ao3 m3 cap3) := by simp [go_sem, x8]
                replace hset := set_other hset x8 (fun _ => by simp) (.slice ao3 m3 cap3)
                replace x9 := keep_set (p := ⟨c8, 0, none⟩) (u := .slice ao3 m3 cap3) x9 hne89
                replace x9b := keep_set (p := ⟨c8, 0, none⟩) (u := .slice ao3 m3 cap3) x9b hne89
                have f9x : (W4.setCell ⟨c8, 0, none⟩ (.slice ao3 m3 cap3)).frozen? ⟨c9, 0, none⟩ = false := by simp [go_sem, f9]
                have f9y : (W4.setCell ⟨c8, 0, none⟩ (.slice ao3 m3 cap3)).frozen? ⟨c9, 1, none⟩ = false := by simp [go_sem, f9b]
                replace hBW := bs hBW (p := ⟨c8, 0, none⟩) hgec8 (.slice ao3 m3 cap3)
                replace g1 := keep_set (p := ⟨c8, 0, none⟩) (u := .slice ao3 m3 cap3) g1 (by simp; omega)
                replace g2 := keep_set (p := ⟨c8, 0, none⟩) (u := .slice ao3 m3 cap3) g2 (by simp; omega)
                clear x8 f8 f9 f9b
                generalize (W4.setCell ⟨c8, 0, none⟩ (.slice ao3 m3 cap3)) = W5 at *
                refine wpAnyH_ready (rs := [20]) (by kernel_rfl) (by simp) ?_
                refine AllReadyH.cons rfl (fun K hK => ?_) AllReadyH.nil
                go_simp
                refine hK.out _ _ (by exact ⟨keep_set (keep_set g1 (by simp; omega)) (by simp; omega), keep_set (keep_set g2 (by simp; omega)) (by simp; omega)⟩) (fun hHeld2 => ?_)
                clear hK K
                refine wpAnyH_done (by kernel_rfl) ?_ _
                go_wp2_with fail
                go_meet
                have hs1 := set_other hset x9 (fun _ => by simp) (.string S)
                have hs2 := set_other hs1 (p := ⟨c9, 1, none⟩) (u0 := .string ⟨#[]⟩) (by simp [go_sem, x9b]) (fun _ => by simp) (.string x.s)
                exact ⟨c8, c9, rfl, rfl, Lib.hid ⟨bs (bs hBW hgec9 _) hgec9 _, ⟨_, keep_set (keep_set y8 (fun e => hne89 e.symm)) (fun e => hne89 e.symm), hs2⟩, by simp [go_sem, x9], by simp [go_sem, x9b], hgec8, hgec9⟩⟩
              case t5n17 =>
                go_simp
                obtain ⟨c8, hc8⟩ : ∃ c, c = W2.heap.size := ⟨_, rfl⟩
                have hgec8 : wr.heap.size ≤ c8 := by rw [hc8]; exact hBW.size
                refine hK.out _ _ (by exact ⟨keep_alloc g1 _, keep_alloc g2 _⟩) (fun hHeld2 => ?_)
                clear hK K
                clear hHeld
                have hHeld := hHeld2
                clear hHeld2
                try simp only [Act.put, List.setIfInBounds_toArray, List.set_cons_zero, List.set_cons_succ]
                have x8 : (W2.alloc (.cells #[.slice none 0 0] 33)).cell? ⟨c8, 0, none⟩ = some (.slice none 0 0) := by rw [hc8]; simp [go_sem]
                have f8 : (W2.alloc (.cells #[.slice none 0 0] 33)).frozen? ⟨c8, 0, none⟩ = false := by rw [hc8]; simp [go_sem]
                replace g1 := keep_alloc g1 (.cells #[.slice none 0 0] 33)
                replace g2 := keep_alloc g2 (.cells #[.slice none 0 0] 33)
                have hne89 : ¬ c8 = c9 := by have := World.block_lt_of_cell? _ _ x9; simp only at this; omega
                replace f9 := kf (ba (bz _) (.cells #[.slice none 0 0] 33)) _ _ (World.block_lt_of_cell? _ _ x9) f9
                replace f9b := kf (ba (bz _) (.cells #[.slice none 0 0] 33)) _ _ (World.block_lt_of_cell? _ _ x9) f9b
                replace x9 := keep_alloc x9 (.cells #[.slice none 0 0] 33)
                replace x9b := keep_alloc x9b (.cells #[.slice none 0 0] 33)
                replace hset := hset.below (ba (bz _) (.cells #[.slice none 0 0] 33))
                replace hBW := ba hBW (.cells #[.slice none 0 0] 33)
                rw [← hc8]
                generalize (W2.alloc (.cells #[.slice none 0 0] 33)) = W3 at *
                clear hc8
                refine wpAnyH_ready (rs := [16]) (by kernel_rfl) (by simp) ?_
                refine AllReadyH.cons rfl (fun K hK => ?_) AllReadyH.nil
                go_simp
                refine (HRO.out W3 hBW).mono ?_
                rintro e W4 ⟨rfl, hb⟩
                replace g1 := cell_past hb g1
                replace g2 := cell_past hb g2
                replace hBW := bt hBW hb
                replace hset := hset.below hb
                replace f8 := kf hb _ _ (World.block_lt_of_cell? _ _ x8) f8
                replace x8 := cell_past hb x8
                replace f9 := kf hb _ _ (World.block_lt_of_cell? _ _ x9) f9
                replace f9b := kf hb _ _ (World.block_lt_of_cell? _ _ x9) f9b
                replace x9 := cell_past hb x9
                replace x9b := cell_past hb x9b
                clear hb
                go_wp2_with fail
                refine hK.out _ _ (by exact ⟨g1, g2⟩) (fun hHeld2 => ?_)
                clear hK K
                clear hHeld
                have hHeld := hHeld2
                clear hHeld2
                try simp only [Act.put, List.setIfInBounds_toArray, List.set_cons_zero, List.set_cons_succ]
                refine wpAnyH_ready (rs := [19]) (by kernel_rfl) (by simp) ?_
                refine AllReadyH.cons rfl (fun K hK => ?_) AllReadyH.nil
                go_simp
                refine hK.out _ _ (by exact ⟨keep_set g1 (by simp; omega), keep_set g2 (by simp; omega)⟩) (fun hHeld2 => ?_)
                clear hK K
                clear hHeld
                have hHeld := hHeld2
                clear hHeld2
                try simp only [Act.put, List.setIfInBounds_toArray, List.set_cons_zero, List.set_cons_succ]
                have y8 : (W4.setCell ⟨c8, 0, none⟩ (.slice ao3 m3 cap3)).cell? ⟨c8, 0, none⟩ = some (.slice ao3 m3 cap3) := by simp [go_sem, x8]
                replace hset := set_other hset x8 (fun _ => by simp) (.slice ao3 m3 cap3)
                replace x9 := keep_set (p := ⟨c8, 0, none⟩) (u := .slice ao3 m3 cap3) x9 hne89
                replace x9b := keep_set (p := ⟨c8, 0, none⟩) (u := .slice ao3 m3 cap3) x9b hne89
                have f9x : (W4.setCell ⟨c8, 0, none⟩ (.slice ao3 m3 cap3)).frozen? ⟨c9, 0, none⟩ = false := by simp [go_sem, f9]
                have f9y : (W4.setCell ⟨c8, 0, none⟩ (.slice ao3 m3 cap3)).frozen? ⟨c9, 1, none⟩ = false := by simp [go_sem, f9b]
                replace hBW := bs hBW (p := ⟨c8, 0, none⟩) hgec8 (.slice ao3 m3 cap3)
                replace g1 := keep_set (p := ⟨c8, 0, none⟩) (u := .slice ao3 m3 cap3) g1 (by simp; omega)
                replace g2 := keep_set (p := ⟨c8, 0, none⟩) (u := .slice ao3 m3 cap3) g2 (by simp; omega)
                clear x8 f8 f9 f9b
                generalize (W4.setCell ⟨c8, 0, none⟩ (.slice ao3 m3 cap3)) = W5 at *
                refine wpAnyH_ready (rs := [20]) (by kernel_rfl) (by simp) ?_
                refine AllReadyH.cons rfl (fun K hK => ?_) AllReadyH.nil
                go_simp
                refine hK.out _ _ (by exact ⟨keep_set (keep_set g1 (by simp; omega)) (by simp; omega), keep_set (keep_set g2 (by simp; omega)) (by simp; omega)⟩) (fun hHeld2 => ?_)
                clear hK K
                refine wpAnyH_done (by kernel_rfl) ?_ _
                go_wp2_with fail
                go_meet
                have hs1 := set_other hset x9 (fun _ => by simp) (.string S)
                have hs2 := set_other hs1 (p := ⟨c9, 1, none⟩) (u0 := .string ⟨#[]⟩) (by simp [go_sem, x9b]) (fun _ => by simp) (.string x.s)
                exact ⟨c8, c9, rfl, rfl, Lib.hid ⟨bs (bs hBW hgec9 _) hgec9 _, ⟨_, keep_set (keep_set y8 (fun e => hne89 e.symm)) (fun e => hne89 e.symm), hs2⟩, by simp [go_sem, x9], by simp [go_sem, x9b], hgec8, hgec9⟩⟩
          case t1n17 =>
            go_simp
            obtain ⟨c8, hc8⟩ : ∃ c, c = W0.heap.size := ⟨_, rfl⟩
            have hgec8 : wr.heap.size ≤ c8 := by rw [hc8]; exact hBW.size
            refine hK.out _ _ (by exact ⟨keep_alloc g1 _, keep_alloc g2 _⟩) (fun hHeld2 => ?_)
            clear hK K
            clear hHeld
            have hHeld := hHeld2
            clear hHeld2
            try simp only [Act.put, List.setIfInBounds_toArray, List.set_cons_zero, List.set_cons_succ]
            have x8 : (W0.alloc (.cells #[.slice none 0 0] 33)).cell? ⟨c8, 0, none⟩ = some (.slice none 0 0) := by rw [hc8]; simp [go_sem]
            have f8 : (W0.alloc (.cells #[.slice none 0 0] 33)).frozen? ⟨c8, 0, none⟩ = false := by rw [hc8]; simp [go_sem]
            replace g1 := keep_alloc g1 (.cells #[.slice none 0 0] 33)
            replace g2 := keep_alloc g2 (.cells #[.slice none 0 0] 33)
            replace hBW := ba hBW (.cells #[.slice none 0 0] 33)
            rw [← hc8]
            generalize (W0.alloc (.cells #[.slice none 0 0] 33)) = W1 at *
            clear hc8
            refine wpAnyH_ready (rs := [5, 18]) (by kernel_rfl) (by simp) ?_
            refine AllReadyH.cons rfl (fun K hK => ?t6n5) (AllReadyH.cons rfl (fun K hK => ?t6n18) AllReadyH.nil)
            case t6n5 =>
              go_simp
              refine (HOF.out W1 hBW).mono ?_
              rintro e W2 ⟨v3, rfl, hset, hb⟩
              obtain ⟨m3, ao3, cap3, b3, o3, rfl, _⟩ := id hset
              replace g1 := cell_past hb g1
              replace g2 := cell_past hb g2
              replace hBW := bt hBW hb
              replace f8 := kf hb _ _ (World.block_lt_of_cell? _ _ x8) f8
              replace x8 := cell_past hb x8
              clear hb
              go_wp2_with fail
              refine hK.out _ _ (by exact ⟨g1, g2⟩) (fun hHeld2 => ?_)
              clear hK K
              clear hHeld
              have hHeld := hHeld2
              clear hHeld2
              try simp only [Act.put, List.setIfInBounds_toArray, List.set_cons_zero, List.set_cons_succ]
              refine wpAnyH_ready (rs := [16, 18]) (by kernel_rfl) (by simp) ?_
              refine AllReadyH.cons rfl (fun K hK => ?t7n16) (AllReadyH.cons rfl (fun K hK => ?t7n18) AllReadyH.nil)
              case t7n16 =>
                go_simp
                refine (HRO.out W2 hBW).mono ?_
                rintro e W3 ⟨rfl, hb⟩
                replace g1 := cell_past hb g1
                replace g2 := cell_past hb g2
                replace hBW := bt hBW hb
                replace hset := hset.below hb
                replace f8 := kf hb _ _ (World.block_lt_of_cell? _ _ x8) f8
                replace x8 := cell_past hb x8
                clear hb
                go_wp2_with fail
                refine hK.out _ _ (by exact ⟨g1, g2⟩) (fun hHeld2 => ?_)
                clear hK K
                clear hHeld
                have hHeld := hHeld2
                clear hHeld2
                try simp only [Act.put, List.setIfInBounds_toArray, List.set_cons_zero, List.set_cons_succ]
                refine wpAnyH_ready (rs := [18]) (by kernel_rfl) (by simp) ?_
                refine AllReadyH.cons rfl (fun K hK => ?_) AllReadyH.nil
                go_simp
                obtain ⟨c9, hc9⟩ : ∃ c, c = W3.heap.size := ⟨_, rfl⟩
                have hgec9 : wr.heap.size ≤ c9 := by rw [hc9]; exact hBW.size
                refine hK.out _ _ (by exact ⟨keep_alloc g1 _, keep_alloc g2 _⟩) (fun hHeld2 => ?_)
                clear hK K
                clear hHeld
                have hHeld := hHeld2
                clear hHeld2
                try simp only [Act.put, List.setIfInBounds_toArray, List.set_cons_zero, List.set_cons_succ]
                have x9 : (W3.alloc (.cells #[.string ⟨#[]⟩, .string ⟨#[]⟩] 39)).cell? ⟨c9, 0, none⟩ = some (.string ⟨#[]⟩) := by rw [hc9]; simp [go_sem]
                have x9b : (W3.alloc (.cells #[.string ⟨#[]⟩, .string ⟨#[]⟩] 39)).cell? ⟨c9, 1, none⟩ = some (.string ⟨#[]⟩) := by rw [hc9]; simp [go_sem]
                have f9 : (W3.alloc (.cells #[.string ⟨#[]⟩, .string ⟨#[]⟩] 39)).frozen? ⟨c9, 0, none⟩ = false := by rw [hc9]; simp [go_sem]
                have f9b : (W3.alloc (.cells #[.string ⟨#[]⟩, .string ⟨#[]⟩] 39)).frozen? ⟨c9, 1, none⟩ = false := by rw [hc9]; simp [go_sem]
                replace g1 := keep_alloc g1 (.cells #[.string ⟨#[]⟩, .string ⟨#[]⟩] 39)
                replace g2 := keep_alloc g2 (.cells #[.string ⟨#[]⟩, .string ⟨#[]⟩] 39)
                have hne89 : ¬ c8 = c9 := by have := World.block_lt_of_cell? _ _ x8; simp only at this; omega
                replace f8 := kf (ba (bz _) (.cells #[.string ⟨#[]⟩, .string ⟨#[]⟩] 39)) _ _ (World.block_lt_of_cell? _ _ x8) f8
                replace x8 := keep_alloc x8 (.cells #[.string ⟨#[]⟩, .string ⟨#[]⟩] 39)
                replace hset := hset.below (ba (bz _) (.cells #[.string ⟨#[]⟩, .string ⟨#[]⟩] 39))
                replace hBW := ba hBW (.cells #[.string ⟨#[]⟩, .string ⟨#[]⟩] 39)
                rw [← hc9]
                generalize (W3.alloc (.cells #[.string ⟨#[]⟩, .string ⟨#[]⟩] 39)) = W4 at *
                clear hc9
                refine wpAnyH_ready (rs := [19]) (by kernel_rfl) (by simp) ?_
                refine AllReadyH.cons rfl (fun K hK => ?_) AllReadyH.nil
                go_simp
                refine hK.out _ _ (by exact ⟨keep_set g1 (by simp; omega), keep_set g2 (by simp; omega)⟩) (fun hHeld2 => ?_)
                clear hK K
                clear hHeld
                have hHeld := hHeld2
                clear hHeld2
                try simp only [Act.put, List.setIfInBounds_toArray, List.set_cons_zero, List.set_cons_succ]
                have y8 : (W4.setCell ⟨c8, 0, none⟩ (.slice ao3 m3 cap3)).cell? ⟨c8, 0, none⟩ = some (.slice ao3 m3 cap3) := by simp [go_sem, x8]
                replace hset := set_other hset x8 (fun _ => by simp) (.slice ao3 m3 cap3)
                replace x9 := keep_set (p := ⟨c8, 0, none⟩) (u := .slice ao3 m3 cap3) x9 hne89
                replace x9b := keep_set (p := ⟨c8, 0, none⟩) (u := .slice ao3 m3 cap3) x9b hne89
                have f9x : (W4.setCell ⟨c8, 0, none⟩ (.slice ao3 m3 cap3)).frozen? ⟨c9, 0, none⟩ = false := by simp [go_sem, f9]
                have f9y : (W4.setCell ⟨c8, 0, none⟩ (.slice ao3 m3 cap3)).frozen? ⟨c9, 1, none⟩ = false := by simp [go_sem, f9b]
                replace hBW := bs hBW (p := ⟨c8, 0, none⟩) hgec8 (.slice ao3 m3 cap3)
                replace g1 := keep_set (p := ⟨c8, 0, none⟩) (u := .slice ao3 m3 cap3) g1 (by simp; omega)
                replace g2 := keep_set (p := ⟨c8, 0, none⟩) (u := .slice ao3 m3 cap3) g2 (by simp; omega)
                clear x8 f8 f9 f9b
                generalize (W4.setCell ⟨c8, 0, none⟩ (.slice ao3 m3 cap3)) = W5 at *
                refine wpAnyH_ready (rs := [20]) (by kernel_rfl) (by simp) ?_
                refine AllReadyH.cons rfl (fun K hK => ?_) AllReadyH.nil
                go_simp
                refine hK.out _ _ (by exact ⟨keep_set (keep_set g1 (by simp; omega)) (by simp; omega), keep_set (keep_set g2 (by simp; omega)) (by simp; omega)⟩) (fun hHeld2 => ?_)
                clear hK K
                refine wpAnyH_done (by kernel_rfl) ?_ _
                go_wp2_with fail
                go_meet
                have hs1 := set_other hset x9 (fun _ => by simp) (.string S)
                have hs2 := set_other hs1 (p := ⟨c9, 1, none⟩) (u0 := .string ⟨#[]⟩) (by simp [go_sem, x9b]) (fun _ => by simp) (.string x.s)
                exact ⟨c8, c9, rfl, rfl, Lib.hid ⟨bs (bs hBW hgec9 _) hgec9 _, ⟨_, keep_set (keep_set y8 (fun e => hne89 e.symm)) (fun e => hne89 e.symm), hs2⟩, by simp [go_sem, x9], by simp [go_sem, x9b], hgec8, hgec9⟩⟩
              case t7n18 =>
                go_simp
                obtain ⟨c9, hc9⟩ : ∃ c, c = W2.heap.size := ⟨_, rfl⟩
                have hgec9 : wr.heap.size ≤ c9 := by rw [hc9]; exact hBW.size
                refine hK.out _ _ (by exact ⟨keep_alloc g1 _, keep_alloc g2 _⟩) (fun hHeld2 => ?_)
                clear hK K
                clear hHeld
                have hHeld := hHeld2
                clear hHeld2
                try simp only [Act.put, List.setIfInBounds_toArray, List.set_cons_zero, List.set_cons_succ]
                have x9 : (W2.alloc (.cells #[.string ⟨#[]⟩, .string ⟨#[]⟩] 39)).cell? ⟨c9, 0, none⟩ = some (.string ⟨#[]⟩) := by rw [hc9]; simp [go_sem]
                have x9b : (W2.alloc (.cells #[.string ⟨#[]⟩, .string ⟨#[]⟩] 39)).cell? ⟨c9, 1, none⟩ = some (.string ⟨#[]⟩) := by rw [hc9]; simp [go_sem]
                have f9 : (W2.alloc (.cells #[.string ⟨#[]⟩, .string ⟨#[]⟩] 39)).frozen? ⟨c9, 0, none⟩ = false := by rw [hc9]; simp [go_sem]
                have f9b : (W2.alloc (.cells #[.string ⟨#[]⟩, .string ⟨#[]⟩] 39)).frozen? ⟨c9, 1, none⟩ = false := by rw [hc9]; simp [go_sem]
                replace g1 := keep_alloc g1 (.cells #[.string ⟨#[]⟩, .string ⟨#[]⟩] 39)
                replace g2 := keep_alloc g2 (.cells #[.string ⟨#[]⟩, .string ⟨#[]⟩] 39)
                have hne89 : ¬ c8 = c9 := by have := World.block_lt_of_cell? _ _ x8; simp only at this; omega
                replace f8 := kf (ba (bz _) (.cells #[.string ⟨#[]⟩, .string ⟨#[]⟩] 39)) _ _ (World.block_lt_of_cell? _ _ x8) f8
                replace x8 := keep_alloc x8 (.cells #[.string ⟨#[]⟩, .string ⟨#[]⟩] 39)
                replace hset := hset.below (ba (bz _) (.cells #[.string ⟨#[]⟩, .string ⟨#[]⟩] 39))
                replace hBW := ba hBW (.cells #[.string ⟨#[]⟩, .string ⟨#[]⟩] 39)
                rw [← hc9]
                generalize (W2.alloc (.cells #[.string ⟨#[]⟩, .string ⟨#[]⟩] 39)) = W3 at *
                clear hc9
                refine wpAnyH_ready (rs := [16]) (by kernel_rfl) (by simp) ?_
                refine AllReadyH.cons rfl (fun K hK => ?_) AllReadyH.nil
                go_simp
                refine (HRO.out W3 hBW).mono ?_
                rintro e W4 ⟨rfl, hb⟩
                replace g1 := cell_past hb g1
                replace g2 := cell_past hb g2
                replace hBW := bt hBW hb
                replace hset := hset.below hb
                replace f8 := kf hb _ _ (World.block_lt_of_cell? _ _ x8) f8
                replace x8 := cell_past hb x8
                replace f9 := kf hb _ _ (World.block_lt_of_cell? _ _ x9) f9
                replace f9b := kf hb _ _ (World.block_lt_of_cell? _ _ x9) f9b
                replace x9 := cell_past hb x9
                replace x9b := cell_past hb x9b
                clear hb
                go_wp2_with fail
                refine hK.out _ _ (by exact ⟨g1, g2⟩) (fun hHeld2 => ?_)
                clear hK K
                clear hHeld
                have hHeld := hHeld2
                clear hHeld2
                try simp only [Act.put, List.setIfInBounds_toArray, List.set_cons_zero, List.set_cons_succ]
                refine wpAnyH_ready (rs := [19]) (by kernel_rfl) (by simp) ?_
                refine AllReadyH.cons rfl (fun K hK => ?_) AllReadyH.nil
                go_simp
                refine hK.out _ _ (by exact ⟨keep_set g1 (by simp; omega), keep_set g2 (by simp; omega)⟩) (fun hHeld2 => ?_)
                clear hK K
                clear hHeld
                have hHeld := hHeld2
                clear hHeld2
                try simp only [Act.put, List.setIfInBounds_toArray, List.set_cons_zero, List.set_cons_succ]
                have y8 : (W4.setCell ⟨c8, 0, none⟩ (.slice ao3 m3 cap3)).cell? ⟨c8, 0, none⟩ = some (.slice ao3 m3 cap3) := by simp [go_sem, x8]
                replace hset := set_other hset x8 (fun _ => by simp) (.slice ao3 m3 cap3)
                replace x9 := keep_set (p := ⟨c8, 0, none⟩) (u := .slice ao3 m3 cap3) x9 hne89
                replace x9b := keep_set (p := ⟨c8, 0, none⟩) (u := .slice ao3 m3 cap3) x9b hne89
                have f9x : (W4.setCell ⟨c8, 0, none⟩ (.slice ao3 m3 cap3)).frozen? ⟨c9, 0, none⟩ = false := by simp [go_sem, f9]
                have f9y : (W4.setCell ⟨c8, 0, none⟩ (.slice ao3 m3 cap3)).frozen? ⟨c9, 1, none⟩ = false := by simp [go_sem, f9b]
                replace hBW := bs hBW (p := ⟨c8, 0, none⟩) hgec8 (.slice ao3 m3 cap3)
                replace g1 := keep_set (p := ⟨c8, 0, none⟩) (u := .slice ao3 m3 cap3) g1 (by simp; omega)
                replace g2 := keep_set (p := ⟨c8, 0, none⟩) (u := .slice ao3 m3 cap3) g2 (by simp; omega)
                clear x8 f8 f9 f9b
                generalize (W4.setCell ⟨c8, 0, none⟩ (.slice ao3 m3 cap3)) = W5 at *
                refine wpAnyH_ready (rs := [20]) (by kernel_rfl) (by simp) ?_
                refine AllReadyH.cons rfl (fun K hK => ?_) AllReadyH.nil
                go_simp
                refine hK.out _ _ (by exact ⟨keep_set (keep_set g1 (by simp; omega)) (by simp; omega), keep_set (keep_set g2 (by simp; omega)) (by simp; omega)⟩) (fun hHeld2 => ?_)
                clear hK K
                refine wpAnyH_done (by kernel_rfl) ?_ _
                go_wp2_with fail
                go_meet
                have hs1 := set_other hset x9 (fun _ => by simp) (.string S)
                have hs2 := set_other hs1 (p := ⟨c9, 1, none⟩) (u0 := .string ⟨#[]⟩) (by simp [go_sem, x9b]) (fun _ => by simp) (.string x.s)
                exact ⟨c8, c9, rfl, rfl, Lib.hid ⟨bs (bs hBW hgec9 _) hgec9 _, ⟨_, keep_set (keep_set y8 (fun e => hne89 e.symm)) (fun e => hne89 e.symm), hs2⟩, by simp [go_sem, x9], by simp [go_sem, x9b], hgec8, hgec9⟩⟩
            case t6n18 =>
              go_simp
              obtain ⟨c9, hc9⟩ : ∃ c, c = W1.heap.size := ⟨_, rfl⟩
              have hgec9 : wr.heap.size ≤ c9 := by rw [hc9]; exact hBW.size
              refine hK.out _ _ (by exact ⟨keep_alloc g1 _, keep_alloc g2 _⟩) (fun hHeld2 => ?_)
              clear hK K
              clear hHeld
              have hHeld := hHeld2
              clear hHeld2
              try simp only [Act.put, List.setIfInBounds_toArray, List.set_cons_zero, List.set_cons_succ]
              have x9 : (W1.alloc (.cells #[.string ⟨#[]⟩, .string ⟨#[]⟩] 39)).cell? ⟨c9, 0, none⟩ = some (.string ⟨#[]⟩) := by rw [hc9]; simp [go_sem]
              have x9b : (W1.alloc (.cells #[.string ⟨#[]⟩, .string ⟨#[]⟩] 39)).cell? ⟨c9, 1, none⟩ = some (.string ⟨#[]⟩) := by rw [hc9]; simp [go_sem]
              have f9 : (W1.alloc (.cells #[.string ⟨#[]⟩, .string ⟨#[]⟩] 39)).frozen? ⟨c9, 0, none⟩ = false := by rw [hc9]; simp [go_sem]
              have f9b : (W1.alloc (.cells #[.string ⟨#[]⟩, .string ⟨#[]⟩] 39)).frozen? ⟨c9, 1, none⟩ = false := by rw [hc9]; simp [go_sem]
              replace g1 := keep_alloc g1 (.cells #[.string ⟨#[]⟩, .string ⟨#[]⟩] 39)
              replace g2 := keep_alloc g2 (.cells #[.string ⟨#[]⟩, .string ⟨#[]⟩] 39)
              have hne89 : ¬ c8 = c9 := by have := World.block_lt_of_cell? _ _ x8; simp only at this; omega
              replace f8 := kf (ba (bz _) (.cells #[.string ⟨#[]⟩, .string ⟨#[]⟩] 39)) _ _ (World.block_lt_of_cell? _ _ x8) f8
              replace x8 := keep_alloc x8 (.cells #[.string ⟨#[]⟩, .string ⟨#[]⟩] 39)
              replace hBW := ba hBW (.cells #[.string ⟨#[]⟩, .string ⟨#[]⟩] 39)
              rw [← hc9]
              generalize (W1.alloc (.cells #[.string ⟨#[]⟩, .string ⟨#[]⟩] 39)) = W2 at *
              clear hc9
              refine wpAnyH_ready (rs := [5]) (by kernel_rfl) (by simp) ?_
              refine AllReadyH.cons rfl (fun K hK => ?_) AllReadyH.nil
              go_simp
              refine (HOF.out W2 hBW).mono ?_
              rintro e W3 ⟨v3, rfl, hset, hb⟩
              obtain ⟨m3, ao3, cap3, b3, o3, rfl, _⟩ := id hset
              replace g1 := cell_past hb g1
              replace g2 := cell_past hb g2
              replace hBW := bt hBW hb
              replace f8 := kf hb _ _ (World.block_lt_of_cell? _ _ x8) f8
              replace x8 := cell_past hb x8
              replace f9 := kf hb _ _ (World.block_lt_of_cell? _ _ x9) f9
              replace f9b := kf hb _ _ (World.block_lt_of_cell? _ _ x9) f9b
              replace x9 := cell_past hb x9
              replace x9b := cell_past hb x9b
              clear hb
              go_wp2_with fail
              refine hK.out _ _ (by exact ⟨g1, g2⟩) (fun hHeld2 => ?_)
              clear hK K
              clear hHeld
              have hHeld := hHeld2
              clear hHeld2
              try simp only [Act.put, List.setIfInBounds_toArray, List.set_cons_zero, List.set_cons_succ]
              refine wpAnyH_ready (rs := [16]) (by kernel_rfl) (by simp) ?_
              refine AllReadyH.cons rfl (fun K hK => ?_) AllReadyH.nil
              go_simp
              refine (HRO.out W3 hBW).mono ?_
              rintro e W4 ⟨rfl, hb⟩
              replace g1 := cell_past hb g1
              replace g2 := cell_past hb g2
              replace hBW := bt hBW hb
              replace hset := hset.below hb
              replace f8 := kf hb _ _ (World.block_lt_of_cell? _ _ x8) f8
              replace x8 := cell_past hb x8
              replace f9 := kf hb _ _ (World.block_lt_of_cell? _ _ x9) f9
              replace f9b := kf hb _ _ (World.block_lt_of_cell? _ _ x9) f9b
              replace x9 := cell_past hb x9
              replace x9b := cell_past hb x9b
              clear hb
              go_wp2_with fail
              refine hK.out _ _ (by exact ⟨g1, g2⟩) (fun hHeld2 => ?_)
              clear hK K
              clear hHeld
              have hHeld := hHeld2
              clear hHeld2
              try simp only [Act.put, List.setIfInBounds_toArray, List.set_cons_zero, List.set_cons_succ]
              refine wpAnyH_ready (rs := [19]) (by kernel_rfl) (by simp) ?_
              refine AllReadyH.cons rfl (fun K hK => ?_) AllReadyH.nil
              go_simp
              refine hK.out _ _ (by exact ⟨keep_set g1 (by simp; omega), keep_set g2 (by simp; omega)⟩) (fun hHeld2 => ?_)
              clear hK K
              clear hHeld
              have hHeld := hHeld2
              clear hHeld2
              try simp only [Act.put, List.setIfInBounds_toArray, List.set_cons_zero, List.set_cons_succ]
              have y8 : (W4.setCell ⟨c8, 0, none⟩ (.slice ao3 m3 cap3)).cell? ⟨c8, 0, none⟩ = some (.slice ao3 m3 cap3) := by simp [go_sem, x8]
              replace hset := set_other hset x8 (fun _ => by simp) (.slice ao3 m3 cap3)
              replace x9 := keep_set (p := ⟨c8, 0, none⟩) (u := .slice ao3 m3 cap3) x9 hne89
              replace x9b := keep_set (p := ⟨c8, 0, none⟩) (u := .slice ao3 m3 cap3) x9b hne89
              have f9x : (W4.setCell ⟨c8, 0, none⟩ (.slice ao3 m3 cap3)).frozen? ⟨c9, 0, none⟩ = false := by simp [go_sem, f9]
              have f9y : (W4.setCell ⟨c8, 0, none⟩ (.slice ao3 m3 cap3)).frozen? ⟨c9, 1, none⟩ = false := by simp [go_sem, f9b]
              replace hBW := bs hBW (p := ⟨c8, 0, none⟩) hgec8 (.slice ao3 m3 cap3)
              replace g1 := keep_set (p := ⟨c8, 0, none⟩) (u := .slice ao3 m3 cap3) g1 (by simp; omega)
              replace g2 := keep_set (p := ⟨c8, 0, none⟩) (u := .slice ao3 m3 cap3) g2 (by simp; omega)
              clear x8 f8 f9 f9b
              generalize (W4.setCell ⟨c8, 0, none⟩ (.slice ao3 m3 cap3)) = W5 at *
              refine wpAnyH_ready (rs := [20]) (by kernel_rfl) (by simp) ?_
              refine AllReadyH.cons rfl (fun K hK => ?_) AllReadyH.nil
              go_simp
              refine hK.out _ _ (by exact ⟨keep_set (keep_set g1 (by simp; omega)) (by simp; omega), keep_set (keep_set g2 (by simp; omega)) (by simp; omega)⟩) (fun hHeld2 => ?_)
              clear hK K
              refine wpAnyH_done (by kernel_rfl) ?_ _
              go_wp2_with fail
              go_meet
              have hs1 := set_other hset x9 (fun _ => by simp) (.string S)
              have hs2 := set_other hs1 (p := ⟨c9, 1, none⟩) (u0 := .string ⟨#[]⟩) (by simp [go_sem, x9b]) (fun _ => by simp) (.string x.s)
              exact ⟨c8, c9, rfl, rfl, Lib.hid ⟨bs (bs hBW hgec9 _) hgec9 _, ⟨_, keep_set (keep_set y8 (fun e => hne89 e.symm)) (fun e => hne89 e.symm), hs2⟩, by simp [go_sem, x9], by simp [go_sem, x9b], hgec8, hgec9⟩⟩
          case t1n18 =>
            go_simp
            obtain ⟨c9, hc9⟩ : ∃ c, c = W0.heap.size := ⟨_, rfl⟩
            have hgec9 : wr.heap.size ≤ c9 := by rw [hc9]; exact hBW.size
            refine hK.out _ _ (by exact ⟨keep_alloc g1 _, keep_alloc g2 _⟩) (fun hHeld2 => ?_)
            clear hK K
            clear hHeld
            have hHeld := hHeld2
            clear hHeld2
            try simp only [Act.put, List.setIfInBounds_toArray, List.set_cons_zero, List.set_cons_succ]
            have x9 : (W0.alloc (.cells #[.string ⟨#[]⟩, .string ⟨#[]⟩] 39)).cell? ⟨c9, 0, none⟩ = some (.string ⟨#[]⟩) := by rw [hc9]; simp [go_sem]
            have x9b : (W0.alloc (.cells #[.string ⟨#[]⟩, .string ⟨#[]⟩] 39)).cell? ⟨c9, 1, none⟩ = some (.string ⟨#[]⟩) := by rw [hc9]; simp [go_sem]
            have f9 : (W0.alloc (.cells #[.string ⟨#[]⟩, .string ⟨#[]⟩] 39)).frozen? ⟨c9, 0, none⟩ = false := by rw [hc9]; simp [go_sem]
            have f9b : (W0.alloc (.cells #[.string ⟨#[]⟩, .string ⟨#[]⟩] 39)).frozen? ⟨c9, 1, none⟩ = false := by rw [hc9]; simp [go_sem]
            replace g1 := keep_alloc g1 (.cells #[.string ⟨#[]⟩, .string ⟨#[]⟩] 39)
            replace g2 := keep_alloc g2 (.cells #[.string ⟨#[]⟩, .string ⟨#[]⟩] 39)
            replace hBW := ba hBW (.cells #[.string ⟨#[]⟩, .string ⟨#[]⟩] 39)
            rw [← hc9]
            generalize (W0.alloc (.cells #[.string ⟨#[]⟩, .string ⟨#[]⟩] 39)) = W1 at *
            clear hc9
            refine wpAnyH_ready (rs := [5, 17]) (by kernel_rfl) (by simp) ?_
            refine AllReadyH.cons rfl (fun K hK => ?t8n5) (AllReadyH.cons rfl (fun K hK => ?t8n17) AllReadyH.nil)
            case t8n5 =>
              go_simp
              refine (HOF.out W1 hBW).mono ?_
              rintro e W2 ⟨v3, rfl, hset, hb⟩
              obtain ⟨m3, ao3, cap3, b3, o3, rfl, _⟩ := id hset
              replace g1 := cell_past hb g1
              replace g2 := cell_past hb g2
              replace hBW := bt hBW hb
              replace f9 := kf hb _ _ (World.block_lt_of_cell? _ _ x9) f9
              replace f9b := kf hb _ _ (World.block_lt_of_cell? _ _ x9) f9b
              replace x9 := cell_past hb x9
              replace x9b := cell_past hb x9b
              clear hb
              go_wp2_with fail
              refine hK.out _ _ (by exact ⟨g1, g2⟩) (fun hHeld2 => ?_)
              clear hK K
              clear hHeld
              have hHeld := hHeld2
              clear hHeld2
              try simp only [Act.put, List.setIfInBounds_toArray, List.set_cons_zero, List.set_cons_succ]
              refine wpAnyH_ready (rs := [16, 17]) (by kernel_rfl) (by simp) ?_
              refine AllReadyH.cons rfl (fun K hK => ?t9n16) (AllReadyH.cons rfl (fun K hK => ?t9n17) AllReadyH.nil)
              case t9n16 =>
                go_simp
                refine (HRO.out W2 hBW).mono ?_
                rintro e W3 ⟨rfl, hb⟩
                replace g1 := cell_past hb g1
                replace g2 := cell_past hb g2
                replace hBW := bt hBW hb
                replace hset := hset.below hb
                replace f9 := kf hb _ _ (World.block_lt_of_cell? _ _ x9) f9
                replace f9b := kf hb _ _ (World.block_lt_of_cell? _ _ x9) f9b
                replace x9 := cell_past hb x9
                replace x9b := cell_past hb x9b
                clear hb
                go_wp2_with fail
                refine hK.out _ _ (by exact ⟨g1, g2⟩) (fun hHeld2 => ?_)
                clear hK K
                clear hHeld
                have hHeld := hHeld2
                clear hHeld2
                try simp only [Act.put, List.setIfInBounds_toArray, List.set_cons_zero, List.set_cons_succ]
                refine wpAnyH_ready (rs := [17]) (by kernel_rfl) (by simp) ?_
                refine AllReadyH.cons rfl (fun K hK => ?_) AllReadyH.nil
                go_simp
                obtain ⟨c8, hc8⟩ : ∃ c, c = W3.heap.size := ⟨_, rfl⟩
                have hgec8 : wr.heap.size ≤ c8 := by rw [hc8]; exact hBW.size
                refine hK.out _ _ (by exact ⟨keep_alloc g1 _, keep_alloc g2 _⟩) (fun hHeld2 => ?_)
                clear hK K
                clear hHeld
                have hHeld := hHeld2
                clear hHeld2
                try simp only [Act.put, List.setIfInBounds_toArray, List.set_cons_zero, List.set_cons_succ]
                have x8 : (W3.alloc (.cells #[.slice none 0 0] 33)).cell? ⟨c8, 0, none⟩ = some (.slice none 0 0) := by rw [hc8]; simp [go_sem]
                have f8 : (W3.alloc (.cells #[.slice none 0 0] 33)).frozen? ⟨c8, 0, none⟩ = false := by rw [hc8]; simp [go_sem]
                replace g1 := keep_alloc g1 (.cells #[.slice none 0 0] 33)
                replace g2 := keep_alloc g2 (.cells #[.slice none 0 0] 33)
                have hne89 : ¬ c8 = c9 := by have := World.block_lt_of_cell? _ _ x9; simp only at this; omega
                replace f9 := kf (ba (bz _) (.cells #[.slice none 0 0] 33)) _ _ (World.block_lt_of_cell? _ _ x9) f9
                replace f9b := kf (ba (bz _) (.cells #[.slice none 0 0] 33)) _ _ (World.block_lt_of_cell? _ _ x9) f9b
                replace x9 := keep_alloc x9 (.cells #[.slice none 0 0] 33)
                replace x9b := keep_alloc x9b (.cells #[.slice none 0 0] 33)
                replace hset := hset.below (ba (bz _) (.cells #[.slice none 0 0] 33))
                replace hBW := ba hBW (.cells #[.slice none 0 0] 33)
                rw [← hc8]
                generalize (W3.alloc (.cells #[.slice none 0 0] 33)) = W4 at *
                clear hc8
                refine wpAnyH_ready (rs := [19]) (by kernel_rfl) (by simp) ?_
                refine AllReadyH.cons rfl (fun K hK => ?_) AllReadyH.nil
                go_simp
                refine hK.out _ _ (by exact ⟨keep_set g1 (by simp; omega), keep_set g2 (by simp; omega)⟩) (fun hHeld2 => ?_)
                clear hK K
                clear hHeld
                have hHeld := hHeld2
                clear hHeld2
                try simp only [Act.put, List.setIfInBounds_toArray, List.set_cons_zero, List.set_cons_succ]
                have y8 : (W4.setCell ⟨c8, 0, none⟩ (.slice ao3 m3 cap3)).cell? ⟨c8, 0, none⟩ = some (.slice ao3 m3 cap3) := by simp [go_sem, x8]
                replace hset := set_other hset x8 (fun _ => by simp) (.slice ao3 m3 cap3)
                replace x9 := keep_set (p := ⟨c8, 0, none⟩) (u := .slice ao3 m3 cap3) x9 hne89
                replace x9b := keep_set (p := ⟨c8, 0, none⟩) (u := .slice ao3 m3 cap3) x9b hne89
                have f9x : (W4.setCell ⟨c8, 0, none⟩ (.slice ao3 m3 cap3)).frozen? ⟨c9, 0, none⟩ = false := by simp [go_sem, f9]
                have f9y : (W4.setCell ⟨c8, 0, none⟩ (.slice ao3 m3 cap3)).frozen? ⟨c9, 1, none⟩ = false := by simp [go_sem, f9b]
                replace hBW := bs hBW (p := ⟨c8, 0, none⟩) hgec8 (.slice ao3 m3 cap3)
                replace g1 := keep_set (p := ⟨c8, 0, none⟩) (u := .slice ao3 m3 cap3) g1 (by simp; omega)
                replace g2 := keep_set (p := ⟨c8, 0, none⟩) (u := .slice ao3 m3 cap3) g2 (by simp; omega)
                clear x8 f8 f9 f9b
                generalize (W4.setCell ⟨c8, 0, none⟩ (.slice ao3 m3 cap3)) = W5 at *
                refine wpAnyH_ready (rs := [20]) (by kernel_rfl) (by simp) ?_
                refine AllReadyH.cons rfl (fun K hK => ?_) AllReadyH.nil
                go_simp
                refine hK.out _ _ (by exact ⟨keep_set (keep_set g1 (by simp; omega)) (by simp; omega), keep_set (keep_set g2 (by simp; omega)) (by simp; omega)⟩) (fun hHeld2 => ?_)
                clear hK K
                refine wpAnyH_done (by kernel_rfl) ?_ _
                go_wp2_with fail
                go_meet
                have hs1 := set_other hset x9 (fun _ => by simp) (.string S)
                have hs2 := set_other hs1 (p := ⟨c9, 1, none⟩) (u0 := .string ⟨#[]⟩) (by simp [go_sem, x9b]) (fun _ => by simp) (.string x.s)
                exact ⟨c8, c9, rfl, rfl, Lib.hid ⟨bs (bs hBW hgec9 _) hgec9 _, ⟨_, keep_set (keep_set y8 (fun e => hne89 e.symm)) (fun e => hne89 e.symm), hs2⟩, by simp [go_sem, x9], by simp [go_sem, x9b], hgec8, hgec9⟩⟩
              case t9n17 =>
                go_simp
                obtain ⟨c8, hc8⟩ : ∃ c, c = W2.heap.size := ⟨_, rfl⟩
                have hgec8 : wr.heap.size ≤ c8 := by rw [hc8]; exact hBW.size
                refine hK.out _ _ (by exact ⟨keep_alloc g1 _, keep_alloc g2 _⟩) (fun hHeld2 => ?_)
                clear hK K
                clear hHeld
                have hHeld := hHeld2
                clear hHeld2
                try simp only [Act.put, List.setIfInBounds_toArray, List.set_cons_zero, List.set_cons_succ]
                have x8 : (W2.alloc (.cells #[.slice none 0 0] 33)).cell? ⟨c8, 0, none⟩ = some (.slice none 0 0) := by rw [hc8]; simp [go_sem]
                have f8 : (W2.alloc (.cells #[.slice none 0 0] 33)).frozen? ⟨c8, 0, none⟩ = false := by rw [hc8]; simp [go_sem]
                replace g1 := keep_alloc g1 (.cells #[.slice none 0 0] 33)
                replace g2 := keep_alloc g2 (.cells #[.slice none 0 0] 33)
                have hne89 : ¬ c8 = c9 := by have := World.block_lt_of_cell? _ _ x9; simp only at this; omega
                replace f9 := kf (ba (bz _) (.cells #[.slice none 0 0] 33)) _ _ (World.block_lt_of_cell? _ _ x9) f9
                replace f9b := kf (ba (bz _) (.cells #[.slice none 0 0] 33)) _ _ (World.block_lt_of_cell? _ _ x9) f9b
                replace x9 := keep_alloc x9 (.cells #[.slice none 0 0] 33)
                replace x9b := keep_alloc x9b (.cells #[.slice none 0 0] 33)
                replace hset := hset.below (ba (bz _) (.cells #[.slice none 0 0] 33))
                replace hBW := ba hBW (.cells #[.slice none 0 0] 33)
                rw [← hc8]
                generalize (W2.alloc (.cells #[.slice none 0 0] 33)) = W3 at *
                clear hc8
                refine wpAnyH_ready (rs := [16]) (by kernel_rfl) (by simp) ?_
                refine AllReadyH.cons rfl (fun K hK => ?_) AllReadyH.nil
                go_simp
                refine (HRO.out W3 hBW).mono ?_
                rintro e W4 ⟨rfl, hb⟩
                replace g1 := cell_past hb g1
                replace g2 := cell_past hb g2
                replace hBW := bt hBW hb
                replace hset := hset.below hb
                replace f8 := kf hb _ _ (World.block_lt_of_cell? _ _ x8) f8
                replace x8 := cell_past hb x8
                replace f9 := kf hb _ _ (World.block_lt_of_cell? _ _ x9) f9
                replace f9b := kf hb _ _ (World.block_lt_of_cell? _ _ x9) f9b
                replace x9 := cell_past hb x9
                replace x9b := cell_past hb x9b
                clear hb
                go_wp2_with fail
                refine hK.out _ _ (by exact ⟨g1, g2⟩) (fun hHeld2 => ?_)
                clear hK K
                clear hHeld
                have hHeld := hHeld2
                clear hHeld2
                try simp only [Act.put, List.setIfInBounds_toArray, List.set_cons_zero, List.set_cons_succ]
                refine wpAnyH_ready (rs := [19]) (by kernel_rfl) (by simp) ?_
                refine AllReadyH.cons rfl (fun K hK => ?_) AllReadyH.nil
                go_simp
                refine hK.out _ _ (by exact ⟨keep_set g1 (by simp; omega), keep_set g2 (by simp; omega)⟩) (fun hHeld2 => ?_)
                clear hK K
                clear hHeld
                have hHeld := hHeld2
                clear hHeld2
                try simp only [Act.put, List.setIfInBounds_toArray, List.set_cons_zero, List.set_cons_succ]
                have y8 : (W4.setCell ⟨c8, 0, none⟩ (.slice ao3 m3 cap3)).cell? ⟨c8, 0, none⟩ = some (.slice ao3 m3 cap3) := by simp [go_sem, x8]
                replace hset := set_other hset x8 (fun _ => by simp) (.slice ao3 m3 cap3)
                replace x9 := keep_set (p := ⟨c8, 0, none⟩) (u := .slice ao3 m3 cap3) x9 hne89
                replace x9b := keep_set (p := ⟨c8, 0, none⟩) (u := .slice ao3 m3 cap3) x9b hne89
                have f9x : (W4.setCell ⟨c8, 0, none⟩ (.slice ao3 m3 cap3)).frozen? ⟨c9, 0, none⟩ = false := by simp [go_sem, f9]
                have f9y : (W4.setCell ⟨c8, 0, none⟩ (.slice ao3 m3 cap3)).frozen? ⟨c9, 1, none⟩ = false := by simp [go_sem, f9b]
                replace hBW := bs hBW (p := ⟨c8, 0, none⟩) hgec8 (.slice ao3 m3 cap3)
                replace g1 := keep_set (p := ⟨c8, 0, none⟩) (u := .slice ao3 m3 cap3) g1 (by simp; omega)
                replace g2 := keep_set (p := ⟨c8, 0, none⟩) (u := .slice ao3 m3 cap3) g2 (by simp; omega)
                clear x8 f8 f9 f9b
                generalize (W4.setCell ⟨c8, 0, none⟩ (.slice ao3 m3 cap3)) = W5 at *
                refine wpAnyH_ready (rs := [20]) (by kernel_rfl) (by simp) ?_
                refine AllReadyH.cons rfl (fun K hK => ?_) AllReadyH.nil
                go_simp
                refine hK.out _ _ (by exact ⟨keep_set (keep_set g1 (by simp; omega)) (by simp; omega), keep_set (keep_set g2 (by simp; omega)) (by simp; omega)⟩) (fun hHeld2 => ?_)
                clear hK K
                refine wpAnyH_done (by kernel_rfl) ?_ _
                go_wp2_with fail
                go_meet
                have hs1 := set_other hset x9 (fun _ => by simp) (.string S)
                have hs2 := set_other hs1 (p := ⟨c9, 1, none⟩) (u0 := .string ⟨#[]⟩) (by simp [go_sem, x9b]) (fun _ => by simp) (.string x.s)
                exact ⟨c8, c9, rfl, rfl, Lib.hid ⟨bs (bs hBW hgec9 _) hgec9 _, ⟨_, keep_set (keep_set y8 (fun e => hne89 e.symm)) (fun e => hne89 e.symm), hs2⟩, by simp [go_sem, x9], by simp [go_sem, x9b], hgec8, hgec9⟩⟩
            case t8n17 =>
              go_simp
              obtain ⟨c8, hc8⟩ : ∃ c, c = W1.heap.size := ⟨_, rfl⟩
              have hgec8 : wr.heap.size ≤ c8 := by rw [hc8]; exact hBW.size
              refine hK.out _ _ (by exact ⟨keep_alloc g1 _, keep_alloc g2 _⟩) (fun hHeld2 => ?_)
              clear hK K
              clear hHeld
              have hHeld := hHeld2
              clear hHeld2
              try simp only [Act.put, List.setIfInBounds_toArray, List.set_cons_zero, List.set_cons_succ]
              have x8 : (W1.alloc (.cells #[.slice none 0 0] 33)).cell? ⟨c8, 0, none⟩ = some (.slice none 0 0) := by rw [hc8]; simp [go_sem]
              have f8 : (W1.alloc (.cells #[.slice none 0 0] 33)).frozen? ⟨c8, 0, none⟩ = false := by rw [hc8]; simp [go_sem]
              replace g1 := keep_alloc g1 (.cells #[.slice none 0 0] 33)
              replace g2 := keep_alloc g2 (.cells #[.slice none 0 0] 33)
              have hne89 : ¬ c8 = c9 := by have := World.block_lt_of_cell? _ _ x9; simp only at this; omega
              replace f9 := kf (ba (bz _) (.cells #[.slice none 0 0] 33)) _ _ (World.block_lt_of_cell? _ _ x9) f9
              replace f9b := kf (ba (bz _) (.cells #[.slice none 0 0] 33)) _ _ (World.block_lt_of_cell? _ _ x9) f9b
              replace x9 := keep_alloc x9 (.cells #[.slice none 0 0] 33)
              replace x9b := keep_alloc x9b (.cells #[.slice none 0 0] 33)
              replace hBW := ba hBW (.cells #[.slice none 0 0] 33)
              rw [← hc8]
              generalize (W1.alloc (.cells #[.slice none 0 0] 33)) = W2 at *
              clear hc8
              refine wpAnyH_ready (rs := [5]) (by kernel_rfl) (by simp) ?_
              refine AllReadyH.cons rfl (fun K hK => ?_) AllReadyH.nil
              go_simp
              refine (HOF.out W2 hBW).mono ?_
              rintro e W3 ⟨v3, rfl, hset, hb⟩
              obtain ⟨m3, ao3, cap3, b3, o3, rfl, _⟩ := id hset
              replace g1 := cell_past hb g1
              replace g2 := cell_past hb g2
              replace hBW := bt hBW hb
              replace f8 := kf hb _ _ (World.block_lt_of_cell? _ _ x8) f8
              replace x8 := cell_past hb x8
              replace f9 := kf hb _ _ (World.block_lt_of_cell? _ _ x9) f9
              replace f9b := kf hb _ _ (World.block_lt_of_cell? _ _ x9) f9b
              replace x9 := cell_past hb x9
              replace x9b := cell_past hb x9b
              clear hb
              go_wp2_with fail
              refine hK.out _ _ (by exact ⟨g1, g2⟩) (fun hHeld2 => ?_)
              clear hK K
              clear hHeld
              have hHeld := hHeld2
              clear hHeld2
              try simp only [Act.put, List.setIfInBounds_toArray, List.set_cons_zero, List.set_cons_succ]
              refine wpAnyH_ready (rs := [16]) (by kernel_rfl) (by simp) ?_
              refine AllReadyH.cons rfl (fun K hK => ?_) AllReadyH.nil
              go_simp
              refine (HRO.out W3 hBW).mono ?_
              rintro e W4 ⟨rfl, hb⟩
              replace g1 := cell_past hb g1
              replace g2 := cell_past hb g2
              replace hBW := bt hBW hb
              replace hset := hset.below hb
              replace f8 := kf hb _ _ (World.block_lt_of_cell? _ _ x8) f8
              replace x8 := cell_past hb x8
              replace f9 := kf hb _ _ (World.block_lt_of_cell? _ _ x9) f9
              replace f9b := kf hb _ _ (World.block_lt_of_cell? _ _ x9) f9b
              replace x9 := cell_past hb x9
              replace x9b := cell_past hb x9b
              clear hb
              go_wp2_with fail
              refine hK.out _ _ (by exact ⟨g1, g2⟩) (fun hHeld2 => ?_)
              clear hK K
              clear hHeld
              have hHeld := hHeld2
              clear hHeld2
              try simp only [Act.put, List.setIfInBounds_toArray, List.set_cons_zero, List.set_cons_succ]
              refine wpAnyH_ready (rs := [19]) (by kernel_rfl) (by simp) ?_
              refine AllReadyH.cons rfl (fun K hK => ?_) AllReadyH.nil
              go_simp
              refine hK.out _ _ (by exact ⟨keep_set g1 (by simp; omega), keep_set g2 (by simp; omega)⟩) (fun hHeld2 => ?_)
              clear hK K
              clear hHeld
              have hHeld := hHeld2
              clear hHeld2
              try simp only [Act.put, List.setIfInBounds_toArray, List.set_cons_zero, List.set_cons_succ]
              have y8 : (W4.setCell ⟨c8, 0, none⟩ (.slice ao3 m3 cap3)).cell? ⟨c8, 0, none⟩ = some (.slice ao3 m3 cap3) := by simp [go_sem, x8]
              replace hset := set_other hset x8 (fun _ => by simp) (.slice ao3 m3 cap3)
              replace x9 := keep_set (p := ⟨c8, 0, none⟩) (u := .slice ao3 m3 cap3) x9 hne89
              replace x9b := keep_set (p := ⟨c8, 0, none⟩) (u := .slice ao3 m3 cap3) x9b hne89
              have f9x : (W4.setCell ⟨c8, 0, none⟩ (.slice ao3 m3 cap3)).frozen? ⟨c9, 0, none⟩ = false := by simp [go_sem, f9]
              have f9y : (W4.setCell ⟨c8, 0, none⟩ (.slice ao3 m3 cap3)).frozen? ⟨c9, 1, none⟩ = false := by simp [go_sem, f9b]
              replace hBW := bs hBW (p := ⟨c8, 0, none⟩) hgec8 (.slice ao3 m3 cap3)
              replace g1 := keep_set (p := ⟨c8, 0, none⟩) (u := .slice ao3 m3 cap3) g1 (by simp; omega)
              replace g2 := keep_set (p := ⟨c8, 0, none⟩) (u := .slice ao3 m3 cap3) g2 (by simp; omega)
              clear x8 f8 f9 f9b
              generalize (W4.setCell ⟨c8, 0, none⟩ (.slice ao3 m3 cap3)) = W5 at *
              refine wpAnyH_ready (rs := [20]) (by kernel_rfl) (by simp) ?_
              refine AllReadyH.cons rfl (fun K hK => ?_) AllReadyH.nil
              go_simp
              refine hK.out _ _ (by exact ⟨keep_set (keep_set g1 (by simp; omega)) (by simp; omega), keep_set (keep_set g2 (by simp; omega)) (by simp; omega)⟩) (fun hHeld2 => ?_)
              clear hK K
              refine wpAnyH_done (by kernel_rfl) ?_ _
              go_wp2_with fail
              go_meet
              have hs1 := set_other hset x9 (fun _ => by simp) (.string S)
              have hs2 := set_other hs1 (p := ⟨c9, 1, none⟩) (u0 := .string ⟨#[]⟩) (by simp [go_sem, x9b]) (fun _ => by simp) (.string x.s)
              exact ⟨c8, c9, rfl, rfl, Lib.hid ⟨bs (bs hBW hgec9 _) hgec9 _, ⟨_, keep_set (keep_set y8 (fun e => hne89 e.symm)) (fun e => hne89 e.symm), hs2⟩, by simp [go_sem, x9], by simp [go_sem, x9b], hgec8, hgec9⟩⟩
        case rest =>
          have hcut' := hcut
          revert hcut'
          rename World => wx
          intro hcut'
          clear hcut'
          obtain ⟨c8, c9, rfl, rfl, HC⟩ := hcut
          have hcb2 := HC.out.below
          replace g0 := cell_past hcb2 g0
          replace g2 := cell_past hcb2 g2
          obtain ⟨u, x8, hset⟩ := HC.out.set
          have k0 := HC.out.k0
          have k1 := HC.out.k1
          obtain ⟨m8, ao8, cap8, b8, o8, hu8, _⟩ := id hset
          simp only [Value.agg.injEq, Array.mk.injEq, List.cons.injEq, and_true] at hu8
          subst hu8
          have HSET := Lib.hid hset
          have HMM := Lib.hid (HI.out.m.below hcb2)
          have HRR := Lib.hid (HI.out.r.below hcb2)
          have HBX := Lib.hid (bt HI.out.below hcb2)
          have hq9 : q < c9 ∧ q < c8 := by have h1 := HC.out.g9; have h2 := HC.out.g8; have := HI.out.r.lt; omega
          have HKP : Hid (∀ {w3 : World} {ks' : List Cfg} {T' sv' : Nat} {vl' : Value}, MmAt w3 p ob ks' T' sv' → RmAt w3 q ob.isSome ks' vl' sv' → Below w.heap.size w w3 → ks'.length ≤ T' → sv' ≤ T' → PlInv w p q ob ks' T' sv' vl' w3) := Lib.hid (fun a b c d e => ⟨a, b, c, HI.out.gp, HI.out.gq, HI.out.gb, d, e⟩)
          have hlen := HI.out.len
          have hle := HI.out.le
          have HGB := Lib.hid (And.intro HI.out.gp (And.intro HI.out.gq HI.out.gb))
          have HBL : Hid (b < w.heap.size) := Lib.hid (HS.out.lt (by rw [length_flat Act3.three]; have := HL.out; omega))
          have hsz := HSM.out.2
          have hS1 : S.size ≤ maxLen := by have := HSK.out.2; unfold maxLen; omega
          have hS2 : x.s.size ≤ maxLen := by unfold maxLen; omega
          have hk0 : 0 ≤ x.what := HWH.out.1
          have hK : Int.tmod x.what 6 = x.what % 6 := Int.tmod_eq_emod_of_nonneg hk0
          obtain ⟨KK, hKK⟩ : ∃ KK, KK = x.what % 6 := ⟨_, rfl⟩
          rw [← hKK] at hK
          have hkk2 : x.what % 6 = KK := hKK.symm
          classical
          obtain ⟨B, hB⟩ : ∃ B : Bool, (B = true ↔ (S, x.s) ∈ ks) := ⟨decide ((S, x.s) ∈ ks), decide_eq_true_iff⟩
          have HBB := Lib.hid hB
          clear hcb2 hset hB hKK HI HC g1
          by_cases hK4 : KK = 4
          · subst hK4
            have HH1 : Hid (∀ W, Below wx.heap.size wx W → Calls Try.prog 13 #[.pointer (some ⟨p, 0, none⟩), .agg #[.slice ao8 m8 cap8], .string x.s] W fun e w' => e = .returned (.bool B) ∧ Below W.heap.size W w') := Lib.hid (fun W hW => has_memo p ob ks T sv _ (ofN x.l) S x.s W (HMM.out.below hW) (HSET.out.below hW) HSK.out.1 hS1 hS2 B HBB.out)
            have HH2 : Hid (∀ W, Below wx.heap.size wx W → Calls Try.prog 14 #[.pointer (some ⟨q, 0, none⟩), .agg #[.string S, .string x.s]] W fun e w' => e = .returned (.bool B) ∧ Below W.heap.size W w') := Lib.hid (fun W hW => rhasm_any q _ ks vl sv S x.s W (HRR.out.below hW) (by omega) B HBB.out)
            go_wp2_with fail
            go_region_held3 (fun w' => w'.cell? ⟨c8, 0, none⟩ = some (.slice ao8 m8 cap8) ∧ w'.cell? ⟨b, o + i * 3 + 2, none⟩ = some (.string x.s) ∧ w'.cell? ⟨c9, 0, none⟩ = some (.string S) ∧ w'.cell? ⟨c9, 1, none⟩ = some (.string x.s)) (exact ⟨x8, g2, k0, k1⟩) ((first | (go_at_call 13; refine (HH1.out _ (by repeat (first | (with_reducible exact bz _) | (with_reducible exact bt (Below.drew (bz _)) hb3) | (with_reducible apply Below.drew)))).mono ?_; rintro e w3 ⟨rfl, hb3⟩; replace x8 := cell_past hb3 x8; replace g2 := cell_past hb3 g2; replace k0 := cell_past hb3 k0; replace k1 := cell_past hb3 k1) | (go_at_call 14; refine (HH2.out _ (by repeat (first | (with_reducible exact bz _) | (with_reducible exact bt (Below.drew (bz _)) hb3) | (with_reducible apply Below.drew)))).mono ?_; rintro e w4 ⟨rfl, hb4⟩; replace x8 := cell_past hb4 x8; replace g2 := cell_past hb4 g2; replace k0 := cell_past hb4 k0; replace k1 := cell_past hb4 k1)))
            have HM2 := Lib.hid (HMM.out.below (bt (bt (bz wx).drew hb3) hb4))
            have HR2 := Lib.hid (HRR.out.below (bt (bt (bz wx).drew hb3) hb4))
            have HB2 := Lib.hid (bt HBX.out (bt (bt (bz wx).drew hb3) hb4))
            have hT2 : T ≤ i + 1 := by omega
            have HLE := Lib.hid (And.intro hlen hle)
            clear hb3 hb4 x8 k0 k1 g0 g2
            obtain ⟨aoL, capL, bL, oL, hvl, _, _⟩ := SlAt.owned HR2.out.own
            have y1 := HR2.out.c1
            rw [hvl] at y1
            have y2 := HR2.out.c2
            clear hvl
            go_wp2_with fail
            go_region_held3 (fun w' => w'.cell? ⟨q, 1, none⟩ = some (.slice aoL (ks).length capL) ∧ w'.cell? ⟨q, 2, none⟩ = some (.int .i64 ((sv : Nat) : Int))) (exact ⟨y1, y2⟩) ((first | (go_at_call 19; refine (len_any p ob (ks) (T) (sv) _ (HM2.out.below (by repeat (first | (with_reducible exact bz _) | (with_reducible apply Below.drew))))).mono ?_; rintro e wX ⟨rfl, rfl⟩) | (go_at_call 20; refine (saved_any p ob (ks) (T) (sv) _ (HM2.out.below (by repeat (first | (with_reducible exact bz _) | (with_reducible apply Below.drew))))).mono ?_; rintro e wX ⟨rfl, rfl⟩)))
            go_wp2_with fail
            refine ⟨⟨i + 1, by omega, by go_num, Lib.hid ⟨ks, T, sv, _, hT2, HKP.out (HM2.out.below (bz _).drew) (HR2.out.below (bz _).drew) HB2.out.drew HLE.out.1 HLE.out.2⟩⟩, ?_⟩
            simp [intOf]; omega
          · have t4 : (KK == 4) = false := by simpa using hK4
            by_cases hK5 : KK = 5
            · subst hK5
              by_cases he : x.s = ⟨#[]⟩
              · have s1 : x.s.toList = [] := by rw [he, ByteArray.toList_eq]
                have s2 : (x.s.toList == []) = true := by rw [s1]; rfl
                go_wp2_with fail
                refine (reset_any p ob ks T sv _ HMM.out).mono ?_
                rintro e w3 ⟨rfl, hm3, hk3⟩
                have HR3 := Lib.hid (HRR.out.kept hk3 (by rintro (e | e); (· have := HGB.out.2.1; omega); (· have := (HGB.out.2.2 _ e).2; omega)) (fun g e => by rintro (e2 | e2); (· have := (HRR.out.own.lt g e).1; have := HGB.out.2.1; omega); (· have := (HRR.out.own.lt g e).1; have := (HGB.out.2.2 _ e2).2; omega)))
                have HM3 := Lib.hid hm3
                have HB3 : Hid (Below w.heap.size w w3) := Lib.hid (HBX.out.trans (hk3.below (fun i hi _ e => by rcases e with e | e; (· have := HGB.out.1; omega); (· have := (HGB.out.2.2 _ e).1; omega)) HBX.out.size))
                clear hm3 hk3
                go_wp2_with fail
                refine (rreset_any q _ ks vl sv _ HR3.out).mono ?_
                rintro e w4 ⟨vl, rfl, hr4, hk4, hv4⟩
                have HM2 := Lib.hid (HM3.out.kept hk4 (by rintro (e | e); (· have := HGB.out.2.1; omega); (· have := (HR3.out.own.lt _ e).1; have := HGB.out.2.1; omega)) (fun b' e => by rintro (e2 | e2); (· have := (HGB.out.2.2 _ e).2; omega); (· have := (HR3.out.own.lt _ e2).1; have := (HGB.out.2.2 _ e).2; omega)))
                have HR2 := Lib.hid hr4
                have HB2 : Hid (Below w.heap.size w w4) := Lib.hid (HB3.out.trans (hk4.below (fun i hi _ e => by rcases e with e | e; (· have := HGB.out.1; have := HGB.out.2.1; omega); (· have := (HR3.out.own.lt _ e).1; have := HGB.out.1; have := HGB.out.2.1; omega)) HB3.out.size))
                have hT2 : 0 ≤ i + 1 := by omega
                have HLE : Hid (([] : List Cfg).length ≤ 0 ∧ 0 ≤ 0) := Lib.hid ⟨Nat.le_refl _, Nat.le_refl _⟩
                clear hr4 hk4 hv4 x8 k0 k1 g0 g2
                obtain ⟨aoL, capL, bL, oL, hvl, _, _⟩ := SlAt.owned HR2.out.own
                have y1 := HR2.out.c1
                rw [hvl] at y1
                have y2 := HR2.out.c2
                clear hvl
                go_wp2_with fail
                go_region_held3 (fun w' => w'.cell? ⟨q, 1, none⟩ = some (.slice aoL (([] : List Cfg)).length capL) ∧ w'.cell? ⟨q, 2, none⟩ = some (.int .i64 ((0 : Nat) : Int))) (exact ⟨y1, y2⟩) ((first | (go_at_call 19; refine (len_any p ob (([] : List Cfg)) (0) (0) _ (HM2.out.below (by repeat (first | (with_reducible exact bz _) | (with_reducible apply Below.drew))))).mono ?_; rintro e wX ⟨rfl, rfl⟩) | (go_at_call 20; refine (saved_any p ob (([] : List Cfg)) (0) (0) _ (HM2.out.below (by repeat (first | (with_reducible exact bz _) | (with_reducible apply Below.drew))))).mono ?_; rintro e wX ⟨rfl, rfl⟩)))
                go_wp2_with fail
                refine ⟨⟨i + 1, by omega, by go_num, Lib.hid ⟨([] : List Cfg), 0, 0, _, hT2, HKP.out (HM2.out.below (bz _).drew) (HR2.out.below (bz _).drew) HB2.out.drew HLE.out.1 HLE.out.2⟩⟩, ?_⟩
                simp [intOf]; omega
              · have s1 : ¬ x.s.toList = [] := fun h => he (tolist_inj (h.trans (by rw [ByteArray.toList_eq])))
                have s2 : (x.s.toList == []) = false := by simpa using s1
                have HM2 := HMM
                have HR2 := HRR
                have HB2 := HBX
                have hT2 : T ≤ i + 1 := by omega
                have HLE := Lib.hid (And.intro hlen hle)
                clear x8 k0 k1
                obtain ⟨aoL, capL, bL, oL, hvl, _, _⟩ := SlAt.owned HR2.out.own
                have y1 := HR2.out.c1
                rw [hvl] at y1
                have y2 := HR2.out.c2
                clear hvl
                go_wp2_with fail
                go_region_held3 (fun w' => w'.cell? ⟨q, 1, none⟩ = some (.slice aoL (ks).length capL) ∧ w'.cell? ⟨q, 2, none⟩ = some (.int .i64 ((sv : Nat) : Int))) (exact ⟨y1, y2⟩) ((first | (go_at_call 19; refine (len_any p ob (ks) (T) (sv) _ (HM2.out.below (by repeat (first | (with_reducible exact bz _) | (with_reducible apply Below.drew))))).mono ?_; rintro e wX ⟨rfl, rfl⟩) | (go_at_call 20; refine (saved_any p ob (ks) (T) (sv) _ (HM2.out.below (by repeat (first | (with_reducible exact bz _) | (with_reducible apply Below.drew))))).mono ?_; rintro e wX ⟨rfl, rfl⟩)))
                go_wp2_with fail
                refine ⟨⟨i + 1, by omega, by go_num, Lib.hid ⟨ks, T, sv, _, hT2, HKP.out (HM2.out.below (bz _).drew) (HR2.out.below (bz _).drew) HB2.out.drew HLE.out.1 HLE.out.2⟩⟩, ?_⟩
                simp [intOf]; omega
            · have t5 : (KK == 5) = false := by simpa using hK5
              obtain ⟨R, ks', sv', hl', hs', hadd, hradd⟩ := adds_any p q ob ks T sv vl (ofN x.l) S x.s HMM.out.off HSK.out.1 hS1 hS2 (by omega) hlen hle
              have HADD := Lib.hid hadd
              have HRADD := Lib.hid hradd
              have HLE := Lib.hid (And.intro hl' hs')
              clear hadd hradd hl' hs'
              go_wp2_with fail
              go_region_held3 (fun w' => w'.cell? ⟨c8, 0, none⟩ = some (.slice ao8 m8 cap8) ∧ w'.cell? ⟨b, o + i * 3 + 2, none⟩ = some (.string x.s)) (first | exact ⟨x8, g2⟩ | exact ⟨y8, y2⟩) ((go_at_call 17; refine (HADD.out _ _ (HMM.out.below (bz _).drew) (HSET.out.below (bz _).drew)).mono ?_; rintro e w3 ⟨rfl, hm3, hk3⟩; have hnk : ∀ {bb oo : Nat} {u : Value}, wx.cell? ⟨bb, oo, none⟩ = some u → bb ≠ p → ob ≠ some bb → w3.cell? ⟨bb, oo, none⟩ = some u := (fun h1 h2 h3 => hk3.cell (w := wx.drew) h1 (by rintro (e | e); (· exact h2 e); (· exact h3 e))); have y8 : w3.cell? ⟨c8, 0, none⟩ = some (.slice ao8 m8 cap8) := hnk x8 (by have := HGB.out.2.1; omega) (fun e => by have := (HGB.out.2.2 _ e).2; omega); have y2 : w3.cell? ⟨b, o + i * 3 + 2, none⟩ = some (.string x.s) := hnk g2 (by have := HGB.out.1; have := HBL.out; omega) (fun e => by have := (HGB.out.2.2 _ e).1; have := HBL.out; omega)))
              have HR3 := Lib.hid ((HRR.out.below (bz _).drew).kept hk3 (by rintro (e | e); (· have := HGB.out.2.1; omega); (· have := (HGB.out.2.2 _ e).2; omega)) (fun g e => by rintro (e2 | e2); (· have := (HRR.out.own.lt g e).1; have := HGB.out.2.1; omega); (· have := (HRR.out.own.lt g e).1; have := (HGB.out.2.2 _ e2).2; omega)))
              have HM3 := Lib.hid hm3
              have HB3 : Hid (Below w.heap.size w w3) := Lib.hid (HBX.out.drew.trans (hk3.below (fun i hi _ e => by rcases e with e | e; (· have := HGB.out.1; omega); (· have := (HGB.out.2.2 _ e).1; omega)) HBX.out.size))
              replace k0 := hnk k0 (by have := HGB.out.2.1; omega) (fun e => by have := (HGB.out.2.2 _ e).2; omega)
              replace k1 := hnk k1 (by have := HGB.out.2.1; omega) (fun e => by have := (HGB.out.2.2 _ e).2; omega)
              clear hnk hm3 hk3 x8 y8 y2 g0 g2
              go_wp2_with fail
              refine (HRADD.out _ HR3.out).mono ?_
              rintro e w4 ⟨vl4, rfl, hr4, hk4, hv4⟩
              have HM2 := Lib.hid (HM3.out.kept hk4 (by rintro (e | e); (· have := HGB.out.2.1; omega); (· have := (HR3.out.own.lt _ e).1; have := HGB.out.2.1; omega)) (fun b' e => by rintro (e2 | e2); (· have := (HGB.out.2.2 _ e).2; omega); (· have := (HR3.out.own.lt _ e2).1; have := (HGB.out.2.2 _ e).2; omega)))
              have HR2 := Lib.hid hr4
              have HB2 : Hid (Below w.heap.size w w4) := Lib.hid (HB3.out.trans (hk4.below (fun i hi _ e => by rcases e with e | e; (· have := HGB.out.1; have := HGB.out.2.1; omega); (· have := (HR3.out.own.lt _ e).1; have := HGB.out.1; have := HGB.out.2.1; omega)) HB3.out.size))
              have hT2 : T + 1 ≤ i + 1 := by omega
              clear hr4 hk4 hv4 k0 k1
              obtain ⟨aoL, capL, bL, oL, hvl, _, _⟩ := SlAt.owned HR2.out.own
              have y1 := HR2.out.c1
              rw [hvl] at y1
              have y2 := HR2.out.c2
              clear hvl
              go_wp2_with fail
              go_region_held3 (fun w' => w'.cell? ⟨q, 1, none⟩ = some (.slice aoL (ks').length capL) ∧ w'.cell? ⟨q, 2, none⟩ = some (.int .i64 ((sv' : Nat) : Int))) (exact ⟨y1, y2⟩) ((first | (go_at_call 19; refine (len_any p ob (ks') ((T + 1)) (sv') _ (HM2.out.below (by repeat (first | (with_reducible exact bz _) | (with_reducible apply Below.drew))))).mono ?_; rintro e wX ⟨rfl, rfl⟩) | (go_at_call 20; refine (saved_any p ob (ks') ((T + 1)) (sv') _ (HM2.out.below (by repeat (first | (with_reducible exact bz _) | (with_reducible apply Below.drew))))).mono ?_; rintro e wX ⟨rfl, rfl⟩)))
              go_wp2_with fail
              refine ⟨⟨i + 1, by omega, by go_num, Lib.hid ⟨ks', (T + 1), sv', _, hT2, HKP.out (HM2.out.below (bz _).drew) (HR2.out.below (bz _).drew) HB2.out.drew HLE.out.1 HLE.out.2⟩⟩, ?_⟩
              simp [intOf]; omega
      · have i2 : ¬ (i : Int) < (n : Int) := by omega
        have HBW := Lib.hid HI.out.below
        clear HI
        go_wp2_with fail
        refine (awake_any _).mono ?_
        rintro e w1 ⟨rfl, hb1⟩
        go_wp2
        go_ret
        exact ⟨rfl, bt HBW.out hb1⟩
end Go.Proofs.Ytgpfnlbhclefgaa
