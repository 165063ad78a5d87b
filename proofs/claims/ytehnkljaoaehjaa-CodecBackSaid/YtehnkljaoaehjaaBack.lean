/- What is written is read as it was, and torn where it is cut (CodecBack, f6). Printed by gen_back.py. -/
import Derived.Test.YtehnkljaoaehjaaReadb
import Derived.Test.YtehnkljaoaehjaaTk
import Derived.Deep.AppendLies
namespace Go.Proofs.Ytehnkljaoaehjaa
open Go.RowKit Go.Um
set_option linter.unusedSimpArgs false
set_option linter.unusedVariables false
set_option maxHeartbeats 4000000
set_option maxRecDepth 100000

theorem own_apart {w : World} {base base' n m : Nat} {v u : Value} {xs ys : List Value} (h1 : w.ownsRow base 5 1 v n xs) (h2 : w.ownsRow base' 3 1 u m ys) : ∀ g, v.ownBlock = some g → u.ownBlock ≠ some g := by
  intro g e1 e2
  obtain ⟨_, h1⟩ := h1
  obtain ⟨_, h2⟩ := h2
  rcases h1 with ⟨rfl, _⟩ | ⟨g1, c1, cur1, rfl, _, q1, _⟩
  · simp [Value.ownBlock] at e1
  rcases h2 with ⟨rfl, _⟩ | ⟨g2, c2, cur2, rfl, _, q2, _⟩
  · simp [Value.ownBlock] at e2
  simp only [Value.ownBlock, Option.some.injEq] at e1 e2
  subst e1 e2
  rw [q1] at q2
  injection q2 with q2
  injection q2 with a b
  exact absurd b (by decide)
theorem own_kept {S : Nat → Prop} {w w' : World} {base size n : Nat} {e : TypeId} {v : Value} {xs : List Value} (h : w.ownsRow base e size v n xs) (hk : Kept S w w') (hS : ∀ g, v.ownBlock = some g → ¬ S g) : w'.ownsRow base e size v n xs := by
  obtain ⟨h1, h2⟩ := h
  refine ⟨h1, ?_⟩
  rcases h2 with h2 | ⟨g, cap, cur, rfl, hg, hh, r⟩
  · exact .inl h2
  · exact .inr ⟨g, cap, cur, rfl, hg, by rw [hk.block g (Array.getElem?_eq_some_iff.1 hh).1 (hS g (by simp [Value.ownBlock]))]; exact hh, r⟩
def endsV (l : List Thing2) (i : Nat) : List Value := (List.range i).map fun j => Value.int .i64 (off l (j + 1))
theorem endsV_len (l : List Thing2) (i : Nat) : (endsV l i).length = i := by simp [endsV]
theorem endsV_succ (l : List Thing2) (i : Nat) : endsV l (i + 1) = endsV l i ++ [.int .i64 (off l (i + 1))] := by simp [endsV, List.range_succ]
theorem endsV_at (l : List Thing2) (i k : Nat) (h : k < i) : (endsV l i)[k]? = some (.int .i64 (off l (k + 1))) := by simp [endsV, h]
theorem info3 : (Try.prog.info? 3).map (fun i => (i.zero, i.size, i.bytes)) = some (some (.int .i64 0), 1, 8) := by kernel_rfl
theorem size3 : (Try.prog.info? 3).map (·.size) = some 1 := by kernel_rfl
/-- at the head of a round of the writing -/
structure BkInv (w : World) (p : Nat) (l : List Thing2) (v u : Value) (i : Nat) (wr : World) : Prop where
  a : WrAt wr p (p + 1) v (encL (l.take i)) 0
  r : wr.ownsRow (p + 1) 3 1 u i (endsV l i)
  below : Below w.heap.size w wr
theorem load_thing {w : World} {b a : Nat} {u0 u1 u2 u3 : Value} (h0 : w.cell? ⟨b, a, none⟩ = some u0) (h1 : w.cell? ⟨b, a + 1, none⟩ = some u1) (h2 : w.cell? ⟨b, a + 2, none⟩ = some u2) (h3 : w.cell? ⟨b, a + 3, none⟩ = some u3) {ev : Operand → Value} {x : Operand} (hx : ev x = .pointer (some ⟨b, a, none⟩)) {d : Option Tmp} {ty : TypeId} {ps : String} {af : Array Edge} {g : Option (Nat × Bool)} :
    (execOp ev { dst := d, op := .load 37 x, type := ty, pos := ps, after := af, guard := g }).run Try.prog w = .ok (.value (.agg #[u0, u1, u2, u3])) w := by
  simp [execOp, hx, go_sem, h0, h1, h2, h3]
theorem idx_thing {n cap b o k : Nat} {ao : Option Addr} (h : ∀ (i : Int), 0 ≤ i → i < n → ∀ w, (Instr.indexAt 22 (.slice ao n cap) (.int .i64 i)).run Try.prog w = .ok (.pointer (some ⟨b, o + i.toNat * 4, none⟩)) w)
    (i1 : (0 : Int) ≤ (k : Int)) (i2 : (k : Int) < (n : Int)) {w : World} {ev : Operand → Value} {x y : Operand} (hx : ev x = .slice ao n cap) (hy : ev y = .int .i64 k) {d : Option Tmp} {ty : TypeId} {ps : String} {af : Array Edge} {g : Option (Nat × Bool)} :
    (execOp ev { dst := d, op := .indexAddr 22 x y, type := ty, pos := ps, after := af, guard := g }).run Try.prog w = .ok (.value (.pointer (some ⟨b, o + k * 4, none⟩))) w := by
  have h' := h k i1 i2 w
  rw [Int.toNat_natCast] at h'
  simp [execOp, hx, hy, go_sem, h']
theorem idx_end {n cap b o k : Nat} {ao : Option Addr} (h : ∀ (i : Int), 0 ≤ i → i < n → ∀ w, (Instr.indexAt 62 (.slice ao n cap) (.int .i64 i)).run Try.prog w = .ok (.pointer (some ⟨b, o + i.toNat * 1, none⟩)) w)
    (i1 : (0 : Int) ≤ (k : Int)) (i2 : (k : Int) < (n : Int)) {w : World} {ev : Operand → Value} {x y : Operand} (hx : ev x = .slice ao n cap) (hy : ev y = .int .i64 k) {d : Option Tmp} {ty : TypeId} {ps : String} {af : Array Edge} {g : Option (Nat × Bool)} :
    (execOp ev { dst := d, op := .indexAddr 62 x y, type := ty, pos := ps, after := af, guard := g }).run Try.prog w = .ok (.value (.pointer (some ⟨b, o + k, none⟩))) w := by
  have h' := h k i1 i2 w
  rw [Int.toNat_natCast, Nat.mul_one] at h'
  simp [execOp, hx, hy, go_sem, h']
/-- a reader at a place, over what was there -/
structure RkInv (W : World) (p : Nat) (s : ByteArray) (k : Nat) (wr : World) : Prop where
  rd : RdAt wr p s ⟨k, 0⟩
  below : Below W.heap.size W wr
theorem close_end (s : ByteArray) (k : Nat) (h : k = s.size) : (⟨k, 0⟩ : Rs).close s = 0 := by unfold Rs.close; simp [h]

theorem back_few (l : List Thing2) (n : Nat) (hn : n = l.length) (c : Int) (ao : Option Addr) (cap b o : Nat) (w : World) (hsl : SlAt w 4 n (l.flatMap Thing2.cells) ao cap b o) (hx : ∀ x ∈ l, x.ok w) (hc : 0 ≤ c ∧ c ≤ 65535) :
    Calls Try.prog 6 #[.slice ao n cap, .int .u16 c] w fun e w' => e = .returned (.bool true) ∧ Below w.heap.size w w' := by
  have hidx := hsl.idx (P := Try.prog) (t := 22) (e := 37) (by kernel_rfl) size37 (by decide)
  have HL := Lib.hid hn
  have HS := Lib.hid hsl
  have HX := Lib.hid hx
  clear hn hsl hx
  obtain ⟨j0, hj, jz0, jz1, jz2⟩ := info_parts info3
  go_enter Try.func6, Try.ntmps6
  go_wp2_with fail
  refine (few_any l n HL.out ao cap b o _ HS.out).mono ?_
  rintro e w0 ⟨B, rfl, hb0, hB⟩
  have HB0 := Lib.hid hb0
  have HFew := Lib.hid hB
  clear hb0 hB
  cases B
  · go_wp2_with fail
    refine (awake_any _).mono ?_
    rintro e w1 ⟨rfl, hb1⟩
    go_wp2
    go_ret
    exact ⟨rfl, bt HB0.out hb1⟩
  · have h50 : n ≤ 50 := by rw [HL.out]; exact (HFew.out (by first | rfl | trivial)).1
    go_wp2_with fail
    have HI0 : Hid (BkInv w w0.heap.size l (.slice none 0 0) (.slice none 0 0) 0 (w0.alloc (.cells #[.int .i64 0, .slice none 0 0] 31))) := Lib.hid ⟨WrAt.new w0 _, World.ownsRow_nil _ _ _ _, ba HB0.out _⟩
    have HQ := Lib.hid (HB0.out.size)
    obtain ⟨p, hp⟩ : ∃ p, p = w0.heap.size := ⟨_, rfl⟩
    have HP : Hid (w.heap.size ≤ p) := Lib.hid (by rw [hp]; exact HQ.out)
    rw [← hp] at HI0 ⊢
    obtain ⟨Y, hY⟩ : ∃ Y, Y = w0.alloc (.cells #[.int .i64 0, .slice none 0 0] 31) := ⟨_, rfl⟩
    rw [← hY] at HI0 ⊢
    clear hY hp HQ HB0
    go_loopw [6, 7] (fun t6 t7 wr => ∃ (i : Nat) (v : Value), i ≤ n ∧ t7 = .int .i64 i ∧ Hid (BkInv w p l v t6 i wr) ∧ Hid (∀ (j : Nat) (x : Thing2), j < i → l[j]? = some x → x.l.length ≤ 255)) (fun _ t7 _ => n - (intOf t7).toNat)
    case atStart => exact ⟨0, .slice none 0 0, Nat.zero_le _, rfl, HI0, Lib.hid (fun j x h => absurd h (Nat.not_lt_zero _))⟩
    case round =>
      obtain ⟨i, v, hi, rfl, hI, hall⟩ := hrel
      clear HI0
      by_cases hlt : i < n
      · have i1 : (0 : Int) ≤ (i : Int) := by omega
        have i2 : (i : Int) < (n : Int) := by omega
        have hkl : i < l.length := by rw [← HL.out]; exact hlt
        obtain ⟨x, hxk⟩ : ∃ x, l[i]? = some x := ⟨_, List.getElem?_eq_getElem hkl⟩
        have SB := HS.out.below hI.out.below
        have g0 := SB.cell (i * 4 + 0) (.int .u8 x.kind) (by rw [cell_of Thing2.four l i x hxk 0 (by decide)]; rfl)
        have g1 := SB.cell (i * 4 + 1) (.int .u32 x.n) (by rw [cell_of Thing2.four l i x hxk 1 (by decide)]; rfl)
        have g2 := SB.cell (i * 4 + 2) (.string x.s) (by rw [cell_of Thing2.four l i x hxk 2 (by decide)]; rfl)
        have g3 := SB.cell (i * 4 + 3) (.slice x.ao x.l.length x.cap) (by rw [cell_of Thing2.four l i x hxk 3 (by decide)]; rfl)
        rw [Nat.add_zero] at g0
        rw [← Nat.add_assoc] at g1 g2 g3
        have hfew := HFew.out (by first | rfl | trivial)
        have hsm := hfew.2 i x hxk
        have hok := HX.out x (List.mem_of_getElem? hxk)
        by_cases h255 : 255 < x.l.length
        · have t1 : decide ((255 : Int) < (x.l.length : Int)) = true := by rw [decide_eq_true_iff]; omega
          have t2 : (255 : Int) < (x.l.length : Int) := by omega
          clear SB hxk hkl hfew hsm hok
          have HIB := Lib.hid hI.out.below
          clear hI
          go_wp2_with fail
          refine (awake_any _).mono ?_
          rintro e w1 ⟨rfl, hb1⟩
          go_wp2
          go_ret
          exact ⟨rfl, bt HIB.out hb1⟩
        · have t1 : decide ((255 : Int) < (x.l.length : Int)) = false := by rw [decide_eq_false_iff_not]; omega
          have t2 : ¬ (255 : Int) < (x.l.length : Int) := by omega
          have HXK := Lib.hid hxk
          have hle : off l i ≤ 600 * 50 := by
            have key : ∀ m, m ≤ i → off l m ≤ 600 * m := by
              intro m
              induction m with
              | zero => intro _; simp [off_zero]
              | succ m ih =>
                intro hm
                have hxm := List.getElem?_eq_getElem (show m < l.length by have := HL.out; omega)
                have := off_succ l m _ hxm
                have := encT_len l[m] (hfew.2 m _ hxm).1 (hall.out m _ (by omega) hxm)
                have := ih (by omega)
                omega
            have := key i (Nat.le_refl _)
            omega
          have hel := encT_len x hsm.1 (by omega)
          have hos := off_succ l i x hxk
          have HBB : Hid (0 < x.l.length → x.b ≠ p ∧ v.ownBlock ≠ some x.b) := Lib.hid (fun e => by
            have h1 := hok.l.lt (by simpa using e)
            have h2 := HP.out
            exact ⟨by omega, fun e2 => by have := (hI.out.a.own.lt _ e2).1; omega⟩)
          have hpw : p + 1 ≤ wr.heap.size := hI.out.a.lt
          have HC : Hid (Calls Try.prog 9 #[.pointer (some ⟨p, 0, none⟩), .agg #[.int .u8 x.kind, .int .u32 x.n, .string x.s, .slice x.ao x.l.length x.cap]] wr (fun e w' => ∃ v' S E, e = .returned (.tuple #[.string S, .int .i64 E]) ∧ WrAt w' p (p + 1) v' (encL (l.take i) ++ encT x) 0 ∧ Kept (fun k => k = p ∨ v.ownBlock = some k) wr w')) :=
            Lib.hid (puts_enc p (p + 1) v (encL (l.take i)) x wr hI.out.a (thing_below hok hI.out.below) hsm.1 (by omega) HBB.out (by show off l i ≤ _; omega) hpw (by omega))
          have HI := Lib.hid hI.out
          have HSM := Lib.hid hsm
          have HEL : Hid (off l (i + 1) ≤ 31000) := Lib.hid (by omega)
          clear SB hxk hkl hfew hsm hok hI hel hos hle HBB
          go_wp2_with fail
          refine HC.out.mono ?_
          rintro e w1 ⟨v', S, E, rfl, hw1, hk1⟩
          rw [← encL_snoc l i x HXK.out] at hw1
          have HW1 := Lib.hid hw1
          have HO1 := Lib.hid (own_kept HI.out.r hk1 (fun g e h => by
            rcases h with h | h
            · have := (HI.out.r.lt _ e).1; omega
            · exact own_apart HI.out.a.own HI.out.r g h e))
          have HB1 : Hid (Below w.heap.size w w1) := Lib.hid (HI.out.below.trans (hk1.below (fun k hk _ e => by
            have := HP.out
            rcases e with e | e
            · omega
            · have := (HI.out.a.own.lt _ e).1; omega) HI.out.below.size))
          have hs1 := hk1.size
          clear hw1 hk1 HC g0 g1 g2 g3
          have HBY : Hid (Calls Try.prog 10 #[.pointer (some ⟨p, 0, none⟩)] w1 fun e w' => e = .returned (.tuple #[.string (strOfNums (encL (l.take (i + 1)))), .int .i64 0]) ∧ ∃ n, w' = w1.drewN n) := Lib.hid (by
            have := bytes_any p (p + 1) v' _ 0 w1 HW1.out
            unfold wbytes at this
            rwa [if_pos rfl] at this)
          obtain ⟨T, hT⟩ : ∃ T, T = strOfNums (encL (l.take (i + 1))) := ⟨_, rfl⟩
          have hTs : T.size = off l (i + 1) := by rw [hT, strOfNums_size]; rfl
          rw [← hT] at HBY
          have HTs := Lib.hid hTs
          clear hT hTs
          go_wp2_with fail
          refine HBY.out.mono ?_
          rintro e w2 ⟨rfl, m, rfl⟩
          go_wp2_with (at_builtin; refine wpList_append_lies _ rfl (.tmp 50) (.tmp 53) 62 rfl (p + 1) 3 j0 (.int .i64 0) 1 8 (by kernel_rfl) hj jz0 jz1 jz2 rfl (by decide) _ _ _ rfl ((own_past HO1.out (below_drewN (bz w1) m)).alloc _) ⟨w1.heap.size, 0, none⟩ 1 1 [.int .i64 T.size] rfl rfl (new_cells _ _ _ _ (by simp)) (by simp [Value.oneCell']) (by decide) (by unfold maxLen; omega) (by omega) (by simp; omega) _ rfl ?_)
          intro gg cap2 wa hown2 hgrow2 hat hlt2
          have HI2 : Hid (BkInv w p l v' (.slice (some ⟨gg, 0, none⟩) (i + 1) cap2) (i + 1) wa) := by
            have hne : some p ≠ u6.ownBlock := fun e => by have := (HO1.out.lt _ e.symm).1; omega
            refine Lib.hid ⟨?_, ?_, ?_⟩
            · have h3 := HW1.out.below ((below_drewN (bz w1) m).alloc (by simp) (.cells #[.int .i64 T.size] 3))
              have hap : ∀ g, v'.ownBlock = some g → u6.ownBlock ≠ some g := own_apart HW1.out.own HO1.out
              refine ⟨hgrow2.cell (a := ⟨p, 0, none⟩) h3.e hne, hgrow2.cell (a := ⟨p, 1, none⟩) h3.b hne, (hgrow2.frozen_far ⟨p, 0, none⟩ h3.lt hne).trans h3.fe, (hgrow2.frozen_far ⟨p, 1, none⟩ h3.lt hne).trans h3.fb, h3.own.kept hgrow2 ?_, h3.ne⟩
              cases ho : v'.ownBlock with
              | none => exact .inl rfl
              | some g => exact .inr (fun e => hap g ho e.symm)
            · rw [endsV_succ, ← HTs.out]; exact hown2
            · have hbp := (below_drewN HB1.out m).alloc (by have := HB1.out.size; simpa using this) (.cells #[.int .i64 T.size] 3)
              exact hbp.grown hgrow2 (by have := HB1.out.size; simp; omega) (fun g e => by have := (HO1.out.lt g e).1; have := HP.out; omega)
          clear hown2 hgrow2 hat hlt2
          go_wp2_with fail
          go_roundw
          case rel => exact ⟨i + 1, v', by omega, by go_num, HI2, Lib.hid (fun j y hj hy => by
            by_cases e : j < i
            · exact hall.out j y e hy
            · have : j = i := by omega
              subst this
              rw [HXK.out] at hy
              cases hy
              omega)⟩
          case measure => simp [intOf]; omega
      · have i2 : ¬ (i : Int) < (n : Int) := by omega
        have hin : n = i := by omega
        subst hin
        have hful : encL (l.take n) = encL l := by rw [HL.out, List.take_length]
        have hoff : off l n = (encL l).length := by unfold off; rw [hful]
        have HAL : Hid (∀ (j : Nat) (x : Thing2), l[j]? = some x → x.l.length ≤ 255) := Lib.hid (fun j x hj => hall.out j x (by have := (List.getElem?_eq_some_iff.1 hj).1; have := HL.out; omega) hj)
        have hfew := HFew.out (by first | rfl | trivial)
        have HSM := Lib.hid hfew.2
        have h31 : off l n ≤ 600 * 50 := by
          have := off_le l (fun j x hj => encT_len x (HSM.out j x hj).1 (HAL.out j x hj)) n (by have := HL.out; omega)
          omega
        have HMO : Hid (∀ j k, j ≤ k → k ≤ n → off l j ≤ off l k) := Lib.hid (fun j k h1 h2 => off_mono l j k h1 (by have := HL.out; omega))
        have hA := hI.out.a
        rw [hful] at hA
        have HBY : Hid (Calls Try.prog 10 #[.pointer (some ⟨p, 0, none⟩)] wr fun e w' => e = .returned (.tuple #[.string (strOfNums (encL l)), .int .i64 0]) ∧ ∃ n, w' = wr.drewN n) := Lib.hid (by
          have := bytes_any p (p + 1) v _ 0 wr hA
          unfold wbytes at this
          rwa [if_pos rfl] at this)
        obtain ⟨s, hS⟩ : ∃ T, T = strOfNums (encL l) := ⟨_, rfl⟩
        have hsz : s.size = off l n := by rw [hS, strOfNums_size, hoff]
        rw [← hS] at HBY
        obtain ⟨aoE, capE, bE, oE, hvE, hse, _⟩ := SlAt.owned hI.out.r
        have HSE := Lib.hid hse
        have HVE := Lib.hid hvE
        have HBW := Lib.hid hI.out.below
        have HSZ := Lib.hid hsz
        have HSS := Lib.hid hS
        have hs : s.size ≤ 1000000 := by omega
        clear hful hoff hfew hA hI hall hvE hse hsz hS
        go_wp2_with fail
        refine HBY.out.mono ?_
        rintro e w1 ⟨rfl, m, rfl⟩
        obtain ⟨WB, hWB⟩ : ∃ W, W = wr.drewN m := ⟨_, rfl⟩
        have HBB : Hid (Below w.heap.size w WB) := Lib.hid (by rw [hWB]; exact below_drewN HBW.out m)
        have HSE2 : Hid (SlAt WB 1 n (endsV l n) aoE capE bE oE) := Lib.hid (by rw [hWB]; exact HSE.out.below (below_drewN (bz _) m))
        rw [← hWB]
        clear hWB HBY HSE HBW
        go_wp2_with fail
        refine (over_any s _).mono ?_
        rintro e w2 ⟨rfl, hw2⟩
        have HK0 : Hid (RkInv WB WB.heap.size s 0 w2) := Lib.hid (by rw [hw2]; exact ⟨RdAt.new WB s, ba (bz WB) _⟩)
        obtain ⟨p2, hp⟩ : ∃ p, p = WB.heap.size := ⟨_, rfl⟩
        rw [← hp] at HK0 ⊢
        have hp2 := Lib.hid hp
        have HVE2 := HVE.out
        subst HVE2
        have hidxE := HSE2.out.idx (P := Try.prog) (t := 62) (e := 3) (by kernel_rfl) size3 (by decide)
        clear hw2 hp HVE
        go_wp2_with fail
        go_loopw [13] (fun t13 wr => ∃ k : Nat, k ≤ n ∧ t13 = .int .i64 k ∧ Hid (RkInv WB p2 s (off l k) wr)) (fun t13 _ => n - (intOf t13).toNat)
        case atStart => exact ⟨0, Nat.zero_le _, rfl, HK0⟩
        case round =>
          obtain ⟨k, hk, rfl, HK⟩ := hrel
          clear HK0
          by_cases hlt : k < n
          · have i1 : (0 : Int) ≤ (k : Int) := by omega
            have i2 : (k : Int) < (n : Int) := by omega
            have hkl : k < l.length := by rw [← HL.out]; exact hlt
            obtain ⟨x, hxk⟩ : ∃ x, l[k]? = some x := ⟨_, List.getElem?_eq_getElem hkl⟩
            have SB := (HS.out.below HBB.out).below HK.out.below
            have g0 := SB.cell (k * 4 + 0) (.int .u8 x.kind) (by rw [cell_of Thing2.four l k x hxk 0 (by decide)]; rfl)
            have g1 := SB.cell (k * 4 + 1) (.int .u32 x.n) (by rw [cell_of Thing2.four l k x hxk 1 (by decide)]; rfl)
            have g2 := SB.cell (k * 4 + 2) (.string x.s) (by rw [cell_of Thing2.four l k x hxk 2 (by decide)]; rfl)
            have g3 := SB.cell (k * 4 + 3) (.slice x.ao x.l.length x.cap) (by rw [cell_of Thing2.four l k x hxk 3 (by decide)]; rfl)
            rw [Nat.add_zero] at g0
            rw [← Nat.add_assoc] at g1 g2 g3
            have gE := (HSE2.out.below HK.out.below).cell k _ (endsV_at l n k hlt)
            have hos := off_succ l k x hxk
            have hok := HX.out x (List.mem_of_getElem? hxk)
            have hO1s : off l (k + 1) ≤ s.size := by rw [HSZ.out]; exact HMO.out _ _ (by omega) (Nat.le_refl _)
            have hC : ∀ W, RdAt W p2 s ⟨off l k, 0⟩ → x.ok W → Calls Try.prog 27 #[.pointer (some ⟨p2, 0, none⟩), .agg #[.int .u8 x.kind, .int .u32 x.n, .string x.s, .slice x.ao x.l.length x.cap]] W (ReadPost p2 s ⟨off l (k + 1), 0⟩ true W) := fun W h1 h2 => by
              rw [hos]
              exact read_fine p2 s (off l k) x W h1 hs h2 (HSM.out k x hxk).1 (HAL.out k x hxk) (fun e => by have := hok.l.lt (by simpa using e); have := hp2.out; have := HBB.out.size; omega) (by rw [HSS.out]; exact at_full l k x hxk)
            have hbn : ¬ b = p2 := fun e => by have := HS.out.lt (by rw [length_flat Thing2.four]; omega); have := hp2.out; have := HBB.out.size; omega
            have hbnE : ¬ bE = p2 := fun e => by have := HSE2.out.lt (by rw [endsV_len]; omega); have := hp2.out; omega
            have HC : Hid (∀ W, RdAt W p2 s ⟨off l k, 0⟩ → Below wr.heap.size wr W → Calls Try.prog 27 #[.pointer (some ⟨p2, 0, none⟩), .agg #[.int .u8 x.kind, .int .u32 x.n, .string x.s, .slice x.ao x.l.length x.cap]] W (ReadPost p2 s ⟨off l (k + 1), 0⟩ true W)) := Lib.hid (fun W h1 h2 => hC W h1 (thing_below (thing_below (thing_below hok HBB.out) HK.out.below) h2))
            obtain ⟨O1, hO⟩ : ∃ O, O = off l (k + 1) := ⟨_, rfl⟩
            rw [← hO] at HC hO1s gE
            have HO := Lib.hid hO
            obtain ⟨T, hTN⟩ : ∃ T, T = s.size - O1 := ⟨_, rfl⟩
            have hT : (s.size : Int) - O1 = (T : Int) := by omega
            clear hTN
            clear SB hxk hkl hos hok hC hO
            have hsum : IntKind.i64.wrap ((O1 : Int) + (T : Int)) = (s.size : Int) := (IntWalk.i64_in _ (by omega)).trans (by omega)
            go_wp2_with fail

            refine wp_region_held_drew (S := (fun w' => w'.cell? ⟨b, o + k * 4, none⟩ = some (.int .u8 x.kind) ∧ w'.cell? ⟨b, o + k * 4 + 1, none⟩ = some (.int .u32 x.n) ∧ w'.cell? ⟨b, o + k * 4 + 2, none⟩ = some (.string x.s) ∧ w'.cell? ⟨b, o + k * 4 + 3, none⟩ = some (.slice x.ao x.l.length x.cap) ∧ w'.cell? ⟨bE, oE + k, none⟩ = some (.int .i64 O1))) (by kernel_rfl) (by exact ⟨g0, g1, g2, g3, gE⟩) (fun hHeld => ?_)
            refine takeE (i := 0) (v := ?zvz0) (some 74) rfl rfl (by kernel_rfl) (by kernel_rfl) (by kernel_rfl) (fun _ _ _ h => h) (Or.inl ⟨by rfl, ?zyz0⟩) (by assumption) ?zrz0
            case zyz0 => (intro w hSw; clear hSw; go_simp; try with_reducible rfl)
            try simp only [Act.put, List.setIfInBounds_toArray, List.set_cons_zero, List.set_cons_succ]
            refine takeE (i := 1) (v := ?zvz1) (some 75) rfl rfl (by kernel_rfl) (by kernel_rfl) (by kernel_rfl) (fun _ _ _ h => h) (Or.inl ⟨by rfl, ?zyz1⟩) (by assumption) ?zrz1
            case zyz1 => (intro w hSw; clear hSw; go_simp; try with_reducible rfl)
            try simp only [Act.put, List.setIfInBounds_toArray, List.set_cons_zero, List.set_cons_succ]
            refine takeE (i := 2) (v := ?zvz2) (some 76) rfl rfl (by kernel_rfl) (by kernel_rfl) (by kernel_rfl) (fun _ _ _ h => h) (Or.inl ⟨by rfl, ?zyz2⟩) (by assumption) ?zrz2
            case zyz2 => (intro w hSw; clear hSw; go_simp; try with_reducible rfl)
            try simp only [Act.put, List.setIfInBounds_toArray, List.set_cons_zero, List.set_cons_succ]
            refine takeE (i := 3) (v := ?zvz3) (some 77) rfl rfl (by kernel_rfl) (by kernel_rfl) (by kernel_rfl) (fun _ _ _ h => h) (Or.inl ⟨by rfl, ?zyz3⟩) (by assumption) ?zrz3
            case zyz3 => (intro w hSw; refine idx_thing hidx i1 i2 ?_ ?_ <;> rfl)
            try simp only [Act.put, List.setIfInBounds_toArray, List.set_cons_zero, List.set_cons_succ]
            refine takeE (i := 4) (v := ?zvz4) (some 78) rfl rfl (by kernel_rfl) (by kernel_rfl) (by kernel_rfl) (fun _ _ _ h => h) (Or.inl ⟨by rfl, ?zyz4⟩) (by assumption) ?zrz4
            case zyz4 => (intro w hSw; refine load_thing hSw.1 hSw.2.1 hSw.2.2.1 hSw.2.2.2.1 ?_; rfl)
            try simp only [Act.put, List.setIfInBounds_toArray, List.set_cons_zero, List.set_cons_succ]
            refine wpAnyH_ready (rs := [5]) (by kernel_rfl) (by simp) ?_
            refine AllReadyH.cons rfl (fun K hK => ?_) AllReadyH.nil
            go_simp
            refine (HC.out _ (HK.out.rd.below (by repeat (first | (with_reducible exact bz _) | (with_reducible apply Below.drew)))) (by repeat (first | (with_reducible exact bz _) | (with_reducible apply Below.drew)))).mono ?_
            rintro e w1 ⟨rfl, hr1, hk1⟩
            have HB1 := Lib.hid (((below_drewN HK.out.below 1)).trans (hk1.below (fun i hi _ e => by have := hp2.out; omega) (by have := HK.out.below.size; simpa using this)))
            go_wp2_with fail
            refine hK.out _ _ (by exact ⟨hk1.cell hHeld.1 hbn, hk1.cell hHeld.2.1 hbn, hk1.cell hHeld.2.2.1 hbn, hk1.cell hHeld.2.2.2.1 hbn, hk1.cell hHeld.2.2.2.2 hbnE⟩) (fun hHeld2 => ?_)
            clear hK K
            clear hHeld
            have hHeld := hHeld2
            clear hHeld2
            try simp only [Act.put, List.setIfInBounds_toArray, List.set_cons_zero, List.set_cons_succ]
            replace hHeld : (fun w' => (w'.cell? ⟨b, o + k * 4, none⟩ = some (.int .u8 x.kind) ∧ w'.cell? ⟨b, o + k * 4 + 1, none⟩ = some (.int .u32 x.n) ∧ w'.cell? ⟨b, o + k * 4 + 2, none⟩ = some (.string x.s) ∧ w'.cell? ⟨b, o + k * 4 + 3, none⟩ = some (.slice x.ao x.l.length x.cap) ∧ w'.cell? ⟨bE, oE + k, none⟩ = some (.int .i64 O1)) ∧ RdAt w' p2 s ⟨O1, 0⟩) w1 := ⟨hHeld, hr1⟩
            clear hr1 hk1
            refine wpAnyH_grow (S2 := (fun w' => (w'.cell? ⟨b, o + k * 4, none⟩ = some (.int .u8 x.kind) ∧ w'.cell? ⟨b, o + k * 4 + 1, none⟩ = some (.int .u32 x.n) ∧ w'.cell? ⟨b, o + k * 4 + 2, none⟩ = some (.string x.s) ∧ w'.cell? ⟨b, o + k * 4 + 3, none⟩ = some (.slice x.ao x.l.length x.cap) ∧ w'.cell? ⟨bE, oE + k, none⟩ = some (.int .i64 O1)) ∧ RdAt w' p2 s ⟨O1, 0⟩)) (fun w h => h.1) _ _ _ _ ?_
            refine takeE (i := 6) (v := ?zvz6) (some 80) rfl rfl (by kernel_rfl) (by kernel_rfl) (by kernel_rfl) (fun _ _ _ h => h) (Or.inl ⟨by rfl, ?zyz6⟩) (by assumption) ?zrz6
            case zyz6 => (intro w hSw; clear hSw; go_simp; try with_reducible rfl)
            try simp only [Act.put, List.setIfInBounds_toArray, List.set_cons_zero, List.set_cons_succ]
            refine takeE (i := 7) (v := ?zvz7) (some 81) rfl rfl (by kernel_rfl) (by kernel_rfl) (by kernel_rfl) (fun _ _ _ h => h) (Or.inl ⟨by rfl, ?zyz7⟩) (by assumption) ?zrz7
            case zyz7 => (intro w hSw; clear hSw; go_simp; try with_reducible rfl)
            try simp only [Act.put, List.setIfInBounds_toArray, List.set_cons_zero, List.set_cons_succ]
            refine takeE (i := 8) (v := ?zvz8) (some 82) rfl rfl (by kernel_rfl) (by kernel_rfl) (by kernel_rfl) (fun _ _ _ h => h) (Or.inl ⟨by rfl, ?zyz8⟩) (by assumption) ?zrz8
            case zyz8 => (intro w hSw; clear hSw; go_simp; try with_reducible rfl)
            try simp only [Act.put, List.setIfInBounds_toArray, List.set_cons_zero, List.set_cons_succ]
            refine takeE (i := 10) (v := ?zvz10) (some 84) rfl rfl (by kernel_rfl) (by kernel_rfl) (by kernel_rfl) (fun _ _ _ h => h) (Or.inl ⟨by rfl, ?zyz10⟩) (by assumption) ?zrz10
            case zyz10 => (intro w hSw; clear hSw; go_simp; try with_reducible rfl)
            try simp only [Act.put, List.setIfInBounds_toArray, List.set_cons_zero, List.set_cons_succ]
            refine takeE (i := 11) (v := ?zvz11) (some 85) rfl rfl (by kernel_rfl) (by kernel_rfl) (by kernel_rfl) (fun _ _ _ h => h) (Or.inl ⟨by rfl, ?zyz11⟩) (by assumption) ?zrz11
            case zyz11 => (intro w hSw; clear hSw; go_simp; try with_reducible rfl)
            try simp only [Act.put, List.setIfInBounds_toArray, List.set_cons_zero, List.set_cons_succ]
            refine takeE (i := 12) (v := ?zvz12) (some 86) rfl rfl (by kernel_rfl) (by kernel_rfl) (by kernel_rfl) (fun _ _ _ h => h) (Or.inl ⟨by rfl, ?zyz12⟩) (by assumption) ?zrz12
            case zyz12 => (intro w hSw; refine idx_end hidxE i1 i2 ?_ ?_ <;> rfl)
            try simp only [Act.put, List.setIfInBounds_toArray, List.set_cons_zero, List.set_cons_succ]
            refine takeE (i := 13) (v := ?zvz13) (some 87) rfl rfl (by kernel_rfl) (by kernel_rfl) (by kernel_rfl) (fun _ _ _ h => h) (Or.inl ⟨by rfl, ?zyz13⟩) (by assumption) ?zrz13
            case zyz13 => (intro w hSw; refine load_int hSw.1.2.2.2.2 ?_; rfl)
            try simp only [Act.put, List.setIfInBounds_toArray, List.set_cons_zero, List.set_cons_succ]
            refine wpAnyH_ready (rs := [9]) (by kernel_rfl) (by simp) ?_
            refine AllReadyH.cons rfl (fun K hK => ?_) AllReadyH.nil
            go_simp
            refine (at_any p2 O1 _ hHeld.2.at_).mono ?_
            rintro e wX ⟨rfl, rfl⟩
            go_wp2_with fail
            refine hK.out _ _ (by exact hHeld) (fun hHeld2 => ?_)
            clear hK K
            clear hHeld
            have hHeld := hHeld2
            clear hHeld2
            try simp only [Act.put, List.setIfInBounds_toArray, List.set_cons_zero, List.set_cons_succ]
            refine takeE (i := 14) (v := ?zvz14) (some 88) rfl rfl (by kernel_rfl) (by kernel_rfl) (by kernel_rfl) (fun _ _ _ h => h) (Or.inl ⟨by rfl, ?zyz14⟩) (by assumption) ?zrz14
            case zyz14 => (intro w hSw; clear hSw; go_simp; try with_reducible rfl)
            try simp only [Act.put, List.setIfInBounds_toArray, List.set_cons_zero, List.set_cons_succ]
            refine takeE (i := 15) (v := ?zvz15) (some 89) rfl rfl (by kernel_rfl) (by kernel_rfl) (by kernel_rfl) (fun _ _ _ h => h) (Or.inl ⟨by rfl, ?zyz15⟩) (by assumption) ?zrz15
            case zyz15 => (intro w hSw; clear hSw; go_simp; try with_reducible rfl)
            try simp only [Act.put, List.setIfInBounds_toArray, List.set_cons_zero, List.set_cons_succ]
            refine takeE (i := 16) (v := ?zvz16) (some 90) rfl rfl (by kernel_rfl) (by kernel_rfl) (by kernel_rfl) (fun _ _ _ h => h) (Or.inl ⟨by rfl, ?zyz16⟩) (by assumption) ?zrz16
            case zyz16 => (intro w hSw; clear hSw; go_simp; try with_reducible rfl)
            try simp only [Act.put, List.setIfInBounds_toArray, List.set_cons_zero, List.set_cons_succ]
            refine takeE (i := 17) (v := ?zvz17) (some 91) rfl rfl (by kernel_rfl) (by kernel_rfl) (by kernel_rfl) (fun _ _ _ h => h) (Or.inl ⟨by rfl, ?zyz17⟩) (by assumption) ?zrz17
            case zyz17 => (intro w hSw; clear hSw; go_simp; try with_reducible rfl)
            try simp only [Act.put, List.setIfInBounds_toArray, List.set_cons_zero, List.set_cons_succ]
            refine takeE (i := 19) (v := ?zvz19) (some 93) rfl rfl (by kernel_rfl) (by kernel_rfl) (by kernel_rfl) (fun _ _ _ h => h) (Or.inl ⟨by rfl, ?zyz19⟩) (by assumption) ?zrz19
            case zyz19 => (intro w hSw; clear hSw; go_simp; try with_reducible rfl)
            try simp only [Act.put, List.setIfInBounds_toArray, List.set_cons_zero, List.set_cons_succ]
            refine takeE (i := 22) (v := ?zvz22) (some 96) rfl rfl (by kernel_rfl) (by kernel_rfl) (by kernel_rfl) (fun _ _ _ h => h) (Or.inl ⟨by rfl, ?zyz22⟩) (by assumption) ?zrz22
            case zyz22 => (intro w hSw; clear hSw; go_simp; try with_reducible rfl)
            try simp only [Act.put, List.setIfInBounds_toArray, List.set_cons_zero, List.set_cons_succ]
            refine takeE (i := 23) (v := ?zvz23) (some 97) rfl rfl (by kernel_rfl) (by kernel_rfl) (by kernel_rfl) (fun _ _ _ h => h) (Or.inl ⟨by rfl, ?zyz23⟩) (by assumption) ?zrz23
            case zyz23 => (intro w hSw; clear hSw; go_simp; try with_reducible rfl)
            try simp only [Act.put, List.setIfInBounds_toArray, List.set_cons_zero, List.set_cons_succ]
            refine wpAnyH_ready (rs := [18]) (by kernel_rfl) (by simp) ?_
            refine AllReadyH.cons rfl (fun K hK => ?_) AllReadyH.nil
            go_simp
            refine (at_any p2 O1 _ hHeld.2.at_).mono ?_
            rintro e wX ⟨rfl, rfl⟩
            go_wp2_with fail
            refine hK.out _ _ (by exact hHeld) (fun hHeld2 => ?_)
            clear hK K
            clear hHeld
            have hHeld := hHeld2
            clear hHeld2
            try simp only [Act.put, List.setIfInBounds_toArray, List.set_cons_zero, List.set_cons_succ]
            refine wpAnyH_ready (rs := [20]) (by kernel_rfl) (by simp) ?_
            refine AllReadyH.cons rfl (fun K hK => ?_) AllReadyH.nil
            go_simp
            refine (left_any p2 s O1 _ hHeld.2.str hHeld.2.at_ hO1s hs).mono ?_
            rintro e wX ⟨rfl, m1, rfl⟩
            rw [hT]
            replace HB1 := Lib.hid (below_drewN HB1.out m1)
            go_wp2_with fail
            refine hK.out _ _ (by exact ⟨⟨hHeld.1.1, hHeld.1.2⟩, hHeld.2.below (below_drewN (bz _) _)⟩) (fun hHeld2 => ?_)
            clear hK K
            clear hHeld
            have hHeld := hHeld2
            clear hHeld2
            try simp only [Act.put, List.setIfInBounds_toArray, List.set_cons_zero, List.set_cons_succ]
            refine takeE (i := 21) (v := ?zvz21) (some 95) rfl rfl (by kernel_rfl) (by kernel_rfl) (by kernel_rfl) (fun _ _ _ h => h) (Or.inl ⟨by rfl, ?zyz21⟩) (by assumption) ?zrz21
            case zyz21 => (intro w hSw; clear hSw; go_simp; try with_reducible rfl)
            try simp only [Act.put, List.setIfInBounds_toArray, List.set_cons_zero, List.set_cons_succ]
            refine takeE (i := 24) (v := ?zvz24) (some 98) rfl rfl (by kernel_rfl) (by kernel_rfl) (by kernel_rfl) (fun _ _ _ h => h) (Or.inl ⟨by rfl, ?zyz24⟩) (by assumption) ?zrz24
            case zyz24 => (intro w hSw; clear hSw; go_simp; try with_reducible rfl)
            try simp only [Act.put, List.setIfInBounds_toArray, List.set_cons_zero, List.set_cons_succ]
            refine takeE (i := 25) (v := ?zvz25) (some 99) rfl rfl (by kernel_rfl) (by kernel_rfl) (by kernel_rfl) (fun _ _ _ h => h) (Or.inl ⟨by rfl, ?zyz25⟩) (by assumption) ?zrz25
            case zyz25 => (intro w hSw; clear hSw; go_simp; try with_reducible rfl)
            try simp only [Act.put, List.setIfInBounds_toArray, List.set_cons_zero, List.set_cons_succ]
            refine wpAnyH_done (by kernel_rfl) ?_ _
            go_wp2_with fail
            refine ⟨⟨k + 1, by omega, by go_num, Lib.hid ⟨by rw [← HO.out]; exact hHeld.2, HB1.out⟩⟩, ?_⟩
            simp [intOf]; omega
          · have i2 : ¬ (k : Int) < (n : Int) := by omega
            have hkn : n = k := by omega
            subst hkn
            have HCL : Hid (∀ W, RdAt W p2 s ⟨off l n, 0⟩ → Calls Try.prog 16 #[.pointer (some ⟨p2, 0, none⟩)] W fun e w' => e = .returned (.int .i64 0) ∧ ∃ m, w' = W.drewN m) := Lib.hid (fun W hW => by
              have := close_any p2 s ⟨off l n, 0⟩ W hW hs
              rwa [close_end s (off l n) HSZ.out.symm] at this)
            by_cases hz : s.size = 0
            · have t1 : ((s.size : Int) == 0) = true := by rw [hz]; rfl
              have t2 : (s.size : Int) = 0 := by omega
              clear hz
              go_wp2_with fail
              refine (HCL.out _ HK.out.rd).mono ?_
              rintro e w3 ⟨rfl, m3, rfl⟩
              go_wp2_with fail
              refine (HCL.out _ (HK.out.rd.below (below_drewN (bz _) _))).mono ?_
              rintro e w3 ⟨rfl, m4, rfl⟩
              go_wp2_with fail
              refine (awake_any _).mono ?_
              rintro e w4 ⟨rfl, hb4⟩
              go_wp2
              go_ret
              exact ⟨rfl, bt (HBB.out.trans ((bdd2_ (below_drewN HK.out.below m3) m4).mono HBB.out.size)) hb4⟩
            · have t1 : ((s.size : Int) == 0) = false := by simpa using hz
              have t2 : ¬ (s.size : Int) = 0 := by omega
              have q1 : 0 ≤ c % (s.size : Int) := Int.emod_nonneg _ (by omega)
              have q2 : c % (s.size : Int) < (s.size : Int) := Int.emod_lt_of_pos _ (by omega)
              obtain ⟨cN, hcN⟩ : ∃ N : Nat, c % (s.size : Int) = (N : Int) := Int.eq_ofNat_of_zero_le q1
              have q3 : (cN : Int) ≤ (s.size : Int) := by omega
              have q4 : cN < s.size := by omega
              have q5 : cN ≤ s.size := by omega
              obtain ⟨s2, hs2⟩ : ∃ T, s.extract 0 cN = T := ⟨_, rfl⟩
              have hs2s : s2.size = cN := by rw [← hs2, ByteArray.size_extract]; omega
              have HS2 : Hid (s2.size = cN) := Lib.hid hs2s
              have HS2E : Hid (s.extract 0 cN = s2) := Lib.hid hs2
              have hs1 : s2.size ≤ 1000000 := by omega
              clear q1 q2 hs2s
              go_wp2_with fail
              refine (HCL.out _ HK.out.rd).mono ?_
              rintro e w3 ⟨rfl, m3, rfl⟩
              go_wp2_with fail
              rw [hcN]
              clear hcN
              refine (over_any s2 _).mono ?_
              rintro e w4 ⟨rfl, hw4⟩
              obtain ⟨WD, hWD⟩ : ∃ W, W = wr.drewN m3 := ⟨_, rfl⟩
              rw [← hWD] at hw4 ⊢
              have HBD : Hid (Below WB.heap.size WB WD) := Lib.hid (by rw [hWD]; exact below_drewN HK.out.below m3)
              clear hWD hs2
              have HQ0 : Hid (RkInv WD WD.heap.size s2 0 w4) := Lib.hid (by rw [hw4]; exact ⟨RdAt.new WD s2, ba (bz WD) _⟩)
              obtain ⟨p3, hp⟩ : ∃ p, p = WD.heap.size := ⟨_, rfl⟩
              rw [← hp] at HQ0 ⊢
              have hp3 := Lib.hid hp
              clear hw4 hp HCL
              go_wp2_with fail
              go_loopw [16, 17] (fun t16 t17 wq => ∃ k : Nat, k ≤ n ∧ off l k ≤ cN ∧ t17 = .int .i64 k ∧ t16 = .int .i64 (off l k) ∧ Hid (RkInv WD p3 s2 (off l k) wq)) (fun _ t17 _ => n - (intOf t17).toNat)
              case atStart => exact ⟨0, Nat.zero_le _, by rw [off_zero]; omega, rfl, rfl, HQ0⟩
              case round =>
                obtain ⟨k, hk, hkc, rfl, rfl, HK⟩ := hrel
                clear HQ0
                have hlt : k < n := by
                  by_cases h : k = n
                  · subst h; have := HSZ.out; omega
                  · omega
                have i1 : (0 : Int) ≤ (k : Int) := by omega
                have i2 : (k : Int) < (n : Int) := by omega
                have hkl : k < l.length := by rw [← HL.out]; exact hlt
                obtain ⟨x, hxk⟩ : ∃ x, l[k]? = some x := ⟨_, List.getElem?_eq_getElem hkl⟩
                have SB := ((HS.out.below HBB.out).below HBD.out).below HK.out.below
                have gE := ((HSE2.out.below HBD.out).below HK.out.below).cell k _ (endsV_at l n k hlt)
                have hok := thing_below (thing_below (thing_below (HX.out x (List.mem_of_getElem? hxk)) HBB.out) HBD.out) HK.out.below
                have hbp : 0 < x.l.length → x.b ≠ p3 := fun e => by have := (thing_below (thing_below (HX.out x (List.mem_of_getElem? hxk)) HBB.out) HBD.out).l.lt (by simpa using e); have := hp3.out; omega
                have g0 := SB.cell (k * 4 + 0) (.int .u8 x.kind) (by rw [cell_of Thing2.four l k x hxk 0 (by decide)]; rfl)
                have g1 := SB.cell (k * 4 + 1) (.int .u32 x.n) (by rw [cell_of Thing2.four l k x hxk 1 (by decide)]; rfl)
                have g2 := SB.cell (k * 4 + 2) (.string x.s) (by rw [cell_of Thing2.four l k x hxk 2 (by decide)]; rfl)
                have g3 := SB.cell (k * 4 + 3) (.slice x.ao x.l.length x.cap) (by rw [cell_of Thing2.four l k x hxk 3 (by decide)]; rfl)
                rw [Nat.add_zero] at g0
                rw [← Nat.add_assoc] at g1 g2 g3
                by_cases hc2 : off l (k + 1) ≤ cN
                · have hos := off_succ l k x hxk
                  have hC := read_fine p3 s2 (off l k) x _ HK.out.rd hs1 hok (HSM.out k x hxk).1 (HAL.out k x hxk) hbp (by rw [← HS2E.out, HSS.out]; exact at_part l k cN x hxk hc2)
                  rw [← hos] at hC
                  have HC := Lib.hid hC
                  have hbnE : ¬ bE = p3 := fun e => by have := (HSE2.out.below HBD.out).lt (by rw [endsV_len]; omega); have := hp3.out; omega
                  obtain ⟨O1, hO⟩ : ∃ O, O = off l (k + 1) := ⟨_, rfl⟩
                  rw [← hO] at HC gE hc2
                  have HO := Lib.hid hO
                  have u1 : decide ((O1 : Int) ≤ (cN : Int)) = true := by rw [decide_eq_true_iff]; omega
                  have u2 : (O1 : Int) ≤ (cN : Int) := by omega
                  have GE := Lib.hid gE
                  clear SB hxk hkl hos hok hC hO hbp
                  go_wp2_with fail
                  refine HC.out.mono ?_
                  rintro e w5 ⟨rfl, hr5, hk5⟩
                  have gE5 := hk5.cell GE.out hbnE
                  have HK5 : Hid (RkInv WD p3 s2 O1 w5) := Lib.hid ⟨hr5, HK.out.below.trans (hk5.below (fun i hi _ e => by have := hp3.out; omega) HK.out.below.size)⟩
                  clear hr5 hk5 g0 g1 g2 g3
                  go_wp2_with fail
                  go_roundw
                  case rel => exact ⟨k + 1, by omega, by rw [← HO.out]; exact hc2, by go_num, by rw [HO.out], by rw [← HO.out]; exact HK5⟩
                  case measure => simp [intOf]; omega
                · have hcut := read_torn p3 s2 (off l k) x
                  have u1 : decide ((off l (k + 1) : Int) ≤ (cN : Int)) = false := by rw [decide_eq_false_iff_not]; omega
                  have u2 : ¬ (off l (k + 1) : Int) ≤ (cN : Int) := by omega
                  have HC : Hid (Calls Try.prog 27 #[.pointer (some ⟨p3, 0, none⟩), .agg #[.int .u8 x.kind, .int .u32 x.n, .string x.s, .slice x.ao x.l.length x.cap]] wr (fun e w' => ∃ B, ReadPost p3 s2 ⟨off l k, 5⟩ B wr e w')) := Lib.hid (read_torn p3 s2 (off l k) x wr HK.out.rd hs1 hok (HSM.out k x hxk).1 (HAL.out k x hxk) hbp (by rw [← HS2E.out, HSS.out]; exact cut_part l k cN x hxk hkc (by omega)))
                  obtain ⟨O0, hO0⟩ : ∃ O, O = off l k := ⟨_, rfl⟩
                  rw [← hO0] at HC HK hkc ⊢
                  have HO0 := Lib.hid hO0
                  have HN1 : Hid (cN < off l (k + 1)) := Lib.hid (by omega)
                  have GE := Lib.hid gE
                  have SBB := Lib.hid SB
                  have HXK := Lib.hid hxk
                  clear hcut hO0 SB hxk hkl hok hbp g0 g1 g2 g3
                  go_wp2_with fail
                  refine (err_any p3 0 _ HK.out.rd.e).mono ?_
                  rintro e wX ⟨rfl, rfl⟩
                  go_wp2_with fail
                  refine (at_any p3 O0 _ HK.out.rd.at_).mono ?_
                  rintro e wX ⟨rfl, rfl⟩
                  clear gE u1 u2
                  go_wp2_with fail
                  go_loopw [18] (fun t18 wq => ∃ j : Nat, j ≤ k ∧ t18 = .int .i64 j ∧ wq = wr) (fun t18 _ => n - (intOf t18).toNat)
                  case atStart => exact ⟨0, Nat.zero_le _, rfl, rfl⟩
                  case round =>
                    obtain ⟨j, hj2, rfl, rfl⟩ := hrel
                    have j1 : (0 : Int) ≤ (j : Int) := by omega
                    have j2 : (j : Int) < (n : Int) := by omega
                    have gJ := ((HSE2.out.below HBD.out).below HK.out.below).cell j _ (endsV_at l n j (by omega))
                    by_cases hjk : j < k
                    · have hle : off l (j + 1) ≤ O0 := by rw [HO0.out]; exact HMO.out _ _ (by omega) (by omega)
                      obtain ⟨O2, hO2⟩ : ∃ O, O = off l (j + 1) := ⟨_, rfl⟩
                      rw [← hO2] at gJ hle
                      have u3 : decide ((cN : Int) < (O2 : Int)) = false := by rw [decide_eq_false_iff_not]; omega
                      have u4 : ¬ (cN : Int) < (O2 : Int) := by omega
                      clear hO2
                      go_wp2_with fail
                      go_roundw
                      case rel => exact ⟨j + 1, by omega, by go_num, by first | rfl | trivial⟩
                      case measure => simp [intOf]; omega
                    · have hjk2 : k = j := by omega
                      subst hjk2
                      have hxk := HXK.out
                      have SB := SBB.out
                      have g0 := SB.cell (k * 4 + 0) (.int .u8 x.kind) (by rw [cell_of Thing2.four l k x hxk 0 (by decide)]; rfl)
                      have g1 := SB.cell (k * 4 + 1) (.int .u32 x.n) (by rw [cell_of Thing2.four l k x hxk 1 (by decide)]; rfl)
                      have g2 := SB.cell (k * 4 + 2) (.string x.s) (by rw [cell_of Thing2.four l k x hxk 2 (by decide)]; rfl)
                      have g3 := SB.cell (k * 4 + 3) (.slice x.ao x.l.length x.cap) (by rw [cell_of Thing2.four l k x hxk 3 (by decide)]; rfl)
                      rw [Nat.add_zero] at g0
                      rw [← Nat.add_assoc] at g1 g2 g3
                      obtain ⟨O2, hO2⟩ : ∃ O, O = off l (k + 1) := ⟨_, rfl⟩
                      have hle := HN1.out
                      rw [← hO2] at gJ hle
                      have u3 : decide ((cN : Int) < (O2 : Int)) = true := by rw [decide_eq_true_iff]; omega
                      have u4 : (cN : Int) < (O2 : Int) := by omega
                      clear hO2 SB hxk
                      go_wp2_with fail
                      refine HC.out.mono ?_
                      rintro e w5 ⟨B, rfl, hr5, hk5⟩
                      have HK5 : Hid (RdAt w5 p3 s2 ⟨O0, 5⟩) := Lib.hid hr5
                      have HB5 : Hid (Below WD.heap.size WD w5) := Lib.hid (HK.out.below.trans (hk5.below (fun i hi _ e => by have := hp3.out; omega) HK.out.below.size))
                      clear hr5 hk5 g0 g1 g2 g3 gJ
                      go_wp2_with fail
                      refine (err_any p3 5 _ HK5.out.e).mono ?_
                      rintro e wX ⟨rfl, rfl⟩
                      go_wp2_with fail
                      refine (at_any p3 O0 _ HK5.out.at_).mono ?_
                      rintro e wX ⟨rfl, rfl⟩
                      go_wp2_with fail
                      refine (awake_any _).mono ?_
                      rintro e w6 ⟨rfl, hb6⟩
                      go_wp2
                      go_ret
                      exact ⟨rfl, bt (HBB.out.trans ((HBD.out.trans (HB5.out.mono HBD.out.size)).mono HBB.out.size)) hb6⟩
end Go.Proofs.Ytehnkljaoaehjaa
