/- The codec's writer: contracts. Printed by gen_wr.py. -/
import Derived.Test.YtehnkljaoaehjaaRd
import Derived.Deep.AppendLies
import Derived.Deep.RegionLaw
namespace Go.Proofs.Ytehnkljaoaehjaa
open Go.RowKit Go.Um
set_option linter.unusedSimpArgs false
set_option linter.unusedVariables false
set_option maxHeartbeats 2000000
set_option maxRecDepth 100000

/-- a writer at block p, with its first error; what was written so far: bs, in a row of the call's own -/
structure WrAt (w : World) (p base : Nat) (v : Value) (bs : List Int) (er : Int) : Prop where
  e : w.cell? ⟨p, 0, none⟩ = some (.int .i64 er)
  b : w.cell? ⟨p, 1, none⟩ = some v
  fe : w.frozen? ⟨p, 0, none⟩ = false
  fb : w.frozen? ⟨p, 1, none⟩ = false
  own : w.ownsRow base 5 1 v bs.length (bs.map (Value.int .u8))
  ne : v.ownBlock ≠ some p
theorem WrAt.lt {w : World} {p base : Nat} {v : Value} {bs : List Int} {er : Int} (h : WrAt w p base v bs er) : p < w.heap.size := World.block_lt_of_cell? w _ h.e
theorem WrAt.below {w w' : World} {p base : Nat} {v : Value} {bs : List Int} {er : Int} (h : WrAt w p base v bs er) (hb : Below w.heap.size w w') : WrAt w' p base v bs er :=
  ⟨kc hb _ _ _ h.e, kc hb _ _ _ h.b, kf hb _ _ h.lt h.fe, kf hb _ _ h.lt h.fb, own_past h.own hb, h.ne⟩
theorem WrAt.new (w : World) (base : Nat) : WrAt (w.alloc (.cells #[.int .i64 0, .slice none 0 0] 31)) w.heap.size base (.slice none 0 0) [] 0 :=
  ⟨by simp [go_sem], by simp [go_sem], by simp [go_sem], by simp [go_sem], World.ownsRow_nil _ _ _ _, by simp [Value.ownBlock]⟩
/-- byte j of a number -/
def byteOf (n : Int) (j : Nat) : Int := n / 2 ^ (8 * j) % 256
/-- the bytes of a number, from the j-th down -/
def be (n : Int) : Nat → List Int
  | 0 => []
  | j + 1 => byteOf n j :: be n j
theorem be_len (n : Int) : ∀ j, (be n j).length = j
  | 0 => rfl
  | j + 1 => by simp [be, be_len n j]
/-- what is written behind an error is left out -/
def wput (bs : List Int) (er : Int) (more : List Int) : List Int := if er = 0 then bs ++ more else bs

theorem put_step {wr w2 : World} {p base g cap n : Nat} {v' : Value} {bs' : List Int} {B : Int} {o : Obj} (hn : n = bs'.length) (h : WrAt wr p base v' bs' 0) (hg : (wr.alloc o).drew.grownBy w2 v'.ownBlock)
    (hown : w2.ownsRow base 5 1 (.slice (some ⟨g, 0, none⟩) (n + 1) cap) (n + 1) (bs'.map (Value.int .u8) ++ [.int .u8 B])) (hat : v'.ownBlock = some g ∨ g = wr.heap.size + 1) :
    WrAt (w2.setCell ⟨p, 1, none⟩ (.slice (some ⟨g, 0, none⟩) (n + 1) cap)) p base (.slice (some ⟨g, 0, none⟩) (n + 1) cap) (bs' ++ [B]) 0 := by
  subst hn
  have hp : p < wr.heap.size := World.block_lt_of_cell? wr _ h.e
  have hne : some p ≠ v'.ownBlock := fun e => h.ne e.symm
  have hgp : g ≠ p := by
    rcases hat with h1 | h1
    · intro e; subst e; exact h.ne h1
    · omega
  have d0 : w2.cell? ⟨p, 0, none⟩ = some (.int .i64 0) := hg.cell (a := ⟨p, 0, none⟩) (by simp [go_sem, hp, h.e]) hne
  have d1 : w2.cell? ⟨p, 1, none⟩ = some v' := hg.cell (a := ⟨p, 1, none⟩) (by simp [go_sem, hp, h.b]) hne
  have q0 : w2.frozen? ⟨p, 0, none⟩ = false := (hg.frozen_far ⟨p, 0, none⟩ (by simp; omega) hne).trans (by simp [go_sem, hp, h.fe])
  have q1 : w2.frozen? ⟨p, 1, none⟩ = false := (hg.frozen_far ⟨p, 1, none⟩ (by simp; omega) hne).trans (by simp [go_sem, hp, h.fb])
  refine ⟨?_, ?_, ?_, ?_, ?_, ?_⟩
  · simp [go_sem, d0]
  · simp [go_sem, d1]
  · simp [go_sem, q0]
  · simp [go_sem, q1]
  · have := own_setCell hown (a := ⟨p, 1, none⟩) (by simp [Value.ownBlock]; exact hgp) (.slice (some ⟨g, 0, none⟩) (bs'.length + 1) cap)
    simpa using this
  · simp [Value.ownBlock]; exact hgp
theorem info5 : (Try.prog.info? 5).map (fun i => (i.zero, i.size, i.bytes)) = some (some (.int .u8 0), 1, 1) := by kernel_rfl
/-- what a writing call leaves -/
def PutPost (p base : Nat) (v : Value) (bs bs' : List Int) (er : Int) (w : World) (en : Ending) (w' : World) : Prop :=
  ∃ v', en = .returned (.tuple #[]) ∧ WrAt w' p base v' (wput bs er bs') er ∧ Kept (fun k => k = p ∨ v.ownBlock = some k) w w' ∧ (∀ g, v'.ownBlock = some g → v.ownBlock = some g ∨ w.heap.size ≤ g)
theorem shr_eq (n : Int) (i : Nat) (hi : i < 4) (w : World) : (binOp .shr 34 (.int .u32 n) (.int .i64 (8 * (i : Int)))).run Try.prog w = .ok (.int .u32 (n / 2 ^ (8 * i))) w := by
  have : i = 0 ∨ i = 1 ∨ i = 2 ∨ i = 3 := by omega
  rcases this with rfl | rfl | rfl | rfl <;> simp [go_sem]
theorem wrap8_eq (n : Int) : IntKind.u8.wrap n = n % 256 := by
  simp only [IntKind.wrap, IntKind.signed, IntKind.bits, Bool.false_and, Bool.false_eq_true, if_false]; rfl

theorem putu8_bad (p : Nat) (er n : Int) (W : Nat) (w : World) (h : w.cell? ⟨p, 0, none⟩ = some (.int .i64 er)) (he : er ≠ 0) :
    Calls Try.prog 37 #[.pointer (some ⟨p, 0, none⟩), .int .u8 n, .int .i64 W] w fun en w' => en = .returned (.tuple #[]) ∧ w = w' := by
  have t0 : (er == 0) = false := by simpa using he
  clear he
  go_enter Try.func37, Try.ntmps37
  go_wp2_with fail
  refine (rwell p er _ h).mono ?_
  rintro e w1 ⟨rfl, rfl⟩
  go_wp2
  exact bodyPost_ret (v := .tuple #[]) (by simp [results, Try.results37]) rfl ⟨rfl, rfl⟩
theorem putu8_ok (p base : Nat) (v : Value) (bs : List Int) (n : Int) (W : Nat) (w : World) (h : WrAt w p base v bs 0) (hn : 0 ≤ n ∧ n ≤ 255) (hW : W ≤ 4) (hbs : bs.length ≤ 100000) (hbase : base ≤ w.heap.size) :
    Calls Try.prog 37 #[.pointer (some ⟨p, 0, none⟩), .int .u8 n, .int .i64 W] w (PutPost p base v bs (be n W) 0 w) := by
  have he := h.e
  have ew := wrapu32_in (n := n) (by omega)
  obtain ⟨i0, hi, hz0, hz1, hz2⟩ := info_parts info5
  go_enter Try.func37, Try.ntmps37
  go_wp2_with fail
  refine (rwell p 0 _ h.e).mono ?_
  rintro e w1 ⟨rfl, rfl⟩
  go_wp2_with fail
  go_loopw [6] (fun t6 wr => ∃ j : Nat, j ≤ W ∧ t6 = .int .i64 ((j : Int) - 1) ∧ ∃ v' bs', Hid (bs' ++ be n j = bs ++ be n W) ∧ bs'.length + j = bs.length + W ∧ WrAt wr p base v' bs' 0 ∧ (∀ g, v'.ownBlock = some g → v.ownBlock = some g ∨ w.heap.size ≤ g) ∧ Kept (fun k => k = p ∨ v.ownBlock = some k) w wr ∧ base ≤ wr.heap.size)
    (fun t6 _ => (intOf t6 + 1).toNat)
  case atStart => exact ⟨W, Nat.le_refl _, rfl, v, bs, rfl, rfl, h, fun g hg => Or.inl hg, Kept.refl _ _, hbase⟩
  case round =>
    obtain ⟨j, hj, rfl, v', bs', hb, hlen, hwr, hv', hk, hbase'⟩ := hrel
    rcases j with _ | i
    · go_wp2
      go_end0
      refine ⟨v', rfl, ?_, hk, hv'⟩
      have := hb.out
      simp only [be, List.append_nil] at this
      unfold wput
      rw [if_pos rfl, ← this]; exact hwr
    · have e1 : (((i + 1 : Nat) : Int) - 1) = (i : Int) := by omega
      rw [e1]
      clear e1
      have hi4 : i < 4 := by omega
      have c0 := hwr.e
      have c1 := hwr.b
      have f0 := hwr.fe
      have f1 := hwr.fb
      have hp := World.block_lt_of_cell? wr _ c0
      simp only at hp
      have hsh := shr_eq n i hi4
      have e2 : IntKind.i64.wrap (8 * (i : Int)) = 8 * (i : Int) := IntWalk.i64_in _ (by omega)
      have Hlen := Lib.hid hlen
      clear hlen
      have hl2 : bs'.length + i ≤ 100004 := by have := Hlen.out; omega
      go_wp2_with fail
      have hne : some p ≠ v'.ownBlock := fun e => hwr.ne e.symm
      have Hwr := Lib.hid hwr
      clear hwr
      go_region_law ((refine step_append_lies _ rfl (.tmp 26) (.tmp 33) 29 rfl base 5 i0 (.int .u8 0) 1 1 Try.underlying29 hi hz0 hz1 hz2 rfl (by decide) v' bs'.length (bs'.map (Value.int .u8)) (by simp [Act.eval, Act.put]) (Hwr.out.own.alloc _).drew ⟨wr.heap.size, 0, none⟩ 1 1 [.int .u8 (n / 2 ^ (8 * i) % 256)] (by simp [Act.eval, Act.put]) rfl (new_cells wr 5 _ _ rfl) (by simp [Value.oneCell']) (by decide) (by unfold maxLen; omega) (by omega) (by simp; omega) _ rfl ?_; intro g cap w2 hown2 hgrow2 hat hlt2; have d0 : w2.cell? ⟨p, 0, none⟩ = some (.int .i64 0) := hgrow2.cell (a := ⟨p, 0, none⟩) (by simp [go_sem, hp, c0]) hne; have d1 : w2.cell? ⟨p, 1, none⟩ = some v' := hgrow2.cell (a := ⟨p, 1, none⟩) (by simp [go_sem, hp, c1]) hne; have q0 : w2.frozen? ⟨p, 0, none⟩ = false := (hgrow2.frozen_far ⟨p, 0, none⟩ (by simp; omega) hne).trans (by simp [go_sem, hp, f0]); have q1 : w2.frozen? ⟨p, 1, none⟩ = false := (hgrow2.frozen_far ⟨p, 1, none⟩ (by simp; omega) hne).trans (by simp [go_sem, hp, f1])))
      all_goals go_wp2
      all_goals
        go_roundw
        case rel =>
          have hat' : v'.ownBlock = some g ∨ g = wr.heap.size + 1 := by simpa using hat
          refine ⟨i, by omega, rfl, _, bs' ++ [byteOf n i], by have := hb.out; simpa [Hid, be, byteOf] using this, by have := Hlen.out; simp; omega, put_step rfl Hwr.out hgrow2 hown2 hat', fun k e => ?_, ?_, ?_⟩
          · simp only [Value.ownBlock, Option.some.injEq] at e
            subst e
            rcases hat' with h1 | h1
            · exact hv' _ h1
            · right; have := hk.size; omega
          · exact (((hk.alloc _).drew).grown hgrow2 (fun k e hlt => (hv' k e).elim Or.inr (fun h => absurd h (by omega)))).setCell (fun _ => Or.inl rfl) _
          · have := hgrow2.size; simp at this; show base ≤ (w2.setCell _ _).heap.size; simp; omega
        case measure => simp [intOf] <;> omega
theorem wu8_any (p base : Nat) (v : Value) (bs : List Int) (er n : Int) (w : World) (h : WrAt w p base v bs er) (hn : 0 ≤ n ∧ n ≤ 255) (hbs : bs.length ≤ 100000) (hbase : base ≤ w.heap.size) :
    Calls Try.prog 19 #[.pointer (some ⟨p, 0, none⟩), .int .u8 n] w (PutPost p base v bs (be n 1) er w) := by
  by_cases he : er = 0
  · subst he
    go_enter Try.func19, Try.ntmps19
    go_wp2_with fail
    refine (putu8_ok p base v bs n 1 _ h hn (by omega) hbs hbase).mono ?_
    intro e w' hp
    obtain ⟨v', rfl, hw, hk⟩ := hp
    go_wp2
    go_end0
    exact ⟨v', rfl, hw, hk⟩
  · have HE := Lib.hid he
    have HH := Lib.hid h
    have h0 := h.e
    clear he h
    go_enter Try.func19, Try.ntmps19
    go_wp2_with fail
    refine (putu8_bad p er n 1 _ h0 HE.out).mono ?_
    rintro e w' ⟨rfl, rfl⟩
    go_wp2
    go_end0
    exact ⟨v, rfl, by unfold wput; rw [if_neg HE.out]; exact HH.out, Kept.refl _ _, fun g hg => .inl hg⟩

theorem putu16_bad (p : Nat) (er n : Int) (W : Nat) (w : World) (h : w.cell? ⟨p, 0, none⟩ = some (.int .i64 er)) (he : er ≠ 0) :
    Calls Try.prog 36 #[.pointer (some ⟨p, 0, none⟩), .int .u16 n, .int .i64 W] w fun en w' => en = .returned (.tuple #[]) ∧ w = w' := by
  have t0 : (er == 0) = false := by simpa using he
  clear he
  go_enter Try.func36, Try.ntmps36
  go_wp2_with fail
  refine (rwell p er _ h).mono ?_
  rintro e w1 ⟨rfl, rfl⟩
  go_wp2
  exact bodyPost_ret (v := .tuple #[]) (by simp [results, Try.results36]) rfl ⟨rfl, rfl⟩
theorem putu16_ok (p base : Nat) (v : Value) (bs : List Int) (n : Int) (W : Nat) (w : World) (h : WrAt w p base v bs 0) (hn : 0 ≤ n ∧ n ≤ 65535) (hW : W ≤ 4) (hbs : bs.length ≤ 100000) (hbase : base ≤ w.heap.size) :
    Calls Try.prog 36 #[.pointer (some ⟨p, 0, none⟩), .int .u16 n, .int .i64 W] w (PutPost p base v bs (be n W) 0 w) := by
  have he := h.e
  have ew := wrapu32_in (n := n) (by omega)
  obtain ⟨i0, hi, hz0, hz1, hz2⟩ := info_parts info5
  go_enter Try.func36, Try.ntmps36
  go_wp2_with fail
  refine (rwell p 0 _ h.e).mono ?_
  rintro e w1 ⟨rfl, rfl⟩
  go_wp2_with fail
  go_loopw [6] (fun t6 wr => ∃ j : Nat, j ≤ W ∧ t6 = .int .i64 ((j : Int) - 1) ∧ ∃ v' bs', Hid (bs' ++ be n j = bs ++ be n W) ∧ bs'.length + j = bs.length + W ∧ WrAt wr p base v' bs' 0 ∧ (∀ g, v'.ownBlock = some g → v.ownBlock = some g ∨ w.heap.size ≤ g) ∧ Kept (fun k => k = p ∨ v.ownBlock = some k) w wr ∧ base ≤ wr.heap.size)
    (fun t6 _ => (intOf t6 + 1).toNat)
  case atStart => exact ⟨W, Nat.le_refl _, rfl, v, bs, rfl, rfl, h, fun g hg => Or.inl hg, Kept.refl _ _, hbase⟩
  case round =>
    obtain ⟨j, hj, rfl, v', bs', hb, hlen, hwr, hv', hk, hbase'⟩ := hrel
    rcases j with _ | i
    · go_wp2
      go_end0
      refine ⟨v', rfl, ?_, hk, hv'⟩
      have := hb.out
      simp only [be, List.append_nil] at this
      unfold wput
      rw [if_pos rfl, ← this]; exact hwr
    · have e1 : (((i + 1 : Nat) : Int) - 1) = (i : Int) := by omega
      rw [e1]
      clear e1
      have hi4 : i < 4 := by omega
      have c0 := hwr.e
      have c1 := hwr.b
      have f0 := hwr.fe
      have f1 := hwr.fb
      have hp := World.block_lt_of_cell? wr _ c0
      simp only at hp
      have hsh := shr_eq n i hi4
      have e2 : IntKind.i64.wrap (8 * (i : Int)) = 8 * (i : Int) := IntWalk.i64_in _ (by omega)
      have Hlen := Lib.hid hlen
      clear hlen
      have hl2 : bs'.length + i ≤ 100004 := by have := Hlen.out; omega
      go_wp2_with fail
      have hne : some p ≠ v'.ownBlock := fun e => hwr.ne e.symm
      have Hwr := Lib.hid hwr
      clear hwr
      go_region_law ((refine step_append_lies _ rfl (.tmp 26) (.tmp 33) 29 rfl base 5 i0 (.int .u8 0) 1 1 Try.underlying29 hi hz0 hz1 hz2 rfl (by decide) v' bs'.length (bs'.map (Value.int .u8)) (by simp [Act.eval, Act.put]) (Hwr.out.own.alloc _).drew ⟨wr.heap.size, 0, none⟩ 1 1 [.int .u8 (n / 2 ^ (8 * i) % 256)] (by simp [Act.eval, Act.put]) rfl (new_cells wr 5 _ _ rfl) (by simp [Value.oneCell']) (by decide) (by unfold maxLen; omega) (by omega) (by simp; omega) _ rfl ?_; intro g cap w2 hown2 hgrow2 hat hlt2; have d0 : w2.cell? ⟨p, 0, none⟩ = some (.int .i64 0) := hgrow2.cell (a := ⟨p, 0, none⟩) (by simp [go_sem, hp, c0]) hne; have d1 : w2.cell? ⟨p, 1, none⟩ = some v' := hgrow2.cell (a := ⟨p, 1, none⟩) (by simp [go_sem, hp, c1]) hne; have q0 : w2.frozen? ⟨p, 0, none⟩ = false := (hgrow2.frozen_far ⟨p, 0, none⟩ (by simp; omega) hne).trans (by simp [go_sem, hp, f0]); have q1 : w2.frozen? ⟨p, 1, none⟩ = false := (hgrow2.frozen_far ⟨p, 1, none⟩ (by simp; omega) hne).trans (by simp [go_sem, hp, f1])))
      all_goals go_wp2
      all_goals
        go_roundw
        case rel =>
          have hat' : v'.ownBlock = some g ∨ g = wr.heap.size + 1 := by simpa using hat
          refine ⟨i, by omega, rfl, _, bs' ++ [byteOf n i], by have := hb.out; simpa [Hid, be, byteOf] using this, by have := Hlen.out; simp; omega, put_step rfl Hwr.out hgrow2 hown2 hat', fun k e => ?_, ?_, ?_⟩
          · simp only [Value.ownBlock, Option.some.injEq] at e
            subst e
            rcases hat' with h1 | h1
            · exact hv' _ h1
            · right; have := hk.size; omega
          · exact (((hk.alloc _).drew).grown hgrow2 (fun k e hlt => (hv' k e).elim Or.inr (fun h => absurd h (by omega)))).setCell (fun _ => Or.inl rfl) _
          · have := hgrow2.size; simp at this; show base ≤ (w2.setCell _ _).heap.size; simp; omega
        case measure => simp [intOf] <;> omega
theorem wu16_any (p base : Nat) (v : Value) (bs : List Int) (er n : Int) (w : World) (h : WrAt w p base v bs er) (hn : 0 ≤ n ∧ n ≤ 65535) (hbs : bs.length ≤ 100000) (hbase : base ≤ w.heap.size) :
    Calls Try.prog 18 #[.pointer (some ⟨p, 0, none⟩), .int .u16 n] w (PutPost p base v bs (be n 2) er w) := by
  by_cases he : er = 0
  · subst he
    go_enter Try.func18, Try.ntmps18
    go_wp2_with fail
    refine (putu16_ok p base v bs n 2 _ h hn (by omega) hbs hbase).mono ?_
    intro e w' hp
    obtain ⟨v', rfl, hw, hk⟩ := hp
    go_wp2
    go_end0
    exact ⟨v', rfl, hw, hk⟩
  · have HE := Lib.hid he
    have HH := Lib.hid h
    have h0 := h.e
    clear he h
    go_enter Try.func18, Try.ntmps18
    go_wp2_with fail
    refine (putu16_bad p er n 2 _ h0 HE.out).mono ?_
    rintro e w' ⟨rfl, rfl⟩
    go_wp2
    go_end0
    exact ⟨v, rfl, by unfold wput; rw [if_neg HE.out]; exact HH.out, Kept.refl _ _, fun g hg => .inl hg⟩

theorem putu32_bad (p : Nat) (er n : Int) (W : Nat) (w : World) (h : w.cell? ⟨p, 0, none⟩ = some (.int .i64 er)) (he : er ≠ 0) :
    Calls Try.prog 38 #[.pointer (some ⟨p, 0, none⟩), .int .u32 n, .int .i64 W] w fun en w' => en = .returned (.tuple #[]) ∧ w = w' := by
  have t0 : (er == 0) = false := by simpa using he
  clear he
  go_enter Try.func38, Try.ntmps38
  go_wp2_with fail
  refine (rwell p er _ h).mono ?_
  rintro e w1 ⟨rfl, rfl⟩
  go_wp2
  exact bodyPost_ret (v := .tuple #[]) (by simp [results, Try.results38]) rfl ⟨rfl, rfl⟩
theorem putu32_ok (p base : Nat) (v : Value) (bs : List Int) (n : Int) (W : Nat) (w : World) (h : WrAt w p base v bs 0) (hn : 0 ≤ n ∧ n ≤ 4294967295) (hW : W ≤ 4) (hbs : bs.length ≤ 100000) (hbase : base ≤ w.heap.size) :
    Calls Try.prog 38 #[.pointer (some ⟨p, 0, none⟩), .int .u32 n, .int .i64 W] w (PutPost p base v bs (be n W) 0 w) := by
  have he := h.e
  have ew := wrapu32_in (n := n) (by omega)
  obtain ⟨i0, hi, hz0, hz1, hz2⟩ := info_parts info5
  go_enter Try.func38, Try.ntmps38
  go_wp2_with fail
  refine (rwell p 0 _ h.e).mono ?_
  rintro e w1 ⟨rfl, rfl⟩
  go_wp2_with fail
  go_loopw [6] (fun t6 wr => ∃ j : Nat, j ≤ W ∧ t6 = .int .i64 ((j : Int) - 1) ∧ ∃ v' bs', Hid (bs' ++ be n j = bs ++ be n W) ∧ bs'.length + j = bs.length + W ∧ WrAt wr p base v' bs' 0 ∧ (∀ g, v'.ownBlock = some g → v.ownBlock = some g ∨ w.heap.size ≤ g) ∧ Kept (fun k => k = p ∨ v.ownBlock = some k) w wr ∧ base ≤ wr.heap.size)
    (fun t6 _ => (intOf t6 + 1).toNat)
  case atStart => exact ⟨W, Nat.le_refl _, rfl, v, bs, rfl, rfl, h, fun g hg => Or.inl hg, Kept.refl _ _, hbase⟩
  case round =>
    obtain ⟨j, hj, rfl, v', bs', hb, hlen, hwr, hv', hk, hbase'⟩ := hrel
    rcases j with _ | i
    · go_wp2
      go_end0
      refine ⟨v', rfl, ?_, hk, hv'⟩
      have := hb.out
      simp only [be, List.append_nil] at this
      unfold wput
      rw [if_pos rfl, ← this]; exact hwr
    · have e1 : (((i + 1 : Nat) : Int) - 1) = (i : Int) := by omega
      rw [e1]
      clear e1
      have hi4 : i < 4 := by omega
      have c0 := hwr.e
      have c1 := hwr.b
      have f0 := hwr.fe
      have f1 := hwr.fb
      have hp := World.block_lt_of_cell? wr _ c0
      simp only at hp
      have hsh := shr_eq n i hi4
      have e2 : IntKind.i64.wrap (8 * (i : Int)) = 8 * (i : Int) := IntWalk.i64_in _ (by omega)
      have Hlen := Lib.hid hlen
      clear hlen
      have hl2 : bs'.length + i ≤ 100004 := by have := Hlen.out; omega
      go_wp2_with fail
      have hne : some p ≠ v'.ownBlock := fun e => hwr.ne e.symm
      have Hwr := Lib.hid hwr
      clear hwr
      go_region_law ((refine step_append_lies _ rfl (.tmp 26) (.tmp 32) 29 rfl base 5 i0 (.int .u8 0) 1 1 Try.underlying29 hi hz0 hz1 hz2 rfl (by decide) v' bs'.length (bs'.map (Value.int .u8)) (by simp [Act.eval, Act.put]) (Hwr.out.own.alloc _).drew ⟨wr.heap.size, 0, none⟩ 1 1 [.int .u8 (n / 2 ^ (8 * i) % 256)] (by simp [Act.eval, Act.put]) rfl (new_cells wr 5 _ _ rfl) (by simp [Value.oneCell']) (by decide) (by unfold maxLen; omega) (by omega) (by simp; omega) _ rfl ?_; intro g cap w2 hown2 hgrow2 hat hlt2; have d0 : w2.cell? ⟨p, 0, none⟩ = some (.int .i64 0) := hgrow2.cell (a := ⟨p, 0, none⟩) (by simp [go_sem, hp, c0]) hne; have d1 : w2.cell? ⟨p, 1, none⟩ = some v' := hgrow2.cell (a := ⟨p, 1, none⟩) (by simp [go_sem, hp, c1]) hne; have q0 : w2.frozen? ⟨p, 0, none⟩ = false := (hgrow2.frozen_far ⟨p, 0, none⟩ (by simp; omega) hne).trans (by simp [go_sem, hp, f0]); have q1 : w2.frozen? ⟨p, 1, none⟩ = false := (hgrow2.frozen_far ⟨p, 1, none⟩ (by simp; omega) hne).trans (by simp [go_sem, hp, f1])))
      all_goals go_wp2
      all_goals
        go_roundw
        case rel =>
          have hat' : v'.ownBlock = some g ∨ g = wr.heap.size + 1 := by simpa using hat
          refine ⟨i, by omega, rfl, _, bs' ++ [byteOf n i], by have := hb.out; simpa [Hid, be, byteOf] using this, by have := Hlen.out; simp; omega, put_step rfl Hwr.out hgrow2 hown2 hat', fun k e => ?_, ?_, ?_⟩
          · simp only [Value.ownBlock, Option.some.injEq] at e
            subst e
            rcases hat' with h1 | h1
            · exact hv' _ h1
            · right; have := hk.size; omega
          · exact (((hk.alloc _).drew).grown hgrow2 (fun k e hlt => (hv' k e).elim Or.inr (fun h => absurd h (by omega)))).setCell (fun _ => Or.inl rfl) _
          · have := hgrow2.size; simp at this; show base ≤ (w2.setCell _ _).heap.size; simp; omega
        case measure => simp [intOf] <;> omega
theorem wu32_any (p base : Nat) (v : Value) (bs : List Int) (er n : Int) (w : World) (h : WrAt w p base v bs er) (hn : 0 ≤ n ∧ n ≤ 4294967295) (hbs : bs.length ≤ 100000) (hbase : base ≤ w.heap.size) :
    Calls Try.prog 22 #[.pointer (some ⟨p, 0, none⟩), .int .u32 n] w (PutPost p base v bs (be n 4) er w) := by
  by_cases he : er = 0
  · subst he
    go_enter Try.func22, Try.ntmps22
    go_wp2_with fail
    refine (putu32_ok p base v bs n 4 _ h hn (by omega) hbs hbase).mono ?_
    intro e w' hp
    obtain ⟨v', rfl, hw, hk⟩ := hp
    go_wp2
    go_end0
    exact ⟨v', rfl, hw, hk⟩
  · have HE := Lib.hid he
    have HH := Lib.hid h
    have h0 := h.e
    clear he h
    go_enter Try.func22, Try.ntmps22
    go_wp2_with fail
    refine (putu32_bad p er n 4 _ h0 HE.out).mono ?_
    rintro e w' ⟨rfl, rfl⟩
    go_wp2
    go_end0
    exact ⟨v, rfl, by unfold wput; rw [if_neg HE.out]; exact HH.out, Kept.refl _ _, fun g hg => .inl hg⟩

theorem conv_own {w : World} {base : Nat} {v : Value} {bs : List Int} (h : w.ownsRow base 5 1 v bs.length (bs.map (Value.int .u8))) : (convert 29 9 v).run Try.prog w = .ok (.string (strOfNums bs)) w := by
  obtain ⟨ao, cap, b, o, rfl, hsl, _⟩ := SlAt.owned h
  by_cases hp : 0 < bs.length
  · have ha := hsl.addr (by simpa using hp)
    rw [ha]
    exact run_convert_bytes_arg w 29 5 Try.underlying29 Try.underlying5 b o bs.length cap bs rfl (fun i hi => hsl.cell i _ (by simp [List.getElem?_eq_getElem hi])) 9 Try.underlying9
  · have : bs = [] := List.eq_nil_of_length_eq_zero (by omega)
    subst this
    rcases h.2 with ⟨hv, _⟩ | ⟨g, cap', cur, hv, _, hg, _⟩
    · rw [hv]
      exact run_convert_bytes_nil w 29 5 Try.underlying29 Try.underlying5 0 0 9 Try.underlying9
    · rw [hv]
      exact run_convert_bytes_arg w 29 5 Try.underlying29 Try.underlying5 g 0 0 cap' [] rfl (fun i hi => absurd hi (Nat.not_lt_zero _)) 9 Try.underlying9
/-- what Bytes answers -/
def wbytes (bs : List Int) (er : Int) : ByteArray := if er = 0 then strOfNums bs else ⟨#[]⟩
theorem bytes_any (p base : Nat) (v : Value) (bs : List Int) (er : Int) (w : World) (h : WrAt w p base v bs er) :
    Calls Try.prog 10 #[.pointer (some ⟨p, 0, none⟩)] w fun e w' => e = .returned (.tuple #[.string (wbytes bs er), .int .i64 er]) ∧ ∃ n, w' = w.drewN n := by
  have c0 := h.e
  have c1 := h.b
  by_cases he : er = 0
  · subst he
    have hcv := conv_own h.own
    have hw : wbytes bs 0 = strOfNums bs := by unfold wbytes; rw [if_pos rfl]
    rw [hw]
    obtain ⟨st, hst⟩ : ∃ st, st = strOfNums bs := ⟨_, rfl⟩
    rw [← hst] at hcv ⊢
    clear hst hw
    go_enter Try.func10, Try.ntmps10
    go_wp2_with fail
    refine (rwell p 0 _ h.e).mono ?_
    rintro e w1 ⟨rfl, rfl⟩
    go_wp2
    go_ret2
    exact ⟨rfl, 0, rfl⟩
  · have hw : wbytes bs er = ⟨#[]⟩ := by unfold wbytes; rw [if_neg he]
    rw [hw]
    have t0 : (er == 0) = false := by simpa using he
    clear hw he
    go_enter Try.func10, Try.ntmps10
    go_wp2_with fail
    refine (rwell p er _ h.e).mono ?_
    rintro e w1 ⟨rfl, rfl⟩
    go_wp2_with fail
    go_quiet (fail)
    go_wp2
    go_ret2
    exact ⟨rfl, _, rfl⟩

end Go.Proofs.Ytehnkljaoaehjaa
