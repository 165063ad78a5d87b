/- The codec's writer and reader, as far as the register uses them. -/
import Derived.Test.YtoidbmgoofbcfaaProg
import Derived.Test.YtoidbmgoofbcfaaOpen
import Derived.StillTailTactics
import Derived.Deep.RegionHeld3
import Derived.Lib.ConvBytes
import Derived.Deep.AppendLies
import Derived.Deep.RegionLaw
import Derived.BigQuiet
import Derived.KernelRfl
namespace Go.Proofs.Ytoidbmgoofbcfaa
open Go.RowKit Go.Um
set_option linter.unusedSimpArgs false
set_option linter.unusedVariables false
set_option maxHeartbeats 2000000

theorem well_any (p : Nat) (e : Int) (w : World) (h : w.cell? ⟨p, 0, none⟩ = some (.int .i64 e)) :
    Calls Try.prog 56 #[.pointer (some ⟨p, 0, none⟩)] w fun en w' => en = .returned (.bool (e == 0)) ∧ w = w' := by
  go_enter Try.func56, Try.ntmps56
  go_wp2
  go_ret
  exact ⟨rfl, rfl⟩

/-- a writer without an error at block p; what was written so far: bs, in a row of the call's own -/
structure WrAt (w : World) (p base : Nat) (v : Value) (bs : List Int) : Prop where
  e : w.cell? ⟨p, 0, none⟩ = some (.int .i64 0)
  b : w.cell? ⟨p, 1, none⟩ = some v
  fe : w.frozen? ⟨p, 0, none⟩ = false
  fb : w.frozen? ⟨p, 1, none⟩ = false
  own : w.ownsRow base 5 1 v bs.length (bs.map (Value.int .u8))
  ne : v.ownBlock ≠ some p

/-- byte j of a number -/
def byteOf (n : Int) (j : Nat) : Int := n / 2 ^ (8 * j) % 256
/-- the bytes of a number, from the j-th down -/
def be (n : Int) : Nat → List Int
  | 0 => []
  | j + 1 => byteOf n j :: be n j

theorem put_step {wr w2 : World} {p base g cap n : Nat} {v' : Value} {bs' : List Int} {B : Int} {o : Obj} (hn : n = bs'.length) (h : WrAt wr p base v' bs') (hg : (wr.alloc o).drew.grownBy w2 v'.ownBlock)
    (hown : w2.ownsRow base 5 1 (.slice (some ⟨g, 0, none⟩) (n + 1) cap) (n + 1) (bs'.map (Value.int .u8) ++ [.int .u8 B])) (hat : v'.ownBlock = some g ∨ g = wr.heap.size + 1) :
    WrAt (w2.setCell ⟨p, 1, none⟩ (.slice (some ⟨g, 0, none⟩) (n + 1) cap)) p base (.slice (some ⟨g, 0, none⟩) (n + 1) cap) (bs' ++ [B]) := by
  subst hn
  have hp : p < wr.heap.size := World.block_lt_of_cell? wr _ h.e
  have hne : some p ≠ v'.ownBlock := fun e => h.ne e.symm
  have hgp : g ≠ p := by
    rcases hat with h1 | h1
    · intro e; subst e; exact h.ne h1
    · omega
  have d0 : w2.cell? ⟨p, 0, none⟩ = some (.int .i64 0) := hg.cell (a := ⟨p, 0, none⟩) (by simp [go_sem, hp, h.e]) hne
  have d1 : w2.cell? ⟨p, 1, none⟩ = some v' := hg.cell (a := ⟨p, 1, none⟩) (by simp [go_sem, hp, h.b]) hne
  have q0 : w2.frozen? ⟨p, 0, none⟩ = false := (hg.frozen_far ⟨p, 0, none⟩ (by simp; omega) hne).trans (by simp [go_sem, hp, h.fe])
  have q1 : w2.frozen? ⟨p, 1, none⟩ = false := (hg.frozen_far ⟨p, 1, none⟩ (by simp; omega) hne).trans (by simp [go_sem, hp, h.fb])
  refine ⟨?_, ?_, ?_, ?_, ?_, ?_⟩
  · simp [go_sem, d0]
  · simp [go_sem, d1]
  · simp [go_sem, q0]
  · simp [go_sem, q1]
  · have := own_setCell hown (a := ⟨p, 1, none⟩) (by simp [Value.ownBlock]; exact hgp) (.slice (some ⟨g, 0, none⟩) (bs'.length + 1) cap)
    simpa using this
  · simp [Value.ownBlock]; exact hgp

theorem info5 : (Try.prog.info? 5).map (fun i => (i.zero, i.size, i.bytes)) = some (some (.int .u8 0), 1, 1) := by kernel_rfl

/-- what put leaves -/
def PutPost (p base : Nat) (v : Value) (bs bs' : List Int) (w : World) (en : Ending) (w' : World) : Prop :=
  ∃ v', en = .returned (.tuple #[]) ∧ WrAt w' p base v' (bs ++ bs') ∧ Kept (fun k => k = p ∨ v.ownBlock = some k) w w'

theorem shr_eq (n : Int) (i : Nat) (hi : i < 4) (w : World) : (binOp .shr 82 (.int .u32 n) (.int .i64 (8 * (i : Int)))).run Try.prog w = .ok (.int .u32 (n / 2 ^ (8 * i))) w := by
  have : i = 0 ∨ i = 1 ∨ i = 2 ∨ i = 3 := by omega
  rcases this with rfl | rfl | rfl | rfl <;> simp [go_sem]
theorem wrap32_in {n : Int} (h : 0 ≤ n ∧ n ≤ 4294967295) : IntKind.u32.wrap n = n := by
  simp only [IntKind.wrap, IntKind.signed, IntKind.bits, Bool.false_and, Bool.false_eq_true, if_false]; omega
theorem wrap8_eq (n : Int) : IntKind.u8.wrap n = n % 256 := by
  simp only [IntKind.wrap, IntKind.signed, IntKind.bits, Bool.false_and, Bool.false_eq_true, if_false]; rfl
theorem put_any (p base : Nat) (v : Value) (bs : List Int) (n : Int) (W : Nat) (w : World) (h : WrAt w p base v bs) (hn : 0 ≤ n ∧ n ≤ 65535) (hW : W ≤ 4) (hbs : bs.length ≤ 100000) (hbase : base ≤ w.heap.size) :
    Calls Try.prog 55 #[.pointer (some ⟨p, 0, none⟩), .int .u16 n, .int .i64 W] w (PutPost p base v bs (be n W) w) := by
  have he := h.e
  have ew := wrap32_in (n := n) (by omega)
  obtain ⟨i0, hi, hz0, hz1, hz2⟩ := info_parts info5
  go_enter Try.func55, Try.ntmps55
  go_wp2_with fail
  refine (well_any p 0 _ h.e).mono ?_
  rintro e w1 ⟨rfl, rfl⟩
  go_wp2_with fail
  go_loopw [6] (fun t6 wr => ∃ j : Nat, j ≤ W ∧ t6 = .int .i64 ((j : Int) - 1) ∧ ∃ v' bs', Hid (bs' ++ be n j = bs ++ be n W) ∧ bs'.length + j = bs.length + W ∧ WrAt wr p base v' bs' ∧ (∀ g, v'.ownBlock = some g → v.ownBlock = some g ∨ w.heap.size ≤ g) ∧ Kept (fun k => k = p ∨ v.ownBlock = some k) w wr ∧ base ≤ wr.heap.size)
    (fun t6 _ => (intOf t6 + 1).toNat)
  case atStart => exact ⟨W, Nat.le_refl _, rfl, v, bs, rfl, rfl, h, fun g hg => Or.inl hg, Kept.refl _ _, hbase⟩
  case round =>
    obtain ⟨j, hj, rfl, v', bs', hb, hlen, hwr, hv', hk, hbase'⟩ := hrel
    rcases j with _ | i
    · go_wp2
      go_end0
      refine ⟨v', rfl, ?_, hk⟩
      have := hb.out
      simp only [be, List.append_nil] at this
      rw [← this]; exact hwr
    · have e1 : (((i + 1 : Nat) : Int) - 1) = (i : Int) := by omega
      rw [e1]
      clear e1
      have hi4 : i < 4 := by omega
      have c0 := hwr.e
      have c1 := hwr.b
      have f0 := hwr.fe
      have f1 := hwr.fb
      have hp := World.block_lt_of_cell? wr _ c0
      simp only at hp
      have hsh := shr_eq n i hi4
      have e2 : IntKind.i64.wrap (8 * (i : Int)) = 8 * (i : Int) := IntWalk.i64_in _ (by omega)
      have Hlen := Lib.hid hlen
      clear hlen
      have hl2 : bs'.length + i ≤ 100004 := by have := Hlen.out; omega
      go_wp2_with fail
      have hne : some p ≠ v'.ownBlock := fun e => hwr.ne e.symm
      have Hwr := Lib.hid hwr
      clear hwr
      go_region_law ((refine step_append_lies _ rfl (.tmp 26) (.tmp 33) 88 rfl base 5 i0 (.int .u8 0) 1 1 Try.underlying88 hi hz0 hz1 hz2 rfl (by decide) v' bs'.length (bs'.map (Value.int .u8)) (by simp [Act.eval, Act.put]) (Hwr.out.own.alloc _).drew ⟨wr.heap.size, 0, none⟩ 1 1 [.int .u8 (n / 2 ^ (8 * i) % 256)] (by simp [Act.eval, Act.put]) rfl (new_cells wr 5 _ _ rfl) (by simp [Value.oneCell']) (by decide) (by unfold maxLen; omega) (by omega) (by simp; omega) _ rfl ?_; intro g cap w2 hown2 hgrow2 hat hlt2; have d0 : w2.cell? ⟨p, 0, none⟩ = some (.int .i64 0) := hgrow2.cell (a := ⟨p, 0, none⟩) (by simp [go_sem, hp, c0]) hne; have d1 : w2.cell? ⟨p, 1, none⟩ = some v' := hgrow2.cell (a := ⟨p, 1, none⟩) (by simp [go_sem, hp, c1]) hne; have q0 : w2.frozen? ⟨p, 0, none⟩ = false := (hgrow2.frozen_far ⟨p, 0, none⟩ (by simp; omega) hne).trans (by simp [go_sem, hp, f0]); have q1 : w2.frozen? ⟨p, 1, none⟩ = false := (hgrow2.frozen_far ⟨p, 1, none⟩ (by simp; omega) hne).trans (by simp [go_sem, hp, f1])))
      all_goals go_wp2
      all_goals
        go_roundw
        case rel =>
          have hat' : v'.ownBlock = some g ∨ g = wr.heap.size + 1 := by simpa using hat
          refine ⟨i, by omega, rfl, _, bs' ++ [byteOf n i], by have := hb.out; simpa [Hid, be, byteOf] using this, by have := Hlen.out; simp; omega, put_step rfl Hwr.out hgrow2 hown2 hat', fun k e => ?_, ?_, ?_⟩
          · simp only [Value.ownBlock, Option.some.injEq] at e
            subst e
            rcases hat' with h1 | h1
            · exact hv' _ h1
            · right; have := hk.size; omega
          · exact (((hk.alloc _).drew).grown hgrow2 (fun k e hlt => (hv' k e).elim Or.inr (fun h => absurd h (by omega)))).setCell (fun _ => Or.inl rfl) _
          · have := hgrow2.size; simp at this; show base ≤ (w2.setCell _ _).heap.size; simp; omega
        case measure => simp [intOf] <;> omega

theorem put8_any (p base : Nat) (v : Value) (bs : List Int) (n : Int) (W : Nat) (w : World) (h : WrAt w p base v bs) (hn : 0 ≤ n ∧ n ≤ 255) (hW : W ≤ 4) (hbs : bs.length ≤ 100000) (hbase : base ≤ w.heap.size) :
    Calls Try.prog 54 #[.pointer (some ⟨p, 0, none⟩), .int .u8 n, .int .i64 W] w (PutPost p base v bs (be n W) w) := by
  have he := h.e
  have ew := wrap32_in (n := n) (by omega)
  obtain ⟨i0, hi, hz0, hz1, hz2⟩ := info_parts info5
  go_enter Try.func54, Try.ntmps54
  go_wp2_with fail
  refine (well_any p 0 _ h.e).mono ?_
  rintro e w1 ⟨rfl, rfl⟩
  go_wp2_with fail
  go_loopw [6] (fun t6 wr => ∃ j : Nat, j ≤ W ∧ t6 = .int .i64 ((j : Int) - 1) ∧ ∃ v' bs', Hid (bs' ++ be n j = bs ++ be n W) ∧ bs'.length + j = bs.length + W ∧ WrAt wr p base v' bs' ∧ (∀ g, v'.ownBlock = some g → v.ownBlock = some g ∨ w.heap.size ≤ g) ∧ Kept (fun k => k = p ∨ v.ownBlock = some k) w wr ∧ base ≤ wr.heap.size)
    (fun t6 _ => (intOf t6 + 1).toNat)
  case atStart => exact ⟨W, Nat.le_refl _, rfl, v, bs, rfl, rfl, h, fun g hg => Or.inl hg, Kept.refl _ _, hbase⟩
  case round =>
    obtain ⟨j, hj, rfl, v', bs', hb, hlen, hwr, hv', hk, hbase'⟩ := hrel
    rcases j with _ | i
    · go_wp2
      go_end0
      refine ⟨v', rfl, ?_, hk⟩
      have := hb.out
      simp only [be, List.append_nil] at this
      rw [← this]; exact hwr
    · have e1 : (((i + 1 : Nat) : Int) - 1) = (i : Int) := by omega
      rw [e1]
      clear e1
      have hi4 : i < 4 := by omega
      have c0 := hwr.e
      have c1 := hwr.b
      have f0 := hwr.fe
      have f1 := hwr.fb
      have hp := World.block_lt_of_cell? wr _ c0
      simp only at hp
      have hsh := shr_eq n i hi4
      have e2 : IntKind.i64.wrap (8 * (i : Int)) = 8 * (i : Int) := IntWalk.i64_in _ (by omega)
      have Hlen := Lib.hid hlen
      clear hlen
      have hl2 : bs'.length + i ≤ 100004 := by have := Hlen.out; omega
      go_wp2_with fail
      have hne : some p ≠ v'.ownBlock := fun e => hwr.ne e.symm
      have Hwr := Lib.hid hwr
      clear hwr
      go_region_law ((refine step_append_lies _ rfl (.tmp 26) (.tmp 33) 88 rfl base 5 i0 (.int .u8 0) 1 1 Try.underlying88 hi hz0 hz1 hz2 rfl (by decide) v' bs'.length (bs'.map (Value.int .u8)) (by simp [Act.eval, Act.put]) (Hwr.out.own.alloc _).drew ⟨wr.heap.size, 0, none⟩ 1 1 [.int .u8 (n / 2 ^ (8 * i) % 256)] (by simp [Act.eval, Act.put]) rfl (new_cells wr 5 _ _ rfl) (by simp [Value.oneCell']) (by decide) (by unfold maxLen; omega) (by omega) (by simp; omega) _ rfl ?_; intro g cap w2 hown2 hgrow2 hat hlt2; have d0 : w2.cell? ⟨p, 0, none⟩ = some (.int .i64 0) := hgrow2.cell (a := ⟨p, 0, none⟩) (by simp [go_sem, hp, c0]) hne; have d1 : w2.cell? ⟨p, 1, none⟩ = some v' := hgrow2.cell (a := ⟨p, 1, none⟩) (by simp [go_sem, hp, c1]) hne; have q0 : w2.frozen? ⟨p, 0, none⟩ = false := (hgrow2.frozen_far ⟨p, 0, none⟩ (by simp; omega) hne).trans (by simp [go_sem, hp, f0]); have q1 : w2.frozen? ⟨p, 1, none⟩ = false := (hgrow2.frozen_far ⟨p, 1, none⟩ (by simp; omega) hne).trans (by simp [go_sem, hp, f1])))
      all_goals go_wp2
      all_goals
        go_roundw
        case rel =>
          have hat' : v'.ownBlock = some g ∨ g = wr.heap.size + 1 := by simpa using hat
          refine ⟨i, by omega, rfl, _, bs' ++ [byteOf n i], by have := hb.out; simpa [Hid, be, byteOf] using this, by have := Hlen.out; simp; omega, put_step rfl Hwr.out hgrow2 hown2 hat', fun k e => ?_, ?_, ?_⟩
          · simp only [Value.ownBlock, Option.some.injEq] at e
            subst e
            rcases hat' with h1 | h1
            · exact hv' _ h1
            · right; have := hk.size; omega
          · exact (((hk.alloc _).drew).grown hgrow2 (fun k e hlt => (hv' k e).elim Or.inr (fun h => absurd h (by omega)))).setCell (fun _ => Or.inl rfl) _
          · have := hgrow2.size; simp at this; show base ≤ (w2.setCell _ _).heap.size; simp; omega
        case measure => simp [intOf] <;> omega

theorem conv_own {w : World} {base : Nat} {v : Value} {bs : List Int} (h : w.ownsRow base 5 1 v bs.length (bs.map (Value.int .u8))) : (convert 88 9 v).run Try.prog w = .ok (.string (strOfNums bs)) w := by
  obtain ⟨ao, cap, b, o, rfl, hsl, _⟩ := SlAt.owned h
  by_cases hp : 0 < bs.length
  · have ha := hsl.addr (by simpa using hp)
    rw [ha]
    exact run_convert_bytes_arg w 88 5 Try.underlying88 Try.underlying5 b o bs.length cap bs rfl (fun i hi => hsl.cell i _ (by simp [List.getElem?_eq_getElem hi])) 9 Try.underlying9
  · have : bs = [] := List.eq_nil_of_length_eq_zero (by omega)
    subst this
    rcases h.2 with ⟨hv, _⟩ | ⟨g, cap', cur, hv, _, hg, _⟩
    · rw [hv]
      exact run_convert_bytes_nil w 88 5 Try.underlying88 Try.underlying5 0 0 9 Try.underlying9
    · rw [hv]
      exact run_convert_bytes_arg w 88 5 Try.underlying88 Try.underlying5 g 0 0 cap' [] rfl (fun i hi => absurd hi (Nat.not_lt_zero _)) 9 Try.underlying9

theorem u16_any (p base : Nat) (v : Value) (bs : List Int) (n : Int) (w : World) (h : WrAt w p base v bs) (hn : 0 ≤ n ∧ n ≤ 65535) (hbs : bs.length ≤ 100000) (hbase : base ≤ w.heap.size) :
    Calls Try.prog 42 #[.pointer (some ⟨p, 0, none⟩), .int .u16 n] w (PutPost p base v bs (be n 2) w) := by
  go_enter Try.func42, Try.ntmps42
  go_wp2_with fail
  refine (put_any p base v bs n 2 _ h hn (by omega) hbs hbase).mono ?_
  intro e w' hp
  obtain ⟨v', rfl, hw, hk⟩ := hp
  go_wp2
  go_end0
  exact ⟨v', rfl, hw, hk⟩

theorem u8_any (p base : Nat) (v : Value) (bs : List Int) (n : Int) (w : World) (h : WrAt w p base v bs) (hn : 0 ≤ n ∧ n ≤ 255) (hbs : bs.length ≤ 100000) (hbase : base ≤ w.heap.size) :
    Calls Try.prog 41 #[.pointer (some ⟨p, 0, none⟩), .int .u8 n] w (PutPost p base v bs (be n 1) w) := by
  go_enter Try.func41, Try.ntmps41
  go_wp2_with fail
  refine (put8_any p base v bs n 1 _ h hn (by omega) hbs hbase).mono ?_
  intro e w' hp
  obtain ⟨v', rfl, hw, hk⟩ := hp
  go_wp2
  go_end0
  exact ⟨v', rfl, hw, hk⟩

theorem bytes_any (p base : Nat) (v : Value) (bs : List Int) (w : World) (h : WrAt w p base v bs) :
    Calls Try.prog 43 #[.pointer (some ⟨p, 0, none⟩)] w fun e w' => e = .returned (.tuple #[.string (strOfNums bs), .int .i64 0]) ∧ w = w' := by
  have c0 := h.e
  have c1 := h.b
  have hcv := conv_own h.own
  obtain ⟨st, hst⟩ : ∃ st, st = strOfNums bs := ⟨_, rfl⟩
  rw [← hst] at hcv ⊢
  clear hst
  go_enter Try.func43, Try.ntmps43
  go_wp2_with fail
  refine (well_any p 0 _ h.e).mono ?_
  rintro e w1 ⟨rfl, rfl⟩
  go_wp2
  go_ret2
  exact ⟨rfl, rfl⟩

end Go.Proofs.Ytoidbmgoofbcfaa
