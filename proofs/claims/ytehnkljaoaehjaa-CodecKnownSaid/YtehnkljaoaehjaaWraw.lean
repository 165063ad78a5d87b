/- Bytes that are written as they are (codec.Writer.Raw, f21). -/
import Derived.Test.YtehnkljaoaehjaaWd
import Derived.Lib.AppendStr
namespace Go.Proofs.Ytehnkljaoaehjaa
open Go.RowKit Go.Um
set_option linter.unusedSimpArgs false
set_option linter.unusedVariables false
set_option maxHeartbeats 2000000
set_option maxRecDepth 100000

def numsOf (s : ByteArray) : List Int := s.data.toList.map fun b => (b.toNat : Int)
theorem numsOf_len (s : ByteArray) : (numsOf s).length = s.size := by simp [numsOf]
theorem numsOf_cells (s : ByteArray) : (numsOf s).map (Value.int .u8) = Go.Lib.strCells s := by simp [numsOf, Go.Lib.strCells]
def RawWPost (p base : Nat) (v : Value) (bs : List Int) (er : Int) (w : World) (en : Ending) (w' : World) : Prop :=
  ∃ v', en = .returned (.tuple #[]) ∧ WrAt w' p base v' bs er ∧ Kept (fun k => k = p ∨ v.ownBlock = some k) w w'
theorem wraw_any (p base : Nat) (v : Value) (bs : List Int) (er : Int) (s : ByteArray) (w : World) (h : WrAt w p base v bs er) (hbs : bs.length + s.size ≤ 1000000) (hbase : base ≤ w.heap.size) (hpb : p < base) :
    Calls Try.prog 21 #[.pointer (some ⟨p, 0, none⟩), .string s] w (RawWPost p base v (wput bs er (numsOf s)) er w) := by
  by_cases he : er = 0
  · subst he
    obtain ⟨i0, hi, hz0, hz1, hz2⟩ := info_parts info5
    have hpl := h.lt
    have hne : some p ≠ v.ownBlock := fun e => h.ne e.symm
    have c0 := h.e
    have c1 := h.b
    have HH := Lib.hid h
    have f0 := h.fe
    have f1 := h.fb
    clear h
    go_enter Try.func21, Try.ntmps21
    go_wp2_with fail
    refine (rwell p 0 _ HH.out.e).mono ?_
    rintro e w1 ⟨rfl, rfl⟩
    go_wp2_with (at_builtin; refine Go.Lib.wpList_append_own_string _ rfl (.tmp 16) (.tmp 17) 29 9 rfl base 5 i0 Try.underlying29 Try.underlying9 hi hz0 hz1 hz2 v bs.length (bs.map (Value.int .u8)) rfl HH.out.own s rfl (by unfold maxLen; omega) (by omega) hbase ?_; intro v' w' ho hg hnil; have d0 : w'.cell? ⟨p, 0, none⟩ = some (.int .i64 0) := hg.cell (a := ⟨p, 0, none⟩) HH.out.e hne; have d1 : w'.cell? ⟨p, 1, none⟩ = some v := hg.cell (a := ⟨p, 1, none⟩) HH.out.b hne; have q0 : w'.frozen? ⟨p, 0, none⟩ = false := (hg.frozen_far ⟨p, 0, none⟩ hpl hne).trans HH.out.fe; have q1 : w'.frozen? ⟨p, 1, none⟩ = false := (hg.frozen_far ⟨p, 1, none⟩ hpl hne).trans HH.out.fb; have HO := Lib.hid ho; have HG := Lib.hid hg; obtain ⟨ao9, cap9, b9, o9, hv9, _, _⟩ := SlAt.owned ho; subst hv9; clear ho hg hnil)
    go_wp2
    go_end0
    have hgp : (Value.slice ao9 (bs.length + s.size) cap9).ownBlock ≠ some p := fun e => by have := (HO.out.lt _ e).1; omega
    refine ⟨.slice ao9 (bs.length + s.size) cap9, rfl, ⟨?_, ?_, ?_, ?_, ?_, hgp⟩, ((Kept.refl _ w).grown HG.out (fun k e _ => .inr e)).setCell (fun _ => .inl rfl) _⟩
    · simp [go_sem, d0]
    · simp [go_sem, d1]
    · simp [go_sem, q0]
    · simp [go_sem, q1]
    · have := own_setCell HO.out (a := ⟨p, 1, none⟩) hgp (.slice ao9 (bs.length + s.size) cap9)
      unfold wput
      rw [if_pos rfl, List.map_append, numsOf_cells, List.length_append, numsOf_len]
      exact this
  · have HE := Lib.hid he
    have HH := Lib.hid h
    have h0 := h.e
    clear he h
    go_enter Try.func21, Try.ntmps21
    have t0 : (er == 0) = false := by simpa using HE.out
    go_wp2_with fail
    refine (rwell p er _ h0).mono ?_
    rintro e w' ⟨rfl, rfl⟩
    go_wp2
    go_end0
    exact ⟨v, rfl, by unfold wput; rw [if_neg HE.out]; exact HH.out, Kept.refl _ _⟩
end Go.Proofs.Ytehnkljaoaehjaa
