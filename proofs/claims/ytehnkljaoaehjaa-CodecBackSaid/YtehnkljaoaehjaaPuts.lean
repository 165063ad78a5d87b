/- The five kinds of put in one. -/
import Derived.Test.YtehnkljaoaehjaaFew
namespace Go.Proofs.Ytehnkljaoaehjaa
open Go.RowKit Go.Um
set_option linter.unusedSimpArgs false
set_option linter.unusedVariables false
set_option maxHeartbeats 2000000
set_option maxRecDepth 100000
structure PRel (bs bs' : List Int) (er er' : Int) (S : ByteArray) (E : Int) : Prop where
  len : bs'.length ≤ bs.length + 905
  err : er' = 0 ∨ er' = 3
  size : S.size ≤ 8000
  new : er = 0 → E = er' ∧ (er' = 0 → strOfNums bs ++ S = strOfNums bs')
  old : er ≠ 0 → er' = er
theorem str_nums (s : ByteArray) : strOfNums (numsOf s) = s := by
  apply ba_ext
  rw [strOfNums_data, numsOf, List.map_map]
  conv => rhs; rw [← List.map_id s.data.toList]
  refine List.map_congr_left fun b _ => ?_
  simp
theorem prel_be (bs : List Int) (er n : Int) (W : Nat) (hW : W ≤ 4) (he : er = 0 ∨ er = 3) : PRel bs (wput bs er (be n W)) er er (strOfNums (be n W)) 0 := by
  refine ⟨by have := wput_le bs er (be n W); rw [be_len] at this; omega, he, by rw [strOfNums_size, be_len]; omega, fun h => ⟨h.symm, fun _ => by rw [strcat]; unfold wput; rw [if_pos h]⟩, fun _ => rfl⟩
theorem prel_raw (bs : List Int) (er : Int) (s : ByteArray) (hs : s.size ≤ 300) (he : er = 0 ∨ er = 3) : PRel bs (wput bs er (numsOf s)) er er s 0 := by
  refine ⟨by have := wput_le bs er (numsOf s); rw [numsOf_len] at this; omega, he, by omega, fun h => ⟨h.symm, fun _ => ?_⟩, fun _ => rfl⟩
  unfold wput
  rw [if_pos h, ← strcat, str_nums]
theorem lbytes_len (l : List Int) : (lbytes l).length = 1 + 2 * l.length := by unfold lbytes; rw [List.length_append, be_len, twos_len]
theorem prel_list (bs : List Int) (er : Int) (l : List Int) (hl : l.length ≤ 300) (he : er = 0 ∨ er = 3) : PRel bs (wput bs (lerr er l) (lbytes l)) er (lerr er l) (rlS l) (lerr 0 l) := by
  refine ⟨by have := wput_le bs (lerr er l) (lbytes l); rw [lbytes_len] at this; omega, ?_, ?_, fun h => ⟨by rw [h], fun h2 => ?_⟩, fun h => ?_⟩
  · unfold lerr; split
    · exact .inr rfl
    · exact he
  · unfold rlS; split
    · decide
    · rw [strOfNums_size, lbytes_len]; omega
  · have h255 : ¬ 255 < l.length := fun h3 => by unfold lerr at h2; rw [if_pos h3] at h2; cases h2
    unfold rlS wput
    rw [if_neg h255, h2, if_pos rfl, strcat]
  · unfold lerr; split
    · rcases he with h2 | h2
      · exact absurd h2 h
      · exact h2.symm
    · rfl
def PutsPost (p base : Nat) (v : Value) (bs : List Int) (er : Int) (w : World) (e : Ending) (w' : World) : Prop :=
  ∃ v' bs' er' S E, PRel bs bs' er er' S E ∧ e = .returned (.tuple #[.string S, .int .i64 E]) ∧ WrAt w' p base v' bs' er' ∧ Kept (fun k => k = p ∨ v.ownBlock = some k) w w'
theorem puts_any (p base : Nat) (v : Value) (bs : List Int) (er : Int) (x : Thing2) (w : World) (h : WrAt w p base v bs er) (he : er = 0 ∨ er = 3) (hx : x.ok w) (hs : x.s.size ≤ 300) (hl : x.l.length ≤ 300) (hb : 0 < x.l.length → x.b ≠ p ∧ v.ownBlock ≠ some x.b) (hbs : bs.length ≤ 50000) (hbase : base ≤ w.heap.size) (hpb : p < base) :
    Calls Try.prog 9 #[.pointer (some ⟨p, 0, none⟩), .agg #[.int .u8 x.kind, .int .u32 x.n, .string x.s, .slice x.ao x.l.length x.cap]] w (PutsPost p base v bs er w) := by
  have hk : Int.tmod x.kind 5 = 0 ∨ Int.tmod x.kind 5 = 1 ∨ Int.tmod x.kind 5 = 2 ∨ Int.tmod x.kind 5 = 3 ∨ Int.tmod x.kind 5 = 4 := by
    rw [Int.tmod_eq_emod_of_nonneg hx.kind.1]; omega
  rcases hk with k | k | k | k | k
  · exact (put_0 p base v bs er x.kind x.n x.s _ _ _ _ rfl w h hx.n (by omega) hbase hpb k).mono fun e w' ⟨v', a, c, d⟩ => ⟨v', _, _, _, _, prel_be bs er x.n 1 (by decide) he, a, c, d⟩
  · exact (put_1 p base v bs er x.kind x.n x.s _ _ _ _ rfl w h hx.n (by omega) hbase hpb k).mono fun e w' ⟨v', a, c, d⟩ => ⟨v', _, _, _, _, prel_be bs er x.n 2 (by decide) he, a, c, d⟩
  · exact (put_2 p base v bs er x.kind x.n x.s _ _ _ _ rfl w h hx.n (by omega) hbase hpb k).mono fun e w' ⟨v', a, c, d⟩ => ⟨v', _, _, _, _, prel_be bs er x.n 4 (by decide) he, a, c, d⟩
  · exact (put_3 p base v bs er x.kind x.n x.s _ _ _ _ rfl w h (by omega) hbase hpb k).mono fun e w' ⟨v', a, c, d⟩ => ⟨v', _, _, _, _, prel_raw bs er x.s hs he, a, c, d⟩
  · exact (put_4 p base v bs er x.kind x.n x.s x.l _ _ _ x.b x.o rfl w h hx.l hx.u hb (by omega) hbase hpb k).mono fun e w' ⟨v', a, c, d⟩ => ⟨v', _, _, _, _, prel_list bs er x.l hl he, a, c, d⟩
end Go.Proofs.Ytehnkljaoaehjaa
