/- Something that is read back where it stands, or where it is torn. -/
import Derived.Test.YtehnkljaoaehjaaRead27
namespace Go.Proofs.Ytehnkljaoaehjaa
open Go.RowKit Go.Um
set_option linter.unusedSimpArgs false
set_option linter.unusedVariables false
theorem kind5 (k : Int) (h : in8 k) : Int.tmod k 5 = 0 ∨ Int.tmod k 5 = 1 ∨ Int.tmod k 5 = 2 ∨ Int.tmod k 5 = 3 ∨ Int.tmod k 5 = 4 := by
  rw [Int.tmod_eq_emod_of_nonneg h.1]; omega
theorem enc_0 {x : Thing2} (k : Int.tmod x.kind 5 = 0) : encT x = be x.n 1 := by unfold encT; rw [if_pos k]
theorem enc_1 {x : Thing2} (k : Int.tmod x.kind 5 = 1) : encT x = be x.n 2 := by unfold encT; rw [k]; simp
theorem enc_2 {x : Thing2} (k : Int.tmod x.kind 5 = 2) : encT x = be x.n 4 := by unfold encT; rw [k]; simp
theorem enc_3 {x : Thing2} (k : Int.tmod x.kind 5 = 3) : encT x = numsOf x.s := by unfold encT; rw [k]; simp
theorem enc_4 {x : Thing2} (k : Int.tmod x.kind 5 = 4) : encT x = lbytes x.l := by unfold encT; rw [k]; simp
theorem read_fine (p : Nat) (s : ByteArray) (k : Nat) (x : Thing2) (w : World) (h : RdAt w p s ⟨k, 0⟩) (hs : s.size ≤ 1000000) (hx : x.ok w) (hst : x.s.size ≤ 300) (hl : x.l.length ≤ 255) (hbp : 0 < x.l.length → x.b ≠ p) (hat : AtB s k (encT x)) :
    Calls Try.prog 27 #[.pointer (some ⟨p, 0, none⟩), .agg #[.int .u8 x.kind, .int .u32 x.n, .string x.s, .slice x.ao x.l.length x.cap]] w (ReadPost p s ⟨k + (encT x).length, 0⟩ true w) := by
  have hn := hx.n
  rcases kind5 x.kind hx.kind with K | K | K | K | K
  · rw [enc_0 K] at hat ⊢
    obtain ⟨h1, h2⟩ := got_at hat (be_len x.n 1).symm
    have := read_0 p s ⟨k, 0⟩ x.kind x.n x.s x.ao x.l.length x.cap w h hs hn K
    rw [h1, h2, numB_be1, be_len] at *
    simpa using this
  · rw [enc_1 K] at hat ⊢
    obtain ⟨h1, h2⟩ := got_at hat (be_len x.n 2).symm
    have := read_1 p s ⟨k, 0⟩ x.kind x.n x.s x.ao x.l.length x.cap w h hs hn K
    rw [h1, h2, numB_be2, be_len] at *
    simpa using this
  · rw [enc_2 K] at hat ⊢
    obtain ⟨h1, h2⟩ := got_at hat (be_len x.n 4).symm
    have := read_2 p s ⟨k, 0⟩ x.kind x.n x.s x.ao x.l.length x.cap w h hs hn K
    have e : x.n % 4294967296 = x.n := by omega
    rw [h1, h2, numB_be4, e] at this
    rw [be_len]
    simpa using this
  · rw [enc_3 K] at hat ⊢
    obtain ⟨h1, h2⟩ := got_at hat (numsOf_len x.s).symm
    have := read_3 p s ⟨k, 0⟩ x.kind x.n x.s x.ao x.l.length x.cap w h hs (by omega) K
    rw [h1, h2, str_nums, numsOf_len] at *
    simpa using this
  · rw [enc_4 K] at hat ⊢
    obtain ⟨h1, h2⟩ := list_at hl hx.u hat
    have := read_4 p s ⟨k, 0⟩ x.kind x.n x.s x.l x.ao x.cap x.b x.o w h hs hx.l hbp (by omega) (.inl h1) K
    rw [h1, h2] at *
    simpa using this
theorem read_torn (p : Nat) (s : ByteArray) (k : Nat) (x : Thing2) (w : World) (h : RdAt w p s ⟨k, 0⟩) (hs : s.size ≤ 1000000) (hx : x.ok w) (hst : x.s.size ≤ 300) (hl : x.l.length ≤ 255) (hbp : 0 < x.l.length → x.b ≠ p) (hat : CutB s k (encT x)) :
    Calls Try.prog 27 #[.pointer (some ⟨p, 0, none⟩), .agg #[.int .u8 x.kind, .int .u32 x.n, .string x.s, .slice x.ao x.l.length x.cap]] w (fun e w' => ∃ B, ReadPost p s ⟨k, 5⟩ B w e w') := by
  have hn := hx.n
  rcases kind5 x.kind hx.kind with K | K | K | K | K
  · rw [enc_0 K] at hat
    have := read_0 p s ⟨k, 0⟩ x.kind x.n x.s x.ao x.l.length x.cap w h hs hn K
    rw [next_cut hat (be_len x.n 1).symm] at this
    exact this.mono fun e w' h => ⟨_, h⟩
  · rw [enc_1 K] at hat
    have := read_1 p s ⟨k, 0⟩ x.kind x.n x.s x.ao x.l.length x.cap w h hs hn K
    rw [next_cut hat (be_len x.n 2).symm] at this
    exact this.mono fun e w' h => ⟨_, h⟩
  · rw [enc_2 K] at hat
    have := read_2 p s ⟨k, 0⟩ x.kind x.n x.s x.ao x.l.length x.cap w h hs hn K
    rw [next_cut hat (be_len x.n 4).symm] at this
    exact this.mono fun e w' h => ⟨_, h⟩
  · rw [enc_3 K] at hat
    have := read_3 p s ⟨k, 0⟩ x.kind x.n x.s x.ao x.l.length x.cap w h hs (by omega) K
    rw [next_cut hat (numsOf_len x.s).symm] at this
    exact this.mono fun e w' h => ⟨_, h⟩
  · rw [enc_4 K] at hat
    obtain ⟨h1, h2⟩ := list_cut hl hat
    have := read_4 p s ⟨k, 0⟩ x.kind x.n x.s x.l x.ao x.cap x.b x.o w h hs hx.l hbp (by omega) (.inr h1) K
    rw [h2] at this
    exact this.mono fun e w' h => ⟨_, h⟩
/-- a thing is written -/
theorem puts_enc (p base : Nat) (v : Value) (bs : List Int) (x : Thing2) (w : World) (h : WrAt w p base v bs 0) (hx : x.ok w) (hs : x.s.size ≤ 300) (hl : x.l.length ≤ 255) (hb : 0 < x.l.length → x.b ≠ p ∧ v.ownBlock ≠ some x.b) (hbs : bs.length ≤ 50000) (hbase : base ≤ w.heap.size) (hpb : p < base) :
    Calls Try.prog 9 #[.pointer (some ⟨p, 0, none⟩), .agg #[.int .u8 x.kind, .int .u32 x.n, .string x.s, .slice x.ao x.l.length x.cap]] w (fun e w' => ∃ v' S E, e = .returned (.tuple #[.string S, .int .i64 E]) ∧ WrAt w' p base v' (bs ++ encT x) 0 ∧ Kept (fun k => k = p ∨ v.ownBlock = some k) w w') := by
  rcases kind5 x.kind hx.kind with k | k | k | k | k
  · rw [enc_0 k]; exact (put_0 p base v bs 0 x.kind x.n x.s _ _ _ _ rfl w h hx.n (by omega) hbase hpb k).mono fun e w' ⟨v', a, c, d⟩ => ⟨v', _, _, a, c, d⟩
  · rw [enc_1 k]; exact (put_1 p base v bs 0 x.kind x.n x.s _ _ _ _ rfl w h hx.n (by omega) hbase hpb k).mono fun e w' ⟨v', a, c, d⟩ => ⟨v', _, _, a, c, d⟩
  · rw [enc_2 k]; exact (put_2 p base v bs 0 x.kind x.n x.s _ _ _ _ rfl w h hx.n (by omega) hbase hpb k).mono fun e w' ⟨v', a, c, d⟩ => ⟨v', _, _, a, c, d⟩
  · rw [enc_3 k]; exact (put_3 p base v bs 0 x.kind x.n x.s _ _ _ _ rfl w h (by omega) hbase hpb k).mono fun e w' ⟨v', a, c, d⟩ => ⟨v', _, _, a, c, d⟩
  · rw [enc_4 k]
    have hle : lerr 0 x.l = 0 := by unfold lerr; rw [if_neg (by omega)]
    have := put_4 p base v bs 0 x.kind x.n x.s x.l _ _ _ x.b x.o rfl w h hx.l hx.u hb (by omega) hbase hpb k
    rw [hle] at this
    exact this.mono fun e w' ⟨v', a, c, d⟩ => ⟨v', _, _, a, c, d⟩
end Go.Proofs.Ytehnkljaoaehjaa
