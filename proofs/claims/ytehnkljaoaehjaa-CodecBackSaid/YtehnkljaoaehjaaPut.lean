/- Something that is written by both writers (put, f9). -/
import Derived.Test.YtehnkljaoaehjaaWraw
namespace Go.Proofs.Ytehnkljaoaehjaa
open Go.RowKit Go.Um
set_option linter.unusedSimpArgs false
set_option linter.unusedVariables false
set_option maxHeartbeats 2000000
set_option maxRecDepth 100000

/-- what put leaves: the document's bytes and error; the writer has taken more, and has the error er' -/
def PPost (p base : Nat) (v : Value) (bs : List Int) (er' : Int) (S : ByteArray) (E : Int) (w : World) (e : Ending) (w' : World) : Prop :=
  ∃ v', e = .returned (.tuple #[.string S, .int .i64 E]) ∧ WrAt w' p base v' bs er' ∧ Kept (fun k => k = p ∨ v.ownBlock = some k) w w'
theorem be8 (n : Int) : be (n % 256) 1 = be n 1 := by simp [be, byteOf]
theorem byteOf_mod (n : Int) : byteOf (n % 65536) 0 = byteOf n 0 ∧ byteOf (n % 65536) 1 = byteOf n 1 := by
  unfold byteOf
  simp
  omega
theorem be16 (n : Int) : be (n % 65536) 2 = be n 2 := by simp only [be, (byteOf_mod n).1, (byteOf_mod n).2]
theorem put_0 (p base : Nat) (v : Value) (bs : List Int) (er kind n : Int) (s : ByteArray) (sl : Value) (ao : Option Addr) (len cap : Nat) (hsl : sl = .slice ao len cap) (w : World) (h : WrAt w p base v bs er) (hn : 0 ≤ n ∧ n ≤ 4294967295) (hbs : bs.length ≤ 90000) (hbase : base ≤ w.heap.size) (hpb : p < base) (hK : Int.tmod kind 5 = 0) :
    Calls Try.prog 9 #[.pointer (some ⟨p, 0, none⟩), .agg #[.int .u8 kind, .int .u32 n, .string s, sl]] w (PPost p base v (wput bs er (be n 1)) er (strOfNums (be n 1)) 0 w) := by
  have HN : Hid (∀ W, Calls Try.prog 28 #[.int .u32 n, .int .i64 1] W fun e w' => e = .returned (.string (strOfNums (be n 1))) ∧ Below W.heap.size W w') := Lib.hid (fun W => number_any n 1 W hn (by decide))
  have HW : Hid (∀ W, WrAt W p base v bs er → base ≤ W.heap.size → Calls Try.prog 19 #[.pointer (some ⟨p, 0, none⟩), .int .u8 (n % 256)] W (PutPost p base v bs (be n 1) er W)) := Lib.hid (fun W hW hb => by
    have := wu8_any p base v bs er (n % 256) W hW (by omega) (by omega) hb
    rwa [be8] at this)
  obtain ⟨S, hS⟩ : ∃ S, S = strOfNums (be n 1) := ⟨_, rfl⟩
  rw [← hS] at HN ⊢
  subst hsl
  have HH := Lib.hid h
  have hpl := h.lt
  clear hS h
  go_enter Try.func9, Try.ntmps9
  go_wp2_with fail
  have x0 : (w.alloc (.cells #[.int .u8 kind, .int .u32 n, .string s, .slice ao len cap] 37)).cell? ⟨w.heap.size, 1, none⟩ = some (.int .u32 n) := by simp [go_sem]
  refine (HW.out _ (HH.out.below (ba (bz w) _)) (by simp; omega)).mono ?_
  rintro e w1 ⟨v1, rfl, hw1, hk1, hn1⟩
  have x1 := hk1.cell x0 (by rintro (e | e); (· omega); (· have := (HH.out.own.lt _ e).2; omega))
  have HW1 := Lib.hid hw1
  have HK1 := Lib.hid ((((Kept.refl (fun k => k = p ∨ v.ownBlock = some k) w)).alloc (.cells #[.int .u8 kind, .int .u32 n, .string s, .slice ao len cap] 37)).trans hk1 (fun _ _ e => e))
  have hs1 := hk1.size
  clear hw1 hk1 hn1 x0
  go_wp2_with fail
  refine (HN.out _).mono ?_
  rintro e w2 ⟨rfl, hb2⟩
  have HW2 := Lib.hid (HW1.out.below hb2)
  have HK2 := Lib.hid (HK1.out.trans (Kept.of_below hb2) (fun i hi h => absurd h (by simp at hs1; omega)))
  clear hb2
  go_wp2
  go_ret2
  exact ⟨v1, rfl, HW2.out, HK2.out⟩
theorem put_1 (p base : Nat) (v : Value) (bs : List Int) (er kind n : Int) (s : ByteArray) (sl : Value) (ao : Option Addr) (len cap : Nat) (hsl : sl = .slice ao len cap) (w : World) (h : WrAt w p base v bs er) (hn : 0 ≤ n ∧ n ≤ 4294967295) (hbs : bs.length ≤ 90000) (hbase : base ≤ w.heap.size) (hpb : p < base) (hK : Int.tmod kind 5 = 1) :
    Calls Try.prog 9 #[.pointer (some ⟨p, 0, none⟩), .agg #[.int .u8 kind, .int .u32 n, .string s, sl]] w (PPost p base v (wput bs er (be n 2)) er (strOfNums (be n 2)) 0 w) := by
  have HN : Hid (∀ W, Calls Try.prog 28 #[.int .u32 n, .int .i64 2] W fun e w' => e = .returned (.string (strOfNums (be n 2))) ∧ Below W.heap.size W w') := Lib.hid (fun W => number_any n 2 W hn (by decide))
  have HW : Hid (∀ W, WrAt W p base v bs er → base ≤ W.heap.size → Calls Try.prog 18 #[.pointer (some ⟨p, 0, none⟩), .int .u16 (n % 65536)] W (PutPost p base v bs (be n 2) er W)) := Lib.hid (fun W hW hb => by
    have := wu16_any p base v bs er (n % 65536) W hW (by omega) (by omega) hb
    rwa [be16] at this)
  obtain ⟨S, hS⟩ : ∃ S, S = strOfNums (be n 2) := ⟨_, rfl⟩
  rw [← hS] at HN ⊢
  subst hsl
  have HH := Lib.hid h
  have hpl := h.lt
  clear hS h
  go_enter Try.func9, Try.ntmps9
  go_wp2_with fail
  have x0 : (w.alloc (.cells #[.int .u8 kind, .int .u32 n, .string s, .slice ao len cap] 37)).cell? ⟨w.heap.size, 1, none⟩ = some (.int .u32 n) := by simp [go_sem]
  refine (HW.out _ (HH.out.below (ba (bz w) _)) (by simp; omega)).mono ?_
  rintro e w1 ⟨v1, rfl, hw1, hk1, hn1⟩
  have x1 := hk1.cell x0 (by rintro (e | e); (· omega); (· have := (HH.out.own.lt _ e).2; omega))
  have HW1 := Lib.hid hw1
  have HK1 := Lib.hid ((((Kept.refl (fun k => k = p ∨ v.ownBlock = some k) w)).alloc (.cells #[.int .u8 kind, .int .u32 n, .string s, .slice ao len cap] 37)).trans hk1 (fun _ _ e => e))
  have hs1 := hk1.size
  clear hw1 hk1 hn1 x0
  go_wp2_with fail
  refine (HN.out _).mono ?_
  rintro e w2 ⟨rfl, hb2⟩
  have HW2 := Lib.hid (HW1.out.below hb2)
  have HK2 := Lib.hid (HK1.out.trans (Kept.of_below hb2) (fun i hi h => absurd h (by simp at hs1; omega)))
  clear hb2
  go_wp2
  go_ret2
  exact ⟨v1, rfl, HW2.out, HK2.out⟩
theorem put_2 (p base : Nat) (v : Value) (bs : List Int) (er kind n : Int) (s : ByteArray) (sl : Value) (ao : Option Addr) (len cap : Nat) (hsl : sl = .slice ao len cap) (w : World) (h : WrAt w p base v bs er) (hn : 0 ≤ n ∧ n ≤ 4294967295) (hbs : bs.length ≤ 90000) (hbase : base ≤ w.heap.size) (hpb : p < base) (hK : Int.tmod kind 5 = 2) :
    Calls Try.prog 9 #[.pointer (some ⟨p, 0, none⟩), .agg #[.int .u8 kind, .int .u32 n, .string s, sl]] w (PPost p base v (wput bs er (be n 4)) er (strOfNums (be n 4)) 0 w) := by
  have HN : Hid (∀ W, Calls Try.prog 28 #[.int .u32 n, .int .i64 4] W fun e w' => e = .returned (.string (strOfNums (be n 4))) ∧ Below W.heap.size W w') := Lib.hid (fun W => number_any n 4 W hn (by decide))
  have HW : Hid (∀ W, WrAt W p base v bs er → base ≤ W.heap.size → Calls Try.prog 22 #[.pointer (some ⟨p, 0, none⟩), .int .u32 n] W (PutPost p base v bs (be n 4) er W)) := Lib.hid (fun W hW hb => by
    have := wu32_any p base v bs er n W hW (by omega) (by omega) hb
    exact this)
  obtain ⟨S, hS⟩ : ∃ S, S = strOfNums (be n 4) := ⟨_, rfl⟩
  rw [← hS] at HN ⊢
  subst hsl
  have HH := Lib.hid h
  have hpl := h.lt
  clear hS h
  go_enter Try.func9, Try.ntmps9
  go_wp2_with fail
  have x0 : (w.alloc (.cells #[.int .u8 kind, .int .u32 n, .string s, .slice ao len cap] 37)).cell? ⟨w.heap.size, 1, none⟩ = some (.int .u32 n) := by simp [go_sem]
  refine (HW.out _ (HH.out.below (ba (bz w) _)) (by simp; omega)).mono ?_
  rintro e w1 ⟨v1, rfl, hw1, hk1, hn1⟩
  have x1 := hk1.cell x0 (by rintro (e | e); (· omega); (· have := (HH.out.own.lt _ e).2; omega))
  have HW1 := Lib.hid hw1
  have HK1 := Lib.hid ((((Kept.refl (fun k => k = p ∨ v.ownBlock = some k) w)).alloc (.cells #[.int .u8 kind, .int .u32 n, .string s, .slice ao len cap] 37)).trans hk1 (fun _ _ e => e))
  have hs1 := hk1.size
  clear hw1 hk1 hn1 x0
  go_wp2_with fail
  refine (HN.out _).mono ?_
  rintro e w2 ⟨rfl, hb2⟩
  have HW2 := Lib.hid (HW1.out.below hb2)
  have HK2 := Lib.hid (HK1.out.trans (Kept.of_below hb2) (fun i hi h => absurd h (by simp at hs1; omega)))
  clear hb2
  go_wp2
  go_ret2
  exact ⟨v1, rfl, HW2.out, HK2.out⟩
theorem put_3 (p base : Nat) (v : Value) (bs : List Int) (er kind n : Int) (s : ByteArray) (sl : Value) (ao : Option Addr) (len cap : Nat) (hsl : sl = .slice ao len cap) (w : World) (h : WrAt w p base v bs er) (hbs : bs.length + s.size ≤ 1000000) (hbase : base ≤ w.heap.size) (hpb : p < base) (hK : Int.tmod kind 5 = 3) :
    Calls Try.prog 9 #[.pointer (some ⟨p, 0, none⟩), .agg #[.int .u8 kind, .int .u32 n, .string s, sl]] w (PPost p base v (wput bs er (numsOf s)) er s 0 w) := by
  subst hsl
  have HH := Lib.hid h
  have hpl := h.lt
  clear h
  go_enter Try.func9, Try.ntmps9
  go_wp2_with fail
  have x0 : (w.alloc (.cells #[.int .u8 kind, .int .u32 n, .string s, .slice ao len cap] 37)).cell? ⟨w.heap.size, 2, none⟩ = some (.string s) := by simp [go_sem]
  refine (wraw_any p base v bs er s _ (HH.out.below (ba (bz w) _)) hbs (by simp; omega) hpb).mono ?_
  rintro e w1 ⟨v1, rfl, hw1, hk1⟩
  have x1 := hk1.cell x0 (by rintro (e | e); (· omega); (· have := (HH.out.own.lt _ e).2; omega))
  have HW1 := Lib.hid hw1
  have HK1 := Lib.hid ((((Kept.refl (fun k => k = p ∨ v.ownBlock = some k) w)).alloc (.cells #[.int .u8 kind, .int .u32 n, .string s, .slice ao len cap] 37)).trans hk1 (fun _ _ e => e))
  clear hw1 hk1 x0
  go_wp2
  go_ret2
  exact ⟨v1, rfl, HW1.out, HK1.out⟩
theorem put_4 (p base : Nat) (v : Value) (bs : List Int) (er kind n : Int) (s : ByteArray) (l : List Int) (ao : Option Addr) (len cap b o : Nat) (hlen : len = l.length) (w : World) (h : WrAt w p base v bs er) (hl : SlAt w 1 len (l.map (Value.int .u16)) ao cap b o) (hx : ∀ x ∈ l, 0 ≤ x ∧ x ≤ 65535) (hb : 0 < l.length → b ≠ p ∧ v.ownBlock ≠ some b) (hbs : bs.length + 2 * l.length ≤ 90000) (hbase : base ≤ w.heap.size) (hpb : p < base) (hK : Int.tmod kind 5 = 4) :
    Calls Try.prog 9 #[.pointer (some ⟨p, 0, none⟩), .agg #[.int .u8 kind, .int .u32 n, .string s, .slice ao len cap]] w (PPost p base v (wput bs (lerr er l) (lbytes l)) (lerr er l) (rlS l) (lerr 0 l) w) := by
  have HH := Lib.hid h
  have HL := Lib.hid hl
  have HW : Hid (∀ W, WrAt W p base v bs er → SlAt W 1 len (l.map (Value.int .u16)) ao cap b o → base ≤ W.heap.size → Calls Try.prog 20 #[.pointer (some ⟨p, 0, none⟩), .slice ao len cap] W (WlPost p base v (wput bs (lerr er l) (lbytes l)) (lerr er l) W)) := Lib.hid (fun W h1 h2 h3 => by
    subst hlen
    exact wlist_any p base v bs er l ao cap b o W h1 h2 hx hb hbs h3)
  have HR : Hid (∀ W, SlAt W 1 len (l.map (Value.int .u16)) ao cap b o → Calls Try.prog 29 #[.slice ao len cap] W fun e w' => e = .returned (.tuple #[.string (rlS l), .int .i64 (lerr 0 l)]) ∧ Below W.heap.size W w') := Lib.hid (fun W h2 => rlist_any l len hlen ao cap b o W h2 hx)
  have HB : Hid (0 < (l.map (Value.int .u16)).length → b ≠ p ∧ v.ownBlock ≠ some b) := Lib.hid (fun e => hb (by simpa using e))
  obtain ⟨S, hS⟩ : ∃ S, S = rlS l := ⟨_, rfl⟩
  obtain ⟨E, hE⟩ : ∃ E, E = lerr 0 l := ⟨_, rfl⟩
  rw [← hS, ← hE] at HR ⊢
  have hpl := h.lt
  clear h hl hx hb hS hE hlen
  go_enter Try.func9, Try.ntmps9
  go_wp2_with fail
  have x0 : (w.alloc (.cells #[.int .u8 kind, .int .u32 n, .string s, .slice ao len cap] 37)).cell? ⟨w.heap.size, 3, none⟩ = some (.slice ao len cap) := by simp [go_sem]
  refine (HW.out _ (HH.out.below (ba (bz w) _)) (HL.out.below (ba (bz w) _)) (by simp; omega)).mono ?_
  rintro e w1 ⟨v1, rfl, hw1, hk1, hn1⟩
  have x1 := hk1.cell x0 (by rintro (e | e); (· omega); (· have := (HH.out.own.lt _ e).2; omega))
  have HW1 := Lib.hid hw1
  have HK1 := Lib.hid ((((Kept.refl (fun k => k = p ∨ v.ownBlock = some k) w)).alloc (.cells #[.int .u8 kind, .int .u32 n, .string s, .slice ao len cap] 37)).trans hk1 (fun _ _ e => e))
  have hs1 := hk1.size
  have HL1 : Hid (SlAt w1 1 len (l.map (Value.int .u16)) ao cap b o) := Lib.hid ⟨HL.out.len, HL.out.le, HL.out.max, HL.out.addr, fun e => Nat.lt_of_lt_of_le (HL.out.lt e) (HK1.out.size), fun j u hu => HK1.out.cell (HL.out.cell j u hu) (by have := HB.out (by have := (List.getElem?_eq_some_iff.1 hu).1; omega); rintro (e | e); (· exact this.1 e); (· exact this.2 e))⟩
  clear hw1 hk1 hn1 x0
  go_wp2_with fail
  refine (HR.out _ HL1.out).mono ?_
  rintro e w2 ⟨rfl, hb2⟩
  have HW2 := Lib.hid (HW1.out.below hb2)
  have HK2 := Lib.hid (HK1.out.trans (Kept.of_below hb2) (fun i hi h => absurd h (by simp at hs1; omega)))
  clear hb2
  go_wp2
  go_ret2
  exact ⟨v1, rfl, HW2.out, HK2.out⟩
end Go.Proofs.Ytehnkljaoaehjaa
