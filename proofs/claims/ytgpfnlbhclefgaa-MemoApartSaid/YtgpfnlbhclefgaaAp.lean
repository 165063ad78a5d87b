/- What is told of one memo makes no difference to another one (MemoApart, f5). -/
import Derived.Test.YtgpfnlbhclefgaaAw
namespace Go.Proofs.Ytgpfnlbhclefgaa
open Go.RowKit Go.Um
set_option linter.unusedSimpArgs false
set_option linter.unusedVariables false
set_option maxHeartbeats 8000000
set_option maxRecDepth 100000
theorem cell_past_ {a b : World} (h : Below a.heap.size a b) {p : Addr} {v : Value} (hc : a.cell? p = some v) : b.cell? p = some v := by
  rw [h.cell (World.block_lt_of_cell? a p hc)]; exact hc
/-- two memos, a set and a box -/
structure AP (w W : World) (B3 p b p' b' c7 : Nat) (ks : List Cfg) (T sv : Nat) (k : Cfg) (T' sv' : Nat) (sl : Value) (N : Nat) (bx : List Value) : Prop where
  m : MmAt W p (some b) ks T sv
  o : MmAt W p' (some b') [k] T' sv'
  set : SetAt W (.agg #[sl]) N
  x7 : W.cell? ⟨c7, 0, none⟩ = some sl
  box : ∀ (j : Nat) u, bx[j]? = some u → W.cell? ⟨B3, j, none⟩ = some u
  bel : Below w.heap.size w W
  base : w.heap.size ≤ B3
  o1 : B3 < p ∧ B3 < b
  o2 : p < p' ∧ p < b' ∧ b < p' ∧ b < b'
  o3 : p' < c7 ∧ b' < c7
theorem AP.ext {w W w' : World} {B3 p b p' b' c7 : Nat} {ks : List Cfg} {T sv : Nat} {k : Cfg} {T' sv' : Nat} {sl : Value} {N : Nat} {bx : List Value} (h : AP w W B3 p b p' b' c7 ks T sv k T' sv' sl N bx) (hb : Below W.heap.size W w') : AP w w' B3 p b p' b' c7 ks T sv k T' sv' sl N bx :=
  ⟨h.m.below hb, h.o.below hb, h.set.below hb, kc hb _ _ _ h.x7, fun j u hu => kc hb _ _ _ (h.box j u hu), bt h.bel hb, h.base, h.o1, h.o2, h.o3⟩
theorem AP.stepM {w W w' : World} {B3 p b p' b' c7 : Nat} {ks ks' : List Cfg} {T sv T2 sv2 : Nat} {k : Cfg} {T' sv' : Nat} {sl : Value} {N : Nat} {bx : List Value} (h : AP w W B3 p b p' b' c7 ks T sv k T' sv' sl N bx) (hm : MmAt w' p (some b) ks' T2 sv2) (hk : Kept (fun i => i = p ∨ some b = some i) W w') : AP w w' B3 p b p' b' c7 ks' T2 sv2 k T' sv' sl N bx := by
  obtain ⟨h1, h2, h3, h4, h5, h6, h7, ⟨h8, h8b⟩, ⟨h9, h9b, h9c, h9d⟩, ⟨ha, hab⟩⟩ := h
  have ne : ∀ i, i ≠ p → i ≠ b → ¬ (i = p ∨ some b = some i) := fun i e1 e2 => by rintro (e | e); (· exact e1 e); (· injection e with e; exact e2 e.symm)
  exact ⟨hm, h2.kept hk (ne _ (by omega) (by omega)) (fun bb e => by injection e with e; subst e; exact ne _ (by omega) (by omega)), set_apart h1 h3 hk, hk.cell h4 (ne _ (by omega) (by omega)), fun j u hu => hk.cell (h5 j u hu) (ne _ (by omega) (by omega)), h6.trans (hk.below (fun i hi _ => ne _ (by omega) (by omega)) h6.size), h7, ⟨h8, h8b⟩, ⟨h9, h9b, h9c, h9d⟩, ⟨ha, hab⟩⟩
theorem AP.stepO {w W w' : World} {B3 p b p' b' c7 : Nat} {ks : List Cfg} {T sv T2 sv2 : Nat} {k : Cfg} {T' sv' : Nat} {sl : Value} {N : Nat} {bx : List Value} (h : AP w W B3 p b p' b' c7 ks T sv k T' sv' sl N bx) (hm : MmAt w' p' (some b') [k] T2 sv2) (hk : Kept (fun i => i = p' ∨ some b' = some i) W w') : AP w w' B3 p b p' b' c7 ks T sv k T2 sv2 sl N bx := by
  obtain ⟨h1, h2, h3, h4, h5, h6, h7, ⟨h8, h8b⟩, ⟨h9, h9b, h9c, h9d⟩, ⟨ha, hab⟩⟩ := h
  have ne : ∀ i, i ≠ p' → i ≠ b' → ¬ (i = p' ∨ some b' = some i) := fun i e1 e2 => by rintro (e | e); (· exact e1 e); (· injection e with e; exact e2 e.symm)
  exact ⟨h1.kept hk (ne _ (by omega) (by omega)) (fun bb e => by injection e with e; subst e; exact ne _ (by omega) (by omega)), hm, set_apart h2 h3 hk, hk.cell h4 (ne _ (by omega) (by omega)), fun j u hu => hk.cell (h5 j u hu) (ne _ (by omega) (by omega)), h6.trans (hk.below (fun i hi _ => ne _ (by omega) (by omega)) h6.size), h7, ⟨h8, h8b⟩, ⟨h9, h9b, h9c, h9d⟩, ⟨ha, hab⟩⟩
theorem apart_any (l : List Act3) (n : Nat) (hn : n = l.length) (ao : Option Addr) (cap b0 o0 : Nat) (x : Act3) (w : World) (hsl : SlAt w 3 n (l.flatMap Act3.cells) ao cap b0 o0) (hx : ∀ y ∈ l, y.ok w) (hx1 : x.ok w) :
    Calls Try.prog 5 #[.slice ao n cap, .agg #[.int .u8 x.what, .slice x.ao x.l.length x.cap, .string x.s]] w fun e w' => e = .returned (.bool true) ∧ Below w.heap.size w w' := by
  have hidx := hsl.idx (P := Try.prog) (t := 22) (e := 37) (by kernel_rfl) size37 (by decide)
  have HL := Lib.hid hn
  have HS := Lib.hid hsl
  have HX := Lib.hid hx
  have HX1 := Lib.hid hx1
  clear hn hsl hx hx1
  obtain ⟨xl, hxl⟩ : ∃ n, n = x.l.length := ⟨_, rfl⟩
  have HXL := Lib.hid hxl
  rw [← hxl]
  clear hxl
  go_enter Try.func5, Try.ntmps5
  go_wp2_with fail
  have HB0 : Hid (Below w.heap.size w (w.alloc (.cells #[.int .u8 x.what, .slice x.ao xl x.cap, .string x.s] 37))) := Lib.hid (ba (bz w) _)
  have HBX : Hid (∀ (j : Nat) u, [Value.int .u8 x.what, .slice x.ao xl x.cap, .string x.s][j]? = some u → (w.alloc (.cells #[.int .u8 x.what, .slice x.ao xl x.cap, .string x.s] 37)).cell? ⟨w.heap.size, j, none⟩ = some u) := Lib.hid (fun j u hu => by rw [World.cell?_alloc_new]; simpa using hu)
  refine (few_any l n HL.out ao cap b0 o0 _ (HS.out.below HB0.out)).mono ?_
  rintro e w0 ⟨B, rfl, rfl, hB⟩
  have HFew := Lib.hid hB
  clear hB
  cases B
  · go_wp2_with fail
    refine (awake_any _).mono ?_
    rintro e w1 ⟨rfl, hb1⟩
    go_wp2
    go_ret
    exact ⟨rfl, bt HB0.out hb1⟩
  · have h100 : n ≤ 100 := by rw [HL.out]; exact (HFew.out (by first | rfl | trivial)).1
    go_wp2_with fail
    have hsx := SlAt.new (w.alloc (.cells #[.int .u8 x.what, .slice x.ao xl x.cap, .string x.s] 37)) 37 3 1 [.int .u8 x.what, .slice x.ao xl x.cap, .string x.s] (w.alloc (.cells #[.int .u8 x.what, .slice x.ao xl x.cap, .string x.s] 37)).heap.size rfl rfl (by decide)
    have hcx : [x].flatMap Act3.cells = [.int .u8 x.what, .slice x.ao xl x.cap, .string x.s] := by simp [Act3.cells, HXL.out]
    rw [← hcx] at hsx
    have HFX := Lib.hid (few_any [x] 1 rfl _ 1 _ 0 _ hsx)
    rw [hcx] at HFX
    rw [World.size_alloc] at HFX
    clear hsx hcx
    refine HFX.out.mono ?_
    rintro e w0 ⟨B, rfl, rfl, hB⟩
    have HFew2 := Lib.hid hB
    have HB1 := Lib.hid (ba HB0.out (.cells ([Value.int .u8 x.what, .slice x.ao xl x.cap, .string x.s]).toArray 37))
    have HBX1 : Hid (∀ (j : Nat) u, [Value.int .u8 x.what, .slice x.ao xl x.cap, .string x.s][j]? = some u → ((w.alloc (.cells #[.int .u8 x.what, .slice x.ao xl x.cap, .string x.s] 37)).alloc (.cells ([Value.int .u8 x.what, .slice x.ao xl x.cap, .string x.s]).toArray 37)).cell? ⟨w.heap.size, j, none⟩ = some u) := Lib.hid (fun j u hu => kc (ba (bz _) _) _ _ _ (HBX.out j u hu))
    clear hB HFX HBX
    have hszw : w.heap.size < ((w.alloc (.cells #[.int .u8 x.what, .slice x.ao xl x.cap, .string x.s] 37)).alloc (.cells ([Value.int .u8 x.what, .slice x.ao xl x.cap, .string x.s]).toArray 37)).heap.size := by simp; omega
    generalize (w.alloc (.cells #[.int .u8 x.what, .slice x.ao xl x.cap, .string x.s] 37)).alloc (.cells ([Value.int .u8 x.what, .slice x.ao xl x.cap, .string x.s]).toArray 37) = W2 at *
    cases B
    · go_wp2_with fail
      refine (awake_any _).mono ?_
      rintro e w1 ⟨rfl, hb1⟩
      go_wp2
      go_ret
      exact ⟨rfl, bt HB1.out hb1⟩
    · obtain ⟨B3, hB3⟩ : ∃ B, B = w.heap.size := ⟨_, rfl⟩
      have HB3 := Lib.hid hB3
      rw [← hB3] at HBX1 hszw ⊢
      clear hB3
      go_wp2_with fail
      refine (new_any true _).mono ?_
      rintro e w3 ⟨p, ob, rfl, hm1, hob, hb1, hp1, hg1⟩
      obtain ⟨b, rfl⟩ : ∃ b, ob = some b := by cases ob with
        | none => cases hob
        | some b => exact ⟨b, rfl⟩
      have HM := Lib.hid hm1
      have HB4 := Lib.hid (bt HB1.out hb1)
      have HBX2 : Hid (∀ (j : Nat) u, [Value.int .u8 x.what, .slice x.ao xl x.cap, .string x.s][j]? = some u → w3.cell? ⟨B3, j, none⟩ = some u) := Lib.hid (fun j u hu => kc hb1 _ _ _ (HBX1.out j u hu))
      have HO1 : Hid (B3 < p ∧ B3 < b) := Lib.hid ⟨by omega, by have := hg1 b rfl; omega⟩
      clear hm1 hob hb1 hp1 hg1 HBX1 HB1
      go_wp2_with fail
      refine (new_any true _).mono ?_
      rintro e w4 ⟨p', ob, rfl, hm2, hob, hb2, hp2, hg2⟩
      obtain ⟨b', rfl⟩ : ∃ b, ob = some b := by cases ob with
        | none => cases hob
        | some b => exact ⟨b, rfl⟩
      have HO := Lib.hid hm2
      have HM2 := Lib.hid (HM.out.below hb2)
      have HB5 := Lib.hid (bt HB4.out hb2)
      have HBX3 : Hid (∀ (j : Nat) u, [Value.int .u8 x.what, .slice x.ao xl x.cap, .string x.s][j]? = some u → w4.cell? ⟨B3, j, none⟩ = some u) := Lib.hid (fun j u hu => kc hb2 _ _ _ (HBX2.out j u hu))
      have HO2 : Hid (p < p' ∧ p < b' ∧ b < p' ∧ b < b') := Lib.hid (by have h1 := HM.out.lt; have h2 := (HM.out.m b rfl).1.lt; have h3 := hg2 b' rfl; exact ⟨by omega, by omega, by omega, by omega⟩)
      clear hm2 hob hb2 hp2 hg2 HBX2 HB4 HM
      have y1 := HBX3.out 1 _ rfl
      have y2 := HBX3.out 2 _ rfl
      have hsm := (HFew2.out (by first | rfl | trivial)).2 0 x rfl
      obtain ⟨N, hN⟩ : ∃ N, N = ofN x.l := ⟨_, rfl⟩
      have HOFX : Hid (Calls Try.prog 11 #[.slice x.ao xl x.cap] w4 (SetPost N w4)) := Lib.hid (by
        rw [hN, HXL.out]
        exact of_any x.l x.l.length rfl x.ao x.cap x.b x.o w4 (HX1.out.l.below HB5.out) (by omega))
      have HSX : Hid (x.s.size ≤ 100) := Lib.hid hsm.2
      clear hsm hN
      go_wp2_with fail
      refine HOFX.out.mono ?_
      rintro e w5 ⟨v, rfl, hv, hb5⟩
      obtain ⟨m, ao7, cap7, bb, oo, hvv, hrest⟩ := id hv
      subst hvv
      clear hrest
      obtain ⟨S, hS, hSs⟩ := key_ex hv
      have HSK := Lib.hid (And.intro hS hSs)
      have HO0 := Lib.hid (HO.out.below hb5)
      have HM0 := Lib.hid (HM2.out.below hb5)
      have HST : Hid (SetAt w5 (.agg #[.slice ao7 m cap7]) N ∧ Below w.heap.size w w5 ∧ (p' < w5.heap.size ∧ b' < w5.heap.size)) := Lib.hid ⟨hv, bt HB5.out hb5, by have h1 := HO0.out.lt; have h2 := (HO0.out.m b' rfl).1.lt; exact ⟨h1, h2⟩⟩
      replace y1 := cell_past_ hb5 y1
      replace y2 := cell_past_ hb5 y2
      have HBX4 : Hid (∀ (j : Nat) u, [Value.int .u8 x.what, .slice x.ao xl x.cap, .string x.s][j]? = some u → w5.cell? ⟨B3, j, none⟩ = some u) := Lib.hid (fun j u hu => kc hb5 _ _ _ (HBX3.out j u hu))
      clear hv hb5 hS hSs HO HM2 HBX3 HB5 HOFX
      go_wp2_with fail
      obtain ⟨c7, hc7⟩ : ∃ c, c = w5.heap.size := ⟨_, rfl⟩
      have x7 : (w5.alloc (.cells #[.slice ao7 m cap7] 33)).cell? ⟨c7, 0, none⟩ = some (.slice ao7 m cap7) := by rw [hc7]; simp [go_sem]
      have hb6 := ba (bz w5) (.cells #[.slice ao7 m cap7] 33)
      replace y1 := cell_past_ hb6 y1
      replace y2 := cell_past_ hb6 y2
      have HKY : Hid (Calls Try.prog 21 #[.agg #[.slice ao7 m cap7]] (w5.alloc (.cells #[.slice ao7 m cap7] 33)) fun e w' => e = .returned (.string S) ∧ Below (w5.alloc (.cells #[.slice ao7 m cap7] 33)).heap.size (w5.alloc (.cells #[.slice ao7 m cap7] 33)) w') := Lib.hid (key_is (HST.out.1.below hb6) HSK.out.1)
      have HF6 : Hid (MmAt (w5.alloc (.cells #[.slice ao7 m cap7] 33)) p (some b) [] 0 0 ∧ MmAt (w5.alloc (.cells #[.slice ao7 m cap7] 33)) p' (some b') [] 0 0 ∧ SetAt (w5.alloc (.cells #[.slice ao7 m cap7] 33)) (.agg #[.slice ao7 m cap7]) N ∧ (∀ (j : Nat) u, [Value.int .u8 x.what, .slice x.ao xl x.cap, .string x.s][j]? = some u → (w5.alloc (.cells #[.slice ao7 m cap7] 33)).cell? ⟨B3, j, none⟩ = some u) ∧ Below w.heap.size w (w5.alloc (.cells #[.slice ao7 m cap7] 33)) ∧ p' < c7 ∧ b' < c7) :=
        Lib.hid ⟨HM0.out.below hb6, HO0.out.below hb6, HST.out.1.below hb6, fun j u hu => kc hb6 _ _ _ (HBX4.out j u hu), bt HST.out.2.1 hb6, by rw [hc7]; exact HST.out.2.2.1, by rw [hc7]; exact HST.out.2.2.2⟩
      rw [← hc7]
      generalize w5.alloc (.cells #[.slice ao7 m cap7] 33) = W6 at *
      clear hc7 hb6 HM0 HO0 HST HBX4 hszw
      refine HKY.out.mono ?_
      rintro e w7 ⟨rfl, hb7⟩
      replace x7 := cell_past_ hb7 x7
      replace y1 := cell_past_ hb7 y1
      replace y2 := cell_past_ hb7 y2
      have HADD : Hid (Calls Try.prog 17 #[.pointer (some ⟨p', 0, none⟩), .agg #[.slice ao7 m cap7], .string x.s] w7 (MmPost p' (some b') [(S, x.s)] 1 0 (.bool true) w7)) := Lib.hid (by
        have := add_on p' b' [] 0 0 _ N S x.s w7 (HF6.out.2.1.below hb7) (HF6.out.2.2.1.below hb7) HSK.out.1 (by have := HSK.out.2; unfold maxLen; omega) (by have := HSX.out; unfold maxLen; omega) (by omega) (by omega) false (by simp)
        rwa [(addK_new (by simp) 0).1, (addK_new (by simp) _).2] at this)
      have HF7 : Hid (Below W6.heap.size W6 w7) := Lib.hid hb7
      clear hb7 HKY
      go_wp2_with fail
      refine HADD.out.mono ?_
      rintro e w8 ⟨rfl, hm8, hk8⟩
      have ne : ∀ i, i ≠ p' → i ≠ b' → ¬ (i = p' ∨ some b' = some i) := fun i e1 e2 => by rintro (e | e); (· exact e1 e); (· injection e with e; exact e2 e.symm)
      have HA0 : Hid (AP w w8 B3 p b p' b' c7 [] 0 0 (S, x.s) 1 0 (.slice ao7 m cap7) N [Value.int .u8 x.what, .slice x.ao xl x.cap, .string x.s]) := Lib.hid (by
        obtain ⟨a1, a2, a3, a4, a5, a6, a7⟩ := HF6.out
        have hb := HF7.out
        have q1 := HO1.out
        have q2 := HO2.out
        exact ⟨(a1.below hb).kept hk8 (ne _ (by omega) (by omega)) (fun bb e => by injection e with e; subst e; exact ne _ (by omega) (by omega)), hm8, set_apart (a2.below hb) (a3.below hb) hk8, hk8.cell x7 (ne _ (by omega) (by omega)), fun j u hu => hk8.cell (kc hb _ _ _ (a4 j u hu)) (ne _ (by omega) (by omega)), (bt a5 hb).trans (hk8.below (fun i hi _ => ne _ (by have := HB3.out; omega) (by have := HB3.out; omega)) (bt a5 hb).size), by rw [HB3.out]; exact Nat.le_refl _, q1, q2, a6, a7⟩)
      clear hm8 hk8 ne HF6 HF7 HADD x7 y1 y2 HO1 HO2
      go_wp2_with fail
      go_loopw [9] (fun t9 wr => ∃ i : Nat, i ≤ n ∧ t9 = .int .i64 i ∧ Hid (∃ ks T sv, T ≤ i ∧ sv ≤ T ∧ AP w wr B3 p b p' b' c7 ks T sv (S, x.s) 1 0 (.slice ao7 m cap7) N [Value.int .u8 x.what, .slice x.ao xl x.cap, .string x.s])) (fun t9 _ => n - (intOf t9).toNat)
      case atStart => exact ⟨0, Nat.zero_le _, rfl, Lib.hid ⟨_, _, _, Nat.le_refl _, Nat.le_refl _, HA0.out⟩⟩
      case round =>
        obtain ⟨i, hi, rfl, hI⟩ := hrel
        obtain ⟨ks, T, sv, hT, hsv, hA⟩ := hI.out
        have HA := Lib.hid hA
        clear hI hA HA0
        by_cases hlt : i < n
        · have i1 : (0 : Int) ≤ (i : Int) := by omega
          have i2 : (i : Int) < (n : Int) := by omega
          obtain ⟨y, hyk⟩ : ∃ x, l[i]? = some x := ⟨_, List.getElem?_eq_getElem (by rw [← HL.out]; exact hlt)⟩
          have SB := HS.out.below HA.out.bel
          have g1 := SB.cell (i * 3 + 1) (.slice y.ao y.l.length y.cap) (by rw [cell_of Act3.three l i y hyk 1 (by decide)]; rfl)
          have g2 := SB.cell (i * 3 + 2) (.string y.s) (by rw [cell_of Act3.three l i y hyk 2 (by decide)]; rfl)
          rw [← Nat.add_assoc] at g1 g2
          have hsm := (HFew.out (by first | rfl | trivial)).2 i y hyk
          have hok := act_below (HX.out y (List.mem_of_getElem? hyk)) HA.out.bel
          have HOF : Hid (∀ W, Below wr.heap.size wr W → Calls Try.prog 11 #[.slice y.ao y.l.length y.cap] W (SetPost (ofN y.l) W)) := Lib.hid (fun W hW => of_any y.l y.l.length rfl y.ao y.cap y.b y.o W (hok.l.below hW) (by omega))
          classical
          have HADD : Hid (∀ W v, MmAt W p (some b) ks T sv → SetAt W v (ofN y.l) → Calls Try.prog 17 #[.pointer (some ⟨p, 0, none⟩), v, .string y.s] W (fun e w' => ∃ R ks' sv', e = .returned (.bool R) ∧ sv' ≤ T + 1 ∧ MmAt w' p (some b) ks' (T + 1) sv' ∧ Kept (fun i => i = p ∨ some b = some i) W w')) := Lib.hid (fun W v hm hv => by
            obtain ⟨K, hK, hKs⟩ := key_ex hv
            obtain ⟨B, hB⟩ : ∃ B : Bool, (B = true ↔ (K, y.s) ∈ ks) := ⟨decide ((K, y.s) ∈ ks), decide_eq_true_iff⟩
            refine (add_on p b ks T sv v (ofN y.l) K y.s W hm hv hK (by unfold maxLen; omega) (by unfold maxLen; omega) (by omega) (by omega) B hB).mono fun e w' ⟨he, h1, h2⟩ => ⟨_, _, _, he, ?_, h1, h2⟩
            unfold addS; split <;> omega)
          have HBL : Hid (b0 < w.heap.size) := Lib.hid (HS.out.lt (by rw [length_flat Act3.three]; have := HL.out; omega))
          clear SB hyk hsm hok
          go_wp2_with fail
          go_region_held3 (fun w' => w'.cell? ⟨b0, o0 + i * 3 + 1, none⟩ = some (.slice y.ao y.l.length y.cap) ∧ w'.cell? ⟨b0, o0 + i * 3 + 2, none⟩ = some (.string y.s)) (first | exact ⟨g1, g2⟩ | exact ⟨k1, k2⟩ | exact ⟨j1, j2⟩) ((first | (go_at_call 11; refine (HOF.out _ (bz _).drew).mono ?_; rintro e w9 ⟨v9, rfl, hset9, hb9⟩; have k1 : w9.cell? ⟨b0, o0 + i * 3 + 1, none⟩ = some (.slice y.ao y.l.length y.cap) := cell_past_ hb9 (show World.cell? _ _ = _ from g1); have k2 : w9.cell? ⟨b0, o0 + i * 3 + 2, none⟩ = some (.string y.s) := cell_past_ hb9 (show World.cell? _ _ = _ from g2); have HA9 := Lib.hid ((HA.out.ext (bz _).drew).ext hb9)) | (go_at_call 17; refine (HADD.out _ _ HA9.out.m hset9).mono ?_; rintro e wa ⟨R, ks', sv', rfl, hsv', hma, hka⟩; have HAa := Lib.hid (HA9.out.stepM hma hka); have hnk : ∀ {bb oo : Nat} {u : Value}, w9.cell? ⟨bb, oo, none⟩ = some u → bb ≠ p → bb ≠ b → wa.cell? ⟨bb, oo, none⟩ = some u := (fun h1 h2 h3 => hka.cell h1 (by rintro (e | e); (· exact h2 e); (· injection e with e; exact h3 e.symm))); have j1 := hnk k1 (by have := HBL.out; have := HA.out.base; have := HA.out.o1; omega) (by have := HBL.out; have := HA.out.base; have := HA.out.o1; omega); have j2 := hnk k2 (by have := HBL.out; have := HA.out.base; have := HA.out.o1; omega) (by have := HBL.out; have := HA.out.base; have := HA.out.o1; omega))))
          clear hma hka hnk j1 j2 k1 k2 g1 g2 hset9 hb9 HA9 HA HOF HADD
          go_wp2_with fail
          refine (len_any p' (some b') _ _ _ _ HAa.out.o).mono ?_
          rintro e wX ⟨rfl, rfl⟩
          go_wp2_with fail
          refine (saved_any p' (some b') _ _ _ _ HAa.out.o).mono ?_
          rintro e wX ⟨rfl, rfl⟩
          go_wp2_with fail
          refine ⟨⟨i + 1, by omega, by go_num, Lib.hid ⟨_, _, _, by omega, hsv', HAa.out⟩⟩, ?_⟩
          simp [intOf]
          omega
        · have i2 : ¬ (i : Int) < (n : Int) := by omega
          go_wp2_with fail
          refine (reset_any p (some b) _ _ _ _ HA.out.m).mono ?_
          rintro e w9 ⟨rfl, hma, hka⟩
          have HAa := Lib.hid (HA.out.stepM hma hka)
          clear hma hka HA
          have x7 := HAa.out.x7
          have y2 := HAa.out.box 2 _ rfl
          go_wp2_with fail
          refine (has_memo p' (some b') _ _ _ _ N S x.s w9 HAa.out.o HAa.out.set HSK.out.1 (by have := HSK.out.2; unfold maxLen; omega) (by have := HSX.out; unfold maxLen; omega) true (by simp)).mono ?_
          rintro e wb ⟨rfl, hbb⟩
          have HAb := Lib.hid (HAa.out.ext hbb)
          clear hbb HAa x7 y2
          have x7 := HAb.out.x7
          have y2 := HAb.out.box 2 _ rfl
          go_wp2_with fail
          have hadd := add_on p' b' _ _ _ _ N S x.s wb HAb.out.o HAb.out.set HSK.out.1 (by have := HSK.out.2; unfold maxLen; omega) (by have := HSX.out; unfold maxLen; omega) (by omega) (by omega) true (by simp)
          rw [(addK_old (by simp) 0).1, (addK_old (by simp) 0).2] at hadd
          refine hadd.mono ?_
          rintro e wc ⟨rfl, hmc, hkc⟩
          have HAc := Lib.hid (HAb.out.stepO hmc hkc)
          clear hmc hkc hadd HAb x7 y2
          have x7 := HAc.out.x7
          go_wp2_with fail
          refine (key_is HAc.out.set HSK.out.1).mono ?_
          rintro e wd ⟨rfl, hbd⟩
          have HAd := Lib.hid (HAc.out.ext hbd)
          clear hbd HAc x7
          go_wp2_with fail
          refine (len_any p (some b) _ _ _ _ HAd.out.m).mono ?_
          rintro e we ⟨rfl, rfl⟩
          go_wp2_with fail
          refine (awake_any _).mono ?_
          rintro e wf ⟨rfl, hbf⟩
          go_wp2
          go_ret
          exact ⟨rfl, bt HAd.out.bel hbf⟩
end Go.Proofs.Ytgpfnlbhclefgaa
