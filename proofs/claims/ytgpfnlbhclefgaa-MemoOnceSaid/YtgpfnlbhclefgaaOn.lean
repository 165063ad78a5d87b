/- Of all Adds of a configuration the first alone tells true (MemoOnce, f6). -/
import Derived.Test.YtgpfnlbhclefgaaAw
import Derived.Test.YtgpfnlbhclefgaaWi
import Derived.Test.YtgpfnlbhclefgaaTake
namespace Go.Proofs.Ytgpfnlbhclefgaa
open Go.RowKit Go.Um
set_option linter.unusedSimpArgs false
set_option linter.unusedVariables false
set_option maxHeartbeats 8000000
set_option maxRecDepth 100000
/-- configurations told one after another -/
noncomputable def dd (cs : List Cfg) : List Cfg := cs.foldl addK []
theorem mem_addK (ks : List Cfg) (k x : Cfg) : x ∈ addK ks k ↔ x ∈ ks ∨ x = k := by
  by_cases h : k ∈ ks
  · rw [(addK_old h 0).1]
    exact ⟨Or.inl, fun e => e.elim id (fun e => by rw [e]; exact h)⟩
  · rw [(addK_new h 0).1]
    simp
theorem nodup_addK {ks : List Cfg} (k : Cfg) (h : ks.Nodup) : (addK ks k).Nodup := by
  by_cases hk : k ∈ ks
  · rw [(addK_old hk 0).1]
    exact h
  · rw [(addK_new hk 0).1, List.nodup_append]
    exact ⟨h, by simp, fun a ha b hb e => by simp at hb; subst hb; subst e; exact hk ha⟩
theorem dd_snoc (cs : List Cfg) (k : Cfg) : dd (cs ++ [k]) = addK (dd cs) k := by simp [dd]
theorem fold_mem : ∀ (cs ks : List Cfg) (x : Cfg), x ∈ cs.foldl addK ks ↔ x ∈ ks ∨ x ∈ cs
  | [], ks, x => by simp
  | c :: cs, ks, x => by
    rw [List.foldl_cons, fold_mem cs, mem_addK, List.mem_cons, or_assoc]
theorem mem_dd (cs : List Cfg) (x : Cfg) : x ∈ dd cs ↔ x ∈ cs := by simp [dd, fold_mem]
theorem fold_nodup : ∀ (cs ks : List Cfg), ks.Nodup → (cs.foldl addK ks).Nodup
  | [], ks, h => h
  | c :: cs, ks, h => fold_nodup cs _ (nodup_addK c h)
theorem nodup_dd (cs : List Cfg) : (dd cs).Nodup := fold_nodup cs [] List.nodup_nil
theorem len_leG {α : Type} [DecidableEq α] : ∀ (a b : List α), a.Nodup → (∀ x ∈ a, x ∈ b) → a.length ≤ b.length
  | [], b, _, _ => Nat.zero_le _
  | x :: a, b, hn, hs => by
    have hx := hs x (by simp)
    have hn' := List.nodup_cons.1 hn
    have h1 := len_leG a (b.erase x) hn'.2 (fun y hy => (List.mem_erase_of_ne (fun e => hn'.1 (by rw [← e]; exact hy))).2 (hs y (by simp [hy])))
    have h2 := List.length_erase_of_mem hx
    have h3 := List.length_pos_of_mem hx
    simp only [List.length_cons]
    omega
theorem len_le (a b : List Cfg) (h : a.Nodup) (h2 : ∀ x ∈ a, x ∈ b) : a.length ≤ b.length :=
  @len_leG Cfg (fun a b => Classical.propDecidable _) a b h h2
theorem dd_rev (cs : List Cfg) : (dd cs.reverse).length = (dd cs).length :=
  Nat.le_antisymm (len_le _ _ (nodup_dd _) (fun x hx => (mem_dd _ _).2 (List.mem_reverse.1 ((mem_dd _ _).1 hx)))) (len_le _ _ (nodup_dd _) (fun x hx => (mem_dd _ _).2 (List.mem_reverse.2 ((mem_dd _ _).1 hx))))
theorem addS_len (ks : List Cfg) (k : Cfg) (sv : Nat) : addS ks k sv + (addK ks k).length = sv + ks.length + 1 := by
  by_cases h : k ∈ ks
  · rw [(addK_old h sv).1, (addK_old h sv).2]; omega
  · rw [(addK_new h sv).1, (addK_new h sv).2, List.length_append]; simp; omega
/-- an act's configuration -/
noncomputable def cfgOf (x : Act3) : Cfg := (Classical.epsilon (keyN (ofN x.l)), x.s)
theorem cfgOf_key {x : Act3} {S : ByteArray} (h : keyN (ofN x.l) S) : cfgOf x = (S, x.s) := by
  unfold cfgOf
  rw [(Classical.epsilon_spec ⟨S, h⟩ : keyN (ofN x.l) _).unique h]
theorem cfgOf_eq {x y : Act3} {S S' : ByteArray} (h : keyN (ofN x.l) S) (h' : keyN (ofN y.l) S') : cfgOf x = cfgOf y ↔ ofN x.l = ofN y.l ∧ x.s = y.s := by
  rw [cfgOf_key h, cfgOf_key h', Prod.mk.injEq]
  constructor
  · rintro ⟨e, e2⟩
    subst e
    exact ⟨h.inj h', e2⟩
  · rintro ⟨e, e2⟩
    rw [e] at h
    exact ⟨h.unique h', e2⟩
/-- two memos of the call's own -/
structure TM (w W : World) (p b p' b' : Nat) (ks : List Cfg) (T sv : Nat) (ks' : List Cfg) (T' sv' : Nat) : Prop where
  m : MmAt W p (some b) ks T sv
  o : MmAt W p' (some b') ks' T' sv'
  bel : Below w.heap.size w W
  g : w.heap.size ≤ p ∧ w.heap.size ≤ b
  o2 : p < p' ∧ p < b' ∧ b < p' ∧ b < b'
theorem TM.ext {w W w' : World} {p b p' b' : Nat} {ks : List Cfg} {T sv : Nat} {ks' : List Cfg} {T' sv' : Nat} (h : TM w W p b p' b' ks T sv ks' T' sv') (hb : Below W.heap.size W w') : TM w w' p b p' b' ks T sv ks' T' sv' :=
  ⟨h.m.below hb, h.o.below hb, bt h.bel hb, h.g, h.o2⟩
theorem TM.stepM {w W w' : World} {p b p' b' : Nat} {ks kz : List Cfg} {T sv T2 sv2 : Nat} {ks' : List Cfg} {T' sv' : Nat} (h : TM w W p b p' b' ks T sv ks' T' sv') (hm : MmAt w' p (some b) kz T2 sv2) (hk : Kept (fun i => i = p ∨ some b = some i) W w') : TM w w' p b p' b' kz T2 sv2 ks' T' sv' := by
  obtain ⟨h1, h2, h6, ⟨h7, h8⟩, ⟨h9, h9b, h9c, h9d⟩⟩ := h
  have ne : ∀ i, i ≠ p → i ≠ b → ¬ (i = p ∨ some b = some i) := fun i e1 e2 => by rintro (e | e); (· exact e1 e); (· injection e with e; exact e2 e.symm)
  exact ⟨hm, h2.kept hk (ne _ (by omega) (by omega)) (fun bb e => by injection e with e; subst e; exact ne _ (by omega) (by omega)), h6.trans (hk.below (fun i hi _ => ne _ (by omega) (by omega)) h6.size), ⟨h7, h8⟩, ⟨h9, h9b, h9c, h9d⟩⟩
theorem TM.stepO {w W w' : World} {p b p' b' : Nat} {ks kz : List Cfg} {T sv T2 sv2 : Nat} {ks' : List Cfg} {T' sv' : Nat} (h : TM w W p b p' b' ks T sv ks' T' sv') (hm : MmAt w' p' (some b') kz T2 sv2) (hk : Kept (fun i => i = p' ∨ some b' = some i) W w') : TM w w' p b p' b' ks T sv kz T2 sv2 := by
  obtain ⟨h1, h2, h6, ⟨h7, h8⟩, ⟨h9, h9b, h9c, h9d⟩⟩ := h
  have ne : ∀ i, i ≠ p' → i ≠ b' → ¬ (i = p' ∨ some b' = some i) := fun i e1 e2 => by rintro (e | e); (· exact e1 e); (· injection e with e; exact e2 e.symm)
  exact ⟨h1.kept hk (ne _ (by omega) (by omega)) (fun bb e => by injection e with e; subst e; exact ne _ (by omega) (by omega)), hm, h6.trans (hk.below (fun i hi _ => ne _ (by omega) (by omega)) h6.size), ⟨h7, h8⟩, ⟨h9, h9b, h9c, h9d⟩⟩
theorem bytes_inj {a b : ByteArray} (h : a.toList = b.toList) : a = b := by
  rw [ByteArray.toList_eq, ByteArray.toList_eq] at h
  cases a; cases b
  simp only [ByteArray.mk.injEq]
  exact Array.toList_inj.1 h
theorem once_any (l : List Act3) (n : Nat) (hn : n = l.length) (ao : Option Addr) (cap b0 o0 : Nat) (w : World) (hsl : SlAt w 3 n (l.flatMap Act3.cells) ao cap b0 o0) (hx : ∀ y ∈ l, y.ok w) :
    Calls Try.prog 6 #[.slice ao n cap] w fun e w' => e = .returned (.bool true) ∧ Below w.heap.size w w' := by
  have hidx := hsl.idx (P := Try.prog) (t := 22) (e := 37) (by kernel_rfl) size37 (by decide)
  have HL := Lib.hid hn
  have HS := Lib.hid hsl
  have HX := Lib.hid hx
  clear hn hsl hx
  go_enter Try.func6, Try.ntmps6
  go_wp2_with fail
  refine (few_any l n HL.out ao cap b0 o0 _ HS.out).mono ?_
  rintro e w0 ⟨B, rfl, rfl, hB⟩
  have HFew := Lib.hid hB
  clear hB
  cases B
  · go_wp2_with fail
    refine (awake_any _).mono ?_
    rintro e w1 ⟨rfl, hb1⟩
    go_wp2
    go_ret
    exact ⟨rfl, hb1⟩
  · have h100 : n ≤ 100 := by rw [HL.out]; exact (HFew.out (by first | rfl | trivial)).1
    go_wp2_with fail
    refine (new_any true _).mono ?_
    rintro e w3 ⟨p, ob, rfl, hm1, hob, hb1, hp1, hg1⟩
    obtain ⟨b, rfl⟩ : ∃ b, ob = some b := by cases ob with
      | none => cases hob
      | some b => exact ⟨b, rfl⟩
    have HM := Lib.hid hm1
    have HB4 := Lib.hid hb1
    have HO1 : Hid (w.heap.size ≤ p ∧ w.heap.size ≤ b) := Lib.hid ⟨by omega, by have := hg1 b rfl; omega⟩
    clear hm1 hob hb1 hp1 hg1
    go_wp2_with fail
    refine (new_any true _).mono ?_
    rintro e w4 ⟨p', ob, rfl, hm2, hob, hb2, hp2, hg2⟩
    obtain ⟨b', rfl⟩ : ∃ b, ob = some b := by cases ob with
      | none => cases hob
      | some b => exact ⟨b, rfl⟩
    have HA0 : Hid (TM w w4 p b p' b' [] 0 0 [] 0 0) := Lib.hid ⟨HM.out.below hb2, hm2, bt HB4.out hb2, HO1.out, by have h1 := HM.out.lt; have h2 := (HM.out.m b rfl).1.lt; have h3 := hg2 b' rfl; exact ⟨by omega, by omega, by omega, by omega⟩⟩
    clear hm2 hob hb2 hp2 hg2 HB4 HM HO1
    go_wp2_with fail
    go_loopw [5] (fun t5 wr => ∃ i : Nat, i ≤ n ∧ t5 = .int .i64 i ∧ Hid (∃ sv, sv + (dd ((l.map cfgOf).take i)).length = i ∧ TM w wr p b p' b' (dd ((l.map cfgOf).take i)) i sv [] 0 0)) (fun t5 _ => n - (intOf t5).toNat)
    case atStart => exact ⟨0, Nat.zero_le _, rfl, Lib.hid ⟨0, rfl, HA0.out⟩⟩
    case round =>
      obtain ⟨i, hi, rfl, hI⟩ := hrel
      obtain ⟨sv, hsv, hA⟩ := hI.out
      have HA := Lib.hid hA
      clear hI hA HA0
      by_cases hlt : i < n
      · have i1 : (0 : Int) ≤ (i : Int) := by omega
        have i2 : (i : Int) < (n : Int) := by omega
        obtain ⟨x, hxk⟩ : ∃ x, l[i]? = some x := ⟨_, List.getElem?_eq_getElem (by rw [← HL.out]; exact hlt)⟩
        have SB := HS.out.below HA.out.bel
        have g1 := SB.cell (i * 3 + 1) (.slice x.ao x.l.length x.cap) (by rw [cell_of Act3.three l i x hxk 1 (by decide)]; rfl)
        rw [← Nat.add_assoc] at g1
        have HXK := Lib.hid hxk
        have hsm := (HFew.out (by first | rfl | trivial)).2 i x hxk
        have HSM := Lib.hid hsm
        have hok := act_below (HX.out x (List.mem_of_getElem? hxk)) HA.out.bel
        have HOF : Hid (Calls Try.prog 11 #[.slice x.ao x.l.length x.cap] wr (SetPost (ofN x.l) wr)) := Lib.hid (of_any x.l x.l.length rfl x.ao x.cap x.b x.o wr hok.l (by omega))
        clear SB hxk hsm hok
        go_wp2_with fail
        refine HOF.out.mono ?_
        rintro e w5 ⟨v, rfl, hv, hb5⟩
        obtain ⟨m, ao7, cap7, bb, oo, hvv, hrest⟩ := id hv
        subst hvv
        clear hrest g1
        obtain ⟨S, hS, hSs⟩ := key_ex hv
        have HSK := Lib.hid (And.intro hS hSs)
        have hA5 := HA.out.ext hb5
        have HA5 : Hid (TM w w5 p b p' b' (dd ((l.map cfgOf).take i)) i sv [] 0 0 ∧ SetAt w5 (.agg #[.slice ao7 m cap7]) (ofN x.l)) := Lib.hid ⟨hA5, hv⟩
        clear hv hb5 hS hSs hA5 HA HOF
        go_wp2_with fail
        obtain ⟨c6, hc6⟩ : ∃ c, c = w5.heap.size := ⟨_, rfl⟩
        have x6 : (w5.alloc (.cells #[.slice ao7 m cap7] 33)).cell? ⟨c6, 0, none⟩ = some (.slice ao7 m cap7) := by rw [hc6]; simp [go_sem]
        have hb6 := ba (bz w5) (.cells #[.slice ao7 m cap7] 33)
        have HC6 : Hid ((p < c6 ∧ b < c6) ∧ p' < c6 ∧ b' < c6) := Lib.hid (by
          rw [hc6]
          have h1 := HA5.out.1.o.lt
          have h2 := (HA5.out.1.o.m b' rfl).1.lt
          have h3 := HA5.out.1.o2
          exact ⟨⟨by omega, by omega⟩, by omega, by omega⟩)
        have HA6 : Hid (TM w (w5.alloc (.cells #[.slice ao7 m cap7] 33)) p b p' b' (dd ((l.map cfgOf).take i)) i sv [] 0 0 ∧ SetAt (w5.alloc (.cells #[.slice ao7 m cap7] 33)) (.agg #[.slice ao7 m cap7]) (ofN x.l)) := Lib.hid ⟨HA5.out.1.ext hb6, HA5.out.2.below hb6⟩
        rw [← hc6]
        generalize w5.alloc (.cells #[.slice ao7 m cap7] 33) = W6 at *
        have X6 := Lib.hid x6
        clear hc6 hb6 HA5 x6
        go_wp2_with fail
        go_loopw [7, 8] (fun t7 t8 wz => ∃ (F : Bool) (k : Nat), t7 = .bool F ∧ t8 = .int .i64 k ∧ k ≤ i ∧ Hid ((F = true ↔ ∀ c ∈ (l.map cfgOf).take k, c ≠ cfgOf x) ∧ Below W6.heap.size W6 wz)) (fun _ t8 _ => n - (intOf t8).toNat)
        case atStart => exact ⟨true, 0, rfl, rfl, Nat.zero_le _, Lib.hid ⟨by simp, bz _⟩⟩
        case round =>
          obtain ⟨F, k, rfl, rfl, hki, hF⟩ := hrel
          by_cases hkl : k < i
          · have j1 : (0 : Int) ≤ (k : Int) := by omega
            have j2 : (k : Int) < (i : Int) := by omega
            have j3 : (k : Int) < (n : Int) := by omega
            obtain ⟨y, hyk⟩ : ∃ x, l[k]? = some x := ⟨_, List.getElem?_eq_getElem (by rw [← HL.out]; omega)⟩
            have SB := HS.out.below (bt HA6.out.1.bel hF.out.2)
            have g1 := SB.cell (k * 3 + 1) (.slice y.ao y.l.length y.cap) (by rw [cell_of Act3.three l k y hyk 1 (by decide)]; rfl)
            have g2 := SB.cell (k * 3 + 2) (.string y.s) (by rw [cell_of Act3.three l k y hyk 2 (by decide)]; rfl)
            have g3 := SB.cell (i * 3 + 2) (.string x.s) (by rw [cell_of Act3.three l i x HXK.out 2 (by decide)]; rfl)
            rw [← Nat.add_assoc] at g1 g2 g3
            have x6 := cell_past_ hF.out.2 X6.out
            have hsm := (HFew.out (by first | rfl | trivial)).2 k y hyk
            have hok := act_below (HX.out y (List.mem_of_getElem? hyk)) (bt HA6.out.1.bel hF.out.2)
            have HOF : Hid (Calls Try.prog 11 #[.slice y.ao y.l.length y.cap] wr (SetPost (ofN y.l) wr)) := Lib.hid (of_any y.l y.l.length rfl y.ao y.cap y.b y.o wr hok.l (by omega))
            have HYK := Lib.hid hyk
            clear SB hyk hsm hok
            go_wp2_with fail
            refine HOF.out.mono ?_
            rintro e w7 ⟨v, rfl, hv, hb7⟩
            obtain ⟨m9, ao9, cap9, bb, oo, hvv, hrest⟩ := id hv
            subst hvv
            clear hrest g1
            replace x6 := cell_past_ hb7 x6
            replace g2 := cell_past_ hb7 g2
            replace g3 := cell_past_ hb7 g3
            obtain ⟨S9, hS9, hSs9⟩ := key_ex hv
            have HF7 : Hid (SetAt w7 (.agg #[.slice ao9 m9 cap9]) (ofN y.l) ∧ keyN (ofN y.l) S9 ∧ Below W6.heap.size W6 w7) := Lib.hid ⟨hv, hS9, bt hF.out.2 hb7⟩
            have HFF := Lib.hid hF.out.1
            clear hv hb7 hS9 hSs9 hF HOF
            go_wp2_with fail
            obtain ⟨c9, hc9⟩ : ∃ c, c = w7.heap.size := ⟨_, rfl⟩
            have x9 : (w7.alloc (.cells #[.slice ao9 m9 cap9] 33)).cell? ⟨c9, 0, none⟩ = some (.slice ao9 m9 cap9) := by rw [hc9]; simp [go_sem]
            have hb9 := ba (bz w7) (.cells #[.slice ao9 m9 cap9] 33)
            replace x6 := cell_past_ hb9 x6
            replace g2 := cell_past_ hb9 g2
            replace g3 := cell_past_ hb9 g3
            have HF9 : Hid (SetAt (w7.alloc (.cells #[.slice ao9 m9 cap9] 33)) (.agg #[.slice ao9 m9 cap9]) (ofN y.l) ∧ Below W6.heap.size W6 (w7.alloc (.cells #[.slice ao9 m9 cap9] 33))) := Lib.hid ⟨HF7.out.1.below hb9, bt HF7.out.2.2 hb9⟩
            have HK9 := Lib.hid HF7.out.2.1
            rw [← hc9]
            generalize w7.alloc (.cells #[.slice ao9 m9 cap9] 33) = W9 at *
            clear hc9 hb9 HF7
            obtain ⟨B1, hB1⟩ : ∃ B : Bool, B = true ↔ ∀ n, (ofN x.l).testBit n = true → (ofN y.l).testBit n = true := by classical exact ⟨decide _, decide_eq_true_iff⟩
            obtain ⟨B2, hB2⟩ : ∃ B : Bool, B = true ↔ ∀ n, (ofN y.l).testBit n = true → (ofN x.l).testBit n = true := by classical exact ⟨decide _, decide_eq_true_iff⟩
            have HW1 : Hid (∀ W, Below W9.heap.size W9 W → Calls Try.prog 22 #[.agg #[.slice ao7 m cap7], .agg #[.slice ao9 m9 cap9]] W fun e w' => e = .returned (.bool B1) ∧ Below W.heap.size W w') := Lib.hid (fun W hW => within_any (HA6.out.2.below (bt HF9.out.2 hW)) (HF9.out.1.below hW) B1 hB1)
            have HW2 : Hid (∀ W, Below W9.heap.size W9 W → Calls Try.prog 22 #[.agg #[.slice ao9 m9 cap9], .agg #[.slice ao7 m cap7]] W fun e w' => e = .returned (.bool B2) ∧ Below W.heap.size W w') := Lib.hid (fun W hW => within_any (HF9.out.1.below hW) (HA6.out.2.below (bt HF9.out.2 hW)) B2 hB2)
            have HNE : Hid (cfgOf y = cfgOf x ↔ (B1 = true ∧ B2 = true) ∧ x.s = y.s) := Lib.hid (by
              rw [cfgOf_eq HK9.out HSK.out.1, hB1, hB2]
              constructor
              · rintro ⟨e, e2⟩
                rw [e, e2]
                exact ⟨⟨fun _ h => h, fun _ h => h⟩, rfl⟩
              · rintro ⟨⟨e1, e2⟩, e3⟩
                exact ⟨Nat.eq_of_testBit_eq fun n => by rw [Bool.eq_iff_iff]; exact ⟨e2 n, e1 n⟩, e3.symm⟩)
            clear hB1 hB2
            have HEND : Hid (∀ (F2 : Bool) W, (F2 = true ↔ F = true ∧ ¬ ((B1 = true ∧ B2 = true) ∧ x.s = y.s)) → Below W9.heap.size W9 W → ((F2 = true ↔ ∀ c ∈ (l.map cfgOf).take (k + 1), c ≠ cfgOf x) ∧ Below W6.heap.size W6 W)) := Lib.hid (fun F2 W h hW => by
              refine ⟨?_, bt HF9.out.2 hW⟩
              have e : (l.map cfgOf).take (k + 1) = (l.map cfgOf).take k ++ [cfgOf y] := by
                rw [List.take_add_one]; simp [HYK.out]
              rw [h, HFF.out, ← HNE.out, e]
              simp only [List.mem_append, List.mem_singleton]
              constructor
              · rintro ⟨h1, h2⟩ c (hc | hc)
                · exact h1 c hc
                · rw [hc]; exact h2
              · exact fun h => ⟨fun c hc => h c (.inl hc), h _ (.inr rfl)⟩)
            clear HFF
            cases F
            · have HE := Lib.hid (HEND.out false _ (by simp) (bz W9).drew)
              go_wp2_with fail
              refine wp_region_held_drew (S := (fun w' => w'.cell? ⟨c6, 0, none⟩ = some (.slice ao7 m cap7) ∧ w'.cell? ⟨c9, 0, none⟩ = some (.slice ao9 m9 cap9) ∧ w'.cell? ⟨b0, o0 + k * 3 + 2, none⟩ = some (.string y.s) ∧ w'.cell? ⟨b0, o0 + i * 3 + 2, none⟩ = some (.string x.s))) (by kernel_rfl) (by exact ⟨x6, x9, g2, g3⟩) (fun hHeld => ?_)
              refine takeD (i := 0) (v := ?zva0) (some 46) rfl rfl (by kernel_rfl) (by kernel_rfl) (by kernel_rfl) (fun _ _ _ h => h) (Or.inl ⟨by rfl, ?zya0⟩) (by assumption) ?zra0
              case zya0 => (intro w hSw; (try dsimp only at hSw); go_simp; try with_reducible rfl)
              try simp only [Act.put, List.setIfInBounds_toArray, List.set_cons_zero, List.set_cons_succ]
              refine takeD (i := 1) (v := ?zva1) (some 47) rfl rfl (by kernel_rfl) (by kernel_rfl) (by kernel_rfl) (fun _ _ _ h => h) (Or.inl ⟨by rfl, ?zya1⟩) (by assumption) ?zra1
              case zya1 => (intro w hSw; (try dsimp only at hSw); go_simp; try with_reducible rfl)
              try simp only [Act.put, List.setIfInBounds_toArray, List.set_cons_zero, List.set_cons_succ]
              refine takeD (i := 2) (v := undef) (some 48) rfl rfl (by kernel_rfl) (by kernel_rfl) (by kernel_rfl) (fun _ _ _ h => h) (Or.inr ⟨by first | kernel_rfl | rfl, rfl⟩) (by assumption) ?zra2
              try simp only [Act.put, List.setIfInBounds_toArray, List.set_cons_zero, List.set_cons_succ]
              refine takeD (i := 3) (v := undef) (some 49) rfl rfl (by kernel_rfl) (by kernel_rfl) (by kernel_rfl) (fun _ _ _ h => h) (Or.inr ⟨by first | kernel_rfl | rfl, rfl⟩) (by assumption) ?zra3
              try simp only [Act.put, List.setIfInBounds_toArray, List.set_cons_zero, List.set_cons_succ]
              refine takeD (i := 4) (v := undef) (some 50) rfl rfl (by kernel_rfl) (by kernel_rfl) (by kernel_rfl) (fun _ _ _ h => h) (Or.inr ⟨by first | kernel_rfl | rfl, rfl⟩) (by assumption) ?zra4
              try simp only [Act.put, List.setIfInBounds_toArray, List.set_cons_zero, List.set_cons_succ]
              refine takeD (i := 5) (v := undef) (some 51) rfl rfl (by kernel_rfl) (by kernel_rfl) (by kernel_rfl) (fun _ _ _ h => h) (Or.inr ⟨by first | kernel_rfl | rfl, rfl⟩) (by assumption) ?zra5
              try simp only [Act.put, List.setIfInBounds_toArray, List.set_cons_zero, List.set_cons_succ]
              refine takeD (i := 6) (v := undef) (some 52) rfl rfl (by kernel_rfl) (by kernel_rfl) (by kernel_rfl) (fun _ _ _ h => h) (Or.inr ⟨by first | kernel_rfl | rfl, rfl⟩) (by assumption) ?zra6
              try simp only [Act.put, List.setIfInBounds_toArray, List.set_cons_zero, List.set_cons_succ]
              refine takeD (i := 7) (v := undef) (some 53) rfl rfl (by kernel_rfl) (by kernel_rfl) (by kernel_rfl) (fun _ _ _ h => h) (Or.inr ⟨by first | kernel_rfl | rfl, rfl⟩) (by assumption) ?zra7
              try simp only [Act.put, List.setIfInBounds_toArray, List.set_cons_zero, List.set_cons_succ]
              refine takeD (i := 8) (v := undef) (some 54) rfl rfl (by kernel_rfl) (by kernel_rfl) (by kernel_rfl) (fun _ _ _ h => h) (Or.inr ⟨by first | kernel_rfl | rfl, rfl⟩) (by assumption) ?zra8
              try simp only [Act.put, List.setIfInBounds_toArray, List.set_cons_zero, List.set_cons_succ]
              refine takeD (i := 9) (v := undef) (some 55) rfl rfl (by kernel_rfl) (by kernel_rfl) (by kernel_rfl) (fun _ _ _ h => h) (Or.inr ⟨by first | kernel_rfl | rfl, rfl⟩) (by assumption) ?zra9
              try simp only [Act.put, List.setIfInBounds_toArray, List.set_cons_zero, List.set_cons_succ]
              refine takeD (i := 10) (v := undef) (some 56) rfl rfl (by kernel_rfl) (by kernel_rfl) (by kernel_rfl) (fun _ _ _ h => h) (Or.inr ⟨by first | kernel_rfl | rfl, rfl⟩) (by assumption) ?zra10
              try simp only [Act.put, List.setIfInBounds_toArray, List.set_cons_zero, List.set_cons_succ]
              refine takeD (i := 11) (v := undef) (some 57) rfl rfl (by kernel_rfl) (by kernel_rfl) (by kernel_rfl) (fun _ _ _ h => h) (Or.inr ⟨by first | kernel_rfl | rfl, rfl⟩) (by assumption) ?zra11
              try simp only [Act.put, List.setIfInBounds_toArray, List.set_cons_zero, List.set_cons_succ]
              refine takeD (i := 12) (v := undef) (some 58) rfl rfl (by kernel_rfl) (by kernel_rfl) (by kernel_rfl) (fun _ _ _ h => h) (Or.inr ⟨by first | kernel_rfl | rfl, rfl⟩) (by assumption) ?zra12
              try simp only [Act.put, List.setIfInBounds_toArray, List.set_cons_zero, List.set_cons_succ]
              refine takeD (i := 13) (v := undef) (some 59) rfl rfl (by kernel_rfl) (by kernel_rfl) (by kernel_rfl) (fun _ _ _ h => h) (Or.inr ⟨by first | kernel_rfl | rfl, rfl⟩) (by assumption) ?zra13
              try simp only [Act.put, List.setIfInBounds_toArray, List.set_cons_zero, List.set_cons_succ]
              refine takeD (i := 14) (v := undef) (some 60) rfl rfl (by kernel_rfl) (by kernel_rfl) (by kernel_rfl) (fun _ _ _ h => h) (Or.inr ⟨by first | kernel_rfl | rfl, rfl⟩) (by assumption) ?zra14
              try simp only [Act.put, List.setIfInBounds_toArray, List.set_cons_zero, List.set_cons_succ]
              refine takeD (i := 15) (v := undef) (some 61) rfl rfl (by kernel_rfl) (by kernel_rfl) (by kernel_rfl) (fun _ _ _ h => h) (Or.inr ⟨by first | kernel_rfl | rfl, rfl⟩) (by assumption) ?zra15
              try simp only [Act.put, List.setIfInBounds_toArray, List.set_cons_zero, List.set_cons_succ]
              refine takeD (i := 16) (v := undef) (some 62) rfl rfl (by kernel_rfl) (by kernel_rfl) (by kernel_rfl) (fun _ _ _ h => h) (Or.inr ⟨by first | kernel_rfl | rfl, rfl⟩) (by assumption) ?zra16
              try simp only [Act.put, List.setIfInBounds_toArray, List.set_cons_zero, List.set_cons_succ]
              refine takeD (i := 17) (v := undef) (some 63) rfl rfl (by kernel_rfl) (by kernel_rfl) (by kernel_rfl) (fun _ _ _ h => h) (Or.inr ⟨by first | kernel_rfl | rfl, rfl⟩) (by assumption) ?zra17
              try simp only [Act.put, List.setIfInBounds_toArray, List.set_cons_zero, List.set_cons_succ]
              refine takeD (i := 18) (v := undef) (some 64) rfl rfl (by kernel_rfl) (by kernel_rfl) (by kernel_rfl) (fun _ _ _ h => h) (Or.inr ⟨by first | kernel_rfl | rfl, rfl⟩) (by assumption) ?zra18
              try simp only [Act.put, List.setIfInBounds_toArray, List.set_cons_zero, List.set_cons_succ]
              refine takeD (i := 19) (v := undef) (some 65) rfl rfl (by kernel_rfl) (by kernel_rfl) (by kernel_rfl) (fun _ _ _ h => h) (Or.inr ⟨by first | kernel_rfl | rfl, rfl⟩) (by assumption) ?zra19
              try simp only [Act.put, List.setIfInBounds_toArray, List.set_cons_zero, List.set_cons_succ]
              refine takeD (i := 20) (v := undef) (some 66) rfl rfl (by kernel_rfl) (by kernel_rfl) (by kernel_rfl) (fun _ _ _ h => h) (Or.inr ⟨by first | kernel_rfl | rfl, rfl⟩) (by assumption) ?zra20
              try simp only [Act.put, List.setIfInBounds_toArray, List.set_cons_zero, List.set_cons_succ]
              refine takeD (i := 21) (v := undef) (some 67) rfl rfl (by kernel_rfl) (by kernel_rfl) (by kernel_rfl) (fun _ _ _ h => h) (Or.inr ⟨by first | kernel_rfl | rfl, rfl⟩) (by assumption) ?zra21
              try simp only [Act.put, List.setIfInBounds_toArray, List.set_cons_zero, List.set_cons_succ]
              refine takeD (i := 22) (v := undef) (some 68) rfl rfl (by kernel_rfl) (by kernel_rfl) (by kernel_rfl) (fun _ _ _ h => h) (Or.inr ⟨by first | kernel_rfl | rfl, rfl⟩) (by assumption) ?zra22
              try simp only [Act.put, List.setIfInBounds_toArray, List.set_cons_zero, List.set_cons_succ]
              refine takeD (i := 23) (v := undef) (some 69) rfl rfl (by kernel_rfl) (by kernel_rfl) (by kernel_rfl) (fun _ _ _ h => h) (Or.inr ⟨by first | kernel_rfl | rfl, rfl⟩) (by assumption) ?zra23
              try simp only [Act.put, List.setIfInBounds_toArray, List.set_cons_zero, List.set_cons_succ]
              refine takeD (i := 24) (v := undef) (some 70) rfl rfl (by kernel_rfl) (by kernel_rfl) (by kernel_rfl) (fun _ _ _ h => h) (Or.inr ⟨by first | kernel_rfl | rfl, rfl⟩) (by assumption) ?zra24
              try simp only [Act.put, List.setIfInBounds_toArray, List.set_cons_zero, List.set_cons_succ]
              refine takeD (i := 25) (v := ?zva25) (some 71) rfl rfl (by kernel_rfl) (by kernel_rfl) (by kernel_rfl) (fun _ _ _ h => h) (Or.inl ⟨by rfl, ?zya25⟩) (by assumption) ?zra25
              case zya25 => (intro w hSw; (try dsimp only at hSw); go_simp; try with_reducible rfl)
              try simp only [Act.put, List.setIfInBounds_toArray, List.set_cons_zero, List.set_cons_succ]
              refine takeD (i := 26) (v := ?zva26) (some 7) rfl rfl (by kernel_rfl) (by kernel_rfl) (by kernel_rfl) (fun _ _ _ h => h) (Or.inl ⟨by rfl, ?zya26⟩) (by assumption) ?zra26
              case zya26 => (intro w hSw; (try dsimp only at hSw); go_simp; try with_reducible rfl)
              try simp only [Act.put, List.setIfInBounds_toArray, List.set_cons_zero, List.set_cons_succ]
              refine wpAnyH_done (by kernel_rfl) ?_ _
              go_wp2_with fail
              refine ⟨⟨false, k + 1, rfl, by go_num, by omega, HE⟩, ?_⟩
              simp [intOf]; omega
            · by_cases he : y.s = x.s
              · have s1 : (y.s.toList == x.s.toList) = true := by rw [he]; exact beq_self_eq_true _
                go_wp2_with fail
                cases B1
                · have HE := fun W hW => Lib.hid (HEND.out true W (by simp) hW)
                  refine wp_region_held_drew (S := (fun w' => w'.cell? ⟨c6, 0, none⟩ = some (.slice ao7 m cap7) ∧ w'.cell? ⟨c9, 0, none⟩ = some (.slice ao9 m9 cap9) ∧ w'.cell? ⟨b0, o0 + k * 3 + 2, none⟩ = some (.string y.s) ∧ w'.cell? ⟨b0, o0 + i * 3 + 2, none⟩ = some (.string x.s))) (by kernel_rfl) (by exact ⟨x6, x9, g2, g3⟩) (fun hHeld => ?_)
                  refine takeD (i := 0) (v := ?zvb0) (some 46) rfl rfl (by kernel_rfl) (by kernel_rfl) (by kernel_rfl) (fun _ _ _ h => h) (Or.inl ⟨by rfl, ?zyb0⟩) (by assumption) ?zrb0
                  case zyb0 => (intro w hSw; (try dsimp only at hSw); go_simp; try with_reducible rfl)
                  try simp only [Act.put, List.setIfInBounds_toArray, List.set_cons_zero, List.set_cons_succ]
                  refine takeD (i := 1) (v := ?zvb1) (some 47) rfl rfl (by kernel_rfl) (by kernel_rfl) (by kernel_rfl) (fun _ _ _ h => h) (Or.inl ⟨by rfl, ?zyb1⟩) (by assumption) ?zrb1
                  case zyb1 => (intro w hSw; (try dsimp only at hSw); go_simp; try with_reducible rfl)
                  try simp only [Act.put, List.setIfInBounds_toArray, List.set_cons_zero, List.set_cons_succ]
                  refine takeD (i := 2) (v := ?zvb2) (some 48) rfl rfl (by kernel_rfl) (by kernel_rfl) (by kernel_rfl) (fun _ _ _ h => h) (Or.inl ⟨by rfl, ?zyb2⟩) (by assumption) ?zrb2
                  case zyb2 => (intro w hSw; (try dsimp only at hSw); go_simp; try with_reducible rfl)
                  try simp only [Act.put, List.setIfInBounds_toArray, List.set_cons_zero, List.set_cons_succ]
                  refine takeD (i := 3) (v := ?zvb3) (some 49) rfl rfl (by kernel_rfl) (by kernel_rfl) (by kernel_rfl) (fun _ _ _ h => h) (Or.inl ⟨by rfl, ?zyb3⟩) (by assumption) ?zrb3
                  case zyb3 => (intro w hSw; (try dsimp only at hSw); go_simp; try with_reducible rfl)
                  try simp only [Act.put, List.setIfInBounds_toArray, List.set_cons_zero, List.set_cons_succ]
                  refine takeD (i := 4) (v := ?zvb4) (some 50) rfl rfl (by kernel_rfl) (by kernel_rfl) (by kernel_rfl) (fun _ _ _ h => h) (Or.inl ⟨by rfl, ?zyb4⟩) (by assumption) ?zrb4
                  case zyb4 => (intro w hSw; (try dsimp only at hSw); go_simp; try with_reducible rfl)
                  try simp only [Act.put, List.setIfInBounds_toArray, List.set_cons_zero, List.set_cons_succ]
                  refine takeD (i := 5) (v := ?zvb5) (some 51) rfl rfl (by kernel_rfl) (by kernel_rfl) (by kernel_rfl) (fun _ _ _ h => h) (Or.inl ⟨by rfl, ?zyb5⟩) (by assumption) ?zrb5
                  case zyb5 => (intro w hSw; (try dsimp only at hSw); go_simp; try with_reducible rfl)
                  try simp only [Act.put, List.setIfInBounds_toArray, List.set_cons_zero, List.set_cons_succ]
                  refine takeD (i := 6) (v := ?zvb6) (some 52) rfl rfl (by kernel_rfl) (by kernel_rfl) (by kernel_rfl) (fun _ _ _ h => h) (Or.inl ⟨by rfl, ?zyb6⟩) (by assumption) ?zrb6
                  case zyb6 => (intro w hSw; (try dsimp only at hSw); go_simp; try with_reducible rfl)
                  try simp only [Act.put, List.setIfInBounds_toArray, List.set_cons_zero, List.set_cons_succ]
                  refine takeD (i := 7) (v := ?zvb7) (some 53) rfl rfl (by kernel_rfl) (by kernel_rfl) (by kernel_rfl) (fun _ _ _ h => h) (Or.inl ⟨by rfl, ?zyb7⟩) (by assumption) ?zrb7
                  case zyb7 => (intro w hSw; (try dsimp only at hSw); go_simp; try with_reducible rfl)
                  try simp only [Act.put, List.setIfInBounds_toArray, List.set_cons_zero, List.set_cons_succ]
                  refine takeD (i := 8) (v := ?zvb8) (some 54) rfl rfl (by kernel_rfl) (by kernel_rfl) (by kernel_rfl) (fun _ _ _ h => h) (Or.inl ⟨by rfl, ?zyb8⟩) (by assumption) ?zrb8
                  case zyb8 => (intro w hSw; (try dsimp only at hSw); go_simp; try with_reducible rfl)
                  try simp only [Act.put, List.setIfInBounds_toArray, List.set_cons_zero, List.set_cons_succ]
                  refine takeD (i := 9) (v := ?zvb9) (some 55) rfl rfl (by kernel_rfl) (by kernel_rfl) (by kernel_rfl) (fun _ _ _ h => h) (Or.inl ⟨by rfl, ?zyb9⟩) (by assumption) ?zrb9
                  case zyb9 => (intro w hSw; (try dsimp only at hSw); go_simp; try with_reducible rfl)
                  try simp only [Act.put, List.setIfInBounds_toArray, List.set_cons_zero, List.set_cons_succ]
                  refine takeD (i := 10) (v := ?zvb10) (some 56) rfl rfl (by kernel_rfl) (by kernel_rfl) (by kernel_rfl) (fun _ _ _ h => h) (Or.inl ⟨by rfl, ?zyb10⟩) (by assumption) ?zrb10
                  case zyb10 => (intro w hSw; (try dsimp only at hSw); go_simp; try with_reducible rfl)
                  try simp only [Act.put, List.setIfInBounds_toArray, List.set_cons_zero, List.set_cons_succ]
                  refine takeD (i := 11) (v := ?zvb11) (some 57) rfl rfl (by kernel_rfl) (by kernel_rfl) (by kernel_rfl) (fun _ _ _ h => h) (Or.inl ⟨by rfl, ?zyb11⟩) (by assumption) ?zrb11
                  case zyb11 => (intro w hSw; (try dsimp only at hSw); go_simp; try with_reducible rfl)
                  try simp only [Act.put, List.setIfInBounds_toArray, List.set_cons_zero, List.set_cons_succ]
                  refine takeD (i := 12) (v := ?zvb12) (some 58) rfl rfl (by kernel_rfl) (by kernel_rfl) (by kernel_rfl) (fun _ _ _ h => h) (Or.inl ⟨by rfl, ?zyb12⟩) (by assumption) ?zrb12
                  case zyb12 => (intro w hSw; (try dsimp only at hSw); go_simp; try with_reducible rfl)
                  try simp only [Act.put, List.setIfInBounds_toArray, List.set_cons_zero, List.set_cons_succ]
                  refine takeD (i := 13) (v := ?zvb13) (some 59) rfl rfl (by kernel_rfl) (by kernel_rfl) (by kernel_rfl) (fun _ _ _ h => h) (Or.inl ⟨by rfl, ?zyb13⟩) (by assumption) ?zrb13
                  case zyb13 => (intro w hSw; (try dsimp only at hSw); go_simp; try with_reducible rfl)
                  try simp only [Act.put, List.setIfInBounds_toArray, List.set_cons_zero, List.set_cons_succ]
                  refine takeD (i := 14) (v := ?zvb14) (some 60) rfl rfl (by kernel_rfl) (by kernel_rfl) (by kernel_rfl) (fun _ _ _ h => h) (Or.inl ⟨by rfl, ?zyb14⟩) (by assumption) ?zrb14
                  case zyb14 => (intro w hSw; (try dsimp only at hSw); go_simp; try with_reducible rfl)
                  try simp only [Act.put, List.setIfInBounds_toArray, List.set_cons_zero, List.set_cons_succ]
                  refine takeD (i := 15) (v := ?zvb15) (some 61) rfl rfl (by kernel_rfl) (by kernel_rfl) (by kernel_rfl) (fun _ _ _ h => h) (Or.inl ⟨by rfl, ?zyb15⟩) (by assumption) ?zrb15
                  case zyb15 => (intro w hSw; (try dsimp only at hSw); go_simp; try with_reducible rfl)
                  try simp only [Act.put, List.setIfInBounds_toArray, List.set_cons_zero, List.set_cons_succ]
                  refine wpAnyH_ready (rs := [16]) (by kernel_rfl) (by simp) ?_
                  refine AllReadyH.cons rfl (fun K hK => ?_) AllReadyH.nil
                  go_simp
                  refine (HW1.out _ (by repeat (first | (with_reducible exact bz _) | (with_reducible apply Below.drew)))).mono ?_
                  clear HW1
                  rintro e w3 ⟨rfl, hb3⟩
                  replace x6 := cell_past_ hb3 x6
                  replace x9 := cell_past_ hb3 x9
                  replace g2 := cell_past_ hb3 g2
                  replace g3 := cell_past_ hb3 g3
                  go_wp2_with fail
                  refine hK.out _ _ (by exact ⟨x6, x9, g2, g3⟩) (fun hHeld2 => ?_)
                  clear hK K
                  clear hHeld
                  have hHeld := hHeld2
                  clear hHeld2
                  try simp only [Act.put, List.setIfInBounds_toArray, List.set_cons_zero, List.set_cons_succ]
                  refine takeD (i := 17) (v := ?zvb17) (some 63) rfl rfl (by kernel_rfl) (by kernel_rfl) (by kernel_rfl) (fun _ _ _ h => h) (Or.inl ⟨by rfl, ?zyb17⟩) (by assumption) ?zrb17
                  case zyb17 => (intro w hSw; (try dsimp only at hSw); go_simp; try with_reducible rfl)
                  try simp only [Act.put, List.setIfInBounds_toArray, List.set_cons_zero, List.set_cons_succ]
                  refine takeD (i := 18) (v := ?zvb18) (some 64) rfl rfl (by kernel_rfl) (by kernel_rfl) (by kernel_rfl) (fun _ _ _ h => h) (Or.inl ⟨by rfl, ?zyb18⟩) (by assumption) ?zrb18
                  case zyb18 => (intro w hSw; (try dsimp only at hSw); go_simp; try with_reducible rfl)
                  try simp only [Act.put, List.setIfInBounds_toArray, List.set_cons_zero, List.set_cons_succ]
                  refine takeD (i := 19) (v := ?zvb19) (some 65) rfl rfl (by kernel_rfl) (by kernel_rfl) (by kernel_rfl) (fun _ _ _ h => h) (Or.inl ⟨by rfl, ?zyb19⟩) (by assumption) ?zrb19
                  case zyb19 => (intro w hSw; (try dsimp only at hSw); go_simp; try with_reducible rfl)
                  try simp only [Act.put, List.setIfInBounds_toArray, List.set_cons_zero, List.set_cons_succ]
                  refine takeD (i := 20) (v := undef) (some 66) rfl rfl (by kernel_rfl) (by kernel_rfl) (by kernel_rfl) (fun _ _ _ h => h) (Or.inr ⟨by first | kernel_rfl | rfl, rfl⟩) (by assumption) ?zrb20
                  try simp only [Act.put, List.setIfInBounds_toArray, List.set_cons_zero, List.set_cons_succ]
                  refine takeD (i := 21) (v := undef) (some 67) rfl rfl (by kernel_rfl) (by kernel_rfl) (by kernel_rfl) (fun _ _ _ h => h) (Or.inr ⟨by first | kernel_rfl | rfl, rfl⟩) (by assumption) ?zrb21
                  try simp only [Act.put, List.setIfInBounds_toArray, List.set_cons_zero, List.set_cons_succ]
                  refine takeD (i := 22) (v := undef) (some 68) rfl rfl (by kernel_rfl) (by kernel_rfl) (by kernel_rfl) (fun _ _ _ h => h) (Or.inr ⟨by first | kernel_rfl | rfl, rfl⟩) (by assumption) ?zrb22
                  try simp only [Act.put, List.setIfInBounds_toArray, List.set_cons_zero, List.set_cons_succ]
                  refine takeD (i := 23) (v := undef) (some 69) rfl rfl (by kernel_rfl) (by kernel_rfl) (by kernel_rfl) (fun _ _ _ h => h) (Or.inr ⟨by first | kernel_rfl | rfl, rfl⟩) (by assumption) ?zrb23
                  try simp only [Act.put, List.setIfInBounds_toArray, List.set_cons_zero, List.set_cons_succ]
                  refine takeD (i := 24) (v := ?zvb24) (some 70) rfl rfl (by kernel_rfl) (by kernel_rfl) (by kernel_rfl) (fun _ _ _ h => h) (Or.inl ⟨by rfl, ?zyb24⟩) (by assumption) ?zrb24
                  case zyb24 => (intro w hSw; (try dsimp only at hSw); go_simp; try with_reducible rfl)
                  try simp only [Act.put, List.setIfInBounds_toArray, List.set_cons_zero, List.set_cons_succ]
                  refine takeD (i := 25) (v := ?zvb25) (some 71) rfl rfl (by kernel_rfl) (by kernel_rfl) (by kernel_rfl) (fun _ _ _ h => h) (Or.inl ⟨by rfl, ?zyb25⟩) (by assumption) ?zrb25
                  case zyb25 => (intro w hSw; (try dsimp only at hSw); go_simp; try with_reducible rfl)
                  try simp only [Act.put, List.setIfInBounds_toArray, List.set_cons_zero, List.set_cons_succ]
                  refine takeD (i := 26) (v := ?zvb26) (some 7) rfl rfl (by kernel_rfl) (by kernel_rfl) (by kernel_rfl) (fun _ _ _ h => h) (Or.inl ⟨by rfl, ?zyb26⟩) (by assumption) ?zrb26
                  case zyb26 => (intro w hSw; (try dsimp only at hSw); go_simp; try with_reducible rfl)
                  try simp only [Act.put, List.setIfInBounds_toArray, List.set_cons_zero, List.set_cons_succ]
                  refine wpAnyH_done (by kernel_rfl) ?_ _
                  go_wp2_with fail
                  refine ⟨⟨true, k + 1, rfl, by go_num, by omega, Lib.hid (by have q := (HE _ (bt (bz W9).drew hb3)).out; simpa using q)⟩, ?_⟩
                  simp [intOf]; omega
                · cases B2
                  · have HE := fun W hW => Lib.hid (HEND.out true W (by simp) hW)
                    go_region_held3 (fun w' => w'.cell? ⟨c6, 0, none⟩ = some (.slice ao7 m cap7) ∧ w'.cell? ⟨c9, 0, none⟩ = some (.slice ao9 m9 cap9) ∧ w'.cell? ⟨b0, o0 + k * 3 + 2, none⟩ = some (.string y.s) ∧ w'.cell? ⟨b0, o0 + i * 3 + 2, none⟩ = some (.string x.s)) (exact ⟨x6, x9, g2, g3⟩) ((first | (go_at_call 22; refine (HW1.out _ (by repeat (first | (with_reducible exact bz _) | (with_reducible apply Below.drew)))).mono ?_; clear HW1; rintro e w3 ⟨rfl, hb3⟩; replace x6 := cell_past_ hb3 x6; replace x9 := cell_past_ hb3 x9; replace g2 := cell_past_ hb3 g2; replace g3 := cell_past_ hb3 g3) | (go_at_call 22; refine (HW2.out _ (by repeat (first | (with_reducible exact bz _) | (with_reducible exact bt (Below.drew (bz _)) hb3) | (with_reducible apply Below.drew)))).mono ?_; rintro e w4 ⟨rfl, hb4⟩; replace x6 := cell_past_ hb4 x6; replace x9 := cell_past_ hb4 x9; replace g2 := cell_past_ hb4 g2; replace g3 := cell_past_ hb4 g3)))
                    go_wp2_with fail
                    refine ⟨⟨true, k + 1, rfl, by go_num, by omega, Lib.hid (by have q := (HE _ (bt (bt (bz W9).drew hb3) hb4)).out; simpa using q)⟩, ?_⟩
                    simp [intOf]; omega
                  · have HE := fun W hW => Lib.hid (HEND.out false W (by simp [he]) hW)
                    go_region_held3 (fun w' => w'.cell? ⟨c6, 0, none⟩ = some (.slice ao7 m cap7) ∧ w'.cell? ⟨c9, 0, none⟩ = some (.slice ao9 m9 cap9) ∧ w'.cell? ⟨b0, o0 + k * 3 + 2, none⟩ = some (.string y.s) ∧ w'.cell? ⟨b0, o0 + i * 3 + 2, none⟩ = some (.string x.s)) (exact ⟨x6, x9, g2, g3⟩) ((first | (go_at_call 22; refine (HW1.out _ (by repeat (first | (with_reducible exact bz _) | (with_reducible apply Below.drew)))).mono ?_; clear HW1; rintro e w3 ⟨rfl, hb3⟩; replace x6 := cell_past_ hb3 x6; replace x9 := cell_past_ hb3 x9; replace g2 := cell_past_ hb3 g2; replace g3 := cell_past_ hb3 g3) | (go_at_call 22; refine (HW2.out _ (by repeat (first | (with_reducible exact bz _) | (with_reducible exact bt (Below.drew (bz _)) hb3) | (with_reducible apply Below.drew)))).mono ?_; rintro e w4 ⟨rfl, hb4⟩; replace x6 := cell_past_ hb4 x6; replace x9 := cell_past_ hb4 x9; replace g2 := cell_past_ hb4 g2; replace g3 := cell_past_ hb4 g3)))
                    go_wp2_with fail
                    refine ⟨⟨false, k + 1, rfl, by go_num, by omega, HE _ (bt (bt (bz W9).drew hb3) hb4)⟩, ?_⟩
                    simp [intOf]; omega
              · have s1 : (y.s.toList == x.s.toList) = false := by
                  cases h : y.s.toList == x.s.toList
                  · rfl
                  · exact absurd (bytes_inj (eq_of_beq h)) he
                have HE := fun W hW => Lib.hid (HEND.out true W (by simp; intro _ _ e; exact he e.symm) hW)
                go_wp2_with fail
                refine wp_region_held_drew (S := (fun w' => w'.cell? ⟨c6, 0, none⟩ = some (.slice ao7 m cap7) ∧ w'.cell? ⟨c9, 0, none⟩ = some (.slice ao9 m9 cap9) ∧ w'.cell? ⟨b0, o0 + k * 3 + 2, none⟩ = some (.string y.s) ∧ w'.cell? ⟨b0, o0 + i * 3 + 2, none⟩ = some (.string x.s))) (by kernel_rfl) (by exact ⟨x6, x9, g2, g3⟩) (fun hHeld => ?_)
                refine takeD (i := 0) (v := ?zvc0) (some 46) rfl rfl (by kernel_rfl) (by kernel_rfl) (by kernel_rfl) (fun _ _ _ h => h) (Or.inl ⟨by rfl, ?zyc0⟩) (by assumption) ?zrc0
                case zyc0 => (intro w hSw; (try dsimp only at hSw); go_simp; try with_reducible rfl)
                try simp only [Act.put, List.setIfInBounds_toArray, List.set_cons_zero, List.set_cons_succ]
                refine takeD (i := 1) (v := ?zvc1) (some 47) rfl rfl (by kernel_rfl) (by kernel_rfl) (by kernel_rfl) (fun _ _ _ h => h) (Or.inl ⟨by rfl, ?zyc1⟩) (by assumption) ?zrc1
                case zyc1 => (intro w hSw; (try dsimp only at hSw); go_simp; try with_reducible rfl)
                try simp only [Act.put, List.setIfInBounds_toArray, List.set_cons_zero, List.set_cons_succ]
                refine takeD (i := 2) (v := ?zvc2) (some 48) rfl rfl (by kernel_rfl) (by kernel_rfl) (by kernel_rfl) (fun _ _ _ h => h) (Or.inl ⟨by rfl, ?zyc2⟩) (by assumption) ?zrc2
                case zyc2 => (intro w hSw; (try dsimp only at hSw); go_simp; try with_reducible rfl)
                try simp only [Act.put, List.setIfInBounds_toArray, List.set_cons_zero, List.set_cons_succ]
                refine takeD (i := 3) (v := ?zvc3) (some 49) rfl rfl (by kernel_rfl) (by kernel_rfl) (by kernel_rfl) (fun _ _ _ h => h) (Or.inl ⟨by rfl, ?zyc3⟩) (by assumption) ?zrc3
                case zyc3 => (intro w hSw; (try dsimp only at hSw); go_simp; try with_reducible rfl)
                try simp only [Act.put, List.setIfInBounds_toArray, List.set_cons_zero, List.set_cons_succ]
                refine takeD (i := 4) (v := ?zvc4) (some 50) rfl rfl (by kernel_rfl) (by kernel_rfl) (by kernel_rfl) (fun _ _ _ h => h) (Or.inl ⟨by rfl, ?zyc4⟩) (by assumption) ?zrc4
                case zyc4 => (intro w hSw; (try dsimp only at hSw); go_simp; try with_reducible rfl)
                try simp only [Act.put, List.setIfInBounds_toArray, List.set_cons_zero, List.set_cons_succ]
                refine takeD (i := 5) (v := ?zvc5) (some 51) rfl rfl (by kernel_rfl) (by kernel_rfl) (by kernel_rfl) (fun _ _ _ h => h) (Or.inl ⟨by rfl, ?zyc5⟩) (by assumption) ?zrc5
                case zyc5 => (intro w hSw; (try dsimp only at hSw); go_simp; try with_reducible rfl)
                try simp only [Act.put, List.setIfInBounds_toArray, List.set_cons_zero, List.set_cons_succ]
                refine takeD (i := 6) (v := ?zvc6) (some 52) rfl rfl (by kernel_rfl) (by kernel_rfl) (by kernel_rfl) (fun _ _ _ h => h) (Or.inl ⟨by rfl, ?zyc6⟩) (by assumption) ?zrc6
                case zyc6 => (intro w hSw; (try dsimp only at hSw); go_simp; try with_reducible rfl)
                try simp only [Act.put, List.setIfInBounds_toArray, List.set_cons_zero, List.set_cons_succ]
                refine takeD (i := 7) (v := ?zvc7) (some 53) rfl rfl (by kernel_rfl) (by kernel_rfl) (by kernel_rfl) (fun _ _ _ h => h) (Or.inl ⟨by rfl, ?zyc7⟩) (by assumption) ?zrc7
                case zyc7 => (intro w hSw; (try dsimp only at hSw); go_simp; try with_reducible rfl)
                try simp only [Act.put, List.setIfInBounds_toArray, List.set_cons_zero, List.set_cons_succ]
                refine takeD (i := 8) (v := ?zvc8) (some 54) rfl rfl (by kernel_rfl) (by kernel_rfl) (by kernel_rfl) (fun _ _ _ h => h) (Or.inl ⟨by rfl, ?zyc8⟩) (by assumption) ?zrc8
                case zyc8 => (intro w hSw; (try dsimp only at hSw); go_simp; try with_reducible rfl)
                try simp only [Act.put, List.setIfInBounds_toArray, List.set_cons_zero, List.set_cons_succ]
                refine takeD (i := 9) (v := ?zvc9) (some 55) rfl rfl (by kernel_rfl) (by kernel_rfl) (by kernel_rfl) (fun _ _ _ h => h) (Or.inl ⟨by rfl, ?zyc9⟩) (by assumption) ?zrc9
                case zyc9 => (intro w hSw; (try dsimp only at hSw); go_simp; try with_reducible rfl)
                try simp only [Act.put, List.setIfInBounds_toArray, List.set_cons_zero, List.set_cons_succ]
                refine takeD (i := 10) (v := ?zvc10) (some 56) rfl rfl (by kernel_rfl) (by kernel_rfl) (by kernel_rfl) (fun _ _ _ h => h) (Or.inl ⟨by rfl, ?zyc10⟩) (by assumption) ?zrc10
                case zyc10 => (intro w hSw; (try dsimp only at hSw); go_simp; try with_reducible rfl)
                try simp only [Act.put, List.setIfInBounds_toArray, List.set_cons_zero, List.set_cons_succ]
                refine takeD (i := 11) (v := ?zvc11) (some 57) rfl rfl (by kernel_rfl) (by kernel_rfl) (by kernel_rfl) (fun _ _ _ h => h) (Or.inl ⟨by rfl, ?zyc11⟩) (by assumption) ?zrc11
                case zyc11 => (intro w hSw; (try dsimp only at hSw); go_simp; try with_reducible rfl)
                try simp only [Act.put, List.setIfInBounds_toArray, List.set_cons_zero, List.set_cons_succ]
                refine takeD (i := 12) (v := ?zvc12) (some 58) rfl rfl (by kernel_rfl) (by kernel_rfl) (by kernel_rfl) (fun _ _ _ h => h) (Or.inl ⟨by rfl, ?zyc12⟩) (by assumption) ?zrc12
                case zyc12 => (intro w hSw; (try dsimp only at hSw); go_simp; try with_reducible rfl)
                try simp only [Act.put, List.setIfInBounds_toArray, List.set_cons_zero, List.set_cons_succ]
                refine takeD (i := 13) (v := ?zvc13) (some 59) rfl rfl (by kernel_rfl) (by kernel_rfl) (by kernel_rfl) (fun _ _ _ h => h) (Or.inl ⟨by rfl, ?zyc13⟩) (by assumption) ?zrc13
                case zyc13 => (intro w hSw; (try dsimp only at hSw); go_simp; try with_reducible rfl)
                try simp only [Act.put, List.setIfInBounds_toArray, List.set_cons_zero, List.set_cons_succ]
                refine takeD (i := 14) (v := undef) (some 60) rfl rfl (by kernel_rfl) (by kernel_rfl) (by kernel_rfl) (fun _ _ _ h => h) (Or.inr ⟨by first | kernel_rfl | rfl, rfl⟩) (by assumption) ?zrc14
                try simp only [Act.put, List.setIfInBounds_toArray, List.set_cons_zero, List.set_cons_succ]
                refine takeD (i := 15) (v := undef) (some 61) rfl rfl (by kernel_rfl) (by kernel_rfl) (by kernel_rfl) (fun _ _ _ h => h) (Or.inr ⟨by first | kernel_rfl | rfl, rfl⟩) (by assumption) ?zrc15
                try simp only [Act.put, List.setIfInBounds_toArray, List.set_cons_zero, List.set_cons_succ]
                refine takeD (i := 16) (v := undef) (some 62) rfl rfl (by kernel_rfl) (by kernel_rfl) (by kernel_rfl) (fun _ _ _ h => h) (Or.inr ⟨by first | kernel_rfl | rfl, rfl⟩) (by assumption) ?zrc16
                try simp only [Act.put, List.setIfInBounds_toArray, List.set_cons_zero, List.set_cons_succ]
                refine takeD (i := 17) (v := undef) (some 63) rfl rfl (by kernel_rfl) (by kernel_rfl) (by kernel_rfl) (fun _ _ _ h => h) (Or.inr ⟨by first | kernel_rfl | rfl, rfl⟩) (by assumption) ?zrc17
                try simp only [Act.put, List.setIfInBounds_toArray, List.set_cons_zero, List.set_cons_succ]
                refine takeD (i := 18) (v := ?zvc18) (some 64) rfl rfl (by kernel_rfl) (by kernel_rfl) (by kernel_rfl) (fun _ _ _ h => h) (Or.inl ⟨by rfl, ?zyc18⟩) (by assumption) ?zrc18
                case zyc18 => (intro w hSw; (try dsimp only at hSw); go_simp; try with_reducible rfl)
                try simp only [Act.put, List.setIfInBounds_toArray, List.set_cons_zero, List.set_cons_succ]
                refine takeD (i := 19) (v := ?zvc19) (some 65) rfl rfl (by kernel_rfl) (by kernel_rfl) (by kernel_rfl) (fun _ _ _ h => h) (Or.inl ⟨by rfl, ?zyc19⟩) (by assumption) ?zrc19
                case zyc19 => (intro w hSw; (try dsimp only at hSw); go_simp; try with_reducible rfl)
                try simp only [Act.put, List.setIfInBounds_toArray, List.set_cons_zero, List.set_cons_succ]
                refine takeD (i := 20) (v := undef) (some 66) rfl rfl (by kernel_rfl) (by kernel_rfl) (by kernel_rfl) (fun _ _ _ h => h) (Or.inr ⟨by first | kernel_rfl | rfl, rfl⟩) (by assumption) ?zrc20
                try simp only [Act.put, List.setIfInBounds_toArray, List.set_cons_zero, List.set_cons_succ]
                refine takeD (i := 21) (v := undef) (some 67) rfl rfl (by kernel_rfl) (by kernel_rfl) (by kernel_rfl) (fun _ _ _ h => h) (Or.inr ⟨by first | kernel_rfl | rfl, rfl⟩) (by assumption) ?zrc21
                try simp only [Act.put, List.setIfInBounds_toArray, List.set_cons_zero, List.set_cons_succ]
                refine takeD (i := 22) (v := undef) (some 68) rfl rfl (by kernel_rfl) (by kernel_rfl) (by kernel_rfl) (fun _ _ _ h => h) (Or.inr ⟨by first | kernel_rfl | rfl, rfl⟩) (by assumption) ?zrc22
                try simp only [Act.put, List.setIfInBounds_toArray, List.set_cons_zero, List.set_cons_succ]
                refine takeD (i := 23) (v := undef) (some 69) rfl rfl (by kernel_rfl) (by kernel_rfl) (by kernel_rfl) (fun _ _ _ h => h) (Or.inr ⟨by first | kernel_rfl | rfl, rfl⟩) (by assumption) ?zrc23
                try simp only [Act.put, List.setIfInBounds_toArray, List.set_cons_zero, List.set_cons_succ]
                refine takeD (i := 24) (v := ?zvc24) (some 70) rfl rfl (by kernel_rfl) (by kernel_rfl) (by kernel_rfl) (fun _ _ _ h => h) (Or.inl ⟨by rfl, ?zyc24⟩) (by assumption) ?zrc24
                case zyc24 => (intro w hSw; (try dsimp only at hSw); go_simp; try with_reducible rfl)
                try simp only [Act.put, List.setIfInBounds_toArray, List.set_cons_zero, List.set_cons_succ]
                refine takeD (i := 25) (v := ?zvc25) (some 71) rfl rfl (by kernel_rfl) (by kernel_rfl) (by kernel_rfl) (fun _ _ _ h => h) (Or.inl ⟨by rfl, ?zyc25⟩) (by assumption) ?zrc25
                case zyc25 => (intro w hSw; (try dsimp only at hSw); go_simp; try with_reducible rfl)
                try simp only [Act.put, List.setIfInBounds_toArray, List.set_cons_zero, List.set_cons_succ]
                refine takeD (i := 26) (v := ?zvc26) (some 7) rfl rfl (by kernel_rfl) (by kernel_rfl) (by kernel_rfl) (fun _ _ _ h => h) (Or.inl ⟨by rfl, ?zyc26⟩) (by assumption) ?zrc26
                case zyc26 => (intro w hSw; (try dsimp only at hSw); go_simp; try with_reducible rfl)
                try simp only [Act.put, List.setIfInBounds_toArray, List.set_cons_zero, List.set_cons_succ]
                refine wpAnyH_done (by kernel_rfl) ?_ _
                go_wp2_with fail
                refine ⟨⟨true, k + 1, rfl, by go_num, by omega, Lib.hid (by have q := (HE _ (bz W9).drew).out; simpa using q)⟩, ?_⟩
                simp [intOf]; omega
          · have j2 : ¬ (k : Int) < (i : Int) := by omega
            obtain rfl : k = i := by omega
            have SB := HS.out.below (bt HA6.out.1.bel hF.out.2)
            have g3 := SB.cell (k * 3 + 2) (.string x.s) (by rw [cell_of Act3.three l k x HXK.out 2 (by decide)]; rfl)
            rw [← Nat.add_assoc] at g3
            have x6 := cell_past_ hF.out.2 X6.out
            have HT : Hid (TM w wr p b p' b' (dd ((l.map cfgOf).take k)) k sv [] 0 0 ∧ SetAt wr (.agg #[.slice ao7 m cap7]) (ofN x.l)) := Lib.hid ⟨HA6.out.1.ext hF.out.2, HA6.out.2.below hF.out.2⟩
            have hBF : ((!F) = true ↔ (S, x.s) ∈ dd ((l.map cfgOf).take k)) := by
              rw [mem_dd, ← cfgOf_key HSK.out.1]
              have h := hF.out.1
              cases F
              · simp only [Bool.not_false, true_iff]
                refine Classical.byContradiction fun hno => ?_
                have := h.2 (fun c hc e => hno (by rw [← e]; exact hc))
                cases this
              · simp only [Bool.not_true, Bool.false_eq_true, false_iff]
                exact fun hc => (h.1 rfl) _ hc rfl
            have hddk : dd ((l.map cfgOf).take (k + 1)) = addK (dd ((l.map cfgOf).take k)) (S, x.s) := by
              rw [← cfgOf_key HSK.out.1, ← dd_snoc, List.take_add_one]
              simp [HXK.out]
            obtain ⟨KS, hKS⟩ : ∃ K, K = dd ((l.map cfgOf).take (k + 1)) := ⟨_, rfl⟩
            obtain ⟨V2, hV2⟩ : ∃ V, V = addS (dd ((l.map cfgOf).take k)) (S, x.s) sv := ⟨_, rfl⟩
            have hLV : V2 + KS.length = k + 1 := by rw [hKS, hddk, hV2, addS_len]; omega
            have HKS := Lib.hid hKS
            have HLV := Lib.hid hLV
            have S1 : S.size ≤ maxLen := by have := HSK.out.2; unfold maxLen; omega
            have S2 : x.s.size ≤ maxLen := by have := HSM.out.2; unfold maxLen; omega
            have HH1 : Hid (∀ W, Below wr.heap.size wr W → Calls Try.prog 13 #[.pointer (some ⟨p, 0, none⟩), .agg #[.slice ao7 m cap7], .string x.s] W fun e w' => e = .returned (.bool (!F)) ∧ Below W.heap.size W w') := Lib.hid (fun W hW => has_memo p (some b) _ _ _ _ _ S x.s W (HT.out.1.m.below hW) (HT.out.2.below hW) HSK.out.1 S1 S2 (!F) hBF)
            have HADD : Hid (∀ W, TM w W p b p' b' (dd ((l.map cfgOf).take k)) k sv [] 0 0 → SetAt W (.agg #[.slice ao7 m cap7]) (ofN x.l) → Calls Try.prog 17 #[.pointer (some ⟨p, 0, none⟩), .agg #[.slice ao7 m cap7], .string x.s] W fun e w' => e = .returned (.bool F) ∧ (TM w w' p b p' b' KS (k + 1) V2 [] 0 0 ∧ SetAt w' (.agg #[.slice ao7 m cap7]) (ofN x.l)) ∧ Kept (fun i => i = p ∨ some b = some i) W w') := Lib.hid (fun W hT hv => by
              refine (add_on p b _ k sv _ _ S x.s W hT.m hv HSK.out.1 S1 S2 (by omega) (by omega) (!F) hBF).mono fun e w' ⟨he, hm, hk⟩ => ?_
              rw [← hddk, ← hKS, ← hV2] at hm
              rw [Bool.not_not] at he
              exact ⟨he, ⟨hT.stepM hm hk, set_apart hT.m hv hk⟩, hk⟩)
            have HH2 : Hid (∀ W, TM w W p b p' b' KS (k + 1) V2 [] 0 0 → SetAt W (.agg #[.slice ao7 m cap7]) (ofN x.l) → Calls Try.prog 13 #[.pointer (some ⟨p, 0, none⟩), .agg #[.slice ao7 m cap7], .string x.s] W fun e w' => e = .returned (.bool true) ∧ Below W.heap.size W w') := Lib.hid (fun W hT hv => has_memo p (some b) _ _ _ _ _ S x.s W hT.m hv HSK.out.1 S1 S2 true (by rw [hKS, hddk]; simp [mem_addK]))
            have HBL : Hid (b0 < w.heap.size) := Lib.hid (HS.out.lt (by rw [length_flat Act3.three]; have := HL.out; omega))
            obtain ⟨LK, hLK⟩ : ∃ L, L = KS.length := ⟨_, rfl⟩
            have HLK := Lib.hid hLK
            have q1 : (LK : Int) + (V2 : Int) = (k : Int) + 1 := by omega
            have HG := Lib.hid HT.out.1.g
            clear SB hBF hddk hKS hV2 hLV hLK S1 S2 hF HA6 X6
            have hnk : ∀ {W W' : World} {bb oo : Nat} {u : Value}, Kept (fun i => i = p ∨ some b = some i) W W' → W.cell? ⟨bb, oo, none⟩ = some u → bb ≠ p → bb ≠ b → W'.cell? ⟨bb, oo, none⟩ = some u := fun hk h1 h2 h3 => hk.cell h1 (by rintro (e | e); (· exact h2 e); (· injection e with e; exact h3 e.symm))
            have HNK := Lib.hid (And.intro (And.intro (show c6 ≠ p by have := HC6.out; omega) (show c6 ≠ b by have := HC6.out; omega)) (And.intro (show b0 ≠ p by have := HBL.out; have := HG.out; omega) (show b0 ≠ b by have := HBL.out; have := HG.out; omega)))
            go_wp2_with fail
            cases F
            all_goals
              go_region_held3 (fun w' => w'.cell? ⟨c6, 0, none⟩ = some (.slice ao7 m cap7) ∧ w'.cell? ⟨b0, o0 + k * 3 + 2, none⟩ = some (.string x.s)) (exact ⟨x6, g3⟩) ((first | (go_at_call 13; refine (HH1.out _ (by repeat (first | (with_reducible exact bz _) | (with_reducible apply Below.drew)))).mono ?_; clear HH1; rintro e w3 ⟨rfl, hb3⟩; have HT3 := Lib.hid (And.intro ((HT.out.1.ext (bz _).drew).ext hb3) ((HT.out.2.below (bz _).drew).below hb3)); replace x6 := cell_past_ hb3 x6; replace g3 := cell_past_ hb3 g3) | (go_at_call 17; refine (HADD.out _ HT3.out.1 HT3.out.2).mono ?_; rintro e w4 ⟨rfl, hT4, hk4⟩; have HT4 := Lib.hid hT4; replace x6 := hnk hk4 x6 HNK.out.1.1 HNK.out.1.2; replace g3 := hnk hk4 g3 HNK.out.2.1 HNK.out.2.2; clear hT4 hk4) | (go_at_call 13; refine (HH2.out _ HT4.out.1 HT4.out.2).mono ?_; rintro e w5 ⟨rfl, hb5⟩; have HT5 := Lib.hid (HT4.out.1.ext hb5); replace x6 := cell_past_ hb5 x6; replace g3 := cell_past_ hb5 g3) | (go_at_call 19; refine (len_any p (some b) _ _ _ _ HT5.out.m).mono ?_; rw [← HLK.out]; rintro e wX ⟨rfl, rfl⟩) | (go_at_call 20; refine (saved_any p (some b) _ _ _ _ HT5.out.m).mono ?_; rintro e wX ⟨rfl, rfl⟩)))
              go_wp2_with fail
              refine ⟨⟨k + 1, by omega, by go_num, Lib.hid ⟨V2, by rw [← HKS.out]; exact HLV.out, by rw [← HKS.out]; exact HT5.out⟩⟩, ?_⟩
              simp [intOf]; omega
      · have i2 : ¬ (i : Int) < (n : Int) := by omega
        obtain rfl : n = i := by omega
        go_wp2_with fail
        obtain ⟨KS, hKS⟩ : ∃ K, K = dd ((l.map cfgOf).take n) := ⟨_, rfl⟩
        rw [← hKS] at HA hsv
        have HKS := Lib.hid hKS
        have HSV := Lib.hid hsv
        clear hKS hsv hlt i2 hi
        go_loopw [10] (fun t10 wz => ∃ q : Nat, q ≤ n ∧ ((q = 0 ∧ t10 = .int .i64 (-1)) ∨ (∃ r : Nat, q = r + 1 ∧ t10 = .int .i64 r)) ∧ Hid (∃ sv', sv' + (dd (((l.map cfgOf).drop q).reverse)).length = n - q ∧ TM w wz p b p' b' KS n sv (dd (((l.map cfgOf).drop q).reverse)) (n - q) sv')) (fun t10 _ => (intOf t10 + 1).toNat)
        case atStart =>
          have e : (l.map cfgOf).drop n = [] := List.drop_eq_nil_of_le (by rw [List.length_map, HL.out]; exact Nat.le_refl _)
          refine ⟨n, Nat.le_refl _, ?_, Lib.hid ⟨0, by rw [e]; simp [dd], by rw [e, Nat.sub_self]; exact HA.out⟩⟩
          by_cases hz : n = 0
          · exact .inl ⟨hz, by congr 1; omega⟩
          · exact .inr ⟨n - 1, by omega, by congr 1; omega⟩
        case round =>
          obtain ⟨q, hq, hc, hI⟩ := hrel
          obtain ⟨sv', hsv', hT⟩ := hI.out
          rcases hc with ⟨rfl, rfl⟩ | ⟨r, rfl, rfl⟩
          · have e0 : (l.map cfgOf).take n = l.map cfgOf := List.take_of_length_le (by rw [List.length_map, HL.out]; exact Nat.le_refl _)
            have hlen : (dd (((l.map cfgOf).drop 0).reverse)).length = KS.length := by rw [List.drop_zero, dd_rev, HKS.out, e0]
            have hsve : sv' = sv := by have := HSV.out; omega
            subst hsve
            have HLen := Lib.hid hlen
            have HT := Lib.hid hT
            clear hlen hT hI HA hsv' e0 HSV
            go_wp2_with fail
            refine (len_any p' (some b') _ _ _ _ HT.out.o).mono ?_
            rw [HLen.out]
            rintro e wX ⟨rfl, rfl⟩
            go_wp2_with fail
            refine (len_any p (some b) _ _ _ _ HT.out.m).mono ?_
            rintro e wX ⟨rfl, rfl⟩
            go_wp2_with fail
            refine (saved_any p' (some b') _ _ _ _ HT.out.o).mono ?_
            rintro e wX ⟨rfl, rfl⟩
            go_wp2_with fail
            refine (saved_any p (some b) _ _ _ _ HT.out.m).mono ?_
            rintro e wX ⟨rfl, rfl⟩
            go_wp2_with fail
            refine (awake_any _).mono ?_
            rintro e wf ⟨rfl, hbf⟩
            go_wp2
            go_ret
            exact ⟨rfl, bt HT.out.bel hbf⟩
          · have r1 : (0 : Int) ≤ (r : Int) := by omega
            have r2 : (r : Int) < (n : Int) := by omega
            obtain ⟨x, hxk⟩ : ∃ x, l[r]? = some x := ⟨_, List.getElem?_eq_getElem (by rw [← HL.out]; omega)⟩
            have HT := Lib.hid hT
            have SB := HS.out.below HT.out.bel
            have g1 := SB.cell (r * 3 + 1) (.slice x.ao x.l.length x.cap) (by rw [cell_of Act3.three l r x hxk 1 (by decide)]; rfl)
            have g2 := SB.cell (r * 3 + 2) (.string x.s) (by rw [cell_of Act3.three l r x hxk 2 (by decide)]; rfl)
            rw [← Nat.add_assoc] at g1 g2
            have hsm := (HFew.out (by first | rfl | trivial)).2 r x hxk
            have hok := act_below (HX.out x (List.mem_of_getElem? hxk)) HT.out.bel
            have HOF : Hid (∀ W, Below wr.heap.size wr W → Calls Try.prog 11 #[.slice x.ao x.l.length x.cap] W (SetPost (ofN x.l) W)) := Lib.hid (fun W hW => of_any x.l x.l.length rfl x.ao x.cap x.b x.o W (hok.l.below hW) (by omega))
            have hdr : ∀ S, keyN (ofN x.l) S → dd (((l.map cfgOf).drop r).reverse) = addK (dd (((l.map cfgOf).drop (r + 1)).reverse)) (S, x.s) := fun S hS => by
              rw [← cfgOf_key hS, ← dd_snoc]
              have hlt : r < (l.map cfgOf).length := by rw [List.length_map, ← HL.out]; omega
              rw [List.drop_eq_getElem_cons hlt, List.reverse_cons]
              have : (l.map cfgOf)[r] = cfgOf x := by
                have h := List.getElem?_eq_getElem hlt
                rw [List.getElem?_map, hxk] at h
                exact (Option.some.inj h).symm
              rw [this]
            classical
            have HADD : Hid (∀ W v, MmAt W p' (some b') (dd (((l.map cfgOf).drop (r + 1)).reverse)) (n - (r + 1)) sv' → SetAt W v (ofN x.l) → Calls Try.prog 17 #[.pointer (some ⟨p', 0, none⟩), v, .string x.s] W (fun e w' => ∃ R sv2, e = .returned (.bool R) ∧ sv2 + (dd (((l.map cfgOf).drop r).reverse)).length = n - r ∧ MmAt w' p' (some b') (dd (((l.map cfgOf).drop r).reverse)) (n - r) sv2 ∧ Kept (fun i => i = p' ∨ some b' = some i) W w')) := Lib.hid (fun W v hm hv => by
              obtain ⟨K, hK, hKs⟩ := key_ex hv
              obtain ⟨B, hB⟩ : ∃ B : Bool, (B = true ↔ (K, x.s) ∈ dd (((l.map cfgOf).drop (r + 1)).reverse)) := ⟨decide _, decide_eq_true_iff⟩
              refine (add_on p' b' _ _ sv' v (ofN x.l) K x.s W hm hv hK (by unfold maxLen; omega) (by have := hsm.2; unfold maxLen; omega) (by omega) (by omega) B hB).mono fun e w' ⟨he, h1, h2⟩ => ⟨!B, addS (dd (((l.map cfgOf).drop (r + 1)).reverse)) (K, x.s) sv', he, ?_, ?_, h2⟩
              · rw [hdr K hK, addS_len]; omega
              · rw [hdr K hK, show n - r = n - (r + 1) + 1 by omega]; exact h1)
            have HBL : Hid (b0 < w.heap.size) := Lib.hid (HS.out.lt (by rw [length_flat Act3.three]; have := HL.out; omega))
            have HNB : Hid (b0 ≠ p' ∧ b0 ≠ b') := Lib.hid (by have := HBL.out; have := HT.out.g; have := HT.out.o2; exact ⟨by omega, by omega⟩)
            clear SB hxk hsm hok hT hI HA hdr
            go_wp2_with fail
            go_region_held3 (fun w' => w'.cell? ⟨b0, o0 + r * 3 + 1, none⟩ = some (.slice x.ao x.l.length x.cap) ∧ w'.cell? ⟨b0, o0 + r * 3 + 2, none⟩ = some (.string x.s)) (exact ⟨g1, g2⟩) ((first | (go_at_call 11; refine (HOF.out _ (bz _).drew).mono ?_; rintro e w9 ⟨v9, rfl, hset9, hb9⟩; replace g1 : w9.cell? ⟨b0, o0 + r * 3 + 1, none⟩ = some (.slice x.ao x.l.length x.cap) := cell_past_ hb9 (show World.cell? _ _ = _ from g1); replace g2 : w9.cell? ⟨b0, o0 + r * 3 + 2, none⟩ = some (.string x.s) := cell_past_ hb9 (show World.cell? _ _ = _ from g2); have HA9 := Lib.hid ((HT.out.ext (bz _).drew).ext hb9)) | (go_at_call 17; refine (HADD.out _ _ HA9.out.o hset9).mono ?_; rintro e wa ⟨R, sv2, rfl, hsv2, hma, hka⟩; have HAa := Lib.hid (HA9.out.stepO hma hka); have hnk : ∀ {bb oo : Nat} {u : Value}, w9.cell? ⟨bb, oo, none⟩ = some u → bb ≠ p' → bb ≠ b' → wa.cell? ⟨bb, oo, none⟩ = some u := (fun h1 h2 h3 => hka.cell h1 (by rintro (e | e); (· exact h2 e); (· injection e with e; exact h3 e.symm))); replace g1 := hnk g1 HNB.out.1 HNB.out.2; replace g2 := hnk g2 HNB.out.1 HNB.out.2)))
            go_wp2_with fail
            refine ⟨⟨r, by omega, ?_, Lib.hid ⟨sv2, hsv2, HAa.out⟩⟩, ?_⟩
            · by_cases hz : r = 0
              · exact .inl ⟨hz, by congr 1; omega⟩
              · exact .inr ⟨r - 1, by omega, by congr 1; omega⟩
            · simp [intOf]; try omega
end Go.Proofs.Ytgpfnlbhclefgaa
