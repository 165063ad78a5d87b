/- OrderPlays: the walk. Printed by gen_plw.py. -/
import Derived.Test.YtggbcailaeebfaaPlp
namespace Go.Proofs.Ytggbcailaeebfaa
open Go.RowKit Go.Um
set_option linter.unusedSimpArgs false
set_option linter.unusedVariables false
set_option maxHeartbeats 4000000
set_option maxRecDepth 100000
theorem ref0 (w : World) (q : Nat) (hq : q = w.heap.size) : RefAt (fun _ => False) (w.alloc (.cells #[.slice none 0 0, .slice none 0 0, .slice none 0 0, .slice none 0 0, .slice none 0 0, .slice none 0 0, .slice none 0 0, .slice none 0 0] 43)) q (fun _ => []) := by
  subst hq
  refine ⟨fun j hj => ⟨none, 0, 0, 0, [], ?_, by simp [go_sem], ⟨rfl, Nat.le_refl _, Nat.zero_le _, fun h => absurd h (by decide), fun h => absurd h (by decide), fun j u hu => by simp at hu⟩, fun h => absurd h (by decide), ⟨rfl, fun j l h => by simp at h⟩⟩⟩
  rcases (by omega : j = 0 ∨ j = 1 ∨ j = 2 ∨ j = 3 ∨ j = 4 ∨ j = 5 ∨ j = 6 ∨ j = 7) with rfl | rfl | rfl | rfl | rfl | rfl | rfl | rfl <;> simp [go_sem]
theorem plays_any (l : List Rd) (ao : Option Addr) (cap b o : Nat) (v : Int) (w : World) (h : SlAt w 3 l.length (l.flatMap Rd.cells) ao cap b o) (hok : ∀ x ∈ l, x.Ok w) :
    Calls Try.prog 7 #[.slice ao l.length cap, .int .u16 v] w fun e w' => e = .returned (.bool true) ∧ Below w.heap.size w w' := by
  have hidx := h.idx (P := Try.prog) (t := 25) Try.underlying25 size35 (by decide)
  obtain ⟨i0, hi0, iz0, iz1, iz2⟩ := info_parts info37
  have HA := Lib.hid h
  have HOK := Lib.hid hok
  have HF := Lib.hid (few_any l ao cap b o w h)
  obtain ⟨n, hn⟩ : ∃ n, n = l.length := ⟨_, rfl⟩
  have HN := Lib.hid hn
  rw [← hn] at hidx HF ⊢
  clear h hok hn
  go_enter Try.func7, Try.ntmps7
  go_wp2_with fail
  refine HF.out.mono ?_
  rintro e w1 ⟨fb, rfl, hfew, rfl⟩
  clear HF
  cases fb
  · clear hfew
    go_wp2_with fail
    refine (works_any _).mono ?_
    rintro e w4 ⟨rfl, hb4⟩
    go_wp2
    go_ret
    exact ⟨rfl, hb4⟩
  obtain ⟨hl50, h40⟩ := hfew rfl
  rw [← HN.out] at hl50
  have H40 := Lib.hid h40
  clear hfew h40
  go_wp2_with fail
  refine (new_any _).mono ?_
  rintro e w1 ⟨rfl, ho1, hb1, hz1⟩
  obtain ⟨p, hp⟩ : ∃ p, p = w.heap.size := ⟨_, rfl⟩
  obtain ⟨q, hq⟩ : ∃ q, q = w1.heap.size := ⟨_, rfl⟩
  rw [← hp] at ho1 ⊢
  have hpq : p ≠ q := by omega
  have hwp : w.heap.size ≤ p := by omega
  have hwq : w.heap.size ≤ q := by omega
  have HR0 := Lib.hid (ref0 w1 q hq)
  have HO1 := Lib.hid ho1
  have HB1 := Lib.hid hb1
  have HQ := Lib.hid hq
  clear ho1 hb1 hz1 hp hq
  go_wp2_with fail
  rw [← HQ.out]
  have HP0 : Hid (PInv w (w1.alloc (.cells #[.slice none 0 0, .slice none 0 0, .slice none 0 0, .slice none 0 0, .slice none 0 0, .slice none 0 0, .slice none 0 0, .slice none 0 0] 43)) p q 0 l (fun _ => [])) := Lib.hid ⟨(HO1.out.mono (fun _ _ h => h.elim)).below (ba (bz w1) _), HR0.out.mono (fun _ _ h => h.elim), fun k hk => ⟨fun r hr => (List.not_mem_nil hr).elim, .inl rfl⟩, fun k => Nat.le_refl _, fun k _ r hr => (List.not_mem_nil hr).elim, hpq, hwp, hwq, bt HB1.out (ba (bz w1) _)⟩
  clear HR0 HO1 HB1 hpq hwp
  go_wp2_with fail
  go_loopw [5, 7] (fun t5 t7 wr => ∃ (i p' : Nat) (M : Nat → List (List Int)), i ≤ n ∧ t7 = .int .i64 i ∧ t5 = .pointer (some ⟨p', 0, none⟩) ∧ Hid (PInv w wr p' q i l M)) (fun _ t7 _ => n - (intOf t7).toNat)
  case atStart => exact ⟨0, p, _, Nat.zero_le _, rfl, rfl, HP0⟩
  case round =>
    clear HP0 HQ
    obtain ⟨i, p1, M, hi, rfl, rfl, HI⟩ := hrel
    by_cases hlt : i < n
    · have i1 : (0 : Int) ≤ (i : Int) := by omega
      have i2 : (i : Int) < (n : Int) := by omega
      have i3 : decide ((i : Int) < (n : Int)) = true := decide_eq_true i2
      have hsz := HI.out.bel.size
      obtain ⟨wo, hwo⟩ : ∃ x, x = wr := ⟨_, rfl⟩
      subst hwo
      obtain ⟨x, hx⟩ : ∃ x, l[i]? = some x := ⟨_, List.getElem?_eq_getElem (by rw [← HN.out]; exact hlt)⟩
      have hxo := HOK.out x (List.mem_of_getElem? hx)
      have HXO := Lib.hid hxo.at'
      have hxk := hxo.key
      have hx40 := H40.out x (List.mem_of_getElem? hx)
      obtain ⟨X0, X1, X2⟩ := rd_at HA.out hx
      obtain ⟨key, hkey⟩ : ∃ k, k = x.key := ⟨_, rfl⟩
      obtain ⟨xn, hxn⟩ : ∃ k, k = x.L.length := ⟨_, rfl⟩
      obtain ⟨xc, hxc⟩ : ∃ k, k = x.cop := ⟨_, rfl⟩
      rw [← hkey] at X0 hxk
      rw [← hxn] at X1 hx40 HXO
      rw [← hxc] at X2
      have CX := Lib.hid (fun W (h : Below w.heap.size w W) => And.intro (cell_past h X0) (And.intro (cell_past h X1) (cell_past h X2)))
      clear X0 X1 X2
      obtain ⟨x0, x1, x2⟩ := CX.out _ HI.out.bel
      have HK := Lib.hid hkey
      have HXN := Lib.hid hxn
      have HX := Lib.hid hx
      clear hx hxo hkey hxn hxc
      cases xc with
      | true =>
        obtain ⟨w4, hw4⟩ : ∃ x, x = wo := ⟨_, rfl⟩
        subst hw4
        have hpw1 := HI.out.pw
        have hne1 := HI.out.ne
        have hpl1 := HI.out.ord.lt
        have hql1 := HI.out.ref.lt
        have hoc := ord_self (HI.out.ord.mono (S' := fun b => b ≠ q ∧ b < w4.heap.size) (fun b hb h => ⟨h, hb⟩))
        have HCP := Lib.hid (copy_any _ p1 (ordN l i) w4 hoc)
        obtain ⟨p5, hp5⟩ : ∃ g, g = w4.heap.size := ⟨_, rfl⟩
        have HP5 := Lib.hid hp5
        rw [← hp5] at HCP
        clear hoc
        have hp5' : p5 ≠ p1 := by omega
        clear hp5
        go_wp2_with fail
        refine HCP.out.mono ?_
        rintro e w6 ⟨rfl, ho6, hb6⟩
        have hb6 : Below w4.heap.size w4 w6 := by rw [HP5.out] at hb6; exact hb6
        have HO6 := Lib.hid ho6
        have HB6 := Lib.hid hb6
        have htk := fun W (hb : Below w6.heap.size w6 W) ao' cap' b' o' (hs : SlAt W 1 2 (us [60000, 60001]) ao' cap' b' o') => take_any _ p1 key (ordN l i) [60000, 60001] ao' cap' b' o' W ((HI.out.ord.below hb6).below hb) hs (by decide) hxk
        have HTK0 := Lib.hid htk
        have HBW6 := Lib.hid (HI.out.bel.trans (hb6.mono HI.out.bel.size))
        have CB := Lib.hid (fun W (h : Below w6.heap.size w6 W) => CX.out W (HBW6.out.trans (h.mono HBW6.out.size)))
        have x0 := (CX.out _ HBW6.out).1
        clear ho6 hb6 htk HCP
        go_wp2_with fail
        refine (HTK0.out _ (ba (bz w6) _) (some ⟨w6.heap.size, 0, none⟩) 2 w6.heap.size 0 (SlAt.new w6 37 1 2 [.int .u16 60000, .int .u16 60001] w6.heap.size rfl rfl (by decide))).mono ?_
        rintro e w5 ⟨rfl, ho5, hk5⟩
        have HI5 : Hid (PInv w w5 p5 q i l M) := Lib.hid (HI.out.copy HP5.out (by rw [← HP5.out]; exact HO6.out) HB6.out (ba (bz w6) _) hk5)
        replace x0 := (CX.out _ HI5.out.bel).1
        have x1 := (CX.out _ HI5.out.bel).2.1
        clear ho5 hk5 HTK0 HO6 HB6 HBW6 CB HI hpw1 hne1 hpl1 hql1 hp5' HP5
        have hpw5 := HI5.out.pw
        have hqw5 := HI5.out.qw
        have hne5 := HI5.out.ne
        have hpl5 := HI5.out.ord.lt
        have hql5 := HI5.out.ref.lt
        go_wp2_with (at_builtin; refine wpList_append_slat rfl (.tmp 46) (.tmp 51) 22 rfl w5.heap.size 37 i0 (.int .u16 0) 1 2 Try.underlying22 hi0 iz0 iz1 iz2 rfl (by decide) (.slice none 0 0) 0 [] rfl (World.ownsRow_nil _ _ _ _) x.ao xn x.cap x.b x.o (us x.L) rfl (HXO.out.below HI5.out.bel) us_one (by unfold maxLen; omega) (by omega) (Nat.le_refl _) ?_)
        intro v9 w9 hown9 hg9 _
        have hb9 : Below w5.heap.size w5 w9 := below_own (bz w5) (World.ownsRow_nil w5 w5.heap.size 37 1) hg9 (Nat.le_refl _) (Nat.le_refl _)
        obtain ⟨ao9, cap9, b9, o9, rfl, hs9, hbb9, hnum9⟩ := NumAt.own hown9 (HXN.out)
        have hidx9 := hs9.idx (P := Try.prog) (t := 22) Try.underlying22 size37 (by decide)
        have hz9 := hb9.size
        have HB9 := Lib.hid hb9
        have HBW9 := Lib.hid (HI5.out.bel.trans (hb9.mono HI5.out.bel.size))
        have hord9 : OrdAt (fun b => b ≠ q ∧ b < w5.heap.size) w9 p5 (ordN l i) := (HI5.out.ord.mono (S' := fun b => b ≠ q ∧ b < w5.heap.size) (fun b hb h => ⟨h, hb⟩)).below hb9
        have htk := take_any _ p5 key (ordN l i) x.L ao9 cap9 b9 o9 w9 hord9 (by rw [← HXN.out]; exact hs9) (by rw [← HXN.out]; omega) hxk
        rw [← HXN.out] at htk
        unfold TakePost at htk
        obtain ⟨B, hB⟩ : ∃ B, B = takeB (ordN l i) key x.L := ⟨_, rfl⟩
        obtain ⟨E, hE⟩ : ∃ E, E = takeE key x.L := ⟨_, rfl⟩
        rw [← hB, ← hE] at htk
        have HTK := Lib.hid htk
        have HB := Lib.hid hB
        have HE := Lib.hid hE
        have HS9 := Lib.hid hs9
        have HN9 := Lib.hid hnum9
        have HBB9 := Lib.hid hbb9
        obtain ⟨x0, x1, x2⟩ := CX.out _ HBW9.out
        clear hown9 hg9 hb9 hord9 htk hB hE hs9 hbb9 hnum9
        go_wp2_with fail
        refine HTK.out.mono ?_
        rintro e w10 ⟨rfl, ho10, hk10⟩
        have HO10 := Lib.hid ho10
        have HK10 := Lib.hid hk10
        have HBW10 := Lib.hid (kept_new HBW9.out hk10 (fun i hi e => by omega))
        have hz10 := hk10.size
        have hrt := fun W (hb : Below w10.heap.size w10 W) => rtake_any (fun b => b ≠ p5 ∧ b < w5.heap.size) q key M x.L x.ao x.cap x.b x.o W (((((HI5.out.ref.mono (T' := fun b => b ≠ p5 ∧ b < w5.heap.size) (fun b hb h => ⟨h, hb⟩)).below HB9.out).kept hk10 (by omega) (fun b _ _ hb => hb.1))).below hb) (by rw [← HXN.out]; exact (HXO.out.below HBW10.out).below hb) (by rw [← HXN.out]; omega) hxk (fun j => by have := HI5.out.len j; omega) HI5.out.wide
        rw [HI5.out.rel.takeB key x.L, ← HXN.out, ← HB.out, ← HE.out] at hrt
        have HRT := Lib.hid hrt
        have HS10 := Lib.hid (slat_kept HS9.out hk10 (fun hp e => by have := HBB9.out (by rw [us_len, ← HXN.out] at hp; omega); omega))
        replace HN9 : Hid (0 < xn → NumAt w10 xn b9 o9) := Lib.hid (fun hp => HN9.out.kept hk10 (fun e => by have := HBB9.out hp; omega))
        obtain ⟨x0, x1, x2⟩ := CX.out _ HBW10.out
        clear ho10 hk10 hrt HTK
        go_wp2_with fail
        go_region_held3 (fun w' => w'.cell? ⟨b, o + i * 3, none⟩ = some (.int .u8 key) ∧ w'.cell? ⟨b, o + i * 3 + 1, none⟩ = some (.slice x.ao xn x.cap)) (refine ⟨?_, ?_⟩ <;> (repeat (first | (with_reducible assumption) | (with_reducible apply keep_alloc) | (with_reducible apply keep_drew)))) ((go_at_call 18; refine (HRT.out _ (by repeat (first | (with_reducible exact bz w10) | (with_reducible apply Below.drew)))).mono ?_; rintro e w11 ⟨rfl, hr11, k11⟩; have HK11 : Hid (Kept (fun b => b = q) w10 w11) := Lib.hid (Kept.trans (S := fun b => b = q) (by repeat (first | (with_reducible exact Kept.refl _ w10) | (with_reducible apply Kept.drew))) k11 (fun _ _ h => h)); have HR11 := Lib.hid hr11; have HBW11 := Lib.hid (kept_new HBW10.out HK11.out (fun i hi e => by omega)); have y0 := (CX.out _ HBW11.out).1; have y1 := (CX.out _ HBW11.out).2.1; clear hr11 k11))
        have hsm := same_any x.L x.L ao9 x.ao cap9 b9 o9 x.cap x.b x.o w11 (by rw [← HXN.out]; exact slat_kept HS10.out HK11.out (fun hp e => by have := HBB9.out (by rw [us_len, ← HXN.out] at hp; omega); omega)) (by rw [← HXN.out]; exact HXO.out.below HBW11.out) (by rw [← HXN.out]; omega)
        unfold SamePost at hsm
        rw [← HXN.out, decide_eq_true (rfl : x.L = x.L)] at hsm
        have HSM := Lib.hid hsm
        replace HN9 : Hid (0 < xn → NumAt w11 xn b9 o9) := Lib.hid (fun hp => (HN9.out hp).kept HK11.out (fun e => by have := HBB9.out hp; omega))
        clear hsm HRT
        have x0 := y0
        have x1 := y1
        go_wp2_with fail
        refine HSM.out.mono ?_
        rintro e w12 ⟨rfl, hq12⟩
        have HQ12 := Lib.hid hq12.below
        replace HN9 : Hid (0 < xn → NumAt w12 xn b9 o9) := Lib.hid (fun hp => (HN9.out hp).below hq12.below)
        clear hq12 HSM x0 x1 y0 y1
        go_wp2_with fail
        go_loopw [14] (fun t14 wz => ∃ k : Nat, k ≤ xn ∧ t14 = .int .i64 k ∧ Hid (0 < xn → NumAt wz xn b9 o9) ∧ Hid (Kept (fun b => 0 < xn ∧ b = b9) w12 wz)) (fun t14 _ => xn - (intOf t14).toNat)
        case atStart => exact ⟨0, Nat.zero_le _, rfl, HN9, Lib.hid (Kept.refl _ _)⟩
        case round =>
          obtain ⟨k, hk, rfl, hnum, hkz⟩ := hrel
          by_cases hkl : k < xn
          · have k1 : (0 : Int) ≤ (k : Int) := by omega
            have k2 : (k : Int) < (xn : Int) := by omega
            have k3 : decide ((k : Int) < (xn : Int)) = true := decide_eq_true k2
            obtain ⟨y, hy, fy⟩ := hnum.out (by omega) k hkl
            go_wp2_with fail
            go_roundw
            case rel => exact ⟨k + 1, by omega, by go_num, Lib.hid (fun hp => (hnum.out hp).set _), Lib.hid (hkz.out.setCell (p := ⟨b9, o9 + k, none⟩) (fun _ => ⟨by omega, rfl⟩) _)⟩
            case measure => simp [intOf]; omega
          · have k2 : ¬ (k : Int) < (xn : Int) := by omega
            have k3 : decide ((k : Int) < (xn : Int)) = false := decide_eq_false k2
            have HP13 : Hid (PInv w wr p5 q (i + 1) l (rtakeM M x.key x.L)) := Lib.hid (HI5.out.took HX.out (by rw [← HXN.out]; omega) HB9.out (by rw [← HK.out]; exact HO10.out) HK10.out (by rw [← HK.out]; exact HR11.out) HK11.out HQ12.out hkz.out (fun b hb => by obtain ⟨h0, rfl⟩ := hb; have := HBB9.out h0; omega))
            obtain ⟨x0, x1, x2⟩ := CX.out _ HP13.out.bel
            have HSH := Lib.hid (shown_any _ _ p5 q key _ _ v wr HP13.out.ord HP13.out.ref HP13.out.rel hxk (fun j => by have := HP13.out.len j; omega))
            clear HN9 hnum hkz HO10 HK10 HR11 HK11 HQ12 HB9 HBW9 HBW10 HBW11 HS9 HS10 HBB9 hkl
            go_wp2_with fail
            refine HSH.out.mono ?_
            rintro e w14 ⟨rfl, hb14⟩
            have HP14 := Lib.hid (HP13.out.below hb14)
            have HSH2 := Lib.hid (shown_any _ _ p5 q (i % 9) _ _ v w14 HP14.out.ord HP14.out.ref HP14.out.rel (by omega) (fun j => by have := HP14.out.len j; omega))
            clear hb14 HSH HP13 x0 x1 x2
            have hrem : (i : Int).tmod 9 = ((i % 9 : Nat) : Int) := by rw [Int.tmod_eq_emod_of_nonneg (by omega)]; omega
            obtain ⟨r9, hr9⟩ : ∃ r, r = i % 9 := ⟨_, rfl⟩
            rw [← hr9] at hrem HSH2
            have hr9b : r9 < 9 := by omega
            have hwr9 : IntKind.u8.wrap (r9 : Int) = (r9 : Int) := by simp only [IntKind.wrap, IntKind.signed, IntKind.bits, Bool.false_and, Bool.false_eq_true, if_false]; omega
            have hwi9 : IntKind.i64.wrap (r9 : Int) = (r9 : Int) := IntWalk.i64_in _ (by omega)
            have HR9 := Lib.hid hr9
            clear hr9
            go_wp2_with fail
            refine HSH2.out.mono ?_
            rintro e w15 ⟨rfl, hb15⟩
            have HP15 := Lib.hid (HP14.out.below hb15)
            clear hb15 HSH2 HP14
            go_wp2_with fail
            go_roundw
            case rel => exact ⟨i + 1, p5, _, by omega, by go_num, rfl, HP15⟩
            case measure => simp [intOf]; omega
      | false =>
        obtain ⟨w5, hw5⟩ : ∃ x, x = wo := ⟨_, rfl⟩
        subst hw5
        obtain ⟨p5, hp5⟩ : ∃ x, x = p1 := ⟨_, rfl⟩
        subst hp5
        have HI5 := HI
        clear HI
        have hpw5 := HI5.out.pw
        have hqw5 := HI5.out.qw
        have hne5 := HI5.out.ne
        have hpl5 := HI5.out.ord.lt
        have hql5 := HI5.out.ref.lt
        go_wp2_with (at_builtin; refine wpList_append_slat rfl (.tmp 46) (.tmp 51) 22 rfl w5.heap.size 37 i0 (.int .u16 0) 1 2 Try.underlying22 hi0 iz0 iz1 iz2 rfl (by decide) (.slice none 0 0) 0 [] rfl (World.ownsRow_nil _ _ _ _) x.ao xn x.cap x.b x.o (us x.L) rfl (HXO.out.below HI5.out.bel) us_one (by unfold maxLen; omega) (by omega) (Nat.le_refl _) ?_)
        intro v9 w9 hown9 hg9 _
        have hb9 : Below w5.heap.size w5 w9 := below_own (bz w5) (World.ownsRow_nil w5 w5.heap.size 37 1) hg9 (Nat.le_refl _) (Nat.le_refl _)
        obtain ⟨ao9, cap9, b9, o9, rfl, hs9, hbb9, hnum9⟩ := NumAt.own hown9 (HXN.out)
        have hidx9 := hs9.idx (P := Try.prog) (t := 22) Try.underlying22 size37 (by decide)
        have hz9 := hb9.size
        have HB9 := Lib.hid hb9
        have HBW9 := Lib.hid (HI5.out.bel.trans (hb9.mono HI5.out.bel.size))
        have hord9 : OrdAt (fun b => b ≠ q ∧ b < w5.heap.size) w9 p5 (ordN l i) := (HI5.out.ord.mono (S' := fun b => b ≠ q ∧ b < w5.heap.size) (fun b hb h => ⟨h, hb⟩)).below hb9
        have htk := take_any _ p5 key (ordN l i) x.L ao9 cap9 b9 o9 w9 hord9 (by rw [← HXN.out]; exact hs9) (by rw [← HXN.out]; omega) hxk
        rw [← HXN.out] at htk
        unfold TakePost at htk
        obtain ⟨B, hB⟩ : ∃ B, B = takeB (ordN l i) key x.L := ⟨_, rfl⟩
        obtain ⟨E, hE⟩ : ∃ E, E = takeE key x.L := ⟨_, rfl⟩
        rw [← hB, ← hE] at htk
        have HTK := Lib.hid htk
        have HB := Lib.hid hB
        have HE := Lib.hid hE
        have HS9 := Lib.hid hs9
        have HN9 := Lib.hid hnum9
        have HBB9 := Lib.hid hbb9
        obtain ⟨x0, x1, x2⟩ := CX.out _ HBW9.out
        clear hown9 hg9 hb9 hord9 htk hB hE hs9 hbb9 hnum9
        go_wp2_with fail
        refine HTK.out.mono ?_
        rintro e w10 ⟨rfl, ho10, hk10⟩
        have HO10 := Lib.hid ho10
        have HK10 := Lib.hid hk10
        have HBW10 := Lib.hid (kept_new HBW9.out hk10 (fun i hi e => by omega))
        have hz10 := hk10.size
        have hrt := fun W (hb : Below w10.heap.size w10 W) => rtake_any (fun b => b ≠ p5 ∧ b < w5.heap.size) q key M x.L x.ao x.cap x.b x.o W (((((HI5.out.ref.mono (T' := fun b => b ≠ p5 ∧ b < w5.heap.size) (fun b hb h => ⟨h, hb⟩)).below HB9.out).kept hk10 (by omega) (fun b _ _ hb => hb.1))).below hb) (by rw [← HXN.out]; exact (HXO.out.below HBW10.out).below hb) (by rw [← HXN.out]; omega) hxk (fun j => by have := HI5.out.len j; omega) HI5.out.wide
        rw [HI5.out.rel.takeB key x.L, ← HXN.out, ← HB.out, ← HE.out] at hrt
        have HRT := Lib.hid hrt
        have HS10 := Lib.hid (slat_kept HS9.out hk10 (fun hp e => by have := HBB9.out (by rw [us_len, ← HXN.out] at hp; omega); omega))
        replace HN9 : Hid (0 < xn → NumAt w10 xn b9 o9) := Lib.hid (fun hp => HN9.out.kept hk10 (fun e => by have := HBB9.out hp; omega))
        obtain ⟨x0, x1, x2⟩ := CX.out _ HBW10.out
        clear ho10 hk10 hrt HTK
        go_wp2_with fail
        go_region_held3 (fun w' => w'.cell? ⟨b, o + i * 3, none⟩ = some (.int .u8 key) ∧ w'.cell? ⟨b, o + i * 3 + 1, none⟩ = some (.slice x.ao xn x.cap)) (refine ⟨?_, ?_⟩ <;> (repeat (first | (with_reducible assumption) | (with_reducible apply keep_alloc) | (with_reducible apply keep_drew)))) ((go_at_call 18; refine (HRT.out _ (by repeat (first | (with_reducible exact bz w10) | (with_reducible apply Below.drew)))).mono ?_; rintro e w11 ⟨rfl, hr11, k11⟩; have HK11 : Hid (Kept (fun b => b = q) w10 w11) := Lib.hid (Kept.trans (S := fun b => b = q) (by repeat (first | (with_reducible exact Kept.refl _ w10) | (with_reducible apply Kept.drew))) k11 (fun _ _ h => h)); have HR11 := Lib.hid hr11; have HBW11 := Lib.hid (kept_new HBW10.out HK11.out (fun i hi e => by omega)); have y0 := (CX.out _ HBW11.out).1; have y1 := (CX.out _ HBW11.out).2.1; clear hr11 k11))
        have hsm := same_any x.L x.L ao9 x.ao cap9 b9 o9 x.cap x.b x.o w11 (by rw [← HXN.out]; exact slat_kept HS10.out HK11.out (fun hp e => by have := HBB9.out (by rw [us_len, ← HXN.out] at hp; omega); omega)) (by rw [← HXN.out]; exact HXO.out.below HBW11.out) (by rw [← HXN.out]; omega)
        unfold SamePost at hsm
        rw [← HXN.out, decide_eq_true (rfl : x.L = x.L)] at hsm
        have HSM := Lib.hid hsm
        replace HN9 : Hid (0 < xn → NumAt w11 xn b9 o9) := Lib.hid (fun hp => (HN9.out hp).kept HK11.out (fun e => by have := HBB9.out hp; omega))
        clear hsm HRT
        have x0 := y0
        have x1 := y1
        go_wp2_with fail
        refine HSM.out.mono ?_
        rintro e w12 ⟨rfl, hq12⟩
        have HQ12 := Lib.hid hq12.below
        replace HN9 : Hid (0 < xn → NumAt w12 xn b9 o9) := Lib.hid (fun hp => (HN9.out hp).below hq12.below)
        clear hq12 HSM x0 x1 y0 y1
        go_wp2_with fail
        go_loopw [14] (fun t14 wz => ∃ k : Nat, k ≤ xn ∧ t14 = .int .i64 k ∧ Hid (0 < xn → NumAt wz xn b9 o9) ∧ Hid (Kept (fun b => 0 < xn ∧ b = b9) w12 wz)) (fun t14 _ => xn - (intOf t14).toNat)
        case atStart => exact ⟨0, Nat.zero_le _, rfl, HN9, Lib.hid (Kept.refl _ _)⟩
        case round =>
          obtain ⟨k, hk, rfl, hnum, hkz⟩ := hrel
          by_cases hkl : k < xn
          · have k1 : (0 : Int) ≤ (k : Int) := by omega
            have k2 : (k : Int) < (xn : Int) := by omega
            have k3 : decide ((k : Int) < (xn : Int)) = true := decide_eq_true k2
            obtain ⟨y, hy, fy⟩ := hnum.out (by omega) k hkl
            go_wp2_with fail
            go_roundw
            case rel => exact ⟨k + 1, by omega, by go_num, Lib.hid (fun hp => (hnum.out hp).set _), Lib.hid (hkz.out.setCell (p := ⟨b9, o9 + k, none⟩) (fun _ => ⟨by omega, rfl⟩) _)⟩
            case measure => simp [intOf]; omega
          · have k2 : ¬ (k : Int) < (xn : Int) := by omega
            have k3 : decide ((k : Int) < (xn : Int)) = false := decide_eq_false k2
            have HP13 : Hid (PInv w wr p5 q (i + 1) l (rtakeM M x.key x.L)) := Lib.hid (HI5.out.took HX.out (by rw [← HXN.out]; omega) HB9.out (by rw [← HK.out]; exact HO10.out) HK10.out (by rw [← HK.out]; exact HR11.out) HK11.out HQ12.out hkz.out (fun b hb => by obtain ⟨h0, rfl⟩ := hb; have := HBB9.out h0; omega))
            obtain ⟨x0, x1, x2⟩ := CX.out _ HP13.out.bel
            have HSH := Lib.hid (shown_any _ _ p5 q key _ _ v wr HP13.out.ord HP13.out.ref HP13.out.rel hxk (fun j => by have := HP13.out.len j; omega))
            clear HN9 hnum hkz HO10 HK10 HR11 HK11 HQ12 HB9 HBW9 HBW10 HBW11 HS9 HS10 HBB9 hkl
            go_wp2_with fail
            refine HSH.out.mono ?_
            rintro e w14 ⟨rfl, hb14⟩
            have HP14 := Lib.hid (HP13.out.below hb14)
            have HSH2 := Lib.hid (shown_any _ _ p5 q (i % 9) _ _ v w14 HP14.out.ord HP14.out.ref HP14.out.rel (by omega) (fun j => by have := HP14.out.len j; omega))
            clear hb14 HSH HP13 x0 x1 x2
            have hrem : (i : Int).tmod 9 = ((i % 9 : Nat) : Int) := by rw [Int.tmod_eq_emod_of_nonneg (by omega)]; omega
            obtain ⟨r9, hr9⟩ : ∃ r, r = i % 9 := ⟨_, rfl⟩
            rw [← hr9] at hrem HSH2
            have hr9b : r9 < 9 := by omega
            have hwr9 : IntKind.u8.wrap (r9 : Int) = (r9 : Int) := by simp only [IntKind.wrap, IntKind.signed, IntKind.bits, Bool.false_and, Bool.false_eq_true, if_false]; omega
            have hwi9 : IntKind.i64.wrap (r9 : Int) = (r9 : Int) := IntWalk.i64_in _ (by omega)
            have HR9 := Lib.hid hr9
            clear hr9
            go_wp2_with fail
            refine HSH2.out.mono ?_
            rintro e w15 ⟨rfl, hb15⟩
            have HP15 := Lib.hid (HP14.out.below hb15)
            clear hb15 HSH2 HP14
            go_wp2_with fail
            go_roundw
            case rel => exact ⟨i + 1, p5, _, by omega, by go_num, rfl, HP15⟩
            case measure => simp [intOf]; omega
    · have i2 : ¬ (i : Int) < (n : Int) := by omega
      have i3 : decide ((i : Int) < (n : Int)) = false := decide_eq_false i2
      have hin : i = n := by omega
      subst hin
      have h32 := keyL_len HI.out.ord 0
      obtain ⟨L0, hL0⟩ : ∃ l0, l0 = keyL (ordN l i) 0 := ⟨_, rfl⟩
      have hof := of_any _ p1 0 (ordN l i) wr HI.out.ord (by decide)
      rw [← hL0] at hof h32
      rw [show ((0 : Nat) : Int) = 0 from rfl] at hof
      obtain ⟨gn, hgn⟩ : ∃ k, k = L0.length := ⟨_, rfl⟩
      have HOF := Lib.hid hof
      have HGN := Lib.hid hgn
      rw [← hgn] at h32
      obtain ⟨wo, hwo⟩ : ∃ x, x = wr := ⟨_, rfl⟩
      subst hwo
      clear hof hgn hL0 hlt
      go_wp2_with fail
      refine HOF.out.mono ?_
      rintro e w2 ⟨v2, rfl, hown2, hb2⟩
      rw [← HGN.out] at hown2
      obtain ⟨ao9, cap9, b9, o9, rfl, hs9, hbb9, hnum9⟩ := NumAt.own hown2 HGN.out
      have hidx9 := hs9.idx (P := Try.prog) (t := 22) Try.underlying22 size37 (by decide)
      have HB2 := Lib.hid hb2
      have HN9 := Lib.hid hnum9
      have HBB9 := Lib.hid hbb9
      clear hown2 hs9 hbb9 hnum9 hb2 HOF
      go_wp2_with fail
      go_loopw [16] (fun t16 wz => ∃ k : Nat, k ≤ gn ∧ t16 = .int .i64 k ∧ Hid (NumAt wz gn b9 o9) ∧ Hid (Kept (fun b => 0 < gn ∧ b = b9) w2 wz)) (fun t16 _ => gn - (intOf t16).toNat)
      case atStart => exact ⟨0, Nat.zero_le _, rfl, HN9, Lib.hid (Kept.refl _ _)⟩
      case round =>
        obtain ⟨k, hk, rfl, hnum, hkz⟩ := hrel
        by_cases hkl : k < gn
        · have k1 : (0 : Int) ≤ (k : Int) := by omega
          have k2 : (k : Int) < (gn : Int) := by omega
          have k3 : decide ((k : Int) < (gn : Int)) = true := decide_eq_true k2
          obtain ⟨y, hy, fy⟩ := hnum.out k hkl
          go_wp2_with fail
          go_roundw
          case rel => exact ⟨k + 1, by omega, by go_num, Lib.hid (hnum.out.set _), Lib.hid (hkz.out.setCell (p := ⟨b9, o9 + k, none⟩) (fun _ => ⟨by omega, rfl⟩) _)⟩
          case measure => simp [intOf]; omega
        · have k2 : ¬ (k : Int) < (gn : Int) := by omega
          have k3 : decide ((k : Int) < (gn : Int)) = false := decide_eq_false k2
          have HP13 : Hid (PInv w wr p1 q i l M) := Lib.hid (HI.out.below (kept_new HB2.out hkz.out (fun j hj hb => by obtain ⟨h0, rfl⟩ := hb; have := HBB9.out h0; omega)))
          have hsh := shown_any _ _ p1 q 0 _ _ v wr HP13.out.ord HP13.out.ref HP13.out.rel (by decide) (fun j => by have := HP13.out.len j; omega)
          rw [show ((0 : Nat) : Int) = 0 from rfl] at hsh
          have HSH := Lib.hid hsh
          clear hsh HN9 hnum hkz HB2 HBB9 hkl
          go_wp2_with fail
          refine HSH.out.mono ?_
          rintro e w14 ⟨rfl, hb14⟩
          have HP14 := Lib.hid (HP13.out.below hb14)
          clear hb14 HSH HP13
          go_wp2_with fail
          refine (works_any _).mono ?_
          rintro e w15 ⟨rfl, hb15⟩
          have HP15 := Lib.hid (HP14.out.below hb15)
          clear hb15 HP14
          go_wp2
          go_ret
          exact ⟨rfl, HP15.out.bel⟩
end Go.Proofs.Ytggbcailaeebfaa
