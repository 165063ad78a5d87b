/- OrderGrows: an order only grows. -/
import Derived.Test.YtggbcailaeebfaaReads
import Derived.Deep.AppendLies
namespace Go.Proofs.Ytggbcailaeebfaa
open Go.RowKit Go.Um
set_option maxHeartbeats 1000000

theorem info35 : (Try.prog.info? 35).map (fun i => (i.zero, i.size, i.bytes)) = some (some (.agg #[.int .u8 0, .slice none 0 0, .bool false]), 3, 40) := by kernel_rfl
/-- the first n lists -/
def upTo (L : Nat → List Int) (n : Nat) : Nat → List Int := fun j => if j < n then L j else []
theorem upTo_lt {L : Nat → List Int} {j n : Nat} (_ : L = L) (h : j < n) : upTo L n j = L j := if_pos h
theorem upTo_succ (L : Nat → List Int) (n : Nat) : setL (upTo L n) n (L n) = upTo L (n + 1) := by
  funext j
  unfold setL upTo
  by_cases e : j = n
  · subst e; rw [if_pos rfl, if_pos (by omega)]
  · rw [if_neg e]
    by_cases h : j < n
    · rw [if_pos h, if_pos (by omega)]
    · rw [if_neg h, if_neg (by omega)]
/-- a row of eight lists -/
structure WasAt (S : Nat → Prop) (p g : Nat) (M : Nat → List Int) (w : World) : Prop where
  row : ∀ j, j < 8 → ∃ ao cap b o, w.cell? ⟨g, j, none⟩ = some (.slice ao (M j).length cap) ∧ w.frozen? ⟨g, j, none⟩ = false ∧ SlAt w 1 (M j).length (us (M j)) ao cap b o ∧ (0 < (M j).length → b ≠ g ∧ b ≠ p ∧ S b)
theorem WasAt.below {S : Nat → Prop} {p g : Nat} {M : Nat → List Int} {w w' : World} (h : WasAt S p g M w) (hb : Below w.heap.size w w') : WasAt S p g M w' := by
  refine ⟨fun j hj => ?_⟩
  obtain ⟨ao, cap, b, o, h1, h2, h3, h4⟩ := h.row j hj
  exact ⟨ao, cap, b, o, kc hb _ _ _ h1, kf hb _ _ (World.block_lt_of_cell? w _ h1) h2, h3.below hb, h4⟩
theorem WasAt.kept {S K : Nat → Prop} {p g : Nat} {M : Nat → List Int} {w w' : World} (h : WasAt S p g M w) (hk : Kept K w w') (hgp : ¬ K g) (hS : ∀ b, b ≠ p → S b → ¬ K b) : WasAt S p g M w' := by
  refine ⟨fun j hj => ?_⟩
  obtain ⟨ao, cap, b, o, h1, h2, h3, h4⟩ := h.row j hj
  refine ⟨ao, cap, b, o, hk.cell h1 hgp, (hk.frozen (World.block_lt_of_cell? w _ h1) hgp).trans h2, slat_kept h3 hk (fun hp => ?_), h4⟩
  have h5 := h4 (by rw [us_len] at hp; omega)
  exact hS b h5.2.1 h5.2.2
theorem WasAt.put {S : Nat → Prop} {p g k : Nat} {M : Nat → List Int} {w : World} {l : List Int} {ao : Option Addr} {cap b o : Nat} (h : WasAt S p g M w) (_ : k < 8) (hs : SlAt w 1 l.length (us l) ao cap b o) (hb : 0 < l.length → b ≠ g ∧ b ≠ p ∧ S b) :
    WasAt S p g (setL M k l) (w.setCell ⟨g, k, none⟩ (.slice ao l.length cap)) := by
  have hkp : ∀ (n : Nat) (cs : List Value) (ao' : Option Addr) (cap' b' o' : Nat), SlAt w 1 n cs ao' cap' b' o' → (0 < cs.length → b' ≠ g) → SlAt (w.setCell ⟨g, k, none⟩ (.slice ao l.length cap)) 1 n cs ao' cap' b' o' := by
    intro n cs ao' cap' b' o' h1 h2
    exact slat_kept h1 (Kept.setCell (S := fun j => j = g) (Kept.refl _ w) (fun _ => rfl) _) (fun hp e => h2 hp e)
  refine ⟨fun j hj => ?_⟩
  obtain ⟨ao1, cap1, b1, o1, h1, h2, h3, h4⟩ := h.row j hj
  unfold setL
  by_cases e : j = k
  · subst e
    rw [if_pos rfl]
    exact ⟨ao, cap, b, o, World.cell?_setCell_same _ _ _ h1, by rw [World.frozen?_setCell]; exact h2, hkp _ _ _ _ _ _ hs (fun hp => (hb (by rw [us_len] at hp; omega)).1), hb⟩
  · rw [if_neg e]
    exact ⟨ao1, cap1, b1, o1, by rw [World.cell?_setCell_other _ _ _ _ (by simp <;> omega)]; exact h1, by rw [World.frozen?_setCell]; exact h2, hkp _ _ _ _ _ _ h3 (fun hp => (h4 (by rw [us_len] at hp; omega)).1), h4⟩
theorem kept_of_grown {w w' : World} {row : Option Nat} (h : w.grownBy w' row) : Kept (fun b => row = some b) w w' :=
  ⟨h.os, h.tape, h.output, h.size, fun k hk hn => h.block k hk (fun e => hn e.symm)⟩

theorem grown_of_kept {p : Nat} {w w' : World} (h : Kept (fun b => b = p) w w') : w.grownBy w' (some p) :=
  ⟨h.os, h.tape, h.output, h.size, fun k hk hn => h.block k hk (fun e => hn (by rw [e]))⟩

theorem keep_alloc {w : World} {a : Addr} {v : Value} (h : w.cell? a = some v) (o : Obj) : (w.alloc o).cell? a = some v := cell_past (ba (bz w) o) h
theorem keep_drew {w : World} {a : Addr} {v : Value} (h : w.cell? a = some v) : w.drew.cell? a = some v := h

structure GInv (w : World) (p : Nat) (l : List Rd) (k : Nat) (t4 : Value) (wr : World) : Prop where
  ord : OrdAt (fun b => t4.ownBlock ≠ some b) wr p (ordN l k)
  own : wr.ownsRow w.heap.size 35 3 t4 (tkN l k).length ((tkN l k).flatMap Rd.cells)
  ne : t4.ownBlock ≠ some p
  bel : Below w.heap.size w wr
theorem GInv.below {w wr wr' : World} {p k : Nat} {l : List Rd} {t4 : Value} (h : GInv w p l k t4 wr) (hb : Below wr.heap.size wr wr') : GInv w p l k t4 wr' :=
  ⟨h.ord.below hb, own_past h.own hb, h.ne, h.bel.trans (hb.mono h.bel.size)⟩

theorem grows_not (l : List Rd) (ao : Option Addr) (cap b o : Nat) (w : World) (hf : Calls Try.prog 12 #[.slice ao l.length cap] w fun e w' => e = .returned (.bool false) ∧ w = w') :
    Calls Try.prog 4 #[.slice ao l.length cap] w fun e w' => e = .returned (.bool true) ∧ Below w.heap.size w w' := by
  have HF := Lib.hid hf
  clear hf
  go_enter Try.func4, Try.ntmps4
  go_wp2_with fail
  refine HF.out.mono ?_
  rintro e w1 ⟨rfl, rfl⟩
  go_wp2_with fail
  refine (works_any _).mono ?_
  rintro e w4 ⟨rfl, hb4⟩
  go_wp2
  go_ret
  exact ⟨rfl, hb4⟩

set_option maxRecDepth 100000 in
theorem grows_any (l : List Rd) (ao : Option Addr) (cap b o : Nat) (w : World) (h : SlAt w 3 l.length (l.flatMap Rd.cells) ao cap b o) (hok : ∀ x ∈ l, x.Ok w) :
    Calls Try.prog 4 #[.slice ao l.length cap] w fun e w' => e = .returned (.bool true) ∧ Below w.heap.size w w' := by
  obtain ⟨i5, hi5, iz0, iz1, iz2⟩ := info_parts info35
  have hidx := h.idx (P := Try.prog) (t := 25) Try.underlying25 size35 (by decide)
  have HF := Lib.hid (few_any l ao cap b o w h)
  have HA := Lib.hid h
  have HOK := Lib.hid hok
  clear h hok
  go_enter Try.func4, Try.ntmps4
  go_wp2_with fail
  refine HF.out.mono ?_
  rintro e w1 ⟨fb, rfl, hfew, rfl⟩
  cases fb with
  | false =>
    clear hfew
    go_wp2_with fail
    refine (works_any _).mono ?_
    rintro e w4 ⟨rfl, hb4⟩
    go_wp2
    go_ret
    exact ⟨rfl, hb4⟩
  | true =>
    obtain ⟨hl50, h40⟩ := hfew rfl
    have H40 := Lib.hid h40
    clear hfew h40
    go_wp2_with fail
    refine (new_any _).mono ?_
    rintro e w1 ⟨rfl, ho1, hb1, hz1⟩
    obtain ⟨p, hp⟩ : ∃ p, p = w.heap.size := ⟨_, rfl⟩
    rw [← hp] at ho1 ⊢
    have hwp : w.heap.size ≤ p := by omega
    have HG0 : Hid (GInv w p l 0 (.slice none 0 0) w1) := ⟨ho1.mono (fun _ _ h => h.elim), World.ownsRow_nil _ _ _ _, by simp [Value.ownBlock], hb1⟩
    clear ho1 hb1 hz1 hp
    go_wp2_with fail
    go_loopw [4, 5] (fun t4 t5 wr => ∃ k : Nat, k ≤ l.length ∧ t5 = .int .i64 k ∧ Hid (GInv w p l k t4 wr)) (fun _ t5 _ => l.length - (intOf t5).toNat)
    case atStart => exact ⟨0, Nat.zero_le _, rfl, HG0.out⟩
    case round =>
      obtain ⟨w0, hw0⟩ : ∃ w0, w0 = wr := ⟨_, rfl⟩
      subst hw0
      obtain ⟨k, hk, rfl, hinv⟩ := hrel
      have hsz := hinv.out.bel.size
      by_cases hlt : k < l.length
      · obtain ⟨x, hx⟩ : ∃ x, l[k]? = some x := ⟨_, List.getElem?_eq_getElem hlt⟩
        have hxo := HOK.out x (List.mem_of_getElem? hx)
        have hx40 := H40.out x (List.mem_of_getElem? hx)
        obtain ⟨L, hL⟩ : ∃ L, L = ordN l k := ⟨_, rfl⟩
        obtain ⟨g, hg⟩ : ∃ g, g = w0.heap.size := ⟨_, rfl⟩
        have hpg : p < g := by rw [hg]; exact hinv.out.ord.lt
        have hg0 : w0.heap.size ≤ g := by omega
        have hwas0 : WasAt (fun b => u4.ownBlock ≠ some b) p g (upTo L 0) (w0.alloc (.cells #[.slice none 0 0, .slice none 0 0, .slice none 0 0, .slice none 0 0, .slice none 0 0, .slice none 0 0, .slice none 0 0, .slice none 0 0] 29)) := by
          subst hg
          refine ⟨fun j hj => ⟨none, 0, 0, 0, ?_, by simp [go_sem], slat_none _, fun h => absurd h (by simp [upTo])⟩⟩
          rcases (by omega : j = 0 ∨ j = 1 ∨ j = 2 ∨ j = 3 ∨ j = 4 ∨ j = 5 ∨ j = 6 ∨ j = 7) with rfl | rfl | rfl | rfl | rfl | rfl | rfl | rfl <;> simp [go_sem, upTo]
        have hord0 : OrdAt (fun b => b ≠ g ∧ u4.ownBlock ≠ some b) (w0.alloc (.cells #[.slice none 0 0, .slice none 0 0, .slice none 0 0, .slice none 0 0, .slice none 0 0, .slice none 0 0, .slice none 0 0, .slice none 0 0] 29)) p L := by rw [hL]; exact (hinv.out.ord.mono (S' := fun b => b ≠ g ∧ u4.ownBlock ≠ some b) (fun b hb hq => ⟨by omega, hq⟩)).below (ba (bz w0) _)
        have HX := Lib.hid hx
        have HXO := Lib.hid hxo
        have HL := Lib.hid hL
        have HGG := Lib.hid hg
        have HW0 := Lib.hid hwas0
        have HO0 := Lib.hid hord0
        clear hx hxo hL hwas0 hord0
        go_wp2_with fail
        rw [← hg]
        clear hg
        obtain ⟨w2, hw2⟩ : ∃ w2, w2 = w0.alloc (.cells #[.slice none 0 0, .slice none 0 0, .slice none 0 0, .slice none 0 0, .slice none 0 0, .slice none 0 0, .slice none 0 0, .slice none 0 0] 29) := ⟨_, rfl⟩
        rw [← hw2] at HW0 HO0 ⊢
        have HB2 : Hid (Below w0.heap.size w0 w2) := by rw [hw2]; exact ba (bz w0) _
        have hgz2 : g < w2.heap.size := by rw [hw2, HGG.out]; simp
        clear hw2
        go_loopw [7] (fun t7 wq => ∃ j : Nat, j ≤ 8 ∧ t7 = .int .u8 j ∧ Hid (OrdAt (fun b => b ≠ g ∧ u4.ownBlock ≠ some b) wq p L) ∧ Hid (WasAt (fun b => u4.ownBlock ≠ some b) p g (upTo L j) wq) ∧ Hid (Kept (fun b => b = g) w2 wq)) (fun t7 _ => 8 - (intOf t7).toNat)
        case atStart => exact ⟨0, Nat.zero_le _, rfl, HO0.out, HW0.out, Kept.refl _ _⟩
        case round =>
          obtain ⟨j, hj, rfl, hord, hwas, hkept⟩ := hrel
          have hszq := hkept.out.size
          by_cases hj8 : j < 8
          · have hof := of_any _ p j L _ hord.out (by omega)
            rw [show keyL L j = L j from if_pos hj8] at hof
            obtain ⟨ao5, cap5, b5, o5, c5, f5, _, _⟩ := hwas.out.row j hj8
            have HOF := Lib.hid hof
            have hgw := World.block_lt_of_cell? _ _ c5
            have hpw := hord.out.lt
            have j0 : (0 : Int) ≤ (j : Int) := by omega
            have j1 : (j : Int) < 8 := by omega
            clear hof
            go_wp2_with fail
            refine HOF.out.mono ?_
            rintro e w4 ⟨v4, rfl, hown4, hb4⟩
            obtain ⟨ao6, cap6, b6, o6, rfl, hs6, hb6⟩ := SlAt.owned hown4
            have c5' := kc hb4 _ _ _ c5
            have f5' := kf hb4 _ _ hgw f5
            have HS6 := Lib.hid hs6
            have HB6 := Lib.hid hb6
            have HB4 := Lib.hid hb4
            clear hown4 hs6 hb6 hb4
            go_wp2_with fail
            have hb6 : 0 < (L j).length → b6 ≠ g ∧ b6 ≠ p ∧ u4.ownBlock ≠ some b6 := fun hq => by
              have := HB6.out (by rw [us_len]; omega)
              exact ⟨by omega, by omega, fun e => by have := (hinv.out.own.lt b6 e).2; omega⟩
            have hwas2 := (hwas.out.below HB4.out).put (k := j) hj8 HS6.out hb6
            rw [upTo_succ] at hwas2
            go_roundw
            case rel =>
              refine ⟨j + 1, by omega, by go_num, ?_, hwas2, ?_⟩
              · exact (hord.out.below HB4.out).kept (Kept.setCell (S := fun b => b = g) (Kept.refl _ w4) (p := ⟨g, j, none⟩) (fun _ => rfl) (.slice ao6 (L j).length cap6)) (by omega) (fun b _ hb e => hb.1 e)
              · exact Kept.setCell (S := fun b => b = g) (hkept.out.trans (S' := fun b => b = g) ((Kept.of_below HB4.out).mono (fun i hi h => absurd h (by omega))) (fun _ _ h => h)) (p := ⟨g, j, none⟩) (fun _ => rfl) _
            case measure => simp [intOf]; omega
          · obtain rfl : j = 8 := by omega
            have hB3 : Below w.heap.size w wr := kept_new (hinv.out.bel.trans (HB2.out.mono hsz)) hkept.out (fun i hi e => by omega)
            obtain ⟨x0, x1, x2⟩ := rd_at (HA.out.below' hB3 HA.out.lt) HX.out
            have hbp : b ≠ p := fun e => by
              have h5 := HA.out.lt (by rw [length_flat Rd.three]; omega)
              omega
            have hgwr := World.block_lt_of_cell? _ _ (hwas.out.row 0 (by decide)).choose_spec.choose_spec.choose_spec.choose_spec.1
            have htk : ∀ W, Below wr.heap.size wr W → Calls Try.prog 15 #[.pointer (some ⟨p, 0, none⟩), .int .u8 x.key, .slice x.ao x.L.length x.cap] W (TakePost (fun b => b ≠ g ∧ u4.ownBlock ≠ some b) p x.key L x.L W) := fun W hb =>
              take_any (fun b => b ≠ g ∧ u4.ownBlock ≠ some b) p x.key L x.L x.ao x.cap x.b x.o W (hord.out.below hb) ((HXO.out.at'.below hB3).below hb) (by omega) HXO.out.key
            unfold TakePost at htk
            have hOS : ordN l (k + 1) = takeL L x.key x.L := by rw [ordN_succ HX.out, ← HL.out]
            have hTS := tkN_succ HX.out
            rw [← HL.out] at hTS
            have hgr := takeL_grows L x.key x.L
            have hot := takeL_other L x.key x.L
            have hBE := fun h => (takeB_E (L := L) (k := x.key) (l := x.L) h).1
            have hl32 : ∀ j, j < 8 → (L j).length ≤ 32 := fun j hj => (hord.out.row j hj).choose_spec.choose_spec.choose_spec.choose_spec.2.2.2.2
            obtain ⟨B, hB⟩ : ∃ B, B = takeB L x.key x.L := ⟨_, rfl⟩
            obtain ⟨E, hE⟩ : ∃ E, E = takeE x.key x.L := ⟨_, rfl⟩
            obtain ⟨L', hL'⟩ : ∃ L', L' = takeL L x.key x.L := ⟨_, rfl⟩
            rw [← hB, ← hE, ← hL'] at htk
            rw [← hL'] at hOS hgr hot
            rw [← hB] at hTS hot hBE
            rw [← hE] at hBE
            obtain ⟨xkey, hxk⟩ : ∃ xkey, xkey = x.key := ⟨_, rfl⟩
            obtain ⟨xn, hxn⟩ : ∃ xn, xn = x.L.length := ⟨_, rfl⟩
            have hxc : x.cells = [.int .u8 xkey, .slice x.ao xn x.cap, .bool x.cop] := by rw [hxk, hxn]; rfl
            rw [← hxk] at x0 htk hot
            rw [← hxn] at x1 htk
            have HXK := Lib.hid hxk
            have HTK := Lib.hid htk
            have HOS := Lib.hid hOS
            have HTS := Lib.hid hTS
            have HGR := Lib.hid hgr
            have HOT := Lib.hid hot
            have HL32 := Lib.hid hl32
            have HB3 := Lib.hid hB3
            have HXC := Lib.hid hxc
            have hpw := hord.out.lt
            have hown3 := (own_past hinv.out.own HB2.out).kept (grown_of_kept hkept.out) (.inr (fun e => by have := (hinv.out.own.lt g e).2; omega))
            have hult : ∀ q, u4.ownBlock = some q → q < wr.heap.size := fun q e => (hown3.lt q e).2
            have htl := tkN_len l k
            have HOWN3 := Lib.hid hown3
            have HULT := Lib.hid hult
            clear hown3 hult
            clear hOS hTS hgr hot hl32 hB hE hL' hxk hxn htk hB3 hxc
            cases B with
            | false =>
              clear hBE
              go_wp2_with fail
              go_region_held3 (fun w' => w'.cell? ⟨b, o + k * 3, none⟩ = some (.int .u8 xkey) ∧ w'.cell? ⟨b, o + k * 3 + 1, none⟩ = some (.slice x.ao xn x.cap)) (refine ⟨?_, ?_⟩ <;> (repeat (first | (with_reducible assumption) | (with_reducible apply keep_alloc) | (with_reducible apply keep_drew)))) ((go_at_call 15; refine (HTK.out _ (by repeat (first | (with_reducible exact bz wr) | (with_reducible apply Below.drew)))).mono ?_; rintro e w3 ⟨rfl, ho3, k3⟩; have HK3 : Hid (Kept (fun b => b = p) wr w3) := Kept.trans (S := fun b => b = p) (by repeat (first | (with_reducible exact Kept.refl _ wr) | (with_reducible apply Kept.drew))) k3 (fun _ _ h => h); have x0' := HK3.out.cell x0 hbp; have x1' := HK3.out.cell x1 hbp; have x2' := HK3.out.cell x2 hbp; have HO3 : Hid (OrdAt (fun b => u4.ownBlock ≠ some b) w3 p L') := ho3.mono (fun b _ hb => hb.elim (fun h => h.2) (fun h e => by have := HULT.out b e; simp at h; omega)); clear ho3 k3))
              have HOWN4 := Lib.hid (HOWN3.out.kept (grown_of_kept HK3.out) (.inr hinv.out.ne))
              have HORD := HO3
              have HWAS := Lib.hid (WasAt.kept hwas.out HK3.out (by omega) (fun b hb _ e => hb e))
              have HB4 := Lib.hid (kept_new HB3.out HK3.out (fun i hi e => by omega))
              have hz4 := HB4.out.size
              have hgi : GInv w p l (k + 1) u4 w3 := ⟨by rw [HOS.out]; exact HORD.out, by rw [HTS.out, if_neg (by decide), List.append_nil]; exact HOWN4.out, hinv.out.ne, HB4.out⟩
              have GEND : Hid (∀ W, Below w3.heap.size w3 W → GInv w p l (k + 1) u4 W) := fun W hW => hgi.below hW
              clear hgi x0 x1 x2 x0' x1' x2' hpw
              go_wp2_with fail
              go_loopw [10] (fun t10 wz => ∃ j : Nat, j ≤ 8 ∧ t10 = .int .u8 j ∧ Hid (Below w3.heap.size w3 wz)) (fun t10 _ => 8 - (intOf t10).toNat)
              case atStart => exact ⟨0, Nat.zero_le _, rfl, bz _⟩
              case round =>
                obtain ⟨j, hj, rfl, hbz⟩ := hrel
                by_cases hj8 : j < 8
                · obtain ⟨ao5, cap5, b5, o5, c5, f5, hs5, _⟩ := (HWAS.out.below hbz.out).row j hj8
                  rw [show upTo L 8 j = L j from if_pos hj8] at c5 hs5
                  have x0 := (rd_at (HA.out.below' (HB4.out.trans (hbz.out.mono hz4)) HA.out.lt) HX.out).1
                  rw [← HXK.out] at x0
                  have hof := of_any _ p j L' _ (HORD.out.below hbz.out) (by omega)
                  rw [show keyL L' j = L' j from if_pos hj8] at hof
                  have hgr := HGR.out j
                  have hot := HOT.out j
                  have hl5 := HL32.out j hj8
                  obtain ⟨A, hA⟩ : ∃ A, A = L j := ⟨_, rfl⟩
                  obtain ⟨C, hC⟩ : ∃ C, C = L' j := ⟨_, rfl⟩
                  rw [← hA] at c5 hs5 hgr hot hl5
                  rw [← hC] at hof hgr hot
                  have HOF := Lib.hid hof
                  have HS5 := Lib.hid hs5
                  have HGJ := Lib.hid hgr
                  have HOJ := Lib.hid hot
                  have j0 : (0 : Int) ≤ (j : Int) := by omega
                  have j1 : (j : Int) < 8 := by omega
                  have hjk : (((j : Int) != (xkey : Int)) = true ∧ Hid (A.length = C.length)) ∨ (((j : Int) != (xkey : Int)) = false ∧ Hid (A.length = C.length)) := by
                    by_cases e : j = xkey
                    · right; exact ⟨by simp [e], Lib.hid (by rw [HOJ.out (.inr (by simp))])⟩
                    · left; exact ⟨by rw [bne_iff_ne]; omega, Lib.hid (by rw [HOJ.out (.inl e)])⟩
                  clear hA hC hof hs5 hgr hot
                  rcases hjk with ⟨jk, JL⟩ | ⟨jk, JL⟩
                  all_goals
                    go_wp2_with fail
                    refine HOF.out.mono ?_
                    rintro e w5 ⟨v5, rfl, hown5, hb5⟩
                    obtain ⟨ao6, cap6, b6, o6, rfl, hs6, _⟩ := SlAt.owned hown5
                    have x0' := kc hb5 _ _ _ x0
                    have c5' := kc hb5 _ _ _ c5
                    have hbeg := begins_any A C ao5 ao6 cap5 b5 o5 cap6 b6 o6 w5 (HS5.out.below hb5) hs6 (by omega)
                    rw [HGJ.out] at hbeg
                    have HBEG := Lib.hid hbeg
                    have HB5 := Lib.hid (hbz.out.trans (hb5.mono hbz.out.size))
                    clear hown5 hs6 hb5 hbeg
                    go_wp2_with fail
                    refine HBEG.out.mono ?_
                    rintro e w6 ⟨rfl, m, rfl⟩
                    try have jl := JL.out
                    go_wp2_with fail
                    go_roundw
                    case rel => exact ⟨j + 1, by omega, by go_num, below_drewN HB5.out m⟩
                    case measure => simp [intOf]; omega
                · obtain rfl : j = 8 := by omega
                  go_wp2_with fail
                  go_roundw
                  case rel => exact ⟨k + 1, by omega, by go_num, GEND.out _ hbz.out⟩
                  case measure => simp [intOf]; omega
            | true =>
              have he0 := hBE rfl
              subst he0
              clear hBE
              go_wp2_with fail
              go_region_held3 (fun w' => w'.cell? ⟨b, o + k * 3, none⟩ = some (.int .u8 xkey) ∧ w'.cell? ⟨b, o + k * 3 + 1, none⟩ = some (.slice x.ao xn x.cap)) (refine ⟨?_, ?_⟩ <;> (repeat (first | (with_reducible assumption) | (with_reducible apply keep_alloc) | (with_reducible apply keep_drew)))) ((go_at_call 15; refine (HTK.out _ (by repeat (first | (with_reducible exact bz wr) | (with_reducible apply Below.drew)))).mono ?_; rintro e w3 ⟨rfl, ho3, k3⟩; have HK3 : Hid (Kept (fun b => b = p) wr w3) := Kept.trans (S := fun b => b = p) (by repeat (first | (with_reducible exact Kept.refl _ wr) | (with_reducible apply Kept.drew))) k3 (fun _ _ h => h); have x0' := HK3.out.cell x0 hbp; have x1' := HK3.out.cell x1 hbp; have x2' := HK3.out.cell x2 hbp; have HO3 : Hid (OrdAt (fun b => u4.ownBlock ≠ some b) w3 p L') := ho3.mono (fun b _ hb => hb.elim (fun h => h.2) (fun h e => by have := HULT.out b e; simp at h; omega)); clear ho3 k3))
              have HOWN4 := Lib.hid (HOWN3.out.kept (grown_of_kept HK3.out) (.inr hinv.out.ne))
              have HB4a := Lib.hid (kept_new HB3.out HK3.out (fun i hi e => by omega))
              have hz4a := HB4a.out.size
              have hz3 := HK3.out.size
              go_wp2_with (at_builtin; refine wpList_append_lies _ rfl (.tmp 54) (.tmp 59) 25 rfl w.heap.size 35 i5 (.agg #[.int .u8 0, .slice none 0 0, .bool false]) 3 40 Try.underlying25 hi5 iz0 iz1 iz2 rfl (by decide) _ _ _ rfl (HOWN4.out.alloc _) ⟨w3.heap.size, 0, none⟩ 1 1 [.int .u8 xkey, .slice x.ao xn x.cap, .bool x.cop] rfl rfl (new_cells _ _ _ _ (by simp)) (by rw [← HXC.out]; exact x.one) (by decide) (by unfold maxLen; omega) (by omega) (by simp; omega) _ rfl ?_)
              intro gg cap2 w4 hown4 hgrow4 hat4 hlt4
              have HB4 := Lib.hid (below_own (HB4a.out.alloc hz4a _) (HOWN4.out.alloc _) hgrow4 (Nat.le_refl _) (by simp; omega))
              have hkg := kept_of_grown hgrow4
              have hpu : ¬ (u4.ownBlock = some p) := hinv.out.ne
              have HORD : Hid (OrdAt (fun b => u4.ownBlock ≠ some b ∧ b < w3.heap.size) w4 p L') := ((HO3.out.mono (S' := fun b => u4.ownBlock ≠ some b ∧ b < w3.heap.size) (fun b hb h => ⟨h, hb⟩)).below (ba (bz w3) _)).kept hkg hpu (fun b _ hb e => hb.1 e)
              have HWAS := Lib.hid (WasAt.kept ((WasAt.kept hwas.out HK3.out (by omega) (fun b hb _ e => hb e)).below (ba (bz w3) _)) hkg (fun e => by have := (hinv.out.own.lt g e).2; omega) (fun b _ hb e => hb e))
              have hz4 := HB4.out.size
              have hgi : GInv w p l (k + 1) (.slice (some ⟨gg, 0, none⟩) ((tkN l k).length + 1) cap2) w4 := by
                refine ⟨?_, ?_, ?_, HB4.out⟩
                · rw [HOS.out]
                  refine HORD.out.mono fun b _ hb e => ?_
                  obtain rfl : gg = b := by simpa [Value.ownBlock] using e
                  rcases hat4 with h | h
                  · exact hb.1 h
                  · first | omega | (simp at h; omega)
                · rw [HTS.out, if_pos trivial, List.flatMap_append, List.length_append]
                  simp only [List.flatMap_cons, List.flatMap_nil, List.append_nil, HXC.out, List.length_cons, List.length_nil]
                  exact hown4
                · intro e
                  obtain rfl : gg = p := by simpa [Value.ownBlock] using e
                  rcases hat4 with h | h
                  · exact hpu h
                  · first | omega | (simp at h; omega)
              have GEND : Hid (∀ W, Below w4.heap.size w4 W → GInv w p l (k + 1) (.slice (some ⟨gg, 0, none⟩) ((tkN l k).length + 1) cap2) W) := fun W hW => hgi.below hW
              clear hgi x0 x1 x2 x0' x1' x2' hpw hown4 hgrow4 hat4 hlt4 hkg hpu
              go_wp2_with fail
              go_loopw [10] (fun t10 wz => ∃ j : Nat, j ≤ 8 ∧ t10 = .int .u8 j ∧ Hid (Below w4.heap.size w4 wz)) (fun t10 _ => 8 - (intOf t10).toNat)
              case atStart => exact ⟨0, Nat.zero_le _, rfl, bz _⟩
              case round =>
                obtain ⟨j, hj, rfl, hbz⟩ := hrel
                by_cases hj8 : j < 8
                · obtain ⟨ao5, cap5, b5, o5, c5, f5, hs5, _⟩ := (HWAS.out.below hbz.out).row j hj8
                  rw [show upTo L 8 j = L j from if_pos hj8] at c5 hs5
                  have x0 := (rd_at (HA.out.below' (HB4.out.trans (hbz.out.mono hz4)) HA.out.lt) HX.out).1
                  rw [← HXK.out] at x0
                  have hof := of_any _ p j L' _ (HORD.out.below hbz.out) (by omega)
                  rw [show keyL L' j = L' j from if_pos hj8] at hof
                  have hgr := HGR.out j
                  have hot := HOT.out j
                  have hl5 := HL32.out j hj8
                  obtain ⟨A, hA⟩ : ∃ A, A = L j := ⟨_, rfl⟩
                  obtain ⟨C, hC⟩ : ∃ C, C = L' j := ⟨_, rfl⟩
                  rw [← hA] at c5 hs5 hgr hot hl5
                  rw [← hC] at hof hgr hot
                  have HOF := Lib.hid hof
                  have HS5 := Lib.hid hs5
                  have HGJ := Lib.hid hgr
                  have HOJ := Lib.hid hot
                  have j0 : (0 : Int) ≤ (j : Int) := by omega
                  have j1 : (j : Int) < 8 := by omega
                  have hjk : (((j : Int) != (xkey : Int)) = true ∧ Hid (A.length = C.length)) ∨ (((j : Int) != (xkey : Int)) = false) := by
                    by_cases e : j = xkey
                    · right; simp [e]
                    · left; exact ⟨by rw [bne_iff_ne]; omega, Lib.hid (by rw [HOJ.out (.inl e)])⟩
                  clear hA hC hof hs5 hgr hot
                  rcases hjk with ⟨jk, JL⟩ | jk
                  all_goals
                    go_wp2_with fail
                    refine HOF.out.mono ?_
                    rintro e w5 ⟨v5, rfl, hown5, hb5⟩
                    obtain ⟨ao6, cap6, b6, o6, rfl, hs6, _⟩ := SlAt.owned hown5
                    have x0' := kc hb5 _ _ _ x0
                    have c5' := kc hb5 _ _ _ c5
                    have hbeg := begins_any A C ao5 ao6 cap5 b5 o5 cap6 b6 o6 w5 (HS5.out.below hb5) hs6 (by omega)
                    rw [HGJ.out] at hbeg
                    have HBEG := Lib.hid hbeg
                    have HB5 := Lib.hid (hbz.out.trans (hb5.mono hbz.out.size))
                    clear hown5 hs6 hb5 hbeg
                    go_wp2_with fail
                    refine HBEG.out.mono ?_
                    rintro e w6 ⟨rfl, m, rfl⟩
                    try have jl := JL.out
                    go_wp2_with fail
                    go_roundw
                    case rel => exact ⟨j + 1, by omega, by go_num, below_drewN HB5.out m⟩
                    case measure => simp [intOf]; omega
                · obtain rfl : j = 8 := by omega
                  go_wp2_with fail
                  go_roundw
                  case rel => exact ⟨k + 1, by omega, by go_num, GEND.out _ hbz.out⟩
                  case measure => simp [intOf]; omega
      · obtain ⟨T, hT⟩ : ∃ T, T = tkN l k := ⟨_, rfl⟩
        obtain ⟨L, hL⟩ : ∃ L, L = ordN l k := ⟨_, rfl⟩
        have hown := hinv.out.own
        have hbg := tkN_begins l k
        have htm : ∀ x ∈ tkN l k, x ∈ l := tkN_mem
        have hord := hinv.out.ord
        have htl := tkN_len l k
        rw [← hT] at hown hbg htm htl
        have htl50 : T.length ≤ 50 := by omega
        rw [← hL] at hbg hord
        obtain ⟨ao7, cap7, b7, o7, hv7, hs7, _⟩ := SlAt.owned hown
        rw [hv7]
        have hidx7 := hs7.idx (P := Try.prog) (t := 25) Try.underlying25 size35 (by decide)
        have hTok : ∀ x ∈ T, x.Ok w0 := fun x hx => (HOK.out x (htm x hx)).below hinv.out.bel
        have hT40 : ∀ x ∈ T, x.L.length ≤ 40 := fun x hx => H40.out x (htm x hx)
        have kk1 : ¬ ((k : Int) < (l.length : Int)) := by omega
        have HS7 := Lib.hid hs7
        have HBG := Lib.hid hbg
        have HTO := Lib.hid hTok
        have HT40 := Lib.hid hT40
        have HORD := Lib.hid hord
        have HBEL := Lib.hid hinv.out.bel
        clear hT hL hown hbg htm hord hv7 hs7 hTok hT40
        go_wp2_with fail
        go_loopw [12] (fun t12 wz => ∃ i : Nat, i ≤ T.length ∧ t12 = .int .i64 i ∧ Hid (Below w0.heap.size w0 wz)) (fun t12 _ => T.length - (intOf t12).toNat)
        case atStart => exact ⟨0, Nat.zero_le _, rfl, bz _⟩
        case round =>
          obtain ⟨i, hi, rfl, hbz⟩ := hrel
          by_cases hiT : i < T.length
          · obtain ⟨x, hx⟩ : ∃ x, T[i]? = some x := ⟨_, List.getElem?_eq_getElem hiT⟩
            have hxm := List.mem_of_getElem? hx
            obtain ⟨x0, x1, x2⟩ := rd_at (HS7.out.below hbz.out) hx
            obtain ⟨hb8, hk8⟩ := HBG.out x hxm
            have hxo := HTO.out x hxm
            have hx40 := HT40.out x hxm
            have hof : ∀ W, Below wr.heap.size wr W → Calls Try.prog 14 #[.pointer (some ⟨p, 0, none⟩), .int .u8 x.key] W (OwnPost (L x.key) W) := fun W hb => by
              have h5 := of_any _ p x.key L W ((HORD.out.below hbz.out).below hb) hxo.key
              rwa [show keyL L x.key = L x.key from if_pos hk8] at h5
            have hbe : ∀ ao6 cap6 b6 o6 W, SlAt W 1 (L x.key).length (us (L x.key)) ao6 cap6 b6 o6 → Below wr.heap.size wr W → Calls Try.prog 10 #[.slice x.ao x.L.length x.cap, .slice ao6 (L x.key).length cap6] W (fun e w' => e = .returned (.bool true) ∧ Qt W w') := fun ao6 cap6 b6 o6 W h6 hb => by
              have h5 := begins_any x.L (L x.key) x.ao ao6 x.cap x.b x.o cap6 b6 o6 W ((hxo.at'.below hbz.out).below hb) h6 (by omega)
              rwa [hb8] at h5
            have i0 : (0 : Int) ≤ (i : Int) := by omega
            have i1 : (i : Int) < (T.length : Int) := by omega
            have HOF := Lib.hid hof
            have HBE := Lib.hid hbe
            clear hx hxm hb8 hxo hof hbe
            go_wp2_with fail
            go_region_held3 (fun w' => w'.cell? ⟨b7, o7 + i * 3, none⟩ = some (.int .u8 x.key) ∧ w'.cell? ⟨b7, o7 + i * 3 + 1, none⟩ = some (.slice x.ao x.L.length x.cap)) (refine ⟨?_, ?_⟩ <;> (repeat (first | (with_reducible assumption) | (with_reducible apply keep_alloc) | (with_reducible apply keep_drew)))) (first
              | (go_at_call 14; refine (HOF.out _ (by repeat (first | (with_reducible exact bz wr) | (with_reducible apply ba) | (with_reducible apply Below.drew) | (with_reducible apply below_drewN)))).mono ?_; rintro e w3 ⟨v3, rfl, hown3, hb3⟩; have hB3 : Below wr.heap.size wr w3 := bt (by repeat (first | (with_reducible exact bz wr) | (with_reducible apply ba) | (with_reducible apply Below.drew) | (with_reducible apply below_drewN))) hb3; have x0' := cell_past hB3 x0; have x1' := cell_past hB3 x1; obtain ⟨ao3, cap3, b3, o3, rfl, hs3, _⟩ := SlAt.owned hown3; have HS3 := Lib.hid hs3; have HB3 := Lib.hid hB3; clear hown3 hs3 hb3 hB3)
              | (go_at_call 10; refine (HBE.out _ _ _ _ _ (HS3.out.below (by repeat (first | (with_reducible exact bz w3) | (with_reducible apply ba) | (with_reducible apply Below.drew) | (with_reducible apply below_drewN)))) (by repeat (first | (with_reducible exact HB3.out) | (with_reducible apply ba) | (with_reducible apply Below.drew) | (with_reducible apply below_drewN)))).mono ?_; rintro e w4 ⟨rfl, hq4⟩; have HB4 : Hid (Below w3.heap.size w3 w4) := bt (by repeat (first | (with_reducible exact bz w3) | (with_reducible apply ba) | (with_reducible apply Below.drew) | (with_reducible apply below_drewN))) hq4.below; have x0'' := cell_past HB4.out x0'; have x1'' := cell_past HB4.out x1'; clear hq4))
            go_wp2_with fail
            go_roundw
            case rel => exact ⟨i + 1, by omega, by go_num, bt (bt hbz.out HB3.out) HB4.out⟩
            case measure => simp [intOf]; omega
          · have iT : ¬ ((i : Int) < (T.length : Int)) := by omega
            go_wp2_with fail
            refine (works_any _).mono ?_
            rintro e w4 ⟨rfl, hb4⟩
            go_wp2
            go_ret
            exact ⟨rfl, bt (HBEL.out.trans (hbz.out.mono hsz)) hb4⟩
end Go.Proofs.Ytggbcailaeebfaa
