/- OrderApart: a read that is not taken has a number twice, or parts from one that was taken; it stays out. -/
import Derived.Test.YtggbcailaeebfaaApart
import Derived.Test.YtggbcailaeebfaaGrowsw
namespace Go.Proofs.Ytggbcailaeebfaa
open Go.RowKit Go.Um
set_option maxHeartbeats 1000000

structure Inv2 (w : World) (p : Nat) (L : Nat → List Int) (A B : List Rd) (t4 t5 : Value) (wr : World) : Prop where
  ord : OrdAt (fun b => t4.ownBlock ≠ some b ∧ t5.ownBlock ≠ some b) wr p L
  own4 : wr.ownsRow w.heap.size 35 3 t4 A.length (A.flatMap Rd.cells)
  own5 : wr.ownsRow w.heap.size 35 3 t5 B.length (B.flatMap Rd.cells)
  ne4 : t4.ownBlock ≠ some p
  ne5 : t5.ownBlock ≠ some p
  ap : ∀ g, t4.ownBlock = some g → t5.ownBlock ≠ some g
  bel : Below w.heap.size w wr
theorem Inv2.below {w wr wr' : World} {p : Nat} {L : Nat → List Int} {A B : List Rd} {t4 t5 : Value} (h : Inv2 w p L A B t4 t5 wr) (hb : Below wr.heap.size wr wr') : Inv2 w p L A B t4 t5 wr' :=
  ⟨h.ord.below hb, own_past h.own4 hb, own_past h.own5 hb, h.ne4, h.ne5, h.ap, h.bel.trans (hb.mono h.bel.size)⟩
theorem Inv2.take {w wr w3 : World} {p : Nat} {L L' : Nat → List Int} {A B : List Rd} {t4 t5 : Value} {S : Nat → Prop} {N : Nat} (h : Inv2 w p L A B t4 t5 wr) (hwp : w.heap.size ≤ p) (ho : OrdAt (fun b => S b ∨ N ≤ b) w3 p L') (hS : ∀ b, S b → t4.ownBlock ≠ some b ∧ t5.ownBlock ≠ some b) (hN : wr.heap.size ≤ N) (hk : Kept (fun b => b = p) wr w3) : Inv2 w p L' A B t4 t5 w3 := by
  refine ⟨ho.mono fun b _ hb => ?_, h.own4.kept (grown_of_kept hk) (.inr h.ne4), h.own5.kept (grown_of_kept hk) (.inr h.ne5), h.ne4, h.ne5, h.ap, kept_new h.bel hk (fun i hi e => by omega)⟩
  rcases hb with hb | hb
  · exact hS b hb
  · exact ⟨fun e => by have := (h.own4.lt b e).2; omega, fun e => by have := (h.own5.lt b e).2; omega⟩
theorem Inv2.put4 {w wr w2 : World} {p : Nat} {L : Nat → List Int} {A B : List Rd} {t4 t5 : Value} {x : Rd} {g cap H : Nat} (h : Inv2 w p L A B t4 t5 wr) (hg : wr.grownBy w2 t4.ownBlock)
    (ho : w2.ownsRow w.heap.size 35 3 (.slice (some ⟨g, 0, none⟩) (A.length + 1) cap) (A.length + 1) (A.flatMap Rd.cells ++ x.cells)) (hH : H = wr.heap.size) (hat : t4.ownBlock = some g ∨ g = H) :
    Inv2 w p L (A ++ [x]) B (.slice (some ⟨g, 0, none⟩) (A.length + 1) cap) t5 w2 := by
  have hk := kept_of_grown hg
  have hlt := h.ord.lt
  refine ⟨?_, by simpa using ho, h.own5.kept hg ?_, ?_, h.ne5, ?_, below_own h.bel h.own4 hg (Nat.le_refl _) h.bel.size⟩
  · refine ((h.ord.mono (S' := fun b => (t4.ownBlock ≠ some b ∧ t5.ownBlock ≠ some b) ∧ b < wr.heap.size) (fun b hb h => ⟨h, hb⟩)).kept hk h.ne4 (fun b _ hb e => hb.1.1 e)).mono fun b _ hb => ⟨fun e => ?_, hb.1.2⟩
    obtain rfl : g = b := by simpa [Value.ownBlock] using e
    rcases hat with h5 | h5
    · exact hb.1.1 h5
    · omega
  · cases h4 : t4.ownBlock with
    | none => cases t5.ownBlock <;> simp
    | some q => exact .inr (h.ap q h4)
  · intro e
    obtain rfl : g = p := by simpa [Value.ownBlock] using e
    rcases hat with h5 | h5
    · exact h.ne4 h5
    · omega
  · intro q e
    obtain rfl : g = q := by simpa [Value.ownBlock] using e
    rcases hat with h5 | h5
    · exact h.ap g h5
    · intro e5
      have := (h.own5.lt g e5).2
      omega
theorem Inv2.put5 {w wr w2 : World} {p : Nat} {L : Nat → List Int} {A B : List Rd} {t4 t5 : Value} {x : Rd} {g cap H : Nat} (h : Inv2 w p L A B t4 t5 wr) (hg : wr.grownBy w2 t5.ownBlock)
    (ho : w2.ownsRow w.heap.size 35 3 (.slice (some ⟨g, 0, none⟩) (B.length + 1) cap) (B.length + 1) (B.flatMap Rd.cells ++ x.cells)) (hH : H = wr.heap.size) (hat : t5.ownBlock = some g ∨ g = H) :
    Inv2 w p L A (B ++ [x]) t4 (.slice (some ⟨g, 0, none⟩) (B.length + 1) cap) w2 := by
  have hk := kept_of_grown hg
  have hlt := h.ord.lt
  refine ⟨?_, h.own4.kept hg ?_, by simpa using ho, h.ne4, ?_, ?_, below_own h.bel h.own5 hg (Nat.le_refl _) h.bel.size⟩
  · refine ((h.ord.mono (S' := fun b => (t4.ownBlock ≠ some b ∧ t5.ownBlock ≠ some b) ∧ b < wr.heap.size) (fun b hb h => ⟨h, hb⟩)).kept hk h.ne5 (fun b _ hb e => hb.1.2 e)).mono fun b _ hb => ⟨hb.1.1, fun e => ?_⟩
    obtain rfl : g = b := by simpa [Value.ownBlock] using e
    rcases hat with h5 | h5
    · exact hb.1.2 h5
    · omega
  · cases h4 : t4.ownBlock with
    | none => exact .inl rfl
    | some q => exact .inr (fun e => h.ap q h4 e.symm)
  · intro e
    obtain rfl : g = p := by simpa [Value.ownBlock] using e
    rcases hat with h5 | h5
    · exact h.ne5 h5
    · omega
  · intro q e e5
    obtain rfl : g = q := by simpa [Value.ownBlock] using e5
    rcases hat with h5 | h5
    · exact h.ap g e h5
    · have := (h.own4.lt g e).2
      omega

set_option maxRecDepth 100000 in
theorem apart_any (l : List Rd) (ao : Option Addr) (cap b o : Nat) (w : World) (h : SlAt w 3 l.length (l.flatMap Rd.cells) ao cap b o) (hok : ∀ x ∈ l, x.Ok w) :
    Calls Try.prog 6 #[.slice ao l.length cap] w fun e w' => e = .returned (.bool true) ∧ Below w.heap.size w w' := by
  obtain ⟨i5, hi5, iz0, iz1, iz2⟩ := info_parts info35
  have hidx := h.idx (P := Try.prog) (t := 25) Try.underlying25 size35 (by decide)
  have HF := Lib.hid (few_any l ao cap b o w h)
  have HA := Lib.hid h
  have HOK := Lib.hid hok
  clear h hok
  go_enter Try.func6, Try.ntmps6
  go_wp2_with fail
  refine HF.out.mono ?_
  rintro e w1 ⟨fb, rfl, hfew, rfl⟩
  cases fb with
  | false =>
    clear hfew
    go_wp2_with fail
    refine (works_any _).mono ?_
    rintro e w4 ⟨rfl, hb4⟩
    go_wp2
    go_ret
    exact ⟨rfl, hb4⟩
  | true =>
    obtain ⟨hl50, h40⟩ := hfew rfl
    have H40 := Lib.hid h40
    clear hfew h40
    go_wp2_with fail
    refine (new_any _).mono ?_
    rintro e w1 ⟨rfl, ho1, hb1, hz1⟩
    obtain ⟨p, hp⟩ : ∃ p, p = w.heap.size := ⟨_, rfl⟩
    rw [← hp] at ho1 ⊢
    have hwp : w.heap.size ≤ p := by omega
    have HG0 : Hid (Inv2 w p (fun _ => []) [] [] (.slice none 0 0) (.slice none 0 0) w1) := ⟨ho1.mono (fun _ _ h => h.elim), World.ownsRow_nil _ _ _ _, World.ownsRow_nil _ _ _ _, by simp [Value.ownBlock], by simp [Value.ownBlock], by simp [Value.ownBlock], hb1⟩
    clear ho1 hb1 hz1 hp
    go_wp2_with fail
    go_loopw [4, 5, 6] (fun t4 t5 t6 wr => ∃ k : Nat, k ≤ l.length ∧ t6 = .int .i64 k ∧ Hid (Inv2 w p (ordN l k) (tkN l k) (lfN l k) t4 t5 wr)) (fun _ _ t6 _ => l.length - (intOf t6).toNat)
    case atStart => exact ⟨0, Nat.zero_le _, rfl, HG0.out⟩
    case round =>
      obtain ⟨w0, hw0⟩ : ∃ w0, w0 = wr := ⟨_, rfl⟩
      obtain ⟨k, hk, rfl, hinv⟩ := hrel
      have hsz := hinv.out.bel.size
      by_cases hlt : k < l.length
      · clear hw0
        obtain ⟨x, hx⟩ : ∃ x, l[k]? = some x := ⟨_, List.getElem?_eq_getElem hlt⟩
        have hxo := HOK.out x (List.mem_of_getElem? hx)
        have hx40 := H40.out x (List.mem_of_getElem? hx)
        obtain ⟨x0, x1, x2⟩ := rd_at (HA.out.below' hinv.out.bel HA.out.lt) hx
        have hbp : b ≠ p := fun e => by
          have h5 := HA.out.lt (by rw [length_flat Rd.three]; omega)
          omega
        have hS : ∀ b, (u4.ownBlock ≠ some b ∧ u5.ownBlock ≠ some b) → u4.ownBlock ≠ some b ∧ u5.ownBlock ≠ some b := fun b hb => hb
        have htk : ∀ W, Below wr.heap.size wr W → Calls Try.prog 15 #[.pointer (some ⟨p, 0, none⟩), .int .u8 x.key, .slice x.ao x.L.length x.cap] W (TakePost (fun b => u4.ownBlock ≠ some b ∧ u5.ownBlock ≠ some b) p x.key (ordN l k) x.L W) := fun W hb =>
          take_any _ p x.key (ordN l k) x.L x.ao x.cap x.b x.o W (hinv.out.ord.below hb) ((hxo.at'.below hinv.out.bel).below hb) (by omega) hxo.key
        unfold TakePost at htk
        have hOS := ordN_succ hx
        have hTS := tkN_succ hx
        have hLS := lfN_succ hx
        have hwhy := fun h1 h2 => left_why (l := l) (i := k) (x := x) h1 h2
        have hBE := fun h => (takeB_E (L := ordN l k) (k := x.key) (l := x.L) h).1
        obtain ⟨B, hB⟩ : ∃ B, B = takeB (ordN l k) x.key x.L := ⟨_, rfl⟩
        obtain ⟨E, hE⟩ : ∃ E, E = takeE x.key x.L := ⟨_, rfl⟩
        obtain ⟨L', hL'⟩ : ∃ L', L' = takeL (ordN l k) x.key x.L := ⟨_, rfl⟩
        rw [← hB, ← hE, ← hL'] at htk
        rw [← hL'] at hOS
        rw [← hB, ← hE] at hLS hwhy
        rw [← hB] at hTS hBE
        rw [← hE] at hBE
        obtain ⟨T, hT⟩ : ∃ T, T = tkN l k := ⟨_, rfl⟩
        obtain ⟨F, hF⟩ : ∃ F, F = lfN l k := ⟨_, rfl⟩
        have hTl := tkN_len l k
        have hFl := lfN_len l k
        have hTm : ∀ y ∈ tkN l k, y ∈ l := tkN_mem
        rw [← hT] at hTS hwhy hTl hTm hinv
        rw [← hF] at hLS hFl hinv
        obtain ⟨xkey, hxk⟩ : ∃ xkey, xkey = x.key := ⟨_, rfl⟩
        obtain ⟨xn, hxn⟩ : ∃ xn, xn = x.L.length := ⟨_, rfl⟩
        have hxc : x.cells = [.int .u8 xkey, .slice x.ao xn x.cap, .bool x.cop] := by rw [hxk, hxn]; rfl
        rw [← hxk] at x0 htk
        rw [← hxn] at x1 htk
        have HX := Lib.hid hx
        have HXO := Lib.hid hxo
        have HX40 := Lib.hid hx40
        have HXK := Lib.hid hxk
        have HXN := Lib.hid hxn
        have HXC := Lib.hid hxc
        have HTK := Lib.hid htk
        have HOS := Lib.hid hOS
        have HTS := Lib.hid hTS
        have HLS := Lib.hid hLS
        have HWHY := Lib.hid hwhy
        have HBE := Lib.hid hBE
        have HTM := Lib.hid hTm
        have HSS := Lib.hid hS
        clear hx hxo hx40 hxk hxn hxc htk hOS hTS hLS hwhy hBE hTm hB hE hL' hT hF hS
        by_cases he : E = 0
        · cases B with
          | true =>
            subst he
            go_wp2_with fail
            go_region_held3 (fun w' => w'.cell? ⟨b, o + k * 3, none⟩ = some (.int .u8 xkey) ∧ w'.cell? ⟨b, o + k * 3 + 1, none⟩ = some (.slice x.ao xn x.cap)) (refine ⟨?_, ?_⟩ <;> (repeat (first | (with_reducible assumption) | (with_reducible apply keep_alloc) | (with_reducible apply keep_drew)))) ((go_at_call 15; refine (HTK.out _ (by repeat (first | (with_reducible exact bz wr) | (with_reducible apply Below.drew)))).mono ?_; rintro e w3 ⟨rfl, ho3, k3⟩; have HK3 : Hid (Kept (fun b => b = p) wr w3) := Kept.trans (S := fun b => b = p) (by repeat (first | (with_reducible exact Kept.refl _ wr) | (with_reducible apply Kept.drew))) k3 (fun _ _ h => h); have x0' := HK3.out.cell x0 hbp; have x1' := HK3.out.cell x1 hbp; have x2' := HK3.out.cell x2 hbp; have HO3 := Lib.hid ho3; clear ho3 k3))
            have HI3 := Lib.hid (hinv.out.take hwp HO3.out HSS.out (by first | exact Nat.le_refl _ | (simp; done)) HK3.out)
            have hz3 := HI3.out.bel.size
            go_wp2_with (at_builtin; refine wpList_append_lies _ rfl (.tmp 45) (.tmp 50) 25 rfl w.heap.size 35 i5 (.agg #[.int .u8 0, .slice none 0 0, .bool false]) 3 40 Try.underlying25 hi5 iz0 iz1 iz2 rfl (by decide) _ _ _ rfl (HI3.out.own4.alloc _) ⟨w3.heap.size, 0, none⟩ 1 1 [.int .u8 xkey, .slice x.ao xn x.cap, .bool x.cop] rfl rfl (new_cells _ _ _ _ (by simp)) (by rw [← HXC.out]; exact x.one) (by decide) (by unfold maxLen; omega) (by omega) (by simp; omega) _ rfl ?_)
            intro gg cap2 w4 hown4 hgrow4 hat4 hlt4
            rw [← HXC.out] at hown4
            have HI4 := Lib.hid ((HI3.out.below (ba (bz w3) _)).put4 (x := x) hgrow4 hown4 (by simp) hat4)
            clear hown4 hgrow4 hat4 hlt4
            go_wp2_with fail
            go_roundw
            case rel => exact ⟨k + 1, by omega, by go_num, by rw [HOS.out, HTS.out, HLS.out, if_pos trivial, if_neg (by simp), List.append_nil]; exact HI4.out⟩
            case measure => simp [intOf]; omega
          | false =>
            have hW := HWHY.out rfl he
            have HW := Lib.hid hW
            subst he
            clear hW
            go_wp2_with fail
            go_region_held3 (fun w' => w'.cell? ⟨b, o + k * 3, none⟩ = some (.int .u8 xkey) ∧ w'.cell? ⟨b, o + k * 3 + 1, none⟩ = some (.slice x.ao xn x.cap)) (refine ⟨?_, ?_⟩ <;> (repeat (first | (with_reducible assumption) | (with_reducible apply keep_alloc) | (with_reducible apply keep_drew)))) ((go_at_call 15; refine (HTK.out _ (by repeat (first | (with_reducible exact bz wr) | (with_reducible apply Below.drew)))).mono ?_; rintro e w3 ⟨rfl, ho3, k3⟩; have HK3 : Hid (Kept (fun b => b = p) wr w3) := Kept.trans (S := fun b => b = p) (by repeat (first | (with_reducible exact Kept.refl _ wr) | (with_reducible apply Kept.drew))) k3 (fun _ _ h => h); have x0' := HK3.out.cell x0 hbp; have x1' := HK3.out.cell x1 hbp; have x2' := HK3.out.cell x2 hbp; have HO3 := Lib.hid ho3; clear ho3 k3))
            have HI3 := Lib.hid (hinv.out.take hwp HO3.out HSS.out (by first | exact Nat.le_refl _ | (simp; done)) HK3.out)
            have hz3 := HI3.out.bel.size
            go_wp2_with (at_builtin; refine wpList_append_lies _ rfl (.tmp 52) (.tmp 57) 25 rfl w.heap.size 35 i5 (.agg #[.int .u8 0, .slice none 0 0, .bool false]) 3 40 Try.underlying25 hi5 iz0 iz1 iz2 rfl (by decide) _ _ _ rfl (HI3.out.own5.alloc _) ⟨w3.heap.size, 0, none⟩ 1 1 [.int .u8 xkey, .slice x.ao xn x.cap, .bool x.cop] rfl rfl (new_cells _ _ _ _ (by simp)) (by rw [← HXC.out]; exact x.one) (by decide) (by unfold maxLen; omega) (by omega) (by simp; omega) _ rfl ?_)
            intro gg cap2 w4 hown4 hgrow4 hat4 hlt4
            rw [← HXC.out] at hown4
            have HI4 := Lib.hid ((HI3.out.below (ba (bz w3) _)).put5 (x := x) hgrow4 hown4 (by simp) hat4)
            clear hown4 hgrow4 hat4 hlt4 x0 x1 x2 x0' x1' x2'
            obtain ⟨ao7, cap7, b7, o7, hv7, hs7, _⟩ := SlAt.owned HI4.out.own4
            rw [hv7]
            rw [hv7] at HI4
            have hidx7 := hs7.idx (P := Try.prog) (t := 25) Try.underlying25 size35 (by decide)
            have hidxx := HXO.out.at'.idx (P := Try.prog) (t := 22) Try.underlying22 size37 (by decide)
            have hz4 := HI4.out.bel.size
            have hTx : ∀ y ∈ T, y.Ok w4 := fun y hy => (HOK.out y (HTM.out y hy)).below HI4.out.bel
            have hT40 : ∀ y ∈ T, y.L.length ≤ 40 := fun y hy => H40.out y (HTM.out y hy)
            have hx4 := HX40.out
            have HS7 := Lib.hid hs7
            have HTX := Lib.hid hTx
            have HT40 := Lib.hid hT40
            clear hv7 hs7 hTx hT40
            go_wp2_with fail
            go_loopw [9, 10] (fun t9 t10 wz => ∃ j : Nat, j ≤ T.length ∧ t10 = .int .i64 j ∧ t9 = .bool ((T.take j).any (parts x)) ∧ Hid (Below w4.heap.size w4 wz)) (fun _ t10 _ => T.length - (intOf t10).toNat)
            case atStart => exact ⟨0, Nat.zero_le _, rfl, by simp, bz _⟩
            case round =>
              obtain ⟨j, hj, rfl, rfl, hbz⟩ := hrel
              have hB := HI4.out.bel.trans (hbz.out.mono hz4)
              by_cases hjT : j < T.length
              · obtain ⟨y, hy⟩ : ∃ y, T[j]? = some y := ⟨_, List.getElem?_eq_getElem hjT⟩
                have hym := List.mem_of_getElem? hy
                obtain ⟨y0, y1, y2⟩ := rd_at (HS7.out.below hbz.out) hy
                obtain ⟨x0, x1, x2⟩ := rd_at (HA.out.below' hB HA.out.lt) HX.out
                have hyo := (HTX.out y hym).below hbz.out
                have hxo := HXO.out.below hB
                have hy40 := HT40.out y hym
                have q1 := fun n => begins_any y.L x.L y.ao x.ao y.cap y.b y.o x.cap x.b x.o (wr.drewN n) (hyo.at'.below (below_drewN (bz wr) n)) (hxo.at'.below (below_drewN (bz wr) n)) (by omega)
                have q2 := fun n => begins_any x.L y.L x.ao y.ao x.cap x.b x.o y.cap y.b y.o (wr.drewN n) (hxo.at'.below (below_drewN (bz wr) n)) (hyo.at'.below (below_drewN (bz wr) n)) (by omega)
                have hsn := any_snoc (f := parts x) hy
                have hpp : parts x y = (y.key == x.key && !bgn y.L x.L && !bgn x.L y.L) := rfl
                obtain ⟨a, ha⟩ : ∃ a, a = (T.take j).any (parts x) := ⟨_, rfl⟩
                obtain ⟨d1, hd1⟩ : ∃ d, d = bgn y.L x.L := ⟨_, rfl⟩
                obtain ⟨d2, hd2⟩ : ∃ d, d = bgn x.L y.L := ⟨_, rfl⟩
                rw [← hd1] at q1 hpp
                rw [← hd2] at q2 hpp
                rw [← ha] at hsn ⊢
                have HSN := Lib.hid hsn
                have HPP := Lib.hid hpp
                have Q1 := Lib.hid q1
                have Q2 := Lib.hid q2
                have j0 : (0 : Int) ≤ (j : Int) := by omega
                have j1 : (j : Int) < (T.length : Int) := by omega
                clear hy hym hyo hxo q1 q2 hsn hpp ha hd1 hd2
                cases a with
                | true =>
                  go_wp2_with fail
                  go_quiet (fail)
                  go_wp2_with fail
                  go_roundw
                  case rel => exact ⟨j + 1, by omega, by go_num, by rw [HSN.out]; rfl, below_drewN hbz.out _⟩
                  case measure => simp [intOf]; omega
                | false =>
                  by_cases hk : y.key = x.key
                  · have t5 : ((y.key : Int) == (x.key : Int)) = true := by simp [hk]
                    cases d1 with
                    | true =>
                      have HPF : Hid (parts x y = false) := by show _ = _; rw [HPP.out]; simp
                      clear hk
                      go_wp2_with fail
                      go_quiet ((go_at_call 10; (first | (with_reducible exact Calls.quiet_of (Q1.out _)) | exact Calls.quiet_of (Q2.out _))))
                      go_wp2_with fail
                      go_roundw
                      case rel => exact ⟨j + 1, by omega, by go_num, by rw [HSN.out, HPF.out]; rfl, below_drewN hbz.out _⟩
                      case measure => simp [intOf]; omega
                    | false =>
                      cases d2 with
                      | true =>
                        have HPF : Hid (parts x y = false) := by show _ = _; rw [HPP.out]; simp
                        clear hk
                        go_wp2_with fail
                        go_quiet ((go_at_call 10; (first | (with_reducible exact Calls.quiet_of (Q1.out _)) | exact Calls.quiet_of (Q2.out _))))
                        go_wp2_with fail
                        go_roundw
                        case rel => exact ⟨j + 1, by omega, by go_num, by rw [HSN.out, HPF.out]; rfl, below_drewN hbz.out _⟩
                        case measure => simp [intOf]; omega
                      | false =>
                        have HPF : Hid (parts x y = true) := by show _ = _; rw [HPP.out]; simp [hk]
                        clear hk
                        go_wp2_with fail
                        go_quiet ((go_at_call 10; (first | (with_reducible exact Calls.quiet_of (Q1.out _)) | exact Calls.quiet_of (Q2.out _))))
                        go_wp2_with fail
                        go_roundw
                        case rel => exact ⟨j + 1, by omega, by go_num, by rw [HSN.out, HPF.out]; rfl, below_drewN hbz.out _⟩
                        case measure => simp [intOf]; omega
                  · have t5 : ((y.key : Int) == (x.key : Int)) = false := by rw [beq_eq_false_iff_ne]; omega
                    have HPF : Hid (parts x y = false) := by show _ = _; rw [HPP.out]; simp [hk]
                    clear hk
                    go_wp2_with fail
                    go_quiet (fail)
                    go_wp2_with fail
                    go_roundw
                    case rel => exact ⟨j + 1, by omega, by go_num, by rw [HSN.out, HPF.out]; rfl, below_drewN hbz.out _⟩
                    case measure => simp [intOf]; omega
              · obtain ⟨w5, hw5⟩ : ∃ w5, w5 = wr := ⟨_, rfl⟩
                have hall : T.take j = T := List.take_of_length_le (by omega)
                rw [hall]
                obtain ⟨W1, hW1⟩ : ∃ W1, W1 = T.any (parts x) := ⟨_, rfl⟩
                rw [← hW1] at HW ⊢
                have nj : ¬ ((j : Int) < (T.length : Int)) := by omega
                clear hall hW1 hw5
                go_wp2_with fail
                go_loopw [9, 11] (fun t9 t11 wq => ∃ m : Nat, m ≤ x.L.length ∧ t11 = .int .i64 m ∧ t9 = .bool (W1 || !decide (x.L.take m).Nodup) ∧ Hid (Below w4.heap.size w4 wq)) (fun _ t11 _ => x.L.length - (intOf t11).toNat)
                case atStart => exact ⟨0, Nat.zero_le _, rfl, by simp, hbz.out⟩
                case round =>
                  clear hbz hB
                  obtain ⟨m, hm, rfl, rfl, hbz⟩ := hrel
                  have hB := HI4.out.bel.trans (hbz.out.mono hz4)
                  obtain ⟨x0, x1, x2⟩ := rd_at (HA.out.below' hB HA.out.lt) HX.out
                  by_cases hmx : m < x.L.length
                  · obtain ⟨z, hz⟩ : ∃ z, x.L[m]? = some z := ⟨_, List.getElem?_eq_getElem hmx⟩
                    have hns := nodup_snoc hz
                    obtain ⟨c, hc⟩ : ∃ c, c = (W1 || !decide (x.L.take m).Nodup) := ⟨_, rfl⟩
                    have hcn : (W1 || !decide (x.L.take (m + 1)).Nodup) = (c || decide (z ∈ x.L.take m)) := by rw [hns, hc, Bool.or_assoc]
                    rw [← hc]
                    have HCN := Lib.hid hcn
                    have HZ := Lib.hid hz
                    have m0 : (0 : Int) ≤ (m : Int) := by omega
                    have m1 : (m : Int) < (x.L.length : Int) := by omega
                    clear hns hc hcn hz
                    go_wp2_with fail
                    go_loopw [9, 12] (fun t9 t12 ws => ∃ j : Nat, j ≤ m ∧ t12 = .int .i64 j ∧ t9 = .bool (c || decide (z ∈ x.L.take j)) ∧ Hid (Below w4.heap.size w4 ws)) (fun _ t12 _ => m - (intOf t12).toNat)
                    case atStart => exact ⟨0, Nat.zero_le _, rfl, by simp, hbz.out⟩
                    case round =>
                      clear hbz hB x0 x1 x2
                      obtain ⟨j, hj, rfl, rfl, hbz⟩ := hrel
                      have hB := HI4.out.bel.trans (hbz.out.mono hz4)
                      obtain ⟨x0, x1, x2⟩ := rd_at (HA.out.below' hB HA.out.lt) HX.out
                      by_cases hjm : j < m
                      · obtain ⟨q, hq⟩ : ∃ q, x.L[j]? = some q := ⟨_, List.getElem?_eq_getElem (by omega)⟩
                        have hxo := HXO.out.below hB
                        have gq := val_at hxo.at' hq
                        have gz := val_at hxo.at' HZ.out
                        have hsn : decide (z ∈ x.L.take (j + 1)) = (decide (z ∈ x.L.take j) || q == z) := by
                          rw [List.take_add_one, hq]
                          show decide (z ∈ x.L.take j ++ [q]) = _
                          rw [Bool.eq_iff_iff]
                          simp only [decide_eq_true_eq, Bool.or_eq_true, List.mem_append, List.mem_singleton, beq_iff_eq]
                          exact ⟨fun h => h.imp id Eq.symm, fun h => h.imp id Eq.symm⟩
                        obtain ⟨e, he⟩ : ∃ e, e = (c || decide (z ∈ x.L.take j)) := ⟨_, rfl⟩
                        have hen : (c || decide (z ∈ x.L.take (j + 1))) = (e || q == z) := by rw [hsn, he, Bool.or_assoc]
                        rw [← he]
                        have HEN := Lib.hid hen
                        have j0 : (0 : Int) ≤ (j : Int) := by omega
                        have j1 : (j : Int) < (x.L.length : Int) := by omega
                        have j2 : (j : Int) < (m : Int) := by omega
                        have j3 : decide (j < m) = true := by simp; omega
                        clear hq hxo hsn he hen
                        cases e with
                        | true =>
                          go_wp2_with fail
                          go_quiet (fail)
                          go_wp2_with fail
                          go_roundw
                          case rel => exact ⟨j + 1, by omega, by go_num, by rw [HEN.out]; rfl, below_drewN hbz.out _⟩
                          case measure => simp [intOf]; omega
                        | false =>
                          cases hqz : (q == z)
                          all_goals
                            rw [hqz] at HEN
                            go_wp2_with fail
                            go_quiet (fail)
                            go_wp2_with fail
                            go_roundw
                            case rel => exact ⟨j + 1, by omega, by go_num, by rw [HEN.out]; rfl, below_drewN hbz.out _⟩
                            case measure => simp [intOf]; omega
                      · have hjj : j = m := by omega
                        subst hjj
                        have j3 : decide (j < j) = false := by simp
                        rw [← HCN.out]
                        go_wp2_with fail
                        go_roundw
                        case rel => exact ⟨j + 1, by omega, by go_num, rfl, hbz.out⟩
                        case measure => simp [intOf]; omega
                  · have hall : x.L.take m = x.L := List.take_of_length_le (by omega)
                    rw [hall, HW.out]
                    have nm : ¬ ((m : Int) < (x.L.length : Int)) := by omega
                    have nm2 : decide (m < x.L.length) = false := by simp; omega
                    clear hall
                    go_wp2_with fail
                    go_roundw
                    case rel => exact ⟨k + 1, by omega, by go_num, by rw [HOS.out, HTS.out, HLS.out, if_neg (by simp), if_pos (by simp), List.append_nil]; exact HI4.out.below (by first | exact hbz.out)⟩
                    case measure => simp [intOf]; omega
        · have te : (E != 0) = true := by rw [bne_iff_ne]; exact he
          have hBf : B = false := by
            cases B with
            | false => rfl
            | true => exact absurd (HBE.out rfl) he
          subst hBf
          have HE0 := Lib.hid he
          clear he
          go_wp2_with fail
          go_region_held3 (fun w' => w'.cell? ⟨b, o + k * 3, none⟩ = some (.int .u8 xkey) ∧ w'.cell? ⟨b, o + k * 3 + 1, none⟩ = some (.slice x.ao xn x.cap)) (refine ⟨?_, ?_⟩ <;> (repeat (first | (with_reducible assumption) | (with_reducible apply keep_alloc) | (with_reducible apply keep_drew)))) ((go_at_call 15; refine (HTK.out _ (by repeat (first | (with_reducible exact bz wr) | (with_reducible apply Below.drew)))).mono ?_; rintro e w3 ⟨rfl, ho3, k3⟩; have HK3 : Hid (Kept (fun b => b = p) wr w3) := Kept.trans (S := fun b => b = p) (by repeat (first | (with_reducible exact Kept.refl _ wr) | (with_reducible apply Kept.drew))) k3 (fun _ _ h => h); have x0' := HK3.out.cell x0 hbp; have x1' := HK3.out.cell x1 hbp; have x2' := HK3.out.cell x2 hbp; have HO3 := Lib.hid ho3; clear ho3 k3))
          have HI3 := Lib.hid (hinv.out.take hwp HO3.out HSS.out (by first | exact Nat.le_refl _ | (simp; done)) HK3.out)
          go_wp2_with fail
          go_roundw
          case rel => exact ⟨k + 1, by omega, by go_num, by rw [HOS.out, HTS.out, HLS.out, if_neg (by simp), if_neg (fun h => HE0.out h.2), List.append_nil, List.append_nil]; exact HI3.out⟩
          case measure => simp [intOf]; omega
      · subst hw0
        obtain ⟨F, hF⟩ : ∃ F, F = lfN l k := ⟨_, rfl⟩
        obtain ⟨L, hL⟩ : ∃ L, L = ordN l k := ⟨_, rfl⟩
        have hls := left_stays l k
        have hFm : ∀ y ∈ lfN l k, y ∈ l := lfN_mem
        have hFl := lfN_len l k
        have hown := hinv.out.own5
        have hord := hinv.out.ord
        rw [← hF] at hls hFm hFl hown
        rw [← hL] at hls hord
        obtain ⟨ao7, cap7, b7, o7, hv7, hs7, _⟩ := SlAt.owned hown
        have hb7p : 0 < (F.flatMap Rd.cells).length → ¬ b7 = p := fun hp e => by
          have h5 := hinv.out.ne5
          rw [hv7, hs7.addr hp, e] at h5
          exact h5 rfl
        rw [hv7]
        have hidx7 := hs7.idx (P := Try.prog) (t := 25) Try.underlying25 size35 (by decide)
        have kk1 : ¬ ((k : Int) < (l.length : Int)) := by omega
        have HS7 := Lib.hid hs7
        have HB7P := Lib.hid hb7p
        have HLS := Lib.hid hls
        have HFM := Lib.hid hFm
        have HORD : Hid (OrdAt (fun _ => True) w0 p L) := hord.mono (fun _ _ _ => trivial)
        have HBEL := Lib.hid hinv.out.bel
        clear hF hL hls hFm hown hord hv7 hs7 hb7p
        go_wp2_with fail
        go_loopw [13] (fun t13 wz => ∃ i : Nat, i ≤ F.length ∧ t13 = .int .i64 i ∧ Hid (OrdAt (fun _ => True) wz p L) ∧ Hid (Kept (fun b => b = p) w0 wz)) (fun t13 _ => F.length - (intOf t13).toNat)
        case atStart => exact ⟨0, Nat.zero_le _, rfl, HORD.out, Kept.refl _ _⟩
        case round =>
          obtain ⟨i, hi, rfl, hord, hkept⟩ := hrel
          have hB := kept_new HBEL.out hkept.out (fun i hi e => by omega)
          by_cases hiF : i < F.length
          · obtain ⟨x, hx⟩ : ∃ x, F[i]? = some x := ⟨_, List.getElem?_eq_getElem hiF⟩
            have hxm := List.mem_of_getElem? hx
            obtain ⟨x0, x1, x2⟩ := rd_at (slat_kept HS7.out hkept.out HB7P.out) hx
            have hbp : b7 ≠ p := HB7P.out (by rw [length_flat Rd.three]; omega)
            have hxo := (HOK.out x (HFM.out x hxm)).below hB
            have hx40 := H40.out x (HFM.out x hxm)
            obtain ⟨hB0, hE0⟩ := HLS.out x hxm
            have htk : ∀ W, Below wr.heap.size wr W → Calls Try.prog 15 #[.pointer (some ⟨p, 0, none⟩), .int .u8 x.key, .slice x.ao x.L.length x.cap] W (TPost (fun _ => True) p false 0 L W) := fun W hb => by
              have h5 := take_any (fun _ => True) p x.key L x.L x.ao x.cap x.b x.o W (hord.out.below hb) (hxo.at'.below hb) (by omega) hxo.key
              unfold TakePost at h5
              rwa [hB0, hE0, takeL_not hB0] at h5
            have HTK := Lib.hid htk
            have i0 : (0 : Int) ≤ (i : Int) := by omega
            have i1 : (i : Int) < (F.length : Int) := by omega
            clear hx hxm hxo hB0 hE0 htk
            go_wp2_with fail
            go_region_held3 (fun w' => w'.cell? ⟨b7, o7 + i * 3, none⟩ = some (.int .u8 x.key) ∧ w'.cell? ⟨b7, o7 + i * 3 + 1, none⟩ = some (.slice x.ao x.L.length x.cap)) (refine ⟨?_, ?_⟩ <;> (repeat (first | (with_reducible assumption) | (with_reducible apply keep_alloc) | (with_reducible apply keep_drew)))) ((go_at_call 15; refine (HTK.out _ (by repeat (first | (with_reducible exact bz wr) | (with_reducible apply Below.drew)))).mono ?_; rintro e w3 ⟨rfl, ho3, k3⟩; have HK3 : Hid (Kept (fun b => b = p) wr w3) := Kept.trans (S := fun b => b = p) (by repeat (first | (with_reducible exact Kept.refl _ wr) | (with_reducible apply Kept.drew))) k3 (fun _ _ h => h); have x0' := HK3.out.cell x0 hbp; have x1' := HK3.out.cell x1 hbp; have x2' := HK3.out.cell x2 hbp; have HO3 := Lib.hid ho3; clear ho3 k3))
            have HO4 : Hid (OrdAt (fun _ => True) w3 p L) := HO3.out.mono (fun _ _ _ => trivial)
            have HK4 := Lib.hid (hkept.out.trans HK3.out (fun _ _ h => h))
            go_wp2_with fail
            go_roundw
            case rel => exact ⟨i + 1, by omega, by go_num, HO4.out, HK4.out⟩
            case measure => simp [intOf]; omega
          · have iF : ¬ ((i : Int) < (F.length : Int)) := by omega
            go_wp2_with fail
            refine (works_any _).mono ?_
            rintro e w4 ⟨rfl, hb4⟩
            go_wp2
            go_ret
            exact ⟨rfl, bt hB hb4⟩
end Go.Proofs.Ytggbcailaeebfaa
