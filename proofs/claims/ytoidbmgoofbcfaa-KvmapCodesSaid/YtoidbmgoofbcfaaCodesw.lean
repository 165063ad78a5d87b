/- KvmapCodes: the bytes of any state, the state that any bytes are, and what Only leaves, are the document's. Printed by gen_codes.py. -/
import Derived.Test.YtoidbmgoofbcfaaRefdec
import Derived.Test.YtoidbmgoofbcfaaAwake
namespace Go.Proofs.Ytoidbmgoofbcfaa
open Go.RowKit Go.Um
set_option linter.unusedSimpArgs false
set_option linter.unusedVariables false
set_option maxHeartbeats 4000000
set_option maxRecDepth 100000

def keyL (T : List (Int × Int)) (key : Int) : List (Int × Int) := T.filter fun x => x.1 == key
theorem keyL_ok {T : List (Int × Int)} (h : ItOk T) (key : Int) : ItOk (keyL T key) := ⟨fun x hx => h.e x (List.mem_filter.1 hx).1, h.d.filter _⟩
theorem keyL_look (T : List (Int × Int)) (k j : Int) : look (keyL T k) j = if j = k then look T j else none := by
  induction T with
  | nil => simp [keyL, look_nil]
  | cons x T ih =>
    unfold keyL at ih ⊢
    by_cases h : x.1 = k
    · rw [List.filter_cons_of_pos (by simpa using h), look_cons, look_cons, ih]
      by_cases e : j = k
      · simp [e]
      · have : ¬ x.1 = j := fun e2 => e (e2.symm.trans h)
        simp [e, this]
    · rw [List.filter_cons_of_neg (by simpa using h), ih, look_cons]
      by_cases e : j = k
      · have : ¬ x.1 = j := fun e2 => h (e2.trans e)
        simp [e, this, h]
      · simp [e]
theorem kv_only {S : KV} (hs : S.ok) (key : Nat) : kvN (keyL (itN S 8) key) = S.only key := by
  obtain ⟨h1, h2⟩ := kvN_look (keyL_ok (itN_ok hs 8 (by omega)) (key : Int))
  refine KV.ext_ok h1 (only_ok hs key) (fun j hj => ?_) (fun j hj => ?_)
  · rw [(h2 j hj).1, keyL_look, only_has]
    by_cases e : j = key
    · subst e
      rw [if_pos rfl, itN_look hs j hj]
      cases S.has j <;> simp
    · rw [if_neg (by omega)]; simp [e]
  · rw [(h2 j hj).2, keyL_look, only_get]
    by_cases e : j = key
    · subst e
      rw [if_pos rfl, itN_look hs j hj]
      cases S.has j <;> simp
    · rw [if_neg (by omega)]; simp [e]
theorem codes_big (s : KV) (t : ByteArray) (key : Int) (w : World) (hn : 300 < t.size) : Calls Try.prog 7 #[s.val, .string t, .int .u8 key] w fun e w' => e = .returned (.bool true) ∧ Below w.heap.size w w' := by
  have hd1 : decide ((300 : Int) < (t.size : Int)) = true := by simp; omega
  clear hn
  unfold KV.val
  go_enter Try.func7, Try.ntmps7
  go_wp2_with fail
  refine (awake_any _).mono ?_
  rintro e w1 ⟨rfl, hb⟩
  go_wp2
  go_ret
  exact ⟨rfl, bt (ba (bz w) _) hb⟩
theorem codes_small (s : KV) (t : ByteArray) (key : Nat) (w : World) (hs : s.ok) (hn : t.size ≤ 300) :
    Calls Try.prog 7 #[s.val, .string t, .int .u8 key] w fun e w' => e = .returned (.bool true) ∧ Below w.heap.size w w' := by
  obtain ⟨i6, hi, iz0, iz1, iz2⟩ := info_parts info61
  have hd1 : decide ((300 : Int) < (t.size : Int)) = false := by simp; omega
  have oS := whole_ok hs
  have fS := whole_fine s
  have K0 := Lib.hid (KvAt.new w s)
  have HWC := Lib.hid (fun W => whole_any s W hs)
  obtain ⟨S, hS⟩ : ∃ S, S = s.whole := ⟨_, rfl⟩
  rw [← hS] at HWC oS fS
  have HIT := Lib.hid (fun W => items_any S W oS)
  have HEN := Lib.hid (fun W => encode_any S W oS)
  have HON := Lib.hid (fun W => only_any S key W oS)
  have HDC := Lib.hid (fun W => decode_any t W (by omega))
  have HRD := Lib.hid (fun W => refdec_any t W (by omega))
  have oI := itN_ok oS 8 (by omega)
  have hkv := kv_items oS fS
  have hTl := itN_len S 8
  have hko := kv_only oS key
  obtain ⟨T, hT⟩ : ∃ T, T = itN S 8 := ⟨_, rfl⟩
  rw [← hT] at HIT oI hkv hTl hko
  have HRE := Lib.hid (fun aoX capX bX oX W hW => refenc_any T T.length rfl aoX capX bX oX W hW oI (by omega))
  rw [hkv] at HRE
  have hKl : (keyL T key).length ≤ 8 := by have : (keyL T key).length ≤ T.length := (List.filter_sublist).length_le; omega
  have HA2 := Lib.hid (fun aoX capX bX oX W hW => alike_any (S.only key) (keyL T key) (keyL T key).length rfl aoX capX bX oX W hW (by omega) (keyL_ok oI key))
  rw [hko, show decide (S.only key = S.only key) = true from by simp] at HA2
  have HA1 := Lib.hid (fun (L : List (Int × Int)) (hL : ItOk L) (hl8 : L.length ≤ 1000) aoX capX bX oX W hW => alike_any (decS t) L L.length rfl aoX capX bX oX W hW hl8 hL)
  unfold DecPost at HDC
  unfold DecLPost at HRD
  unfold OwnPost at HIT
  obtain ⟨U, hU⟩ : ∃ U, U = decS t := ⟨_, rfl⟩
  obtain ⟨EU, hEU⟩ : ∃ E, E = decE t := ⟨_, rfl⟩
  obtain ⟨EA, hEA⟩ : ∃ E, E = strOfNums (encL S 8) := ⟨_, rfl⟩
  obtain ⟨ON, hON⟩ : ∃ E, E = S.only key := ⟨_, rfl⟩
  rw [← hU, ← hEU] at HDC HRD
  rw [← hU] at HA1
  rw [← hEA] at HEN HRE
  rw [← hON] at HON HA2
  clear hs hS oI hkv hT hU hEU hEA hON oS fS hko hn
  unfold KV.val at HWC HDC HIT HEN HON HA1 HA2 ⊢
  go_enter Try.func7, Try.ntmps7
  go_wp2_with fail
  refine (HWC.out _).mono ?_
  rintro e w1 ⟨rfl, hb1⟩
  have K1 := Lib.hid (K0.out.below hb1)
  have HB1 := Lib.hid (bt (ba (bz w) _) hb1)
  obtain ⟨c0, c1, c2, c3, c4, c5, c6, c7, c8, f0, f1, f2, f3, f4, f5, f6, f7, f8⟩ := K1.out
  clear hb1 K0
  go_wp2_with fail
  have K2 := Lib.hid (KvAt.set9 K1.out S)
  obtain ⟨Y1, hY1⟩ : ∃ Y, Y = (((((((((w1.setCell ⟨w.heap.size, 0, none⟩ (.int .u8 S.h)).setCell ⟨w.heap.size, 1, none⟩ (.int .u16 S.v0)).setCell ⟨w.heap.size, 2, none⟩ (.int .u16 S.v1)).setCell ⟨w.heap.size, 3, none⟩ (.int .u16 S.v2)).setCell ⟨w.heap.size, 4, none⟩ (.int .u16 S.v3)).setCell ⟨w.heap.size, 5, none⟩ (.int .u16 S.v4)).setCell ⟨w.heap.size, 6, none⟩ (.int .u16 S.v5)).setCell ⟨w.heap.size, 7, none⟩ (.int .u16 S.v6)).setCell ⟨w.heap.size, 8, none⟩ (.int .u16 S.v7)) := ⟨_, rfl⟩
  rw [← hY1] at K2 ⊢
  have HBW : Hid (Below w.heap.size w Y1) := by
    rw [hY1]
    exact Lib.hid (HB1.out.trans ((kept9 w1 w.heap.size S).below (fun i hi _ e => by omega) HB1.out.size))
  clear hY1 HB1 K1 c0 c1 c2 c3 c4 c5 c6 c7 c8 f0 f1 f2 f3 f4 f5 f6 f7 f8
  refine (HDC.out _).mono ?_
  rintro e w2 ⟨rfl, hb⟩
  replace K2 := Lib.hid (K2.out.below hb)
  replace HBW := Lib.hid (HBW.out.trans (hb.mono HBW.out.size))
  have K7 := Lib.hid (KvAt.new w2 U)
  clear hb
  go_wp2_with fail
  replace K7 : Hid (KvAt (w2.alloc (.cells #[.int .u8 U.h, .int .u16 U.v0, .int .u16 U.v1, .int .u16 U.v2, .int .u16 U.v3, .int .u16 U.v4, .int .u16 U.v5, .int .u16 U.v6, .int .u16 U.v7] 25)) w2.heap.size U) := K7
  replace K2 := Lib.hid (K2.out.below (ba (bz w2) (.cells #[.int .u8 U.h, .int .u16 U.v0, .int .u16 U.v1, .int .u16 U.v2, .int .u16 U.v3, .int .u16 U.v4, .int .u16 U.v5, .int .u16 U.v6, .int .u16 U.v7] 25)))
  replace HBW := Lib.hid (ba HBW.out (.cells #[.int .u8 U.h, .int .u16 U.v0, .int .u16 U.v1, .int .u16 U.v2, .int .u16 U.v3, .int .u16 U.v4, .int .u16 U.v5, .int .u16 U.v6, .int .u16 U.v7] 25))
  obtain ⟨Y2, hY2⟩ : ∃ Y, Y = w2.alloc (.cells #[.int .u8 U.h, .int .u16 U.v0, .int .u16 U.v1, .int .u16 U.v2, .int .u16 U.v3, .int .u16 U.v4, .int .u16 U.v5, .int .u16 U.v6, .int .u16 U.v7] 25) := ⟨_, rfl⟩
  rw [← hY2] at K2 K7 HBW ⊢
  obtain ⟨P7, hP7⟩ : ∃ p, p = w2.heap.size := ⟨_, rfl⟩
  rw [← hP7] at K7 ⊢
  clear hY2 hP7
  refine (HRD.out _).mono ?_
  rintro e w3 ⟨aoL, capL, bL, oL, nL, L, hnL, hLo, hLk, hL8, rfl, hsL, hb⟩
  subst hnL
  have HA1' := Lib.hid (HA1.out L hLo (by omega))
  rw [hLk, show decide (U = U) = true from by simp] at HA1'
  have HL := Lib.hid hsL
  replace K2 := Lib.hid (K2.out.below hb)
  replace K7 := Lib.hid (K7.out.below hb)
  replace HBW := Lib.hid (HBW.out.trans (hb.mono HBW.out.size))
  clear hb hsL hLo hLk HA1 HRD HDC HWC
  obtain ⟨c0, c1, c2, c3, c4, c5, c6, c7, c8, f0, f1, f2, f3, f4, f5, f6, f7, f8⟩ := K2.out
  clear f0 f1 f2 f3 f4 f5 f6 f7 f8
  go_wp2_with fail
  refine (HIT.out _).mono ?_
  rintro e w4 ⟨vT, rfl, hownT, hb⟩
  obtain ⟨aoT, capT, bT, oT, rfl, hsT, _⟩ := SlAt.owned hownT
  have hidx := hsT.idx (P := Try.prog) (t := 33) Try.underlying33 size61 (by decide)
  have HT := Lib.hid hsT
  replace HL := Lib.hid (HL.out.below hb)
  replace K2 := Lib.hid (K2.out.below hb)
  replace K7 := Lib.hid (K7.out.below hb)
  replace HBW := Lib.hid (HBW.out.trans (hb.mono HBW.out.size))
  clear hb hownT hsT c0 c1 c2 c3 c4 c5 c6 c7 c8
  go_wp2_with fail
  go_loopw [11, 13] (fun t11 t13 wr => ∃ k : Nat, k ≤ T.length ∧ t13 = .int .i64 k ∧ Hid (wr.ownsRow w4.heap.size 61 2 t11 (keyL (T.take k) key).length ((keyL (T.take k) key).flatMap resC)) ∧ Hid (Below w4.heap.size w4 wr)) (fun _ t13 _ => T.length - (intOf t13).toNat)
  case atStart => exact ⟨0, Nat.zero_le _, rfl, World.ownsRow_nil _ _ _ _, bz w4⟩
  case round =>
    obtain ⟨k, hk, rfl, hown, hbl⟩ := hrel
    have hsz := hbl.out.size
    by_cases hlt : k < T.length
    · obtain ⟨x, hx⟩ : ∃ x, T[k]? = some x := ⟨_, List.getElem?_eq_getElem hlt⟩
      obtain ⟨g0, g1⟩ := res_at (HT.out.below hbl.out) hx
      have hbw : bT < wr.heap.size := World.block_lt_of_cell? wr _ g0
      have hsu : keyL (T.take (k + 1)) key = keyL (T.take k) key ++ (if x.1 = (key : Int) then [x] else []) := by
        rw [List.take_add_one, hx]
        unfold keyL
        rw [List.filter_append]
        by_cases e : x.1 = (key : Int) <;> simp [e]
      have hln : (keyL (T.take k) key).length ≤ 8 := by
        have h1 : (keyL (T.take k) key).length ≤ (T.take k).length := (List.filter_sublist).length_le
        rw [List.length_take] at h1; omega
      obtain ⟨F, hF⟩ : ∃ F, F = keyL (T.take k) key := ⟨_, rfl⟩
      rw [← hF] at hsu hown hln
      have HSU := Lib.hid hsu
      have i1 : (0 : Int) ≤ (k : Int) := by omega
      have i2 : (k : Int) < (T.length : Int) := by omega
      obtain ⟨xk, xv⟩ := x
      dsimp only at g0 g1
      clear hx hsu hF
      by_cases e : xk = (key : Int)
      · have t1 : (xk == (key : Int)) = true := by simpa using e
        have E := Lib.hid e
        clear e
        go_wp2_with (at_builtin; refine wpList_append_lies _ rfl (.tmp 45) (.tmp 50) 33 rfl w4.heap.size 61 i6 (.agg #[.int .u8 0, .int .u16 0]) 2 4 Try.underlying33 hi iz0 iz1 iz2 rfl (by decide) _ _ _ rfl (hown.out.alloc _) ⟨wr.heap.size, 0, none⟩ 1 1 [.int .u8 xk, .int .u16 xv] rfl rfl (new_cells _ _ _ _ (by simp)) (by simp [Value.oneCell']) (by decide) (by unfold maxLen; omega) (by omega) (by simp; omega) _ rfl ?_)
        intro gg cap2 wa hown2 hgrow2 hat hlt2
        have HB2 : Hid (Below w4.heap.size w4 wa) := Lib.hid (below_own (ba' hbl.out hsz _) (hown.out.alloc _) hgrow2 (Nat.le_refl _) (by simp; omega))
        have HO2 := Lib.hid hown2
        clear hown2 hgrow2 hat hlt2
        go_wp2_with fail
        go_roundw
        case rel => exact ⟨k + 1, by omega, by go_num, by rw [HSU.out, if_pos E.out, List.length_append, List.flatMap_append]; exact HO2, HB2⟩
        case measure => simp [intOf]; omega
      · have t1 : (xk == (key : Int)) = false := by simpa using e
        have E := Lib.hid e
        clear e
        go_wp2_with fail
        go_roundw
        case rel => exact ⟨k + 1, by omega, by go_num, by rw [HSU.out, if_neg E.out, List.append_nil]; exact hown, hbl⟩
        case measure => simp [intOf]; omega
    · have hkT : T.take k = T := List.take_of_length_le (by omega)
      rw [hkT] at hown
      obtain ⟨aoO, capO, bO, oO, hvO, hsO, _⟩ := SlAt.owned hown.out
      rw [hvO]
      obtain ⟨KL, hKL⟩ : ∃ K, K = keyL T key := ⟨_, rfl⟩
      rw [← hKL] at hsO HA2 ⊢
      have HO := Lib.hid hsO
      replace HL := Lib.hid (HL.out.below hbl.out)
      replace HBW := Lib.hid (HBW.out.trans (hbl.out.mono HBW.out.size))
      obtain ⟨xa0, xa1, xa2, xa3, xa4, xa5, xa6, xa7, xa8, _, _, _, _, _, _, _, _, _⟩ := K2.out.below hbl.out
      obtain ⟨xu0, xu1, xu2, xu3, xu4, xu5, xu6, xu7, xu8, _, _, _, _, _, _, _, _, _⟩ := K7.out.below hbl.out
      have kk1 : ¬ ((k : Int) < (T.length : Int)) := by omega
      clear hkT hvO hsO hKL hown hbl K2 K7 HT hidx
      go_wp2_with fail
      go_region_held3 (fun w' => w'.cell? ⟨w.heap.size, 0, none⟩ = some (.int .u8 S.h) ∧ w'.cell? ⟨w.heap.size, 1, none⟩ = some (.int .u16 S.v0) ∧ w'.cell? ⟨w.heap.size, 2, none⟩ = some (.int .u16 S.v1) ∧ w'.cell? ⟨w.heap.size, 3, none⟩ = some (.int .u16 S.v2) ∧ w'.cell? ⟨w.heap.size, 4, none⟩ = some (.int .u16 S.v3) ∧ w'.cell? ⟨w.heap.size, 5, none⟩ = some (.int .u16 S.v4) ∧ w'.cell? ⟨w.heap.size, 6, none⟩ = some (.int .u16 S.v5) ∧ w'.cell? ⟨w.heap.size, 7, none⟩ = some (.int .u16 S.v6) ∧ w'.cell? ⟨w.heap.size, 8, none⟩ = some (.int .u16 S.v7) ∧ w'.cell? ⟨P7, 0, none⟩ = some (.int .u8 U.h) ∧ w'.cell? ⟨P7, 1, none⟩ = some (.int .u16 U.v0) ∧ w'.cell? ⟨P7, 2, none⟩ = some (.int .u16 U.v1) ∧ w'.cell? ⟨P7, 3, none⟩ = some (.int .u16 U.v2) ∧ w'.cell? ⟨P7, 4, none⟩ = some (.int .u16 U.v3) ∧ w'.cell? ⟨P7, 5, none⟩ = some (.int .u16 U.v4) ∧ w'.cell? ⟨P7, 6, none⟩ = some (.int .u16 U.v5) ∧ w'.cell? ⟨P7, 7, none⟩ = some (.int .u16 U.v6) ∧ w'.cell? ⟨P7, 8, none⟩ = some (.int .u16 U.v7))
        (refine ⟨?_, ?_, ?_, ?_, ?_, ?_, ?_, ?_, ?_, ?_, ?_, ?_, ?_, ?_, ?_, ?_, ?_, ?_⟩ <;> (repeat (first | (with_reducible assumption) | (with_reducible apply keep_alloc) | (with_reducible apply keep_drew))))
        (first
          | (go_at_call 10; refine (awake_any _).mono ?_; rintro e wX ⟨rfl, hb⟩; replace xa0 := cell_past hb (by repeat (first | (with_reducible exact xa0) | (with_reducible apply keep_alloc) | (with_reducible apply keep_drew))); replace xa1 := cell_past hb (by repeat (first | (with_reducible exact xa1) | (with_reducible apply keep_alloc) | (with_reducible apply keep_drew))); replace xa2 := cell_past hb (by repeat (first | (with_reducible exact xa2) | (with_reducible apply keep_alloc) | (with_reducible apply keep_drew))); replace xa3 := cell_past hb (by repeat (first | (with_reducible exact xa3) | (with_reducible apply keep_alloc) | (with_reducible apply keep_drew))); replace xa4 := cell_past hb (by repeat (first | (with_reducible exact xa4) | (with_reducible apply keep_alloc) | (with_reducible apply keep_drew))); replace xa5 := cell_past hb (by repeat (first | (with_reducible exact xa5) | (with_reducible apply keep_alloc) | (with_reducible apply keep_drew))); replace xa6 := cell_past hb (by repeat (first | (with_reducible exact xa6) | (with_reducible apply keep_alloc) | (with_reducible apply keep_drew))); replace xa7 := cell_past hb (by repeat (first | (with_reducible exact xa7) | (with_reducible apply keep_alloc) | (with_reducible apply keep_drew))); replace xa8 := cell_past hb (by repeat (first | (with_reducible exact xa8) | (with_reducible apply keep_alloc) | (with_reducible apply keep_drew))); replace xu0 := cell_past hb (by repeat (first | (with_reducible exact xu0) | (with_reducible apply keep_alloc) | (with_reducible apply keep_drew))); replace xu1 := cell_past hb (by repeat (first | (with_reducible exact xu1) | (with_reducible apply keep_alloc) | (with_reducible apply keep_drew))); replace xu2 := cell_past hb (by repeat (first | (with_reducible exact xu2) | (with_reducible apply keep_alloc) | (with_reducible apply keep_drew))); replace xu3 := cell_past hb (by repeat (first | (with_reducible exact xu3) | (with_reducible apply keep_alloc) | (with_reducible apply keep_drew))); replace xu4 := cell_past hb (by repeat (first | (with_reducible exact xu4) | (with_reducible apply keep_alloc) | (with_reducible apply keep_drew))); replace xu5 := cell_past hb (by repeat (first | (with_reducible exact xu5) | (with_reducible apply keep_alloc) | (with_reducible apply keep_drew))); replace xu6 := cell_past hb (by repeat (first | (with_reducible exact xu6) | (with_reducible apply keep_alloc) | (with_reducible apply keep_drew))); replace xu7 := cell_past hb (by repeat (first | (with_reducible exact xu7) | (with_reducible apply keep_alloc) | (with_reducible apply keep_drew))); replace xu8 := cell_past hb (by repeat (first | (with_reducible exact xu8) | (with_reducible apply keep_alloc) | (with_reducible apply keep_drew))); replace HL := Lib.hid ((HL.out.below (by repeat (first | (with_reducible exact bz _) | (with_reducible apply ba) | (with_reducible apply Below.drew)))).below hb); replace HO := Lib.hid ((HO.out.below (by repeat (first | (with_reducible exact bz _) | (with_reducible apply ba) | (with_reducible apply Below.drew)))).below hb); replace HBW := Lib.hid (HBW.out.trans ((bt (by repeat (first | (with_reducible exact bz _) | (with_reducible apply ba) | (with_reducible apply Below.drew))) hb).mono HBW.out.size)); clear hb)
          | (go_at_call 25; refine (HEN.out _).mono ?_; rintro e wX ⟨rfl, hb⟩; replace xa0 := cell_past hb (by repeat (first | (with_reducible exact xa0) | (with_reducible apply keep_alloc) | (with_reducible apply keep_drew))); replace xa1 := cell_past hb (by repeat (first | (with_reducible exact xa1) | (with_reducible apply keep_alloc) | (with_reducible apply keep_drew))); replace xa2 := cell_past hb (by repeat (first | (with_reducible exact xa2) | (with_reducible apply keep_alloc) | (with_reducible apply keep_drew))); replace xa3 := cell_past hb (by repeat (first | (with_reducible exact xa3) | (with_reducible apply keep_alloc) | (with_reducible apply keep_drew))); replace xa4 := cell_past hb (by repeat (first | (with_reducible exact xa4) | (with_reducible apply keep_alloc) | (with_reducible apply keep_drew))); replace xa5 := cell_past hb (by repeat (first | (with_reducible exact xa5) | (with_reducible apply keep_alloc) | (with_reducible apply keep_drew))); replace xa6 := cell_past hb (by repeat (first | (with_reducible exact xa6) | (with_reducible apply keep_alloc) | (with_reducible apply keep_drew))); replace xa7 := cell_past hb (by repeat (first | (with_reducible exact xa7) | (with_reducible apply keep_alloc) | (with_reducible apply keep_drew))); replace xa8 := cell_past hb (by repeat (first | (with_reducible exact xa8) | (with_reducible apply keep_alloc) | (with_reducible apply keep_drew))); replace xu0 := cell_past hb (by repeat (first | (with_reducible exact xu0) | (with_reducible apply keep_alloc) | (with_reducible apply keep_drew))); replace xu1 := cell_past hb (by repeat (first | (with_reducible exact xu1) | (with_reducible apply keep_alloc) | (with_reducible apply keep_drew))); replace xu2 := cell_past hb (by repeat (first | (with_reducible exact xu2) | (with_reducible apply keep_alloc) | (with_reducible apply keep_drew))); replace xu3 := cell_past hb (by repeat (first | (with_reducible exact xu3) | (with_reducible apply keep_alloc) | (with_reducible apply keep_drew))); replace xu4 := cell_past hb (by repeat (first | (with_reducible exact xu4) | (with_reducible apply keep_alloc) | (with_reducible apply keep_drew))); replace xu5 := cell_past hb (by repeat (first | (with_reducible exact xu5) | (with_reducible apply keep_alloc) | (with_reducible apply keep_drew))); replace xu6 := cell_past hb (by repeat (first | (with_reducible exact xu6) | (with_reducible apply keep_alloc) | (with_reducible apply keep_drew))); replace xu7 := cell_past hb (by repeat (first | (with_reducible exact xu7) | (with_reducible apply keep_alloc) | (with_reducible apply keep_drew))); replace xu8 := cell_past hb (by repeat (first | (with_reducible exact xu8) | (with_reducible apply keep_alloc) | (with_reducible apply keep_drew))); replace HL := Lib.hid ((HL.out.below (by repeat (first | (with_reducible exact bz _) | (with_reducible apply ba) | (with_reducible apply Below.drew)))).below hb); replace HO := Lib.hid ((HO.out.below (by repeat (first | (with_reducible exact bz _) | (with_reducible apply ba) | (with_reducible apply Below.drew)))).below hb); replace HBW := Lib.hid (HBW.out.trans ((bt (by repeat (first | (with_reducible exact bz _) | (with_reducible apply ba) | (with_reducible apply Below.drew))) hb).mono HBW.out.size)); clear hb)
          | (go_at_call 18; refine (HON.out _).mono ?_; rintro e wX ⟨rfl, hb⟩; replace xa0 := cell_past hb (by repeat (first | (with_reducible exact xa0) | (with_reducible apply keep_alloc) | (with_reducible apply keep_drew))); replace xa1 := cell_past hb (by repeat (first | (with_reducible exact xa1) | (with_reducible apply keep_alloc) | (with_reducible apply keep_drew))); replace xa2 := cell_past hb (by repeat (first | (with_reducible exact xa2) | (with_reducible apply keep_alloc) | (with_reducible apply keep_drew))); replace xa3 := cell_past hb (by repeat (first | (with_reducible exact xa3) | (with_reducible apply keep_alloc) | (with_reducible apply keep_drew))); replace xa4 := cell_past hb (by repeat (first | (with_reducible exact xa4) | (with_reducible apply keep_alloc) | (with_reducible apply keep_drew))); replace xa5 := cell_past hb (by repeat (first | (with_reducible exact xa5) | (with_reducible apply keep_alloc) | (with_reducible apply keep_drew))); replace xa6 := cell_past hb (by repeat (first | (with_reducible exact xa6) | (with_reducible apply keep_alloc) | (with_reducible apply keep_drew))); replace xa7 := cell_past hb (by repeat (first | (with_reducible exact xa7) | (with_reducible apply keep_alloc) | (with_reducible apply keep_drew))); replace xa8 := cell_past hb (by repeat (first | (with_reducible exact xa8) | (with_reducible apply keep_alloc) | (with_reducible apply keep_drew))); replace xu0 := cell_past hb (by repeat (first | (with_reducible exact xu0) | (with_reducible apply keep_alloc) | (with_reducible apply keep_drew))); replace xu1 := cell_past hb (by repeat (first | (with_reducible exact xu1) | (with_reducible apply keep_alloc) | (with_reducible apply keep_drew))); replace xu2 := cell_past hb (by repeat (first | (with_reducible exact xu2) | (with_reducible apply keep_alloc) | (with_reducible apply keep_drew))); replace xu3 := cell_past hb (by repeat (first | (with_reducible exact xu3) | (with_reducible apply keep_alloc) | (with_reducible apply keep_drew))); replace xu4 := cell_past hb (by repeat (first | (with_reducible exact xu4) | (with_reducible apply keep_alloc) | (with_reducible apply keep_drew))); replace xu5 := cell_past hb (by repeat (first | (with_reducible exact xu5) | (with_reducible apply keep_alloc) | (with_reducible apply keep_drew))); replace xu6 := cell_past hb (by repeat (first | (with_reducible exact xu6) | (with_reducible apply keep_alloc) | (with_reducible apply keep_drew))); replace xu7 := cell_past hb (by repeat (first | (with_reducible exact xu7) | (with_reducible apply keep_alloc) | (with_reducible apply keep_drew))); replace xu8 := cell_past hb (by repeat (first | (with_reducible exact xu8) | (with_reducible apply keep_alloc) | (with_reducible apply keep_drew))); replace HL := Lib.hid ((HL.out.below (by repeat (first | (with_reducible exact bz _) | (with_reducible apply ba) | (with_reducible apply Below.drew)))).below hb); replace HO := Lib.hid ((HO.out.below (by repeat (first | (with_reducible exact bz _) | (with_reducible apply ba) | (with_reducible apply Below.drew)))).below hb); replace HBW := Lib.hid (HBW.out.trans ((bt (by repeat (first | (with_reducible exact bz _) | (with_reducible apply ba) | (with_reducible apply Below.drew))) hb).mono HBW.out.size)); clear hb)
          | (go_at_call 14; refine (HIT.out _).mono ?_; rintro e wX ⟨vI, rfl, hownI, hb⟩; obtain ⟨aoI, capI, bI, oI, rfl, hsI, _⟩ := SlAt.owned hownI; have HI := Lib.hid hsI; clear hownI hsI; replace xa0 := cell_past hb (by repeat (first | (with_reducible exact xa0) | (with_reducible apply keep_alloc) | (with_reducible apply keep_drew))); replace xa1 := cell_past hb (by repeat (first | (with_reducible exact xa1) | (with_reducible apply keep_alloc) | (with_reducible apply keep_drew))); replace xa2 := cell_past hb (by repeat (first | (with_reducible exact xa2) | (with_reducible apply keep_alloc) | (with_reducible apply keep_drew))); replace xa3 := cell_past hb (by repeat (first | (with_reducible exact xa3) | (with_reducible apply keep_alloc) | (with_reducible apply keep_drew))); replace xa4 := cell_past hb (by repeat (first | (with_reducible exact xa4) | (with_reducible apply keep_alloc) | (with_reducible apply keep_drew))); replace xa5 := cell_past hb (by repeat (first | (with_reducible exact xa5) | (with_reducible apply keep_alloc) | (with_reducible apply keep_drew))); replace xa6 := cell_past hb (by repeat (first | (with_reducible exact xa6) | (with_reducible apply keep_alloc) | (with_reducible apply keep_drew))); replace xa7 := cell_past hb (by repeat (first | (with_reducible exact xa7) | (with_reducible apply keep_alloc) | (with_reducible apply keep_drew))); replace xa8 := cell_past hb (by repeat (first | (with_reducible exact xa8) | (with_reducible apply keep_alloc) | (with_reducible apply keep_drew))); replace xu0 := cell_past hb (by repeat (first | (with_reducible exact xu0) | (with_reducible apply keep_alloc) | (with_reducible apply keep_drew))); replace xu1 := cell_past hb (by repeat (first | (with_reducible exact xu1) | (with_reducible apply keep_alloc) | (with_reducible apply keep_drew))); replace xu2 := cell_past hb (by repeat (first | (with_reducible exact xu2) | (with_reducible apply keep_alloc) | (with_reducible apply keep_drew))); replace xu3 := cell_past hb (by repeat (first | (with_reducible exact xu3) | (with_reducible apply keep_alloc) | (with_reducible apply keep_drew))); replace xu4 := cell_past hb (by repeat (first | (with_reducible exact xu4) | (with_reducible apply keep_alloc) | (with_reducible apply keep_drew))); replace xu5 := cell_past hb (by repeat (first | (with_reducible exact xu5) | (with_reducible apply keep_alloc) | (with_reducible apply keep_drew))); replace xu6 := cell_past hb (by repeat (first | (with_reducible exact xu6) | (with_reducible apply keep_alloc) | (with_reducible apply keep_drew))); replace xu7 := cell_past hb (by repeat (first | (with_reducible exact xu7) | (with_reducible apply keep_alloc) | (with_reducible apply keep_drew))); replace xu8 := cell_past hb (by repeat (first | (with_reducible exact xu8) | (with_reducible apply keep_alloc) | (with_reducible apply keep_drew))); replace HL := Lib.hid ((HL.out.below (by repeat (first | (with_reducible exact bz _) | (with_reducible apply ba) | (with_reducible apply Below.drew)))).below hb); replace HO := Lib.hid ((HO.out.below (by repeat (first | (with_reducible exact bz _) | (with_reducible apply ba) | (with_reducible apply Below.drew)))).below hb); replace HBW := Lib.hid (HBW.out.trans ((bt (by repeat (first | (with_reducible exact bz _) | (with_reducible apply ba) | (with_reducible apply Below.drew))) hb).mono HBW.out.size)); clear hb)
          | (go_at_call 26; refine (HRE.out aoI capI bI oI _ (HI.out.below (by repeat (first | (with_reducible exact bz _) | (with_reducible apply ba) | (with_reducible apply Below.drew))))).mono ?_; rintro e wX ⟨rfl, hb⟩; replace xa0 := cell_past hb (by repeat (first | (with_reducible exact xa0) | (with_reducible apply keep_alloc) | (with_reducible apply keep_drew))); replace xa1 := cell_past hb (by repeat (first | (with_reducible exact xa1) | (with_reducible apply keep_alloc) | (with_reducible apply keep_drew))); replace xa2 := cell_past hb (by repeat (first | (with_reducible exact xa2) | (with_reducible apply keep_alloc) | (with_reducible apply keep_drew))); replace xa3 := cell_past hb (by repeat (first | (with_reducible exact xa3) | (with_reducible apply keep_alloc) | (with_reducible apply keep_drew))); replace xa4 := cell_past hb (by repeat (first | (with_reducible exact xa4) | (with_reducible apply keep_alloc) | (with_reducible apply keep_drew))); replace xa5 := cell_past hb (by repeat (first | (with_reducible exact xa5) | (with_reducible apply keep_alloc) | (with_reducible apply keep_drew))); replace xa6 := cell_past hb (by repeat (first | (with_reducible exact xa6) | (with_reducible apply keep_alloc) | (with_reducible apply keep_drew))); replace xa7 := cell_past hb (by repeat (first | (with_reducible exact xa7) | (with_reducible apply keep_alloc) | (with_reducible apply keep_drew))); replace xa8 := cell_past hb (by repeat (first | (with_reducible exact xa8) | (with_reducible apply keep_alloc) | (with_reducible apply keep_drew))); replace xu0 := cell_past hb (by repeat (first | (with_reducible exact xu0) | (with_reducible apply keep_alloc) | (with_reducible apply keep_drew))); replace xu1 := cell_past hb (by repeat (first | (with_reducible exact xu1) | (with_reducible apply keep_alloc) | (with_reducible apply keep_drew))); replace xu2 := cell_past hb (by repeat (first | (with_reducible exact xu2) | (with_reducible apply keep_alloc) | (with_reducible apply keep_drew))); replace xu3 := cell_past hb (by repeat (first | (with_reducible exact xu3) | (with_reducible apply keep_alloc) | (with_reducible apply keep_drew))); replace xu4 := cell_past hb (by repeat (first | (with_reducible exact xu4) | (with_reducible apply keep_alloc) | (with_reducible apply keep_drew))); replace xu5 := cell_past hb (by repeat (first | (with_reducible exact xu5) | (with_reducible apply keep_alloc) | (with_reducible apply keep_drew))); replace xu6 := cell_past hb (by repeat (first | (with_reducible exact xu6) | (with_reducible apply keep_alloc) | (with_reducible apply keep_drew))); replace xu7 := cell_past hb (by repeat (first | (with_reducible exact xu7) | (with_reducible apply keep_alloc) | (with_reducible apply keep_drew))); replace xu8 := cell_past hb (by repeat (first | (with_reducible exact xu8) | (with_reducible apply keep_alloc) | (with_reducible apply keep_drew))); replace HL := Lib.hid ((HL.out.below (by repeat (first | (with_reducible exact bz _) | (with_reducible apply ba) | (with_reducible apply Below.drew)))).below hb); replace HO := Lib.hid ((HO.out.below (by repeat (first | (with_reducible exact bz _) | (with_reducible apply ba) | (with_reducible apply Below.drew)))).below hb); replace HBW := Lib.hid (HBW.out.trans ((bt (by repeat (first | (with_reducible exact bz _) | (with_reducible apply ba) | (with_reducible apply Below.drew))) hb).mono HBW.out.size)); clear hb)
          | (go_at_call 15; (first | (with_reducible refine (HA1'.out aoL capL bL oL _ (HL.out.below (by repeat (first | (with_reducible exact bz _) | (with_reducible apply ba) | (with_reducible apply Below.drew))))).mono ?_) | (with_reducible refine (HA2.out aoO capO bO oO _ (HO.out.below (by repeat (first | (with_reducible exact bz _) | (with_reducible apply ba) | (with_reducible apply Below.drew))))).mono ?_)); rintro e wX ⟨rfl, hb⟩; replace xa0 := cell_past hb (by repeat (first | (with_reducible exact xa0) | (with_reducible apply keep_alloc) | (with_reducible apply keep_drew))); replace xa1 := cell_past hb (by repeat (first | (with_reducible exact xa1) | (with_reducible apply keep_alloc) | (with_reducible apply keep_drew))); replace xa2 := cell_past hb (by repeat (first | (with_reducible exact xa2) | (with_reducible apply keep_alloc) | (with_reducible apply keep_drew))); replace xa3 := cell_past hb (by repeat (first | (with_reducible exact xa3) | (with_reducible apply keep_alloc) | (with_reducible apply keep_drew))); replace xa4 := cell_past hb (by repeat (first | (with_reducible exact xa4) | (with_reducible apply keep_alloc) | (with_reducible apply keep_drew))); replace xa5 := cell_past hb (by repeat (first | (with_reducible exact xa5) | (with_reducible apply keep_alloc) | (with_reducible apply keep_drew))); replace xa6 := cell_past hb (by repeat (first | (with_reducible exact xa6) | (with_reducible apply keep_alloc) | (with_reducible apply keep_drew))); replace xa7 := cell_past hb (by repeat (first | (with_reducible exact xa7) | (with_reducible apply keep_alloc) | (with_reducible apply keep_drew))); replace xa8 := cell_past hb (by repeat (first | (with_reducible exact xa8) | (with_reducible apply keep_alloc) | (with_reducible apply keep_drew))); replace xu0 := cell_past hb (by repeat (first | (with_reducible exact xu0) | (with_reducible apply keep_alloc) | (with_reducible apply keep_drew))); replace xu1 := cell_past hb (by repeat (first | (with_reducible exact xu1) | (with_reducible apply keep_alloc) | (with_reducible apply keep_drew))); replace xu2 := cell_past hb (by repeat (first | (with_reducible exact xu2) | (with_reducible apply keep_alloc) | (with_reducible apply keep_drew))); replace xu3 := cell_past hb (by repeat (first | (with_reducible exact xu3) | (with_reducible apply keep_alloc) | (with_reducible apply keep_drew))); replace xu4 := cell_past hb (by repeat (first | (with_reducible exact xu4) | (with_reducible apply keep_alloc) | (with_reducible apply keep_drew))); replace xu5 := cell_past hb (by repeat (first | (with_reducible exact xu5) | (with_reducible apply keep_alloc) | (with_reducible apply keep_drew))); replace xu6 := cell_past hb (by repeat (first | (with_reducible exact xu6) | (with_reducible apply keep_alloc) | (with_reducible apply keep_drew))); replace xu7 := cell_past hb (by repeat (first | (with_reducible exact xu7) | (with_reducible apply keep_alloc) | (with_reducible apply keep_drew))); replace xu8 := cell_past hb (by repeat (first | (with_reducible exact xu8) | (with_reducible apply keep_alloc) | (with_reducible apply keep_drew))); replace HL := Lib.hid ((HL.out.below (by repeat (first | (with_reducible exact bz _) | (with_reducible apply ba) | (with_reducible apply Below.drew)))).below hb); replace HO := Lib.hid ((HO.out.below (by repeat (first | (with_reducible exact bz _) | (with_reducible apply ba) | (with_reducible apply Below.drew)))).below hb); replace HBW := Lib.hid (HBW.out.trans ((bt (by repeat (first | (with_reducible exact bz _) | (with_reducible apply ba) | (with_reducible apply Below.drew))) hb).mono HBW.out.size)); clear hb))
      all_goals go_wp2
      all_goals go_ret
      all_goals exact ⟨by simp, by first | exact HBW.out | exact HBW.out.drew⟩
theorem codes_any (s : KV) (t : ByteArray) (key : Int) (w : World) (hs : s.ok) (hkey : 0 ≤ key ∧ key ≤ 255) :
    Calls Try.prog 7 #[s.val, .string t, .int .u8 key] w fun e w' => e = .returned (.bool true) ∧ Below w.heap.size w w' := by
  by_cases hn : t.size ≤ 300
  · obtain ⟨K, rfl⟩ := Int.eq_ofNat_of_zero_le hkey.1
    exact codes_small s t K w hs hn
  · exact codes_big s t key w (by omega)
end Go.Proofs.Ytoidbmgoofbcfaa
