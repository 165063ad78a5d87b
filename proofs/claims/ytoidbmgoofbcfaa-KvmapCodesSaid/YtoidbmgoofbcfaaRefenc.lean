/- The document's Encode (f26) and Decode (f24). Printed by gen_refenc.py. -/
import Derived.Test.YtoidbmgoofbcfaaItemsw
import Derived.Test.YtoidbmgoofbcfaaCodep
import Derived.Test.YtoidbmgoofbcfaaNr
import Derived.Test.YtoidbmgoofbcfaaRr
namespace Go.Proofs.Ytoidbmgoofbcfaa
open Go.RowKit Go.Um
set_option linter.unusedSimpArgs false
set_option linter.unusedVariables false
set_option maxHeartbeats 4000000
set_option maxRecDepth 100000

/-- the bits of the first k keys -/
def bN (s : KV) (k : Nat) : Int := ((List.range k).map fun j => if s.has j then (2 : Int) ^ j else 0).sum
theorem bN_succ (s : KV) (k : Nat) : bN s (k + 1) = bN s k + (if s.has k then (2 : Int) ^ k else 0) := by simp [bN, List.range_succ]
theorem bN_le (s : KV) : ∀ k, 0 ≤ bN s k ∧ bN s k < 2 ^ k
  | 0 => by simp [bN]
  | k + 1 => by
    have ih := bN_le s k
    rw [bN_succ, Int.pow_succ]
    have : (0 : Int) < 2 ^ k := Int.pow_pos (by decide)
    split <;> omega
theorem bN_all {s : KV} (hs : s.ok) : bN s 8 = s.h := by
  have hh := hs.h
  obtain ⟨n, hn⟩ := Int.eq_ofNat_of_zero_le hh.1
  have h1 := sum_all ⟨n, by omega⟩
  unfold sumBits at h1
  simp only [beq_iff_eq] at h1
  rw [hn, h1]
  unfold bN
  congr 1
  refine List.map_congr_left fun k hk => ?_
  have : s.has k = bit (n : Int) k := by simp [KV.has, hn, List.mem_range.1 hk]
  rw [this]
/-- the numbers of the first k keys -/
def tlN (s : KV) (k : Nat) : List Int := (List.range k).flatMap fun j => if s.has j then be (s.get j) 2 else []
theorem tlN_succ (s : KV) (k : Nat) : tlN s (k + 1) = tlN s k ++ (if s.has k then be (s.get k) 2 else []) := by simp [tlN, List.range_succ]
theorem tlN_len (s : KV) : ∀ k, (tlN s k).length ≤ 2 * k
  | 0 => by simp [tlN]
  | k + 1 => by
    rw [tlN_succ, List.length_append]
    have := tlN_len s k
    split <;> simp [be] <;> omega
theorem at_has {T : List (Int × Int)} (h : ItOk T) (k : Nat) (hk : k < 8) (hh : (kvN T).has k = true) : ∃ (i : Nat) (x : Int × Int), T[i]? = some x ∧ atI T k = i ∧ x.2 = (kvN T).get k := by
  obtain ⟨h1, h2⟩ := kvN_look h
  obtain ⟨h3, h4⟩ := h2 k hk
  rcases at_ways T k with ⟨_, e⟩ | ⟨i, x, e1, e2, e3⟩
  · rw [look_none e] at h3; rw [h3] at hh; cases hh
  · refine ⟨i, x, e1, e3, ?_⟩
    rw [h4, look_some h.d (List.mem_of_getElem? e1) e2]; rfl
theorem at_not {T : List (Int × Int)} (h : ItOk T) (k : Nat) (hk : k < 8) (hh : (kvN T).has k = false) : atI T k = -1 := by
  obtain ⟨h1, h2⟩ := kvN_look h
  obtain ⟨h3, h4⟩ := h2 k hk
  rcases at_ways T k with ⟨e, _⟩ | ⟨i, x, e1, e2, e3⟩
  · exact e
  · rw [look_some h.d (List.mem_of_getElem? e1) e2] at h3; rw [h3] at hh; cases hh

theorem refenc_any (T : List (Int × Int)) (n : Nat) (hn : n = T.length) (ao : Option Addr) (cap b o : Nat) (w : World) (h : SlAt w 2 n (T.flatMap resC) ao cap b o) (hT : ItOk T) (hlen : n ≤ 1000) :
    Calls Try.prog 26 #[.slice ao n cap] w fun e w' => e = .returned (.string (strOfNums (encL (kvN T) 8))) ∧ Below w.heap.size w w' := by
  have hidx := h.idx (P := Try.prog) (t := 33) Try.underlying33 size61 (by decide)
  have hcv := conv1
  have hso := (kvN_look hT).1
  have HAT := Lib.hid (fun k W hW => at_any T n hn ao cap b o k W hW hlen)
  have HYS := Lib.hid (at_has hT)
  have HNO := Lib.hid (at_not hT)
  have HN := Lib.hid hn
  have HS := Lib.hid h
  have HBA := Lib.hid (bN_all hso)
  have HV := Lib.hid hso.v
  obtain ⟨S, hS⟩ : ∃ S, S = kvN T := ⟨_, rfl⟩
  rw [← hS] at HYS HNO HBA HV
  have hencE : encL S 8 = S.h :: tlN S 8 := rfl
  have HE := Lib.hid hencE
  have HSS := Lib.hid hS
  clear h hT hso hS hn hencE
  go_enter Try.func26, Try.ntmps26
  go_wp2_with fail
  go_loopw [3, 4, 5] (fun t3 t4 t5 wr => ∃ k : Nat, k ≤ 8 ∧ t5 = .int .i64 k ∧ t3 = .int .i64 (bN S k) ∧ t4 = .string (strOfNums (tlN S k)) ∧ Hid (Below w.heap.size w wr)) (fun _ _ t5 _ => 8 - (intOf t5).toNat)
  case atStart => exact ⟨0, by omega, rfl, rfl, rfl, bz w⟩
  case round =>
    obtain ⟨k, hk, rfl, rfl, rfl, hb⟩ := hrel
    have hbs := bN_succ S k
    have hbl := bN_le S k
    have hts := tlN_succ S k
    have htl := tlN_len S k
    obtain ⟨BB, hB⟩ : ∃ x, x = bN S k := ⟨_, rfl⟩
    obtain ⟨TL, hTL⟩ : ∃ x, x = tlN S k := ⟨_, rfl⟩
    have HBB := Lib.hid hB
    have HTLL := Lib.hid hTL
    rw [← hB] at hbs hbl ⊢
    rw [← hTL] at hts htl ⊢
    have hsz : ((strOfNums TL).size : Int) ≤ 8388608 := by rw [strOfNums_size]; omega
    have HBS := Lib.hid hbs
    have HTS := Lib.hid hts
    clear hbs hts htl hB hTL
    have hcase : k = 0 ∨ k = 1 ∨ k = 2 ∨ k = 3 ∨ k = 4 ∨ k = 5 ∨ k = 6 ∨ k = 7 ∨ k = 8 := by omega
    rcases hcase with rfl | rfl | rfl | rfl | rfl | rfl | rfl | rfl | rfl
    · obtain ⟨q, hq⟩ : ∃ q, S.has 0 = q := ⟨_, rfl⟩
      rw [hq] at HBS HTS
      cases q
      · have hat := HNO.out 0 (by omega) hq
        have HA := Lib.hid (fun W hW => HAT.out 0 W hW)
        have hat' : atI T 0 = -1 := hat
        rw [hat'] at HA
        clear hat hat' hq
        go_wp2_with fail
        refine (HA.out _ (HS.out.below' hb.out HS.out.lt)).mono ?_
        rintro e w1 ⟨rfl, rfl⟩
        go_wp2_with fail
        go_roundw
        case rel => exact ⟨1, by omega, by go_num, by rw [HBS.out]; simp, by rw [HTS.out]; simp, hb⟩
        case measure => simp [intOf]
      · obtain ⟨i, x, hix, hat, hxv⟩ := HYS.out 0 (by omega) hq
        have HA := Lib.hid (fun W hW => HAT.out 0 W hW)
        have hat' : atI T 0 = i := hat
        rw [hat'] at HA
        have hvv := HV.out 0
        have hg : S.get 0 = S.v0 := rfl
        rw [hg] at hxv hvv HTS
        obtain ⟨g0, g1⟩ := res_at (HS.out.below' hb.out HS.out.lt) hix
        rw [hxv] at g1
        have hin : i < n := by have := (List.getElem?_eq_some_iff.1 hix).1; have := HN.out; omega
        have i1 : (0 : Int) ≤ (i : Int) := by omega
        have i2 : (i : Int) < (n : Int) := by omega
        have t9 : ((i : Int) < 0) = False := by simp
        have e2 : IntKind.i64.wrap (BB + 1) = BB + 1 := IntWalk.i64_in _ (by have := hbl; simp at this; omega)
        have hs2 : ((strOfNums (be S.v0 2)).size : Int) ≤ 8388608 := by rw [strOfNums_size, be_len]; omega
        have HNB := Lib.hid (fun W => number_any S.v0 2 W (by omega) (by omega))
        clear hat hat' hq hix hxv hin hg hbl
        go_wp2_with fail
        refine (HA.out _ (HS.out.below' hb.out HS.out.lt)).mono ?_
        rintro e w1 ⟨rfl, rfl⟩
        go_wp2_with fail
        refine (HNB.out _).mono ?_
        rintro e w2 ⟨rfl, hb2⟩
        have HB2 := Lib.hid (hb.out.trans (hb2.mono hb.out.size))
        clear hb2
        go_wp2_with fail
        go_roundw
        case rel => exact ⟨1, by omega, by go_num, by rw [HBS.out]; simp, by rw [HTS.out, if_pos trivial, strcat], HB2⟩
        case measure => simp [intOf]
    · obtain ⟨q, hq⟩ : ∃ q, S.has 1 = q := ⟨_, rfl⟩
      rw [hq] at HBS HTS
      cases q
      · have hat := HNO.out 1 (by omega) hq
        have HA := Lib.hid (fun W hW => HAT.out 1 W hW)
        have hat' : atI T 1 = -1 := hat
        rw [hat'] at HA
        clear hat hat' hq
        go_wp2_with fail
        refine (HA.out _ (HS.out.below' hb.out HS.out.lt)).mono ?_
        rintro e w1 ⟨rfl, rfl⟩
        go_wp2_with fail
        go_roundw
        case rel => exact ⟨2, by omega, by go_num, by rw [HBS.out]; simp, by rw [HTS.out]; simp, hb⟩
        case measure => simp [intOf]
      · obtain ⟨i, x, hix, hat, hxv⟩ := HYS.out 1 (by omega) hq
        have HA := Lib.hid (fun W hW => HAT.out 1 W hW)
        have hat' : atI T 1 = i := hat
        rw [hat'] at HA
        have hvv := HV.out 1
        have hg : S.get 1 = S.v1 := rfl
        rw [hg] at hxv hvv HTS
        obtain ⟨g0, g1⟩ := res_at (HS.out.below' hb.out HS.out.lt) hix
        rw [hxv] at g1
        have hin : i < n := by have := (List.getElem?_eq_some_iff.1 hix).1; have := HN.out; omega
        have i1 : (0 : Int) ≤ (i : Int) := by omega
        have i2 : (i : Int) < (n : Int) := by omega
        have t9 : ((i : Int) < 0) = False := by simp
        have e2 : IntKind.i64.wrap (BB + 2) = BB + 2 := IntWalk.i64_in _ (by have := hbl; simp at this; omega)
        have hs2 : ((strOfNums (be S.v1 2)).size : Int) ≤ 8388608 := by rw [strOfNums_size, be_len]; omega
        have HNB := Lib.hid (fun W => number_any S.v1 2 W (by omega) (by omega))
        clear hat hat' hq hix hxv hin hg hbl
        go_wp2_with fail
        refine (HA.out _ (HS.out.below' hb.out HS.out.lt)).mono ?_
        rintro e w1 ⟨rfl, rfl⟩
        go_wp2_with fail
        refine (HNB.out _).mono ?_
        rintro e w2 ⟨rfl, hb2⟩
        have HB2 := Lib.hid (hb.out.trans (hb2.mono hb.out.size))
        clear hb2
        go_wp2_with fail
        go_roundw
        case rel => exact ⟨2, by omega, by go_num, by rw [HBS.out]; simp, by rw [HTS.out, if_pos trivial, strcat], HB2⟩
        case measure => simp [intOf]
    · obtain ⟨q, hq⟩ : ∃ q, S.has 2 = q := ⟨_, rfl⟩
      rw [hq] at HBS HTS
      cases q
      · have hat := HNO.out 2 (by omega) hq
        have HA := Lib.hid (fun W hW => HAT.out 2 W hW)
        have hat' : atI T 2 = -1 := hat
        rw [hat'] at HA
        clear hat hat' hq
        go_wp2_with fail
        refine (HA.out _ (HS.out.below' hb.out HS.out.lt)).mono ?_
        rintro e w1 ⟨rfl, rfl⟩
        go_wp2_with fail
        go_roundw
        case rel => exact ⟨3, by omega, by go_num, by rw [HBS.out]; simp, by rw [HTS.out]; simp, hb⟩
        case measure => simp [intOf]
      · obtain ⟨i, x, hix, hat, hxv⟩ := HYS.out 2 (by omega) hq
        have HA := Lib.hid (fun W hW => HAT.out 2 W hW)
        have hat' : atI T 2 = i := hat
        rw [hat'] at HA
        have hvv := HV.out 2
        have hg : S.get 2 = S.v2 := rfl
        rw [hg] at hxv hvv HTS
        obtain ⟨g0, g1⟩ := res_at (HS.out.below' hb.out HS.out.lt) hix
        rw [hxv] at g1
        have hin : i < n := by have := (List.getElem?_eq_some_iff.1 hix).1; have := HN.out; omega
        have i1 : (0 : Int) ≤ (i : Int) := by omega
        have i2 : (i : Int) < (n : Int) := by omega
        have t9 : ((i : Int) < 0) = False := by simp
        have e2 : IntKind.i64.wrap (BB + 4) = BB + 4 := IntWalk.i64_in _ (by have := hbl; simp at this; omega)
        have hs2 : ((strOfNums (be S.v2 2)).size : Int) ≤ 8388608 := by rw [strOfNums_size, be_len]; omega
        have HNB := Lib.hid (fun W => number_any S.v2 2 W (by omega) (by omega))
        clear hat hat' hq hix hxv hin hg hbl
        go_wp2_with fail
        refine (HA.out _ (HS.out.below' hb.out HS.out.lt)).mono ?_
        rintro e w1 ⟨rfl, rfl⟩
        go_wp2_with fail
        refine (HNB.out _).mono ?_
        rintro e w2 ⟨rfl, hb2⟩
        have HB2 := Lib.hid (hb.out.trans (hb2.mono hb.out.size))
        clear hb2
        go_wp2_with fail
        go_roundw
        case rel => exact ⟨3, by omega, by go_num, by rw [HBS.out]; simp, by rw [HTS.out, if_pos trivial, strcat], HB2⟩
        case measure => simp [intOf]
    · obtain ⟨q, hq⟩ : ∃ q, S.has 3 = q := ⟨_, rfl⟩
      rw [hq] at HBS HTS
      cases q
      · have hat := HNO.out 3 (by omega) hq
        have HA := Lib.hid (fun W hW => HAT.out 3 W hW)
        have hat' : atI T 3 = -1 := hat
        rw [hat'] at HA
        clear hat hat' hq
        go_wp2_with fail
        refine (HA.out _ (HS.out.below' hb.out HS.out.lt)).mono ?_
        rintro e w1 ⟨rfl, rfl⟩
        go_wp2_with fail
        go_roundw
        case rel => exact ⟨4, by omega, by go_num, by rw [HBS.out]; simp, by rw [HTS.out]; simp, hb⟩
        case measure => simp [intOf]
      · obtain ⟨i, x, hix, hat, hxv⟩ := HYS.out 3 (by omega) hq
        have HA := Lib.hid (fun W hW => HAT.out 3 W hW)
        have hat' : atI T 3 = i := hat
        rw [hat'] at HA
        have hvv := HV.out 3
        have hg : S.get 3 = S.v3 := rfl
        rw [hg] at hxv hvv HTS
        obtain ⟨g0, g1⟩ := res_at (HS.out.below' hb.out HS.out.lt) hix
        rw [hxv] at g1
        have hin : i < n := by have := (List.getElem?_eq_some_iff.1 hix).1; have := HN.out; omega
        have i1 : (0 : Int) ≤ (i : Int) := by omega
        have i2 : (i : Int) < (n : Int) := by omega
        have t9 : ((i : Int) < 0) = False := by simp
        have e2 : IntKind.i64.wrap (BB + 8) = BB + 8 := IntWalk.i64_in _ (by have := hbl; simp at this; omega)
        have hs2 : ((strOfNums (be S.v3 2)).size : Int) ≤ 8388608 := by rw [strOfNums_size, be_len]; omega
        have HNB := Lib.hid (fun W => number_any S.v3 2 W (by omega) (by omega))
        clear hat hat' hq hix hxv hin hg hbl
        go_wp2_with fail
        refine (HA.out _ (HS.out.below' hb.out HS.out.lt)).mono ?_
        rintro e w1 ⟨rfl, rfl⟩
        go_wp2_with fail
        refine (HNB.out _).mono ?_
        rintro e w2 ⟨rfl, hb2⟩
        have HB2 := Lib.hid (hb.out.trans (hb2.mono hb.out.size))
        clear hb2
        go_wp2_with fail
        go_roundw
        case rel => exact ⟨4, by omega, by go_num, by rw [HBS.out]; simp, by rw [HTS.out, if_pos trivial, strcat], HB2⟩
        case measure => simp [intOf]
    · obtain ⟨q, hq⟩ : ∃ q, S.has 4 = q := ⟨_, rfl⟩
      rw [hq] at HBS HTS
      cases q
      · have hat := HNO.out 4 (by omega) hq
        have HA := Lib.hid (fun W hW => HAT.out 4 W hW)
        have hat' : atI T 4 = -1 := hat
        rw [hat'] at HA
        clear hat hat' hq
        go_wp2_with fail
        refine (HA.out _ (HS.out.below' hb.out HS.out.lt)).mono ?_
        rintro e w1 ⟨rfl, rfl⟩
        go_wp2_with fail
        go_roundw
        case rel => exact ⟨5, by omega, by go_num, by rw [HBS.out]; simp, by rw [HTS.out]; simp, hb⟩
        case measure => simp [intOf]
      · obtain ⟨i, x, hix, hat, hxv⟩ := HYS.out 4 (by omega) hq
        have HA := Lib.hid (fun W hW => HAT.out 4 W hW)
        have hat' : atI T 4 = i := hat
        rw [hat'] at HA
        have hvv := HV.out 4
        have hg : S.get 4 = S.v4 := rfl
        rw [hg] at hxv hvv HTS
        obtain ⟨g0, g1⟩ := res_at (HS.out.below' hb.out HS.out.lt) hix
        rw [hxv] at g1
        have hin : i < n := by have := (List.getElem?_eq_some_iff.1 hix).1; have := HN.out; omega
        have i1 : (0 : Int) ≤ (i : Int) := by omega
        have i2 : (i : Int) < (n : Int) := by omega
        have t9 : ((i : Int) < 0) = False := by simp
        have e2 : IntKind.i64.wrap (BB + 16) = BB + 16 := IntWalk.i64_in _ (by have := hbl; simp at this; omega)
        have hs2 : ((strOfNums (be S.v4 2)).size : Int) ≤ 8388608 := by rw [strOfNums_size, be_len]; omega
        have HNB := Lib.hid (fun W => number_any S.v4 2 W (by omega) (by omega))
        clear hat hat' hq hix hxv hin hg hbl
        go_wp2_with fail
        refine (HA.out _ (HS.out.below' hb.out HS.out.lt)).mono ?_
        rintro e w1 ⟨rfl, rfl⟩
        go_wp2_with fail
        refine (HNB.out _).mono ?_
        rintro e w2 ⟨rfl, hb2⟩
        have HB2 := Lib.hid (hb.out.trans (hb2.mono hb.out.size))
        clear hb2
        go_wp2_with fail
        go_roundw
        case rel => exact ⟨5, by omega, by go_num, by rw [HBS.out]; simp, by rw [HTS.out, if_pos trivial, strcat], HB2⟩
        case measure => simp [intOf]
    · obtain ⟨q, hq⟩ : ∃ q, S.has 5 = q := ⟨_, rfl⟩
      rw [hq] at HBS HTS
      cases q
      · have hat := HNO.out 5 (by omega) hq
        have HA := Lib.hid (fun W hW => HAT.out 5 W hW)
        have hat' : atI T 5 = -1 := hat
        rw [hat'] at HA
        clear hat hat' hq
        go_wp2_with fail
        refine (HA.out _ (HS.out.below' hb.out HS.out.lt)).mono ?_
        rintro e w1 ⟨rfl, rfl⟩
        go_wp2_with fail
        go_roundw
        case rel => exact ⟨6, by omega, by go_num, by rw [HBS.out]; simp, by rw [HTS.out]; simp, hb⟩
        case measure => simp [intOf]
      · obtain ⟨i, x, hix, hat, hxv⟩ := HYS.out 5 (by omega) hq
        have HA := Lib.hid (fun W hW => HAT.out 5 W hW)
        have hat' : atI T 5 = i := hat
        rw [hat'] at HA
        have hvv := HV.out 5
        have hg : S.get 5 = S.v5 := rfl
        rw [hg] at hxv hvv HTS
        obtain ⟨g0, g1⟩ := res_at (HS.out.below' hb.out HS.out.lt) hix
        rw [hxv] at g1
        have hin : i < n := by have := (List.getElem?_eq_some_iff.1 hix).1; have := HN.out; omega
        have i1 : (0 : Int) ≤ (i : Int) := by omega
        have i2 : (i : Int) < (n : Int) := by omega
        have t9 : ((i : Int) < 0) = False := by simp
        have e2 : IntKind.i64.wrap (BB + 32) = BB + 32 := IntWalk.i64_in _ (by have := hbl; simp at this; omega)
        have hs2 : ((strOfNums (be S.v5 2)).size : Int) ≤ 8388608 := by rw [strOfNums_size, be_len]; omega
        have HNB := Lib.hid (fun W => number_any S.v5 2 W (by omega) (by omega))
        clear hat hat' hq hix hxv hin hg hbl
        go_wp2_with fail
        refine (HA.out _ (HS.out.below' hb.out HS.out.lt)).mono ?_
        rintro e w1 ⟨rfl, rfl⟩
        go_wp2_with fail
        refine (HNB.out _).mono ?_
        rintro e w2 ⟨rfl, hb2⟩
        have HB2 := Lib.hid (hb.out.trans (hb2.mono hb.out.size))
        clear hb2
        go_wp2_with fail
        go_roundw
        case rel => exact ⟨6, by omega, by go_num, by rw [HBS.out]; simp, by rw [HTS.out, if_pos trivial, strcat], HB2⟩
        case measure => simp [intOf]
    · obtain ⟨q, hq⟩ : ∃ q, S.has 6 = q := ⟨_, rfl⟩
      rw [hq] at HBS HTS
      cases q
      · have hat := HNO.out 6 (by omega) hq
        have HA := Lib.hid (fun W hW => HAT.out 6 W hW)
        have hat' : atI T 6 = -1 := hat
        rw [hat'] at HA
        clear hat hat' hq
        go_wp2_with fail
        refine (HA.out _ (HS.out.below' hb.out HS.out.lt)).mono ?_
        rintro e w1 ⟨rfl, rfl⟩
        go_wp2_with fail
        go_roundw
        case rel => exact ⟨7, by omega, by go_num, by rw [HBS.out]; simp, by rw [HTS.out]; simp, hb⟩
        case measure => simp [intOf]
      · obtain ⟨i, x, hix, hat, hxv⟩ := HYS.out 6 (by omega) hq
        have HA := Lib.hid (fun W hW => HAT.out 6 W hW)
        have hat' : atI T 6 = i := hat
        rw [hat'] at HA
        have hvv := HV.out 6
        have hg : S.get 6 = S.v6 := rfl
        rw [hg] at hxv hvv HTS
        obtain ⟨g0, g1⟩ := res_at (HS.out.below' hb.out HS.out.lt) hix
        rw [hxv] at g1
        have hin : i < n := by have := (List.getElem?_eq_some_iff.1 hix).1; have := HN.out; omega
        have i1 : (0 : Int) ≤ (i : Int) := by omega
        have i2 : (i : Int) < (n : Int) := by omega
        have t9 : ((i : Int) < 0) = False := by simp
        have e2 : IntKind.i64.wrap (BB + 64) = BB + 64 := IntWalk.i64_in _ (by have := hbl; simp at this; omega)
        have hs2 : ((strOfNums (be S.v6 2)).size : Int) ≤ 8388608 := by rw [strOfNums_size, be_len]; omega
        have HNB := Lib.hid (fun W => number_any S.v6 2 W (by omega) (by omega))
        clear hat hat' hq hix hxv hin hg hbl
        go_wp2_with fail
        refine (HA.out _ (HS.out.below' hb.out HS.out.lt)).mono ?_
        rintro e w1 ⟨rfl, rfl⟩
        go_wp2_with fail
        refine (HNB.out _).mono ?_
        rintro e w2 ⟨rfl, hb2⟩
        have HB2 := Lib.hid (hb.out.trans (hb2.mono hb.out.size))
        clear hb2
        go_wp2_with fail
        go_roundw
        case rel => exact ⟨7, by omega, by go_num, by rw [HBS.out]; simp, by rw [HTS.out, if_pos trivial, strcat], HB2⟩
        case measure => simp [intOf]
    · obtain ⟨q, hq⟩ : ∃ q, S.has 7 = q := ⟨_, rfl⟩
      rw [hq] at HBS HTS
      cases q
      · have hat := HNO.out 7 (by omega) hq
        have HA := Lib.hid (fun W hW => HAT.out 7 W hW)
        have hat' : atI T 7 = -1 := hat
        rw [hat'] at HA
        clear hat hat' hq
        go_wp2_with fail
        refine (HA.out _ (HS.out.below' hb.out HS.out.lt)).mono ?_
        rintro e w1 ⟨rfl, rfl⟩
        go_wp2_with fail
        go_roundw
        case rel => exact ⟨8, by omega, by go_num, by rw [HBS.out]; simp, by rw [HTS.out]; simp, hb⟩
        case measure => simp [intOf]
      · obtain ⟨i, x, hix, hat, hxv⟩ := HYS.out 7 (by omega) hq
        have HA := Lib.hid (fun W hW => HAT.out 7 W hW)
        have hat' : atI T 7 = i := hat
        rw [hat'] at HA
        have hvv := HV.out 7
        have hg : S.get 7 = S.v7 := rfl
        rw [hg] at hxv hvv HTS
        obtain ⟨g0, g1⟩ := res_at (HS.out.below' hb.out HS.out.lt) hix
        rw [hxv] at g1
        have hin : i < n := by have := (List.getElem?_eq_some_iff.1 hix).1; have := HN.out; omega
        have i1 : (0 : Int) ≤ (i : Int) := by omega
        have i2 : (i : Int) < (n : Int) := by omega
        have t9 : ((i : Int) < 0) = False := by simp
        have e2 : IntKind.i64.wrap (BB + 128) = BB + 128 := IntWalk.i64_in _ (by have := hbl; simp at this; omega)
        have hs2 : ((strOfNums (be S.v7 2)).size : Int) ≤ 8388608 := by rw [strOfNums_size, be_len]; omega
        have HNB := Lib.hid (fun W => number_any S.v7 2 W (by omega) (by omega))
        clear hat hat' hq hix hxv hin hg hbl
        go_wp2_with fail
        refine (HA.out _ (HS.out.below' hb.out HS.out.lt)).mono ?_
        rintro e w1 ⟨rfl, rfl⟩
        go_wp2_with fail
        refine (HNB.out _).mono ?_
        rintro e w2 ⟨rfl, hb2⟩
        have HB2 := Lib.hid (hb.out.trans (hb2.mono hb.out.size))
        clear hb2
        go_wp2_with fail
        go_roundw
        case rel => exact ⟨8, by omega, by go_num, by rw [HBS.out]; simp, by rw [HTS.out, if_pos trivial, strcat], HB2⟩
        case measure => simp [intOf]
    · have hB : BB = S.h := HBB.out.trans HBA.out
      have hT8 : strOfNums (encL S 8) = strOfNums [S.h] ++ strOfNums TL := by rw [strcat, HE.out, HTLL.out]; rfl
      rw [hB] at hbl ⊢
      have e8 : S.h % 256 = S.h := by have := bN_le S 8; have h2 := HBA.out; rw [h2] at this; simp at this; omega
      have hs1 : ((strOfNums [S.h]).size : Int) ≤ 8388608 := by rw [strOfNums_size]; simp
      have HT8 := Lib.hid hT8
      clear hB hT8 hbl
      go_wp2_with fail
      go_ret
      exact ⟨by rw [← HSS.out, HT8.out]; rfl, ba' hb.out hb.out.size _⟩

end Go.Proofs.Ytoidbmgoofbcfaa
