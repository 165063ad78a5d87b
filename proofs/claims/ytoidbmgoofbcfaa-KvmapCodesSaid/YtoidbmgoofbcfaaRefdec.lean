/- The document's Decode (f24). -/
import Derived.Test.YtoidbmgoofbcfaaRefenc
namespace Go.Proofs.Ytoidbmgoofbcfaa
open Go.RowKit Go.Um
set_option linter.unusedSimpArgs false
set_option linter.unusedVariables false
set_option maxHeartbeats 4000000
set_option maxRecDepth 100000

theorem grown_of_kept1 {w w' : World} {q : Nat} (h : Kept (fun i => i = q) w w') : w.grownBy w' (some q) := ⟨h.os, h.tape, h.output, h.size, fun k hk hn => h.block k hk (fun e => hn (by rw [e]))⟩
theorem itN_congr {s t : KV} (h : s.h = t.h) : ∀ k, (∀ j, j < k → s.get j = t.get j) → itN s k = itN t k
  | 0, _ => by simp [itN]
  | k + 1, hv => by rw [itN_succ, itN_succ, itN_congr h k (fun j hj => hv j (by omega)), has_congr h k, hv k (by omega)]
theorem dcN_h (t : ByteArray) : ∀ k, (dcN t k).1.h = (numB ((⟨0, 0⟩ : Rs).got t 1) : Nat)
  | 0 => rfl
  | k + 1 => by
    unfold dcN
    split
    · rw [KV.put_h]; exact dcN_h t k
    · exact dcN_h t k
def DecLPost (t : ByteArray) (w : World) (e : Ending) (w' : World) : Prop :=
  ∃ ao cap b o n L, n = L.length ∧ ItOk L ∧ kvN L = decS t ∧ n ≤ 8 ∧ e = .returned (.tuple #[.slice ao n cap, .int .i64 (decE t)]) ∧ SlAt w' 2 n (L.flatMap resC) ao cap b o ∧ Below w.heap.size w w'
structure RdInv (w Y : World) (t : ByteArray) (S : KV) (R : Rs) (k : Nat) (t6 : Value) (wr : World) : Prop where
  own : wr.ownsRow Y.heap.size 61 2 t6 (itN S k).length ((itN S k).flatMap resC)
  r : RfAt wr w.heap.size t R
  bel : Below w.heap.size w wr
  sz : Y.heap.size ≤ wr.heap.size
theorem refdec_any (t : ByteArray) (w : World) (ht : t.size ≤ 1000000) : Calls Try.prog 24 #[.string t] w (DecLPost t w) := by
  obtain ⟨i6, hi, iz0, iz1, iz2⟩ := info_parts info61
  go_enter Try.func24, Try.ntmps24
  go_wp2_with fail
  obtain ⟨Y, hY⟩ : ∃ Y, Y = w.alloc (.cells #[.string t, .int .i64 0, .int .i64 0] 81) := ⟨_, rfl⟩
  have HR0 : Hid (RfAt Y w.heap.size t ⟨0, 0⟩) := by rw [hY]; exact Lib.hid (RfAt.new w t)
  have HB0 : Hid (Below w.heap.size w Y) := by rw [hY]; exact Lib.hid (ba (bz w) _)
  have hYs : w.heap.size < Y.heap.size := by rw [hY]; simp
  rw [← hY]
  clear hY
  refine (refnum_any w.heap.size t ⟨0, 0⟩ 1 Y HR0.out ht (by omega)).mono ?_
  rintro e w1 ⟨rfl, hr, hk⟩
  have hh8 := Rs.num_lt t ⟨0, 0⟩ 1
  have HD := Lib.hid (dcN_h t)
  have HI0 : Hid (RdInv w Y t (dcN t 0).1 (dcN t 0).2 0 (.slice none 0 0) w1) := Lib.hid ⟨World.ownsRow_nil _ _ _ _, hr, HB0.out.trans (hk.below (fun i hi _ e => by omega) HB0.out.size), hk.size⟩
  obtain ⟨H, hH⟩ : ∃ H : Int, H = ((numB ((⟨0, 0⟩ : Rs).got t 1) : Nat) : Int) := ⟨_, rfl⟩
  rw [← hH] at HD ⊢
  have hH0 : 0 ≤ H ∧ H ≤ 255 := by omega
  clear hr hk hH hh8
  go_wp2_with fail
  go_loopw [5, 6, 7] (fun t5 t6 t7 wr => ∃ k : Nat, k ≤ 8 ∧ t7 = .int .i64 k ∧ t5 = .int .u32 (H / 2 ^ k) ∧ Hid (RdInv w Y t (dcN t k).1 (dcN t k).2 k t6 wr)) (fun _ _ t7 _ => 8 - (intOf t7).toNat)
  case atStart => exact ⟨0, by omega, rfl, by simp, HI0.out⟩
  case round =>
    obtain ⟨k, hk, rfl, rfl, hinv⟩ := hrel
    have hsz := hinv.out.bel.size
    have hszY := hinv.out.sz
    have hln := itN_len (dcN t k).1 k
    by_cases hlt : k < 8
    · have hsu : dcN t (k + 1) = if (dcN t k).1.has k then ((dcN t k).1.put k (numB ((dcN t k).2.got t 2) : Nat), (dcN t k).2.next t 2) else dcN t k := rfl
      have hnum := num2 t (dcN t k).2
      have hhk : (dcN t k).1.has k = bit H k := by rw [← HD.out k]; simp [KV.has, hlt]
      have hpr : dcN t k = ((dcN t k).1, (dcN t k).2) := rfl
      have his := itN_succ (dcN t k).1 k
      have his2 : ∀ x, itN ((dcN t k).1.put k x) (k + 1) = itN (dcN t k).1 k ++ (if (dcN t k).1.has k then [((k : Int), x)] else []) := fun x => by
        rw [itN_succ, itN_congr (t := (dcN t k).1) (KV.put_h _ k x) k (fun j hj => by rw [KV.get_put _ _ _ _ hlt, if_neg (by omega)]), has_congr (KV.put_h _ k x) k, KV.get_put _ _ _ _ hlt, if_pos rfl]
      rw [hpr] at hsu
      obtain ⟨S, hS⟩ : ∃ S, S = (dcN t k).1 := ⟨_, rfl⟩
      obtain ⟨R, hR⟩ : ∃ R, R = (dcN t k).2 := ⟨_, rfl⟩
      rw [← hS, ← hR] at hsu hinv
      rw [← hS] at hln hhk his his2
      rw [← hR] at hnum
      have hpw : (0 : Int) < 2 ^ k := Int.pow_pos (by decide)
      have hq0 : 0 ≤ H / 2 ^ k ∧ H / 2 ^ k ≤ 255 := ⟨Int.ediv_nonneg hH0.1 (Int.le_of_lt hpw), by have := Int.ediv_le_self (2 ^ k) hH0.1; omega⟩
      have hnx : H / 2 ^ (k + 1) = H / 2 ^ k / 2 := by rw [Int.pow_succ, Int.ediv_ediv_of_nonneg (Int.le_of_lt hpw)]
      have hbc := bit_cases (h := H) k
      obtain ⟨Q, hQ⟩ : ∃ Q, Q = H / 2 ^ k := ⟨_, rfl⟩
      rw [← hQ] at hq0 hnx hbc ⊢
      have e2 : Q.tdiv 2 = Q / 2 := Int.tdiv_eq_ediv_of_nonneg hq0.1
      have e3 : Q / 2 % 4294967296 = Q / 2 := by omega
      have e4 : (k : Int) % 256 = (k : Int) := by omega
      have HNX := Lib.hid hnx
      have HSU := Lib.hid hsu
      have HIS := Lib.hid his
      have HIS2 := Lib.hid his2
      have HHK := Lib.hid hhk
      have HI := Lib.hid hinv.out
      have i2 : (k : Int) < 8 := by omega
      clear hsu his his2 hhk hnx hQ hS hR hpr hinv hpw
      rcases hbc with ⟨b1, b2⟩ | ⟨b1, b2⟩
      · have t1 : (Q.tmod 2 == 1) = true := by rw [Int.tmod_eq_emod_of_nonneg hq0.1, b2]; rfl
        have t1' : (Q % 2 == 1) = true := by rw [b2]; rfl
        have HK1 : Hid (S.has k = true) := by rw [HHK.out]; exact Lib.hid b1
        clear b1 b2 hq0
        go_wp2_with fail
        refine (refnum_any w.heap.size t R 2 _ HI.out.r ht (by omega)).mono ?_
        rintro e w2 ⟨rfl, hr2, hk2⟩
        have HO2 := Lib.hid (HI.out.own.kept (grown_of_kept1 hk2) (by
          cases ho : u6.ownBlock with
          | none => exact .inl rfl
          | some g => exact .inr (fun e => by injection e with e; have := (HI.out.own.lt g ho).1; omega)))
        have HR2 := Lib.hid hr2
        have HB2 := Lib.hid (HI.out.bel.trans (hk2.below (fun i hi _ e => by omega) hsz))
        have hs2 := hk2.size
        obtain ⟨X, hX⟩ : ∃ X : Int, X = ((numB (R.got t 2) : Nat) : Int) := ⟨_, rfl⟩
        rw [← hX] at HSU hnum ⊢
        have e5 : X % 65536 = X := by omega
        clear hr2 hk2 hX hnum
        go_wp2_with (at_builtin; refine wpList_append_lies _ rfl (.tmp 23) (.tmp 29) 33 rfl Y.heap.size 61 i6 (.agg #[.int .u8 0, .int .u16 0]) 2 4 Try.underlying33 hi iz0 iz1 iz2 rfl (by decide) _ _ _ rfl (HO2.out.alloc _) ⟨w2.heap.size, 0, none⟩ 1 1 [.int .u8 (k : Int), .int .u16 X] rfl rfl (new_cells _ _ _ _ (by simp)) (by simp [Value.oneCell']) (by decide) (by unfold maxLen; omega) (by omega) (by simp; omega) _ rfl ?_)
        intro gg cap2 wa hown2 hgrow2 hat hlt2
        have hne : some w.heap.size ≠ u6.ownBlock := fun e => by have := (HO2.out.lt _ e.symm).1; omega
        have HI2 : Hid (RdInv w Y t (S.put k X) (R.next t 2) (k + 1) (.slice (some ⟨gg, 0, none⟩) ((itN S k).length + 1) cap2) wa) := by
          refine Lib.hid ⟨?_, ?_, ?_, ?_⟩
          · rw [HIS2.out X, HK1.out, if_pos rfl, List.length_append, List.flatMap_append]; exact hown2
          · have h3 := HR2.out.below (ba (bz _) (.cells #[.int .u8 (k : Int), .int .u16 X] 61))
            exact ⟨hgrow2.cell (a := ⟨w.heap.size, 0, none⟩) h3.str hne, hgrow2.cell (a := ⟨w.heap.size, 1, none⟩) h3.past hne, hgrow2.cell (a := ⟨w.heap.size, 2, none⟩) h3.e hne, (hgrow2.frozen_far ⟨w.heap.size, 0, none⟩ h3.lt hne).trans h3.fs, (hgrow2.frozen_far ⟨w.heap.size, 1, none⟩ h3.lt hne).trans h3.fp, (hgrow2.frozen_far ⟨w.heap.size, 2, none⟩ h3.lt hne).trans h3.fe, h3.le⟩
          · exact below_own (ba' HB2.out HB2.out.size _) (own_base (HO2.out.alloc _) (by omega : w.heap.size ≤ Y.heap.size)) hgrow2 (Nat.le_refl _) (by simp; omega)
          · have := hgrow2.size; simp at this; omega
        clear hown2 hgrow2 hat hlt2 hne
        go_wp2_with fail
        go_roundw
        case rel => exact ⟨k + 1, by omega, by go_num, by rw [HNX.out], by rw [HSU.out, HK1.out, if_pos rfl]; exact HI2⟩
        case measure => simp [intOf]; omega
      · have t1 : (Q.tmod 2 == 1) = false := by rw [Int.tmod_eq_emod_of_nonneg hq0.1, b2]; rfl
        have t1' : (Q % 2 == 1) = false := by rw [b2]; rfl
        have HK1 : Hid (S.has k = false) := by rw [HHK.out]; exact Lib.hid b1
        clear b1 b2 hq0
        go_wp2_with fail
        go_roundw
        case rel =>
          refine ⟨k + 1, by omega, by go_num, by rw [HNX.out], ?_⟩
          rw [HSU.out, HK1.out, if_neg (by decide)]
          have h3 := HI.out.own
          exact ⟨by rw [HIS.out, HK1.out, if_neg (by decide), List.append_nil]; exact h3, HI.out.r, HI.out.bel, HI.out.sz⟩
        case measure => simp [intOf]; omega
    · have hk8 : k = 8 := by omega
      subst hk8
      have hdS : decS t = (if (dcN t 8).2.close t = 0 then (dcN t 8).1 else KV.zero) := rfl
      have hdE : decE t = (if (dcN t 8).2.close t = 0 then 0 else 4) := rfl
      have HFI := Lib.hid (fun h : decE t = 0 => (enc_dec t h).2)
      have hok := dcN_ok t 8 (by omega)
      have HCL := Lib.hid (fun W hW => refclose_any w.heap.size t (dcN t 8).2 W hW ht)
      by_cases hc : (dcN t 8).2.close t = 0
      · rw [if_pos hc] at hdS hdE
        rw [hc] at HCL
        have hfi := HFI.out hdE
        rw [hdS] at hfi
        have hkv := kv_items hok hfi
        have hio := itN_ok hok 8 (by omega)
        obtain ⟨L, hL⟩ : ∃ L, L = itN (dcN t 8).1 8 := ⟨_, rfl⟩
        have hown := hinv.out.own
        rw [← hL] at hkv hio hln hown
        obtain ⟨aoL, capL, bL, oL, hv6, hsL, _⟩ := SlAt.owned hown
        rw [hv6]
        have HKV : Hid (kvN L = decS t) := by rw [hdS]; exact Lib.hid hkv
        have HIO := Lib.hid hio
        have HDE := Lib.hid hdE
        have HSL := Lib.hid hsL
        clear hdS hdE hok hc hfi hkv hio hL hown hv6 hsL HFI
        go_wp2_with fail
        refine (HCL.out _ hinv.out.r).mono ?_
        rintro e w2 ⟨rfl, rfl⟩
        go_wp2
        go_ret2
        exact ⟨aoL, capL, bL, oL, L.length, L, rfl, HIO.out, HKV.out, hln, by rw [HDE.out]; rfl, HSL.out, hinv.out.bel⟩
      · rw [if_neg hc] at hdS hdE
        obtain ⟨ec, hec⟩ : ∃ x, x = (dcN t 8).2.close t := ⟨_, rfl⟩
        rw [← hec] at HCL hc
        have t1 : (ec != 0) = true := by simpa using hc
        have HDE := Lib.hid hdE
        have HDS := Lib.hid hdS
        clear hdS hdE hok hc hec HFI
        go_wp2_with fail
        refine (HCL.out _ hinv.out.r).mono ?_
        rintro e w2 ⟨rfl, rfl⟩
        go_wp2
        go_ret2
        exact ⟨none, 0, 0, 0, 0, [], rfl, ⟨fun x hx => by simp at hx, by simp⟩, by rw [HDS.out]; rfl, by omega, by rw [HDE.out]; rfl, ⟨rfl, Nat.le_refl _, Nat.zero_le _, fun h => absurd h (by simp), fun h => absurd h (by simp), fun j u hu => by simp at hu⟩, hinv.out.bel⟩
end Go.Proofs.Ytoidbmgoofbcfaa
