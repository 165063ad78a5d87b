/- The document's key (umpireref15): contract. Printed from Rk.tmpl. -/
import Derived.Test.YtfjccgihdnemkaaRb
namespace Go.Proofs.Ytfjccgihdnemkaa
open Go.RowKit Go.Um
set_option linter.unusedSimpArgs false
set_option linter.unusedVariables false
set_option maxHeartbeats 4000000
set_option maxRecDepth 100000
theorem rkey_nil (ao : Option Addr) (cap : Nat) (w : World) : Calls Try.prog 23 #[.slice ao 0 cap] w fun e w' => e = .returned (.string ⟨#[]⟩) ∧ w = w' := by
  go_enter Try.func23, Try.ntmps23
  go_wp2
  go_ret
  exact ⟨rfl, rfl⟩
/-- at the head of a round -/
structure RkI (w : World) (g k : Nat) (L : List Nat) (i : Nat) (wr : World) : Prop where
  own : wr.ownsRow w.heap.size 5 1 (.slice (some ⟨g, 0, none⟩) k k) k (u8s (bytesN (orL (L.take i)) k))
  below : Below w.heap.size w wr
theorem bytesN_zero (k : Nat) : bytesN 0 k = List.replicate k 0 := by
  apply List.ext_getElem?
  intro i
  by_cases h : i < k
  · rw [bytesN_at _ _ _ h]; simp [byteN, h]
  · rw [List.getElem?_eq_none (by rw [bytesN_len]; omega), List.getElem?_eq_none (by simp; omega)]
theorem rkey_some (v : Value) (L : List Nat) (N : Nat) (w : World) (h : LisAt w v L) (hL : LisN L N) (hne : L ≠ []) (hmax : L.length ≤ 70000) :
    Calls Try.prog 23 #[v] w fun e w' => ∃ s, e = .returned (.string s) ∧ keyN N s ∧ Below w.heap.size w w' := by
  obtain ⟨ao, cap, b, o, rfl, hs⟩ := h
  have hidx := hs.idx (P := Try.prog) (t := 22) Try.underlying22 size3i (by decide)
  obtain ⟨last, hlast⟩ : ∃ x, L.getLast? = some x := ⟨_, List.getLast?_eq_some_getLast hne⟩
  have hneed := hL.needs hlast
  have hpos : 0 < L.length := List.length_pos_iff.2 hne
  obtain ⟨m, hm⟩ : ∃ m, m = L.length := ⟨_, rfl⟩
  have hlast2 : L[m - 1]? = some last := by rw [hm, ← List.getLast?_eq_getElem?]; exact hlast
  have hl16 := hL.bd last (List.mem_of_getElem? hlast2)
  rw [← hm] at hidx hmax hs hpos ⊢
  have g0 := hs.cell (m - 1) _ (i64s_at hlast2)
  obtain ⟨j0, hj, jz0, jz1, jz2⟩ := info_parts info5b
  obtain ⟨q, hq⟩ : ∃ q, q = last / 8 := ⟨_, rfl⟩
  obtain ⟨k, hk⟩ : ∃ k, k = q + 1 := ⟨_, rfl⟩
  obtain ⟨m1, hm1⟩ : ∃ m1, m1 = m - 1 := ⟨_, rfl⟩
  rw [← hm1] at g0
  have e1 : (m : Int) - 1 = (m1 : Int) := by omega
  have e2 : (last : Int) / 8 = (q : Int) := by omega
  have e3 : (q : Int) + 1 = (k : Int) := by omega
  have e4 : (0 : Int) ≤ (m1 : Int) := by omega
  have e5 : (m1 : Int) < (m : Int) := by omega
  have e6 : ((m : Int) == 0) = false := by simp; omega
  have e7 : ¬ (m : Int) = 0 := by omega
  have e8 : (0 : Int) ≤ (last : Int) := by omega
  have hkk : k ≤ 8192 := by omega
  have HNEED : Hid (Needs 8 k N) := Lib.hid (by rw [hk, hq]; exact hneed)
  have HS := Lib.hid hs
  have HL := Lib.hid hm
  have HLN := Lib.hid hL
  have HQ : Hid (∀ x ∈ L, x / 8 < k) := Lib.hid (fun x hx => by
    have hx2 := pow_le_of_bit (N := N) (n := x) (by rw [hL.bit]; simpa using hx)
    have h3 := (show Needs 8 k N by rw [hk, hq]; exact hneed).lt
    have h4 : ¬ 8 * k ≤ x := fun h => by
      have := Nat.pow_le_pow_right (n := 2) (by decide) h
      omega
    omega)
  clear hs hm hL hne hneed hlast hlast2 hq hk hm1
  go_enter Try.func23, Try.ntmps23
  go_wp2_with (at_make; refine wpList_make_full _ rfl _ _ 63 rfl w.heap.size 5 j0 (.int .u8 0) 1 Try.underlying63 hj jz0 jz1 .i64 .i64 k k k rfl rfl rfl rfl (by rw [jz2]; omega) (by unfold maxLen; omega) (Nat.le_refl _) ?_; intro w6 hown6 hgrow6; have HI0 : Hid (RkI w w.heap.size k L 0 w6) := Lib.hid ⟨by have hm := made_one (.int .u8 0) rfl k; rw [hm] at hown6; have : u8s (bytesN (orL (L.take 0)) k) = List.replicate k (.int .u8 0) := (by rw [show orL (L.take 0) = 0 from rfl, bytesN_zero]; simp [u8s]); rw [this]; exact hown6, ⟨hgrow6.os, hgrow6.tape, hgrow6.output, hgrow6.size, fun k hk => hgrow6.block k hk (by simp)⟩⟩; clear hown6 hgrow6)
  obtain ⟨g, hg⟩ : ∃ g, g = w.heap.size := ⟨_, rfl⟩
  have HI1 : Hid (RkI w g k L 0 w6) := by rw [hg]; exact HI0
  rw [← hg]
  have HG := Lib.hid hg
  clear hg HI0 g0 e1 e2 e3
  go_loopw [4] (fun t4 wr => ∃ i : Nat, i ≤ m ∧ t4 = .int .i64 i ∧ Hid (RkI w g k L i wr)) (fun t4 _ => m - (intOf t4).toNat)
  case atStart => exact ⟨0, Nat.zero_le _, rfl, HI1⟩
  case round =>
    obtain ⟨i, hi, rfl, HI⟩ := hrel
    clear HI1
    by_cases hlt : i < m
    · have i1 : (0 : Int) ≤ (i : Int) := by omega
      have i2 : (i : Int) < (m : Int) := by omega
      obtain ⟨x, hx⟩ : ∃ x, L[i]? = some x := ⟨_, List.getElem?_eq_getElem (by rw [← HL.out]; exact hlt)⟩
      have g1 := (HS.out.below HI.out.below).cell i _ (i64s_at hx)
      have hxk := HQ.out x (List.mem_of_getElem? hx)
      have hnot : (orL (L.take i)).testBit x = false := by
        rw [orL_bit]
        simp only [decide_eq_false_iff_not]
        intro hmem
        obtain ⟨j, hj⟩ := List.getElem?_of_mem hmem
        rw [List.getElem?_take] at hj
        split at hj
        · rename_i hji
          have hup := List.pairwise_iff_getElem.1 HLN.out.up j i (by have := HL.out; omega) (by have := HL.out; omega) hji
          obtain ⟨h1, h2⟩ := List.getElem?_eq_some_iff.1 hj
          obtain ⟨h3, h4⟩ := List.getElem?_eq_some_iff.1 hx
          rw [h2, h4] at hup
          exact absurd hup (Nat.lt_irrefl x)
        · cases hj
      have hmod := bytesN_or (orL (L.take i)) x k hnot
      have hsum := byte_add_lt (orL (L.take i)) x hnot
      have hat := bytesN_at (orL (L.take i)) k (x / 8) hxk
      rw [modify_set _ _ _ _ hat] at hmod
      have hnext : orL (L.take (i + 1)) = orL (L.take i) ||| 2 ^ x := by rw [take_snoc L i x hx, orL_snoc]
      have gq := (HI.out.own.cellAt (x / 8) (by omega)).trans (u8s_at hat)
      have fq := HI.out.own.frozenAt (x / 8)
      obtain ⟨B, hB⟩ : ∃ B, B = byteN (orL (L.take i)) (x / 8) := ⟨_, rfl⟩
      obtain ⟨qx, hqx⟩ : ∃ q, q = x / 8 := ⟨_, rfl⟩
      obtain ⟨r, hr⟩ : ∃ r, r = x % 8 := ⟨_, rfl⟩
      rw [← hqx] at hmod hsum gq fq hxk hB
      rw [← hr] at hmod hsum
      rw [← hB] at hmod hsum gq
      obtain ⟨R2, hR2⟩ : ∃ R, R = 2 ^ r := ⟨_, rfl⟩
      have hr8 : r < 8 := by omega
      have hR8 : R2 < 256 := by rw [hR2]; exact Nat.pow_lt_pow_right (n := 8) (by decide) hr8
      rw [← hR2] at hmod hsum
      obtain ⟨Z, hZ⟩ : ∃ Z, Z = B + R2 := ⟨_, rfl⟩
      rw [← hZ] at hmod
      have x0 : (0 : Int) ≤ (x : Int) := by omega
      have d1 : (x : Int) / 8 = (qx : Int) := by omega
      have d2 : (x : Int) % 8 = (r : Int) := by omega
      have d3 : (x : Int).tdiv 8 = (qx : Int) := by rw [Int.tdiv_eq_ediv_of_nonneg x0]; exact d1
      have d4 : (x : Int).tmod 8 = (r : Int) := by rw [Int.tmod_eq_emod_of_nonneg x0]; exact d2
      have d5 : IntKind.i64.wrap (qx : Int) = (qx : Int) := IntWalk.i64_in _ (by omega)
      have d6 : IntKind.i64.wrap (r : Int) = (r : Int) := IntWalk.i64_in _ (by omega)
      have d7 : IntKind.u8.wrap (2 ^ r) = (R2 : Int) := by
        rw [show ((2 : Int) ^ r) = ((2 ^ r : Nat) : Int) by simp, ← hR2]
        simp only [IntKind.wrap, IntKind.signed, IntKind.bits, Bool.false_and, Bool.false_eq_true, if_false]; omega
      have d8 : IntKind.u8.wrap ((B : Int) + (R2 : Int)) = (Z : Int) := by
        simp only [IntKind.wrap, IntKind.signed, IntKind.bits, Bool.false_and, Bool.false_eq_true, if_false]; omega
      have q0 : (0 : Int) ≤ (qx : Int) := by omega
      have q1 : (qx : Int) < (k : Int) := by omega
      have HMOD := Lib.hid hmod
      have HNX := Lib.hid hnext
      have HB := Lib.hid hB
      have HZ := Lib.hid hZ
      clear hx hnot hmod hnext hat hB hqx hr hR2 hZ hsum hxk
      go_wp2_with fail
      go_still_tail 22, (by kernel_rfl)
      change wpList _ _ _ _ _ wr.drew
      have HROW4 : Hid (wr.drew.ownsRow w.heap.size 5 1 (.slice (some ⟨g, 0, none⟩) k k) k (u8s (bytesN (orL (L.take i)) k))) := Lib.hid HI.out.own.drew
      have HB4 : Hid (Below w.heap.size w wr.drew) := Lib.hid HI.out.below.drew
      have gq' : wr.drew.cell? ⟨g, qx, none⟩ = some (.int .u8 B) := gq
      have fq' : wr.drew.frozen? ⟨g, qx, none⟩ = false := fq
      generalize wr.drew = w4 at *
      clear g1 gq fq d1 d2 d3 d4 d5 d6 d7 d8
      go_wp2_with fail
      have HI2 : Hid (RkI w g k L (i + 1) (w4.setCell ⟨g, qx, none⟩ (.int .u8 Z))) := by
        refine Lib.hid ⟨?_, bs HB4.out (by rw [HG.out]; exact Nat.le_refl _) _⟩
        have hst := (HROW4.out.stored qx (.int .u8 Z)).1
        have hcs : (u8s (bytesN (orL (L.take i)) k)).set qx (.int .u8 (Z : Int)) = u8s (bytesN (orL (L.take (i + 1))) k) := by
          rw [HNX.out, HMOD.out]; simp [u8s, List.map_set]
        rw [hcs] at hst
        exact hst
      go_roundw
      case rel => exact ⟨i + 1, by omega, by go_num, HI2⟩
      case measure => simp [intOf]; omega
    · have i2 : ¬ (i : Int) < (m : Int) := by omega
      have him : m = i := by omega
      subst him
      have hor : orL (L.take m) = N := by rw [HL.out, List.take_length, HLN.out.or]
      have hown := HI.out.own
      rw [hor] at hown
      have hcv := run_convert_bytes_arg wr 63 5 Try.underlying63 Try.underlying5 g 0 k k ((bytesN N k).map fun (x : Nat) => (x : Int)) (by simp [bytesN_len]) (fun i hi => by
        rw [Nat.zero_add]
        rw [hown.cellAt i (by omega), u8s_at (bytesN_at N k i hi)]
        simp [bytesN, hi]) 9 Try.underlying9
      obtain ⟨S, hS⟩ : ∃ S, S = strOfNums ((bytesN N k).map fun (x : Nat) => (x : Int)) := ⟨_, rfl⟩
      rw [← hS] at hcv
      have HSS := Lib.hid hS
      have HBW := Lib.hid HI.out.below
      clear hor hown hS
      go_wp2
      go_ret
      exact ⟨S, rfl, ⟨bytesN N k, ⟨k, rfl, HNEED.out⟩, HSS.out⟩, HBW.out⟩
theorem rkey_any (v : Value) (L : List Nat) (N : Nat) (w : World) (h : LisAt w v L) (hL : LisN L N) (hmax : L.length ≤ 70000) :
    Calls Try.prog 23 #[v] w fun e w' => ∃ s, e = .returned (.string s) ∧ keyN N s ∧ Below w.heap.size w w' := by
  by_cases hne : L = []
  · subst hne
    obtain ⟨ao, cap, b, o, rfl, hs⟩ := h
    refine (rkey_nil ao cap w).mono ?_
    rintro e w' ⟨rfl, rfl⟩
    have hN : N = 0 := hL.or
    exact ⟨_, rfl, ⟨[], ⟨0, rfl, by rw [hN]; exact Needs.zero 8⟩, rfl⟩, bz w⟩
  · exact rkey_some v L N w h hL hne hmax
end Go.Proofs.Ytfjccgihdnemkaa
