/- Decode. Printed by gen_dec.py. -/
import Derived.Test.YtoidbmgoofbcfaaOnly
import Derived.Test.YtoidbmgoofbcfaaRd
namespace Go.Proofs.Ytoidbmgoofbcfaa
open Go.RowKit Go.Um
set_option linter.unusedSimpArgs false
set_option linter.unusedVariables false
set_option maxHeartbeats 4000000
set_option maxRecDepth 100000

/-- the state and the reader behind the first k keys -/
def dcN (t : ByteArray) : Nat → KV × Rs
  | 0 => (⟨(numB ((⟨0, 0⟩ : Rs).got t 1) : Nat), 0, 0, 0, 0, 0, 0, 0, 0⟩, (⟨0, 0⟩ : Rs).next t 1)
  | k + 1 => if (dcN t k).1.has k then ((dcN t k).1.put k (numB ((dcN t k).2.got t 2) : Nat), (dcN t k).2.next t 2) else dcN t k
theorem KV.put_ok {s : KV} (h : s.ok) (k : Nat) (hk : k < 8) (x : Int) (hx : 0 ≤ x ∧ x ≤ 65535) : (s.put k x).ok :=
  ⟨by rw [KV.put_h]; exact h.h, fun j => by rw [KV.get_put s k j x hk]; split; (· exact hx); (· exact h.v j)⟩
theorem num2 (t : ByteArray) (r : Rs) : (0 : Int) ≤ (numB (r.got t 2) : Nat) ∧ ((numB (r.got t 2) : Nat) : Int) ≤ 65535 := by
  have := Rs.num_lt t r 2
  omega
theorem dcN_ok (t : ByteArray) : ∀ k, k ≤ 8 → (dcN t k).1.ok
  | 0, _ => ⟨by have := Rs.num_lt t ⟨0, 0⟩ 1; simp only [dcN]; omega, fun k => by rcases k with _ | _ | _ | _ | _ | _ | _ | _ | k <;> simp [dcN, KV.get]⟩
  | k + 1, h => by
    unfold dcN
    split
    · exact KV.put_ok (dcN_ok t k (by omega)) k (by omega) _ (num2 t _)
    · exact dcN_ok t k (by omega)
/-- what Decode answers -/
def decS (t : ByteArray) : KV := if (dcN t 8).2.close t = 0 then (dcN t 8).1 else KV.zero
def decE (t : ByteArray) : Int := if (dcN t 8).2.close t = 0 then 0 else 4
theorem decS_ok (t : ByteArray) : (decS t).ok := by unfold decS; split; (· exact dcN_ok t 8 (by omega)); (· exact zero_kok)

structure DInv (w : World) (t : ByteArray) (p5 : Nat) (s : KV) (r : Rs) (wr : World) : Prop where
  z : KvAt wr w.heap.size KV.zero
  r : RdAt wr (w.heap.size + 1) t r
  s : KvAt wr p5 s
  b : Below w.heap.size w wr
theorem DInv.below {w : World} {t : ByteArray} {p5 : Nat} {s : KV} {r : Rs} {wr w' : World} (h : DInv w t p5 s r wr) (hb : Below wr.heap.size wr w') : DInv w t p5 s r w' :=
  ⟨h.z.below hb, h.r.below hb, h.s.below hb, h.b.trans (hb.mono h.b.size)⟩
theorem DInv.read {w : World} {t : ByteArray} {p5 : Nat} {s : KV} {r r' : Rs} {wr w' : World} (h : DInv w t p5 s r wr) (h5 : w.heap.size + 1 < p5) (hr : RdAt w' (w.heap.size + 1) t r') (hk : Kept (fun i => i = w.heap.size + 1) wr w') : DInv w t p5 s r' w' :=
  ⟨h.z.kept hk (by omega), hr, h.s.kept hk (by omega), h.b.trans (hk.below (fun i hi _ e => by omega) h.b.size)⟩
theorem DInv.put {w : World} {t : ByteArray} {p5 : Nat} {s : KV} {r : Rs} {wr : World} (h : DInv w t p5 s r wr) (h5 : w.heap.size + 1 < p5) (k : Nat) (hk : k < 8) (x : Int) : DInv w t p5 (s.put k x) r (wr.setCell ⟨p5, k + 1, none⟩ (.int .u16 x)) :=
  have hs : Kept (fun i => i = p5) wr (wr.setCell ⟨p5, k + 1, none⟩ (.int .u16 x)) := Kept.setCell (S := fun i => i = p5) (Kept.refl _ _) (fun _ => rfl) _
  ⟨h.z.kept hs (by omega), h.r.kept hs (by omega), h.s.put k hk x, bs h.b (by show w.heap.size ≤ p5; omega) _⟩

/-- what Decode leaves -/
def DecPost (t : ByteArray) (w : World) (e : Ending) (w' : World) : Prop := e = .returned (.tuple #[(decS t).val, .int .i64 (decE t)]) ∧ Below w.heap.size w w'
theorem decode_any (t : ByteArray) (w : World) (ht : t.size ≤ 1000000) : Calls Try.prog 23 #[.string t] w (DecPost t w) := by
  go_enter Try.func23, Try.ntmps23
  go_wp2_with fail
  refine (over_any t _).mono ?_
  rintro e w1 ⟨rfl, rfl⟩
  have Z0 : Hid (KvAt (w.alloc (.cells #[.int .u8 0, .int .u16 0, .int .u16 0, .int .u16 0, .int .u16 0, .int .u16 0, .int .u16 0, .int .u16 0, .int .u16 0] 25)) w.heap.size KV.zero) := Lib.hid (KvAt.newz rfl)
  have R0 := Lib.hid (RdAt.new (w.alloc (.cells #[.int .u8 0, .int .u16 0, .int .u16 0, .int .u16 0, .int .u16 0, .int .u16 0, .int .u16 0, .int .u16 0, .int .u16 0] 25)) t)
  replace Z0 := Lib.hid (Z0.out.below (ba (bz _) (.cells #[.int .i64 0, .string t, .int .i64 0] 98)))
  have hp1 : w.heap.size + 1 = (w.alloc (.cells #[.int .u8 0, .int .u16 0, .int .u16 0, .int .u16 0, .int .u16 0, .int .u16 0, .int .u16 0, .int .u16 0, .int .u16 0] 25)).heap.size := by simp
  rw [← hp1] at R0 ⊢
  clear hp1
  go_wp2_with fail
  refine (ru8_any (w.heap.size + 1) t ⟨0, 0⟩ _ R0.out ht).mono ?_
  rintro e w1 ⟨rfl, hr, hk⟩
  have HB1 : Hid (Below w.heap.size w w1) := Lib.hid ((ba (ba (bz w) _) _).trans (hk.below (fun i hi _ e => by omega) (by simp; omega)))
  have Z1 := Lib.hid (Z0.out.kept hk (by omega))
  have hz1 : w.heap.size + 1 < w1.heap.size := hr.lt
  have HR := Lib.hid hr
  clear hr hk Z0 R0
  go_wp2_with fail
  obtain ⟨h, hh⟩ : ∃ h, h = ((numB ((⟨0, 0⟩ : Rs).got t 1) : Nat) : Int) := ⟨_, rfl⟩
  rw [← hh]
  have K1 := Lib.hid (KvAt.new w1 ⟨h, 0, 0, 0, 0, 0, 0, 0, 0⟩)
  obtain ⟨p5, hp5⟩ : ∃ p5, p5 = w1.heap.size := ⟨_, rfl⟩
  have H5 : Hid (w.heap.size + 1 < p5) := by unfold Hid; omega
  have HD : Hid (DInv w t p5 (dcN t 0).1 (dcN t 0).2 (w1.alloc (.cells #[.int .u8 h, .int .u16 0, .int .u16 0, .int .u16 0, .int .u16 0, .int .u16 0, .int .u16 0, .int .u16 0, .int .u16 0] 25))) := by
    refine Lib.hid ⟨Z1.out.below (ba (bz _) _), HR.out.below (ba (bz _) _), ?_, ba HB1.out _⟩
    rw [hp5, show (dcN t 0).1 = ⟨h, 0, 0, 0, 0, 0, 0, 0, 0⟩ from by rw [hh]; rfl]
    exact K1.out
  rw [← hp5]
  clear hp5 hh K1 Z1 HB1 HR hz1
  go_loopw [12] (fun t12 wr => ∃ k : Nat, k ≤ 8 ∧ t12 = .int .i64 k ∧ Hid (DInv w t p5 (dcN t k).1 (dcN t k).2 wr)) (fun t12 _ => 8 - (intOf t12).toNat)
  case atStart => exact ⟨0, by omega, rfl, HD.out⟩
  case round =>
    obtain ⟨k, hk, rfl, hinv⟩ := hrel
    have hok := dcN_ok t k hk
    have hsu : dcN t (k + 1) = if (dcN t k).1.has k then ((dcN t k).1.put k (numB ((dcN t k).2.got t 2) : Nat), (dcN t k).2.next t 2) else dcN t k := rfl
    have hfin : k = 8 → decS t = (if (dcN t k).2.close t = 0 then (dcN t k).1 else KV.zero) ∧ decE t = (if (dcN t k).2.close t = 0 then 0 else 4) := fun e => by subst e; exact ⟨rfl, rfl⟩
    have hpr : dcN t k = ((dcN t k).1, (dcN t k).2) := rfl
    rw [hpr] at hsu
    obtain ⟨S, hS⟩ : ∃ S, S = (dcN t k).1 := ⟨_, rfl⟩
    obtain ⟨R, hR⟩ : ∃ R, R = (dcN t k).2 := ⟨_, rfl⟩
    rw [← hS, ← hR] at hsu hinv hfin
    rw [← hS] at hok
    have HI := Lib.hid hinv.out
    have HOK := Lib.hid hok
    have HSU := Lib.hid hsu
    have HFIN := Lib.hid hfin
    have hpz := hinv.out.s.lt
    have hzz := hinv.out.z.lt
    obtain ⟨c0, c1, c2, c3, c4, c5, c6, c7, c8, f0, f1, f2, f3, f4, f5, f6, f7, f8⟩ := hinv.out.s
    clear hS hR hsu hfin hpr hok hinv HD
    have hcase : k = 0 ∨ k = 1 ∨ k = 2 ∨ k = 3 ∨ k = 4 ∨ k = 5 ∨ k = 6 ∨ k = 7 ∨ k = 8 := by omega
    rcases hcase with rfl | rfl | rfl | rfl | rfl | rfl | rfl | rfl | rfl
    · have hc := fun W => has_0 S W HOK.out
      obtain ⟨q, hq⟩ : ∃ q, q = S.has 0 := ⟨_, rfl⟩
      rw [← hq] at hc HSU
      have HC := Lib.hid hc
      unfold KV.val at HC
      clear hc hq HFIN
      cases q
      · go_wp2_with fail
        refine (HC.out _).mono ?_
        rintro e w2 ⟨rfl, hb2⟩
        have HI2 := Lib.hid (HI.out.below hb2)
        clear hb2
        go_wp2_with fail
        go_roundw
        case rel => exact ⟨1, by omega, by go_num, by rw [HSU.out]; exact HI2⟩
        case measure => simp [intOf]
      · go_wp2_with fail
        refine (HC.out _).mono ?_
        rintro e w2 ⟨rfl, hb2⟩
        have HI2 := Lib.hid (HI.out.below hb2)
        clear hb2
        go_wp2_with fail
        refine (ru16_any (w.heap.size + 1) t R _ HI2.out.r ht).mono ?_
        rintro e w3 ⟨rfl, hr3, hk3⟩
        have HI3 := Lib.hid (HI2.out.read H5.out hr3 hk3)
        have HI4 := Lib.hid (HI3.out.put H5.out 0 (by omega) (numB (R.got t 2) : Nat))
        have f1' := HI3.out.s.f1
        have c1' := HI3.out.s.c1
        have hz3 := HI3.out.s.lt
        obtain ⟨x, hx⟩ : ∃ x : Int, x = (numB (R.got t 2) : Nat) := ⟨_, rfl⟩
        rw [← hx] at HI4 HSU ⊢
        clear hr3 hk3 hx
        go_wp2_with fail
        go_roundw
        case rel => exact ⟨1, by omega, by go_num, by rw [HSU.out]; exact HI4⟩
        case measure => simp [intOf]
    · have hc := fun W => has_1 S W HOK.out
      obtain ⟨q, hq⟩ : ∃ q, q = S.has 1 := ⟨_, rfl⟩
      rw [← hq] at hc HSU
      have HC := Lib.hid hc
      unfold KV.val at HC
      clear hc hq HFIN
      cases q
      · go_wp2_with fail
        refine (HC.out _).mono ?_
        rintro e w2 ⟨rfl, hb2⟩
        have HI2 := Lib.hid (HI.out.below hb2)
        clear hb2
        go_wp2_with fail
        go_roundw
        case rel => exact ⟨2, by omega, by go_num, by rw [HSU.out]; exact HI2⟩
        case measure => simp [intOf]
      · go_wp2_with fail
        refine (HC.out _).mono ?_
        rintro e w2 ⟨rfl, hb2⟩
        have HI2 := Lib.hid (HI.out.below hb2)
        clear hb2
        go_wp2_with fail
        refine (ru16_any (w.heap.size + 1) t R _ HI2.out.r ht).mono ?_
        rintro e w3 ⟨rfl, hr3, hk3⟩
        have HI3 := Lib.hid (HI2.out.read H5.out hr3 hk3)
        have HI4 := Lib.hid (HI3.out.put H5.out 1 (by omega) (numB (R.got t 2) : Nat))
        have f2' := HI3.out.s.f2
        have c2' := HI3.out.s.c2
        have hz3 := HI3.out.s.lt
        obtain ⟨x, hx⟩ : ∃ x : Int, x = (numB (R.got t 2) : Nat) := ⟨_, rfl⟩
        rw [← hx] at HI4 HSU ⊢
        clear hr3 hk3 hx
        go_wp2_with fail
        go_roundw
        case rel => exact ⟨2, by omega, by go_num, by rw [HSU.out]; exact HI4⟩
        case measure => simp [intOf]
    · have hc := fun W => has_2 S W HOK.out
      obtain ⟨q, hq⟩ : ∃ q, q = S.has 2 := ⟨_, rfl⟩
      rw [← hq] at hc HSU
      have HC := Lib.hid hc
      unfold KV.val at HC
      clear hc hq HFIN
      cases q
      · go_wp2_with fail
        refine (HC.out _).mono ?_
        rintro e w2 ⟨rfl, hb2⟩
        have HI2 := Lib.hid (HI.out.below hb2)
        clear hb2
        go_wp2_with fail
        go_roundw
        case rel => exact ⟨3, by omega, by go_num, by rw [HSU.out]; exact HI2⟩
        case measure => simp [intOf]
      · go_wp2_with fail
        refine (HC.out _).mono ?_
        rintro e w2 ⟨rfl, hb2⟩
        have HI2 := Lib.hid (HI.out.below hb2)
        clear hb2
        go_wp2_with fail
        refine (ru16_any (w.heap.size + 1) t R _ HI2.out.r ht).mono ?_
        rintro e w3 ⟨rfl, hr3, hk3⟩
        have HI3 := Lib.hid (HI2.out.read H5.out hr3 hk3)
        have HI4 := Lib.hid (HI3.out.put H5.out 2 (by omega) (numB (R.got t 2) : Nat))
        have f3' := HI3.out.s.f3
        have c3' := HI3.out.s.c3
        have hz3 := HI3.out.s.lt
        obtain ⟨x, hx⟩ : ∃ x : Int, x = (numB (R.got t 2) : Nat) := ⟨_, rfl⟩
        rw [← hx] at HI4 HSU ⊢
        clear hr3 hk3 hx
        go_wp2_with fail
        go_roundw
        case rel => exact ⟨3, by omega, by go_num, by rw [HSU.out]; exact HI4⟩
        case measure => simp [intOf]
    · have hc := fun W => has_3 S W HOK.out
      obtain ⟨q, hq⟩ : ∃ q, q = S.has 3 := ⟨_, rfl⟩
      rw [← hq] at hc HSU
      have HC := Lib.hid hc
      unfold KV.val at HC
      clear hc hq HFIN
      cases q
      · go_wp2_with fail
        refine (HC.out _).mono ?_
        rintro e w2 ⟨rfl, hb2⟩
        have HI2 := Lib.hid (HI.out.below hb2)
        clear hb2
        go_wp2_with fail
        go_roundw
        case rel => exact ⟨4, by omega, by go_num, by rw [HSU.out]; exact HI2⟩
        case measure => simp [intOf]
      · go_wp2_with fail
        refine (HC.out _).mono ?_
        rintro e w2 ⟨rfl, hb2⟩
        have HI2 := Lib.hid (HI.out.below hb2)
        clear hb2
        go_wp2_with fail
        refine (ru16_any (w.heap.size + 1) t R _ HI2.out.r ht).mono ?_
        rintro e w3 ⟨rfl, hr3, hk3⟩
        have HI3 := Lib.hid (HI2.out.read H5.out hr3 hk3)
        have HI4 := Lib.hid (HI3.out.put H5.out 3 (by omega) (numB (R.got t 2) : Nat))
        have f4' := HI3.out.s.f4
        have c4' := HI3.out.s.c4
        have hz3 := HI3.out.s.lt
        obtain ⟨x, hx⟩ : ∃ x : Int, x = (numB (R.got t 2) : Nat) := ⟨_, rfl⟩
        rw [← hx] at HI4 HSU ⊢
        clear hr3 hk3 hx
        go_wp2_with fail
        go_roundw
        case rel => exact ⟨4, by omega, by go_num, by rw [HSU.out]; exact HI4⟩
        case measure => simp [intOf]
    · have hc := fun W => has_4 S W HOK.out
      obtain ⟨q, hq⟩ : ∃ q, q = S.has 4 := ⟨_, rfl⟩
      rw [← hq] at hc HSU
      have HC := Lib.hid hc
      unfold KV.val at HC
      clear hc hq HFIN
      cases q
      · go_wp2_with fail
        refine (HC.out _).mono ?_
        rintro e w2 ⟨rfl, hb2⟩
        have HI2 := Lib.hid (HI.out.below hb2)
        clear hb2
        go_wp2_with fail
        go_roundw
        case rel => exact ⟨5, by omega, by go_num, by rw [HSU.out]; exact HI2⟩
        case measure => simp [intOf]
      · go_wp2_with fail
        refine (HC.out _).mono ?_
        rintro e w2 ⟨rfl, hb2⟩
        have HI2 := Lib.hid (HI.out.below hb2)
        clear hb2
        go_wp2_with fail
        refine (ru16_any (w.heap.size + 1) t R _ HI2.out.r ht).mono ?_
        rintro e w3 ⟨rfl, hr3, hk3⟩
        have HI3 := Lib.hid (HI2.out.read H5.out hr3 hk3)
        have HI4 := Lib.hid (HI3.out.put H5.out 4 (by omega) (numB (R.got t 2) : Nat))
        have f5' := HI3.out.s.f5
        have c5' := HI3.out.s.c5
        have hz3 := HI3.out.s.lt
        obtain ⟨x, hx⟩ : ∃ x : Int, x = (numB (R.got t 2) : Nat) := ⟨_, rfl⟩
        rw [← hx] at HI4 HSU ⊢
        clear hr3 hk3 hx
        go_wp2_with fail
        go_roundw
        case rel => exact ⟨5, by omega, by go_num, by rw [HSU.out]; exact HI4⟩
        case measure => simp [intOf]
    · have hc := fun W => has_5 S W HOK.out
      obtain ⟨q, hq⟩ : ∃ q, q = S.has 5 := ⟨_, rfl⟩
      rw [← hq] at hc HSU
      have HC := Lib.hid hc
      unfold KV.val at HC
      clear hc hq HFIN
      cases q
      · go_wp2_with fail
        refine (HC.out _).mono ?_
        rintro e w2 ⟨rfl, hb2⟩
        have HI2 := Lib.hid (HI.out.below hb2)
        clear hb2
        go_wp2_with fail
        go_roundw
        case rel => exact ⟨6, by omega, by go_num, by rw [HSU.out]; exact HI2⟩
        case measure => simp [intOf]
      · go_wp2_with fail
        refine (HC.out _).mono ?_
        rintro e w2 ⟨rfl, hb2⟩
        have HI2 := Lib.hid (HI.out.below hb2)
        clear hb2
        go_wp2_with fail
        refine (ru16_any (w.heap.size + 1) t R _ HI2.out.r ht).mono ?_
        rintro e w3 ⟨rfl, hr3, hk3⟩
        have HI3 := Lib.hid (HI2.out.read H5.out hr3 hk3)
        have HI4 := Lib.hid (HI3.out.put H5.out 5 (by omega) (numB (R.got t 2) : Nat))
        have f6' := HI3.out.s.f6
        have c6' := HI3.out.s.c6
        have hz3 := HI3.out.s.lt
        obtain ⟨x, hx⟩ : ∃ x : Int, x = (numB (R.got t 2) : Nat) := ⟨_, rfl⟩
        rw [← hx] at HI4 HSU ⊢
        clear hr3 hk3 hx
        go_wp2_with fail
        go_roundw
        case rel => exact ⟨6, by omega, by go_num, by rw [HSU.out]; exact HI4⟩
        case measure => simp [intOf]
    · have hc := fun W => has_6 S W HOK.out
      obtain ⟨q, hq⟩ : ∃ q, q = S.has 6 := ⟨_, rfl⟩
      rw [← hq] at hc HSU
      have HC := Lib.hid hc
      unfold KV.val at HC
      clear hc hq HFIN
      cases q
      · go_wp2_with fail
        refine (HC.out _).mono ?_
        rintro e w2 ⟨rfl, hb2⟩
        have HI2 := Lib.hid (HI.out.below hb2)
        clear hb2
        go_wp2_with fail
        go_roundw
        case rel => exact ⟨7, by omega, by go_num, by rw [HSU.out]; exact HI2⟩
        case measure => simp [intOf]
      · go_wp2_with fail
        refine (HC.out _).mono ?_
        rintro e w2 ⟨rfl, hb2⟩
        have HI2 := Lib.hid (HI.out.below hb2)
        clear hb2
        go_wp2_with fail
        refine (ru16_any (w.heap.size + 1) t R _ HI2.out.r ht).mono ?_
        rintro e w3 ⟨rfl, hr3, hk3⟩
        have HI3 := Lib.hid (HI2.out.read H5.out hr3 hk3)
        have HI4 := Lib.hid (HI3.out.put H5.out 6 (by omega) (numB (R.got t 2) : Nat))
        have f7' := HI3.out.s.f7
        have c7' := HI3.out.s.c7
        have hz3 := HI3.out.s.lt
        obtain ⟨x, hx⟩ : ∃ x : Int, x = (numB (R.got t 2) : Nat) := ⟨_, rfl⟩
        rw [← hx] at HI4 HSU ⊢
        clear hr3 hk3 hx
        go_wp2_with fail
        go_roundw
        case rel => exact ⟨7, by omega, by go_num, by rw [HSU.out]; exact HI4⟩
        case measure => simp [intOf]
    · have hc := fun W => has_7 S W HOK.out
      obtain ⟨q, hq⟩ : ∃ q, q = S.has 7 := ⟨_, rfl⟩
      rw [← hq] at hc HSU
      have HC := Lib.hid hc
      unfold KV.val at HC
      clear hc hq HFIN
      cases q
      · go_wp2_with fail
        refine (HC.out _).mono ?_
        rintro e w2 ⟨rfl, hb2⟩
        have HI2 := Lib.hid (HI.out.below hb2)
        clear hb2
        go_wp2_with fail
        go_roundw
        case rel => exact ⟨8, by omega, by go_num, by rw [HSU.out]; exact HI2⟩
        case measure => simp [intOf]
      · go_wp2_with fail
        refine (HC.out _).mono ?_
        rintro e w2 ⟨rfl, hb2⟩
        have HI2 := Lib.hid (HI.out.below hb2)
        clear hb2
        go_wp2_with fail
        refine (ru16_any (w.heap.size + 1) t R _ HI2.out.r ht).mono ?_
        rintro e w3 ⟨rfl, hr3, hk3⟩
        have HI3 := Lib.hid (HI2.out.read H5.out hr3 hk3)
        have HI4 := Lib.hid (HI3.out.put H5.out 7 (by omega) (numB (R.got t 2) : Nat))
        have f8' := HI3.out.s.f8
        have c8' := HI3.out.s.c8
        have hz3 := HI3.out.s.lt
        obtain ⟨x, hx⟩ : ∃ x : Int, x = (numB (R.got t 2) : Nat) := ⟨_, rfl⟩
        rw [← hx] at HI4 HSU ⊢
        clear hr3 hk3 hx
        go_wp2_with fail
        go_roundw
        case rel => exact ⟨8, by omega, by go_num, by rw [HSU.out]; exact HI4⟩
        case measure => simp [intOf]
    · have hfe := HFIN.out rfl
      obtain ⟨d0, d1, d2, d3, d4, d5, d6, d7, d8, g0, g1, g2, g3, g4, g5, g6, g7, g8⟩ := HI.out.z
      have HCL := Lib.hid (fun W hW => close_any (w.heap.size + 1) t R W hW ht)
      by_cases hcl : R.close t = 0
      · rw [if_pos hcl, if_pos hcl] at hfe
        have HFE := Lib.hid hfe
        rw [hcl] at HCL
        clear hfe hcl
        go_wp2_with fail
        refine (HCL.out _ HI.out.r).mono ?_
        rintro e w2 ⟨rfl, n, rfl⟩
        go_wp2
        refine bodyPost_ret (v := .tuple #[S.val, .int .i64 0]) (by simp [results, Try.results23, go_sem, d0, d1, d2, d3, d4, d5, d6, d7, d8, hzz, KV.val]) rfl ⟨by rw [HFE.out.1, HFE.out.2], ?_⟩
        have hbw := HI.out.b
        repeat (first | (with_reducible exact hbw) | (with_reducible refine bs ?_ (by first | (simp; done) | (simp; omega)) _) | (with_reducible apply Below.drew) | (with_reducible apply below_drewN) | (with_reducible refine ba ?_ _))
      · rw [if_neg hcl, if_neg hcl] at hfe
        have HFE := Lib.hid hfe
        have t1 : (R.close t != 0) = true := by simpa using hcl
        obtain ⟨ec, hec⟩ : ∃ ec, ec = R.close t := ⟨_, rfl⟩
        rw [← hec] at HCL t1
        clear hfe hcl hec
        go_wp2_with fail
        refine (HCL.out _ HI.out.r).mono ?_
        rintro e w2 ⟨rfl, n, rfl⟩
        go_wp2
        refine bodyPost_ret (v := .tuple #[KV.zero.val, .int .i64 4]) (by simp [results, Try.results23, go_sem, d0, d1, d2, d3, d4, d5, d6, d7, d8, hzz, KV.zero, KV.val]) rfl ⟨by rw [HFE.out.1, HFE.out.2], ?_⟩
        have hbw := HI.out.b
        repeat (first | (with_reducible exact hbw) | (with_reducible refine bs ?_ (by first | (simp; done) | (simp; omega)) _) | (with_reducible apply Below.drew) | (with_reducible apply below_drewN) | (with_reducible refine ba ?_ _))
end Go.Proofs.Ytoidbmgoofbcfaa
