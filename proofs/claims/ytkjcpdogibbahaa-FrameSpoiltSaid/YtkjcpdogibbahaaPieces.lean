/- FramePieces: what is told does not hang on the pieces. -/
import Derived.Test.YtkjcpdogibbahaaCuts
namespace Go.Proofs.Ytkjcpdogibbahaa
open Go.RowKit Go.Um
set_option maxHeartbeats 1000000

theorem pieces_big (s : ByteArray) (v : Value) (w : World) (hs : 3000 < s.size) : Calls Try.prog 4 #[.string s, v] w fun e w' => e = .returned (.bool true) ∧ Below w.heap.size w w' := by
  have t1 : decide (3000 < (s.size : Int)) = true := by simp; omega
  clear hs
  go_enter Try.func4, Try.ntmps4
  go_wp2_with fail
  refine (works_any _).mono ?_
  rintro e w4 ⟨rfl, hb4⟩
  go_wp2
  go_ret
  exact ⟨rfl, hb4⟩

/-- a cutter that was fed without an ask -/
def fresh (l : List UInt8) : Cut := ⟨l, 0, false⟩
/-- a cutter after k Nexts -/
def nexts (c : Cut) : Nat → Cut
  | 0 => c
  | k + 1 => (nexts c k).next
theorem tells_self (c : Cut) : c.tells c.tell.1 c.tell.2.1 c.tell.2.2 = true := by simp [Cut.tells]
theorem next_fed (c : Cut) : c.next.pos + (c.next.rest.length : Nat) = c.pos + (c.rest.length : Nat) := by
  unfold Cut.next
  by_cases h : c.bad = false ∧ (lookF c.rest).1 = 1
  · rw [if_pos h]
    have h2 := (look_size h.2).2.1
    show c.pos + _ + 6 + ((c.rest.drop _).length : Nat) = _
    rw [List.length_drop]; omega
  · rw [if_neg h]
theorem next_pos (c : Cut) (h : 0 ≤ c.pos) : 0 ≤ c.next.pos := by
  unfold Cut.next; split <;> (simp only []; omega)
/-- what goes together in the loops -/
structure Ok (c : Cut) (n : Nat) : Prop where
  pos : 0 ≤ c.pos
  fed : c.pos + (c.rest.length : Nat) = (n : Int)
theorem Ok.next {c : Cut} {n : Nat} (h : Ok c n) : Ok c.next n := ⟨next_pos c h.pos, (next_fed c).trans h.fed⟩
theorem Ok.le {c : Cut} {n : Nat} (h : Ok c n) : c.rest.length ≤ n ∧ c.pos ≤ n := by have := h.pos; have := h.fed; omega
theorem Ok.fresh (l : List UInt8) : Ok (fresh l) l.length := ⟨Int.le_refl 0, by show (0 : Int) + (l.length : Nat) = _; omega⟩

set_option maxRecDepth 100000 in
theorem pieces_main (s : ByteArray) (ps : List Int) (ao : Option Addr) (cap b o : Nat) (w : World) (h2 : SlAt w 1 ps.length (ps.map (Value.int .u8)) ao cap b o) (hr : ∀ n ∈ ps, 0 ≤ n ∧ n ≤ 255) (hs : s.size ≤ 3000) :
    Calls Try.prog 4 #[.string s, .slice ao ps.length cap] w fun e w' => e = .returned (.bool true) ∧ Below w.heap.size w w' := by
  have t1 : decide (3000 < (s.size : Int)) = false := by simp; omega
  have hidx2 := h2.idx (P := Try.prog) (t := 23) Try.underlying23 size5 (by decide)
  have hll : ps.length ≤ maxLen := Nat.le_trans h2.le h2.max
  unfold maxLen at hll
  have hsd := len_data s
  have Hsd := Lib.hid hsd
  have H2 := Lib.hid h2
  have HR := Lib.hid hr
  clear hr h2 hsd
  go_enter Try.func4, Try.ntmps4
  go_wp2_with fail
  refine (cut_new _).mono ?_
  rintro e w1 ⟨rfl, hc1, hb1, hz1⟩
  obtain ⟨p, hp⟩ : ∃ p, p = w.heap.size := ⟨_, rfl⟩
  rw [← hp] at hc1 ⊢
  have hz1' : p < w1.heap.size := by omega
  have Hp := Lib.hid hp
  have Hc1 := Lib.hid hc1
  have Hb1 := Lib.hid hb1
  clear hz1 hp hc1 hb1
  go_wp2_with fail
  refine (cut_new _).mono ?_
  rintro e w2 ⟨rfl, hc2, hb2, hz2⟩
  obtain ⟨q, hq⟩ : ∃ q, q = w1.heap.size := ⟨_, rfl⟩
  rw [← hq] at hc2 ⊢
  have hpq : p < q := by omega
  have hpq2 : p ≠ q := by omega
  have hp0 : w.heap.size ≤ p := by rw [Hp.out]; exact Nat.le_refl _
  have hq0 : w.heap.size ≤ q := by omega
  have hc12 := Hc1.out.below hb2
  have hB2 := bt Hb1.out hb2
  have hfeed := cut_feed (fresh []) s.data.toList p _ hc12 (by decide) (by rw [Hsd.out]; omega)
  rw [← strV_eq] at hfeed
  have HF := Lib.hid hfeed
  have Hc2 := Lib.hid hc2
  have HB2 := Lib.hid hB2
  clear hz2 hq hc2 hb2 hc12 hB2 hfeed hz1'
  go_wp2_with fail
  refine HF.out.mono ?_
  rintro e w3 ⟨rfl, h3, k3⟩
  have hB3 := kept_new HB2.out k3 (fun i hi e => by omega)
  have H3 : Hid ((fresh s.data.toList).At w3 p) := Lib.hid h3
  have H3q := Lib.hid (Hc2.out.kept k3 (fun e => hpq2 e.symm))
  have HB3 := Lib.hid hB3
  clear h3 k3 hB3
  have hss : (s.size : Int) ≤ 3000 := by omega
  go_wp2_with fail
  go_loopw [7, 8] (fun t7 t8 wr => ∃ (i : Nat) (r : ByteArray) (pre : List UInt8), t7 = .string r ∧ t8 = .int .i64 i ∧ Hid (pre ++ r.data.toList = s.data.toList) ∧ i + r.size ≤ s.size ∧ Hid ((fresh s.data.toList).At wr p) ∧ Hid ((fresh pre).At wr q) ∧ Hid (Below w.heap.size w wr)) (fun _ t8 _ => s.size - (intOf t8).toNat)
  case atStart => exact ⟨0, s, [], rfl, rfl, rfl, by omega, H3.out, H3q.out, HB3.out⟩
  case round =>
    obtain ⟨i, r, pre, rfl, rfl, hpre, hir, hP, hQ, hbel⟩ := hrel
    have i0 : (0 : Int) ≤ (i : Int) := by omega
    have i1 : (i : Int) ≤ 3000 := by omega
    have r1 : (r.size : Int) ≤ 3000 := by omega
    have hpl : pre.length + r.size = s.size := by
      have h5 := congrArg List.length hpre.out
      rw [List.length_append, len_data, Hsd.out] at h5
      exact h5
    have hfd : ∀ K : Nat, Calls Try.prog 12 #[.pointer (some ⟨q, 0, none⟩), .string (r.extract 0 K)] wr fun e w' => e = .returned (.tuple #[]) ∧ (fresh (pre ++ (r.extract 0 K).data.toList)).At w' q ∧ Kept (fun k => k = q) wr w' :=
      fun K => cut_feed (fresh pre) (r.extract 0 K).data.toList q wr hQ.out (by show pre.length ≤ _; omega) (by rw [ext2_data, List.length_take, List.length_drop, len_data]; omega)
    have hfr : Calls Try.prog 12 #[.pointer (some ⟨q, 0, none⟩), .string r] wr fun e w' => e = .returned (.tuple #[]) ∧ (fresh (pre ++ r.data.toList)).At w' q ∧ Kept (fun k => k = q) wr w' :=
      cut_feed (fresh pre) r.data.toList q wr hQ.out (by show pre.length ≤ _; omega) (by rw [len_data]; omega)
    have HFD := Lib.hid hfd
    have HFR := Lib.hid hfr
    clear hfd hfr
    by_cases hr0 : 0 < r.size
    · have hr0' : (0 : Int) < (r.size : Int) := by omega
      by_cases hps : 0 < ps.length
      · have hps' : (0 : Int) < (ps.length : Int) := by omega
        have m0 : (0 : Int) ≤ (i : Int) % (ps.length : Int) := Int.emod_nonneg _ (by omega)
        have m1 : (i : Int) % (ps.length : Int) < (ps.length : Int) := Int.emod_lt_of_pos _ hps'
        obtain ⟨jx, hjx⟩ : ∃ jx : Nat, (i : Int) % (ps.length : Int) = (jx : Int) := ⟨((i : Int) % (ps.length : Int)).toNat, by omega⟩
        have hjl : jx < ps.length := by omega
        obtain ⟨y, hy⟩ : ∃ y, ps[jx]? = some y := ⟨_, List.getElem?_eq_getElem hjl⟩
        have g2 := num_at (H2.out.below' hbel.out H2.out.lt) hy
        obtain ⟨y0, y1⟩ := HR.out y (List.mem_of_getElem? hy)
        have hjt : ((i : Int) % (ps.length : Int)).toNat = jx := by omega
        have z1 : ((ps.length : Int) == 0) = false := by rw [beq_eq_false_iff_ne]; omega
        have HY := Lib.hid hy
        have HJX := Lib.hid hjx
        clear hy hjx
        go_wp2_with fail
        all_goals
          first | (with_reducible refine (HFD.out _).mono ?_) | (with_reducible refine (HFR.out).mono ?_)
          rintro e w4 ⟨rfl, hQ4, k4⟩
          have HQ4 := Lib.hid hQ4
          have K4 := Lib.hid k4
          clear hQ4 k4
          go_wp2_with fail
          go_roundw
          case rel =>
            refine ⟨i + 1, _, pre ++ _, rfl, by go_num, ?_, ?_, hP.out.kept K4.out (fun e => hpq2 e), HQ4.out, kept_new hbel.out K4.out (fun i hi e => by omega)⟩
            · first
                | (rw [← hpre.out, List.append_assoc, ext_data, ext2_data, List.drop_zero, Nat.sub_zero, List.take_append_drop]; exact rfl)
                | (show pre ++ r.data.toList ++ [] = _; rw [List.append_nil]; exact hpre.out)
            · first
                | (rw [ext_size]; omega)
                | (show i + 1 + 0 ≤ s.size; omega)
          case measure => simp [intOf]; omega
      · have hps' : ¬ (0 : Int) < (ps.length : Int) := by omega
        go_wp2_with fail
        all_goals
          first | (with_reducible refine (HFD.out _).mono ?_) | (with_reducible refine (HFR.out).mono ?_)
          rintro e w4 ⟨rfl, hQ4, k4⟩
          have HQ4 := Lib.hid hQ4
          have K4 := Lib.hid k4
          clear hQ4 k4
          go_wp2_with fail
          go_roundw
          case rel =>
            refine ⟨i + 1, _, pre ++ _, rfl, by go_num, ?_, ?_, hP.out.kept K4.out (fun e => hpq2 e), HQ4.out, kept_new hbel.out K4.out (fun i hi e => by omega)⟩
            · first
                | (rw [← hpre.out, List.append_assoc, ext_data, ext2_data, List.drop_zero, Nat.sub_zero, List.take_append_drop]; exact rfl)
                | (show pre ++ r.data.toList ++ [] = _; rw [List.append_nil]; exact hpre.out)
            · first
                | (rw [ext_size]; omega)
                | (show i + 1 + 0 ≤ s.size; omega)
          case measure => simp [intOf]; omega
    · have hr0' : ¬ (0 : Int) < (r.size : Int) := by omega
      go_wp2_with fail
      have hre : r.data.toList = [] := List.eq_nil_of_length_eq_zero (by rw [len_data]; omega)
      have hQs : Hid ((fresh s.data.toList).At wr q) := by
        have h5 := hpre.out
        rw [hre, List.append_nil] at h5
        rw [← h5]
        exact hQ.out
      have HB := Lib.hid hbel.out
      clear hre hQ hpre HFD HFR hbel hpl
      obtain ⟨wo, hwo⟩ : ∃ wo, wo = wr := ⟨_, rfl⟩
      go_loopw [10] (fun t10 wz => ∃ (k : Nat) (d : Cut), k ≤ 500 ∧ t10 = .int .i64 k ∧ Hid (Ok d s.size) ∧ Hid (d.At wz p) ∧ Hid (d.At wz q) ∧ Hid (Below w.heap.size w wz)) (fun t10 _ => 500 - (intOf t10).toNat)
      case atStart => exact ⟨0, fresh s.data.toList, Nat.zero_le _, rfl, by have := Ok.fresh s.data.toList; rw [len_data] at this; exact this, hP.out, hQs.out, HB.out⟩
      case round =>
        obtain ⟨k, d, hk, rfl, hok, hdp, hdq, hbz⟩ := hrel
        have hle := hok.out.le
        have hpos := hok.out.pos
        by_cases hk5 : k < 500
        · have hk5' : decide ((k : Int) < 500) = true := by simp; omega
          have hN := cut_next d p _ hdp.out (by omega) (by omega)
          have hT := fun W h => tells_any d q d.tell.1 d.tell.2.1 d.tell.2.2 W h (by omega) (by omega)
          simp only [tells_self] at hT
          obtain ⟨A, hA⟩ : ∃ A, A = d.tell.1 := ⟨_, rfl⟩
          obtain ⟨B, hB⟩ : ∃ B, B = d.tell.2.1 := ⟨_, rfl⟩
          obtain ⟨D, hD⟩ : ∃ D, D = d.tell.2.2 := ⟨_, rfl⟩
          rw [← hA, ← hB, ← hD] at hN hT
          unfold strV at hN hT
          have HN := Lib.hid hN
          have HT := Lib.hid hT
          clear hA hB hD hN hT hle hpos
          go_wp2_with fail
          refine HN.out.mono ?_
          rintro e wA ⟨rfl, hA, kA⟩
          have HA := Lib.hid hA
          have KA := Lib.hid kA
          clear hA kA
          go_wp2_with fail
          refine (HT.out _ (hdq.out.kept KA.out (fun e => hpq2 e.symm))).mono ?_
          rintro e wB ⟨rfl, hBq, kB⟩
          have HBq := Lib.hid hBq
          have HBp := Lib.hid (HA.out.kept kB (fun e => hpq2 e))
          have HBB := Lib.hid (kept_new (kept_new hbz.out KA.out (fun i hi e => by omega)) kB (fun i hi e => by omega))
          clear hBq kB
          cases hd1 : (D != 1)
          · go_wp2_with fail
            go_roundw
            case rel => exact ⟨k + 1, d.next, by omega, by go_num, hok.out.next, HBp.out, HBq.out, HBB.out⟩
            case measure => simp [intOf]; omega
          · have hok2 := hok.out.next
            have hf := fun W h => cut_fed d.next q W h (by have := hok2.le; omega) (by have := hok2.le; have := hok2.pos; omega)
            rw [hok2.fed] at hf
            have HFd := Lib.hid hf
            clear hf hok2
            go_wp2_with fail
            refine (HFd.out _ HBq.out).mono ?_
            rintro e wC ⟨rfl, hbC⟩
            go_wp2_with fail
            refine (works_any _).mono ?_
            rintro e wD ⟨rfl, hbD⟩
            go_wp2
            go_ret
            exact ⟨rfl, bt (bt HBB.out hbC) hbD⟩
        · have hk5' : decide ((k : Int) < 500) = false := by simp; omega
          have hf := fun W h => cut_fed d q W h (by omega) (by omega)
          rw [hok.out.fed] at hf
          have HFd := Lib.hid hf
          clear hf hle hpos
          go_wp2_with fail
          refine (HFd.out _ hdq.out).mono ?_
          rintro e wC ⟨rfl, hbC⟩
          go_wp2_with fail
          refine (works_any _).mono ?_
          rintro e wD ⟨rfl, hbD⟩
          go_wp2
          go_ret
          exact ⟨rfl, bt (bt hbz.out hbC) hbD⟩

theorem pieces_any (s : ByteArray) (ps : List Int) (ao : Option Addr) (cap b o : Nat) (w : World) (h2 : SlAt w 1 ps.length (ps.map (Value.int .u8)) ao cap b o) (hr : ∀ n ∈ ps, 0 ≤ n ∧ n ≤ 255) :
    Calls Try.prog 4 #[.string s, .slice ao ps.length cap] w fun e w' => e = .returned (.bool true) ∧ Below w.heap.size w w' := by
  by_cases hs : s.size ≤ 3000
  · exact pieces_main s ps ao cap b o w h2 hr hs
  · exact pieces_big s _ w (by omega)
end Go.Proofs.Ytkjcpdogibbahaa
