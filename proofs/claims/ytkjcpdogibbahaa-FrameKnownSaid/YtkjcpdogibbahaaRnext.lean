/- The document's Next. -/
import Derived.Test.YtkjcpdogibbahaaGoes
namespace Go.Proofs.Ytkjcpdogibbahaa
open Go.RowKit Go.Um
set_option maxHeartbeats 1000000

def rmore (st : Int) (k : Nat) : Int := if st = 1 then (k : Int) + 1 else k
theorem rnext_any (p : Nat) (s : ByteArray) (k : Nat) (w : World) (h : RefAt w p s k) (hm : s.size ≤ 1000000) (hk : k ≤ 1000000) (hf : FramesAt s.data.toList k) :
    Calls Try.prog 14 #[.pointer (some ⟨p, 0, none⟩)] w fun e w' => e = .returned (.tuple #[strV (payF (s.data.toList.drop (posN s.data.toList k))), .int .i64 (posN s.data.toList k : Nat), .int .i64 (lookF (s.data.toList.drop (posN s.data.toList k))).1]) ∧
      RefAt w' p s (rmore (lookF (s.data.toList.drop (posN s.data.toList k))).1 k) ∧ Kept (fun k => k = p) w w' := by
  have hle := hf.le
  rw [len_data] at hle
  have Hf := Lib.hid hf
  have Hle := Lib.hid hle
  have HR := Lib.hid h
  have c0 := h.c0
  have c1 := h.c1
  obtain ⟨l, hl⟩ : ∃ l, l = s.data.toList := ⟨_, rfl⟩
  have hk' : (k : Int) ≤ 1000000 := by omega
  rw [← hl] at Hf Hle ⊢
  have Hl := Lib.hid hl
  clear hf hle h hl
  go_enter Try.func14, Try.ntmps14
  go_wp2
  go_loopw [5, 6, 7, 8, 9] (fun t5 t6 _ _ _ wr => ∃ i : Nat, i ≤ k ∧ t6 = .int .i64 i ∧ t5 = .int .i64 (posN l i : Nat) ∧ Below w.heap.size w wr) (fun _ t6 _ _ _ _ => k - (intOf t6).toNat)
  case atStart => exact ⟨0, Nat.zero_le _, rfl, rfl, bz w⟩
  case round =>
    obtain ⟨i, hi, rfl, rfl, hbel⟩ := hrel
    have g := HR.out.below hbel
    have g0 := g.c0
    have g1 := g.c1
    have q0 := g.f0
    have q1 := g.f1
    have hp := Hle.out i hi
    obtain ⟨a, ha⟩ : ∃ a, a = posN l i := ⟨_, rfl⟩
    rw [← ha] at hp ⊢
    have b1 : (0 : Int) ≤ (a : Int) := by omega
    have b2 : (a : Int) ≤ (s.size : Int) := by omega
    have b3 : (s.size : Int) ≤ 1000000 := by omega
    have hfi := fun W => first_any (s.extract a s.size) W (by rw [ext_size]; omega)
    rw [ext_data, ← Hl.out] at hfi
    have Ha := Lib.hid ha
    have Hfi := Lib.hid hfi
    have Hb := Lib.hid hbel
    clear g hp ha hfi hbel
    by_cases hlt : i < k
    · have hlt' : (i : Int) < (k : Int) := by omega
      have hone := Hf.out i hlt
      rw [← Ha.out] at hone
      obtain ⟨hs1, hs2, hs3⟩ := look_size hone
      rw [List.length_drop] at hs2
      have hln : l.length = s.size := by rw [Hl.out, len_data]
      obtain ⟨n, hn⟩ : ∃ n, n = headN (l.drop a) + 6 := ⟨_, rfl⟩
      rw [← hn] at hs1 hs2
      rw [hs1, hone] at Hfi
      have hpn : posN l (i + 1) = a + n := by
        show posN l i + _ = _
        rw [← Ha.out, hs1]; rfl
      have Hpn := Lib.hid hpn
      have b4 : (a : Int) + (n : Int) ≤ 1000000 := by omega
      clear hone hs1 hs2 hs3 hn hpn hln
      go_wp2_with fail
      refine (Hfi.out _).mono ?_
      rintro e w1 ⟨rfl, hb1⟩
      go_wp2_with fail
      go_roundw
      case rel => exact ⟨i + 1, by omega, by go_num, by rw [Hpn.out]; go_num, bt Hb.out hb1⟩
      case measure => simp [intOf]; omega
    · have hik : i = k := by omega
      subst hik
      obtain ⟨st, hst⟩ : ∃ st, st = (lookF (l.drop a)).1 := ⟨_, rfl⟩
      rw [← hst] at Hfi
      have Hst := Lib.hid hst
      clear hst
      cases h1 : (st == 1)
      · have h2 : ¬ st = 1 := by simpa using h1
        have hr : rmore st i = i := if_neg h2
        have Hr := Lib.hid hr
        clear h2 hr
        go_wp2_with fail
        refine (Hfi.out _).mono ?_
        rintro e w1 ⟨rfl, hb1⟩
        go_wp2_with fail
        go_ret3
        have hB := bt Hb.out hb1
        rw [← Ha.out, ← Hst.out, Hr.out]
        exact ⟨rfl, HR.out.below hB, (Kept.of_below hB).mono fun i hi h => absurd h (by omega)⟩
      · have h2 : st = 1 := by simpa using h1
        have hr : rmore st i = (i : Int) + 1 := if_pos h2
        have Hr := Lib.hid hr
        have H2 := Lib.hid h2
        clear h2 hr
        go_wp2_with fail
        refine (Hfi.out _).mono ?_
        rintro e w1 ⟨rfl, hb1⟩
        have hB := bt Hb.out hb1
        have h3 := HR.out.below hB
        have d0 := h3.c0
        have d1 := h3.c1
        have e0 := h3.f0
        have e1 := h3.f1
        have HB := Lib.hid hB
        clear h3 hB hb1
        go_wp2_with fail
        go_ret3
        rw [← Ha.out, ← Hst.out, Hr.out]
        exact ⟨rfl, ⟨by simp [go_sem, d0], by simp [go_sem, d1], by simp [go_sem, e0], by simp [go_sem, e1]⟩, Kept.setCell (S := fun k => k = p) ((Kept.of_below HB.out).mono fun i hi h => absurd h (by omega)) (fun _ => rfl) _⟩
end Go.Proofs.Ytkjcpdogibbahaa
