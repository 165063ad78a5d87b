/- What a cutter sees at the head of its bytes. -/
import Derived.Test.YtkjcpdogibbahaaParts
import Derived.Deep.RegionHeld3
import Derived.Lib.IndexBytes
import Derived.Lib.PathFns
namespace Go.Proofs.Ytkjcpdogibbahaa
open Go.RowKit Go.Um
set_option maxHeartbeats 1000000

/-- how many bytes the frame at the head says that its payload has -/
def headN (l : List UInt8) : Nat := (num l).toNat
/-- is the head of a frame that may be? -/
def headOk (l : List UInt8) : Bool := decide (0 < num l) && decide (num l ≤ 600) && (num (l.drop 2) == 65535 - num l)
/-- is its sum right? -/
def sumOk (l : List UInt8) : Bool := num (l.drop (4 + headN l)) == sumN ((l.drop 4).take (headN l))
/-- what is there: state and size -/
def lookF (l : List UInt8) : Int × Int :=
  if l.length < 4 then (0, 0) else if headOk l = false then (2, 0) else if l.length < headN l + 6 then (0, 0) else if sumOk l then (1, num l + 6) else (2, 0)

theorem ext_data (s : ByteArray) (a : Nat) : (s.extract a s.size).data.toList = s.data.toList.drop a := by
  have h := Lib.extract_to_end s a
  exact h
theorem ext_size (s : ByteArray) (a : Nat) : (s.extract a s.size).size = s.size - a := by
  rw [← len_data, ext_data, List.length_drop, len_data]
theorem ext2_data (s : ByteArray) (a b : Nat) : (s.extract a b).data.toList = (s.data.toList.drop a).take (b - a) := by
  rw [ByteArray.data_extract]
  simp [Array.toList_extract, List.extract_eq_take_drop]
theorem look_short (p : Nat) (made bad : Bool) (rest : ByteArray) (at' : Int) (w : World) (h : CutAt w p made rest at' bad) (hs : rest.size < 4) :
    Calls Try.prog 24 #[.pointer (some ⟨p, 0, none⟩)] w fun e w' => e = .returned (.tuple #[.int .i64 0, .int .i64 0]) ∧ w = w' := by
  have c1 := h.c1
  have b1 : (rest.size : Int) < 4 := by omega
  go_enter Try.func24, Try.ntmps24
  go_wp2_with fail
  go_step3
  go_wp2_with fail
  go_step3
  go_wp2_with fail
  refine wp_loop_rounds 1 ?_
  rw [rounds_succ]
  go_wp2
  try rw [Exit.noGoto_ret]
  go_ret2
  exact ⟨rfl, rfl⟩

theorem look_head (p : Nat) (made bad : Bool) (rest : ByteArray) (at' : Int) (w : World) (h : CutAt w p made rest at' bad) (hs : 4 ≤ rest.size) (hm : rest.size ≤ 1000000) (hok : headOk rest.data.toList = false) :
    Calls Try.prog 24 #[.pointer (some ⟨p, 0, none⟩)] w fun e w' => e = .returned (.tuple #[.int .i64 2, .int .i64 0]) ∧ Below w.heap.size w w' := by
  have c1 := h.c1
  have b1 : ¬ (rest.size : Int) < 4 := by omega
  have b2 : decide ((rest.size : Int) < 4) = false := by simp; omega
  have hn := num_bd rest.data.toList
  obtain ⟨n, hn'⟩ : ∃ n, n = num rest.data.toList := ⟨_, rfl⟩
  have ew : wrap64 n = n := by rw [hn']; exact IntWalk.wrap64_in _ (by omega)
  have hnum := fun W => number_any rest W (by omega) hm
  rw [← hn'] at hnum hn
  have Hnum := Lib.hid hnum
  have Hn := Lib.hid hn'
  clear hnum hn'
  by_cases h0 : n = 0
  · have t1 : (n == 0) = true := by simp [h0]
    have H0 := Lib.hid h0
    clear h0
    go_enter Try.func24, Try.ntmps24
    go_wp2_with fail
    go_step3
    go_wp2_with fail
    go_step3
    go_wp2_with fail
    refine wp_loop_rounds 1 ?_
    rw [rounds_succ]
    go_wp2_with fail
    refine (Hnum.out _).mono ?_
    rintro e w1 ⟨rfl, hb1⟩
    go_wp2_with fail
    try rw [Exit.noGoto_ret]
    go_ret2
    exact ⟨rfl, hb1⟩
  · have t1 : (n == 0) = false := by simp [h0]
    have H0 := Lib.hid h0
    clear h0
    by_cases h6 : 600 < n
    · have t2 : decide (600 < n) = true := by simp [h6]
      go_enter Try.func24, Try.ntmps24
      go_wp2_with fail
      go_step3
      go_wp2_with fail
      go_step3
      go_wp2_with fail
      refine wp_loop_rounds 1 ?_
      rw [rounds_succ]
      go_wp2_with fail
      refine (Hnum.out _).mono ?_
      rintro e w1 ⟨rfl, hb1⟩
      go_wp2_with fail
      try rw [Exit.noGoto_ret]
      go_ret2
      exact ⟨rfl, hb1⟩
    · have t2 : decide (600 < n) = false := by simp; omega
      have hne : num (rest.data.toList.drop 2) ≠ 65535 - n := by
        intro e
        have h1 := Hn.out
        have : headOk rest.data.toList = true := by
          unfold headOk
          rw [← h1, e]
          have := H0.out
          simp; omega
        rw [this] at hok
        cases hok
      have c1' : ∀ W, Below w.heap.size w W → W.cell? ⟨p, 1, none⟩ = some (.string rest) := fun W hb => by rw [hb.cell (p := ⟨p, 1, none⟩) (World.block_lt_of_cell? w _ c1)]; exact c1
      have C1 := Lib.hid c1'
      have Hne := Lib.hid hne
      clear c1' hne hok
      have n1 : (1 : Int) ≤ n := by have := H0.out; omega
      have n2 : n ≤ 600 := by omega
      have hb2 : (2 : Int) ≤ (rest.size : Int) := by omega
      go_enter Try.func24, Try.ntmps24
      go_wp2_with fail
      go_step3
      go_wp2_with fail
      go_step3
      go_wp2_with fail
      refine wp_loop_rounds 1 ?_
      rw [rounds_succ]
      go_wp2_with fail
      refine (Hnum.out _).mono ?_
      rintro e w1 ⟨rfl, hb1⟩
      have d1 := C1.out w1 hb1
      go_wp2_with fail
      refine (number_any (rest.extract 2 rest.size) _ (by rw [ext_size]; omega) (by rw [ext_size]; omega)).mono ?_
      rintro e w2 ⟨rfl, hb2'⟩
      rw [ext_data]
      obtain ⟨m, hm'⟩ : ∃ m, m = num (rest.data.toList.drop 2) := ⟨_, rfl⟩
      rw [← hm'] at Hne ⊢
      have hmb := num_bd (rest.data.toList.drop 2)
      rw [← hm'] at hmb
      clear hm'
      have hx : (m != bits .xor .u16 (if IntKind.u16.signed = true then -1 else IntKind.u16.max) n) = true := by rw [u16_not n hn.1 hn.2, bne_iff_ne]; exact Hne.out
      go_wp2_with fail
      try rw [Exit.noGoto_ret]
      go_ret2
      exact ⟨rfl, bt hb1 hb2'⟩

/-- the head is that of a frame that may be -/
theorem look_tail (p : Nat) (made bad : Bool) (rest : ByteArray) (at' : Int) (w : World) (h : CutAt w p made rest at' bad) (hs : 4 ≤ rest.size) (hm : rest.size ≤ 1000000) (hok : headOk rest.data.toList = true) :
    Calls Try.prog 24 #[.pointer (some ⟨p, 0, none⟩)] w fun e w' => e = .returned (.tuple #[.int .i64 (lookF rest.data.toList).1, .int .i64 (lookF rest.data.toList).2]) ∧ Below w.heap.size w w' := by
  have c1 := h.c1
  have b1 : ¬ (rest.size : Int) < 4 := by omega
  have b2 : decide ((rest.size : Int) < 4) = false := by simp; omega
  have hn := num_bd rest.data.toList
  obtain ⟨n, hn'⟩ : ∃ n, n = (num rest.data.toList).toNat := ⟨_, rfl⟩
  have hnn : num rest.data.toList = (n : Int) := by omega
  have hk : 0 < n ∧ n ≤ 600 ∧ num (rest.data.toList.drop 2) = 65535 - (n : Int) := by
    unfold headOk at hok
    rw [hnn] at hok
    simp at hok
    omega
  have ew : wrap64 (n : Int) = n := IntWalk.wrap64_in _ (by omega)
  have hnum := fun W => number_any rest W (by omega) hm
  rw [hnn] at hnum
  have hlook : lookF rest.data.toList = if rest.size < n + 6 then (0, 0) else if num (rest.data.toList.drop (4 + n)) == sumN ((rest.data.toList.drop 4).take n) then (1, (n : Int) + 6) else (2, 0) := by
    unfold lookF sumOk headN
    rw [hok, len_data, if_neg (by omega), if_neg (by decide), hnn]
    rfl
  have c1' : ∀ W, Below w.heap.size w W → W.cell? ⟨p, 1, none⟩ = some (.string rest) := fun W hb => by rw [hb.cell (p := ⟨p, 1, none⟩) (World.block_lt_of_cell? w _ c1)]; exact c1
  have hx : ((65535 - (n : Int)) != bits .xor .u16 (if IntKind.u16.signed = true then -1 else IntKind.u16.max) (n : Int)) = false := by rw [u16_not n (by omega) (by omega)]; simp
  have n1 : (1 : Int) ≤ n := by omega
  have n2 : (n : Int) ≤ 600 := by omega
  have t1 : ((n : Int) == 0) = false := by simp; omega
  have t2 : decide (600 < (n : Int)) = false := by simp; omega
  have hb2 : (2 : Int) ≤ (rest.size : Int) := by omega
  have hb3 : (rest.size : Int) ≤ 1000000 := by omega
  have H2 := Lib.hid hk.2.2
  have Hlook := Lib.hid hlook
  have C1 := Lib.hid c1'
  have Hnum := Lib.hid hnum
  clear hnum hn' hlook c1' hok hk hnn hn
  by_cases hl : rest.size < n + 6
  · have t3 : decide ((rest.size : Int) < 4 + (n : Int) + 2) = true := by simp; omega
    have HL := Lib.hid hl
    clear hl
    go_enter Try.func24, Try.ntmps24
    go_wp2_with fail
    go_step3
    go_wp2_with fail
    go_step3
    go_wp2_with fail
    refine wp_loop_rounds 2 ?_
    rw [rounds_succ]
    go_wp2_with fail
    refine (Hnum.out _).mono ?_
    rintro e w1 ⟨rfl, hb1⟩
    have d1 := C1.out w1 hb1
    go_wp2_with fail
    refine (number_any (rest.extract 2 rest.size) _ (by rw [ext_size]; omega) (by rw [ext_size]; omega)).mono ?_
    rintro e w2 ⟨rfl, hb2'⟩
    have hB2 := bt hb1 hb2'
    have d2 := C1.out w2 hB2
    rw [ext_data, H2.out]
    clear d1
    go_wp2_with fail
    rw [rounds_succ]
    go_wp2_with fail
    try rw [Exit.noGoto_ret]
    go_ret2
    have e0 : lookF rest.data.toList = (0, 0) := by rw [Hlook.out, if_pos HL.out]
    exact ⟨by simp [e0], hB2⟩
  · have t3 : decide ((rest.size : Int) < 4 + (n : Int) + 2) = false := by simp; omega
    have HL := Lib.hid hl
    have hl6 : n + 6 ≤ rest.size := by omega
    clear hl
    go_enter Try.func24, Try.ntmps24
    go_wp2_with fail
    go_step3
    go_wp2_with fail
    go_step3
    go_wp2_with fail
    refine wp_loop_rounds 3 ?_
    rw [rounds_succ]
    go_wp2_with fail
    refine (Hnum.out _).mono ?_
    rintro e w1 ⟨rfl, hb1⟩
    have d1 := C1.out w1 hb1
    go_wp2_with fail
    refine (number_any (rest.extract 2 rest.size) _ (by rw [ext_size]; omega) (by rw [ext_size]; omega)).mono ?_
    rintro e w2 ⟨rfl, hb2'⟩
    have hB2 := bt hb1 hb2'
    have d2 := C1.out w2 hB2
    rw [ext_data, H2.out]
    clear d1
    go_wp2_with fail
    rw [rounds_succ]
    have v2 : (0 : Int) ≤ 4 + (n : Int) := by omega
    have v3 : 4 + (n : Int) ≤ (rest.size : Int) := by omega
    have v4 : (4 : Int) ≤ 4 + (n : Int) := by omega
    have v5 : (4 + (n : Int)).toNat = 4 + n := by omega
    have q1 : 2 ≤ (rest.extract (4 + n) rest.size).size := by rw [ext_size]; omega
    have q2 : (rest.extract (4 + n) rest.size).size ≤ 1000000 := by rw [ext_size]; omega
    have q3 : (rest.extract 4 (4 + n)).size ≤ 1000000 := by rw [← len_data, ext2_data, List.length_take]; omega
    obtain ⟨m, hm'⟩ : ∃ m, m = num (rest.data.toList.drop (4 + n)) := ⟨_, rfl⟩
    obtain ⟨sm, hsm⟩ : ∃ sm, sm = sumN ((rest.data.toList.drop 4).take n) := ⟨_, rfl⟩
    have qn := fun W => number_q (rest.extract (4 + n) rest.size) W q1 q2
    have qs := fun W => (sum_any (rest.extract 4 (4 + n)) W q3).mono fun e w' (h : e = _ ∧ _) => (⟨h.1, h.2.symm⟩ : e = _ ∧ w' = W)
    rw [ext_data, ← hm'] at qn
    rw [ext2_data, Nat.add_sub_cancel_left, ← hsm] at qs
    have Hl2 : Hid (lookF rest.data.toList = if m == sm then (1, (n : Int) + 6) else (2, 0)) := by
      have := Hlook.out
      rw [if_neg HL.out, ← hm', ← hsm] at this
      exact this
    have QN := Lib.hid qn
    have QS := Lib.hid qs
    have v1 : IntKind.i64.wrap (4 + (n : Int)) = 4 + (n : Int) := IntWalk.i64_in _ (by omega)
    clear qn qs q1 q2 q3 hm' hsm
    by_cases hms : m = sm
    · have y1 : (m == sm) = true := by simp [hms]
      have Hms := Lib.hid hms
      clear hms
      go_wp2_with fail
      go_quiet ((first | (go_at_call 34; exact Calls.quiet_of (QN.out _)) | (go_at_call 19; exact Calls.quiet_of_same (QS.out _))))
      go_wp2_with fail
      try rw [Exit.noGoto_ret]
      go_ret2
      have e0 : lookF rest.data.toList = (1, (n : Int) + 6) := by rw [Hl2.out, if_pos y1]
      have e1 : 4 + (n : Int) + 2 = (n : Int) + 6 := by omega
      exact ⟨by simp [e0, e1], below_drewN hB2 _⟩
    · have y1 : (m == sm) = false := by simp [hms]
      have Hms := Lib.hid hms
      clear hms
      go_wp2_with fail
      go_quiet ((first | (go_at_call 34; exact Calls.quiet_of (QN.out _)) | (go_at_call 19; exact Calls.quiet_of_same (QS.out _))))
      go_wp2_with fail
      rw [rounds_succ]
      go_wp2_with fail
      try rw [Exit.noGoto_ret]
      go_ret2
      have e0 : lookF rest.data.toList = (2, 0) := by rw [Hl2.out, if_neg (by rw [y1]; decide)]
      exact ⟨by simp [e0], below_drewN hB2 _⟩

theorem look_any (p : Nat) (made bad : Bool) (rest : ByteArray) (at' : Int) (w : World) (h : CutAt w p made rest at' bad) (hm : rest.size ≤ 1000000) :
    Calls Try.prog 24 #[.pointer (some ⟨p, 0, none⟩)] w fun e w' => e = .returned (.tuple #[.int .i64 (lookF rest.data.toList).1, .int .i64 (lookF rest.data.toList).2]) ∧ Below w.heap.size w w' := by
  by_cases hs : rest.size < 4
  · have e0 : lookF rest.data.toList = (0, 0) := by unfold lookF; rw [len_data, if_pos hs]
    rw [e0]
    exact (look_short p made bad rest at' w h hs).mono fun _ _ ⟨h1, h2⟩ => ⟨h1, by rw [← h2]; exact bz w⟩
  · cases hok : headOk rest.data.toList with
    | false =>
      have e0 : lookF rest.data.toList = (2, 0) := by unfold lookF; rw [len_data, if_neg hs, if_pos hok]
      rw [e0]
      exact look_head p made bad rest at' w h (by omega) hm hok
    | true => exact look_tail p made bad rest at' w h (by omega) hm hok
end Go.Proofs.Ytkjcpdogibbahaa
