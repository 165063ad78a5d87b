/- Small things that the laws ask of: bad, works, few; Put, of both. -/
import Derived.Test.YtkjcpdogibbahaaRnext
namespace Go.Proofs.Ytkjcpdogibbahaa
open Go.RowKit Go.Um
set_option maxHeartbeats 1000000

theorem kept_new {a b c : World} {S : Nat → Prop} (h : Below a.heap.size a b) (k : Kept S b c) (hS : ∀ i, i < a.heap.size → ¬ S i) : Below a.heap.size a c :=
  h.trans (k.below (fun i hi _ => hS i hi) h.size)

theorem bad_any (l : List UInt8) (w : World) (hl : l.length ≤ 1000000) (h : (lookF l).1 = 2) :
    Calls Try.prog 22 #[strV l] w fun e w' => e = .returned (.bool true) ∧ Below w.heap.size w w' := by
  have t1 : (⟨l, 0, false⟩ : Cut).tells [] 0 2 = true := by simp [Cut.tells, Cut.tell, h, stopSt]
  have e2 : (⟨l, 0, false⟩ : Cut).next = ⟨l, 0, true⟩ := by simp [Cut.next, h]
  have t2 : (⟨l, 0, true⟩ : Cut).tells [] 0 2 = true := by simp [Cut.tells, Cut.tell, stopSt]
  have T1 := Lib.hid t1
  have T2 := Lib.hid t2
  have E2 := Lib.hid e2
  clear t1 t2 e2 h
  unfold strV
  go_enter Try.func22, Try.ntmps22
  go_wp2_with fail
  refine (cut_new _).mono ?_
  rintro e w1 ⟨rfl, h1, hb1, hz⟩
  have H1 := Lib.hid h1
  have HZ := Lib.hid hz
  clear h1 hz
  go_wp2_with fail
  refine (cut_feed ⟨[], 0, false⟩ l _ _ H1.out (by simp) hl).mono ?_
  rintro e w2 ⟨rfl, h2, k2⟩
  have hB2 := kept_new hb1 k2 (fun i hi => by omega)
  have H2 := Lib.hid h2
  clear h2 k2 hb1
  go_wp2_with fail
  refine (tells_any ⟨l, 0, false⟩ _ [] 0 2 _ H2.out hl ⟨Int.le_refl 0, by show (0 : Int) ≤ 1000000; decide⟩).mono ?_
  rintro e w3 ⟨rfl, h3, k3⟩
  rw [T1.out]
  rw [E2.out] at h3
  have hB3 := kept_new hB2 k3 (fun i hi => by omega)
  have H3 := Lib.hid h3
  clear h3 k3 hB2
  go_wp2_with fail
  refine (tells_any ⟨l, 0, true⟩ _ [] 0 2 _ H3.out hl ⟨Int.le_refl 0, by show (0 : Int) ≤ 1000000; decide⟩).mono ?_
  rintro e w4 ⟨rfl, h4, k4⟩
  rw [T2.out]
  have hB4 := kept_new hB3 k4 (fun i hi => by omega)
  go_wp2
  go_ret
  exact ⟨rfl, hB4⟩

theorem works_any (w : World) : Calls Try.prog 10 #[] w fun e w' => e = .returned (.bool true) ∧ Below w.heap.size w w' := by
  go_enter Try.func10, Try.ntmps10
  go_wp2_with fail
  refine (cut_new _).mono ?_
  rintro e w1 ⟨rfl, h1, hb1, hz⟩
  have H1 := Lib.hid h1
  have HZ := Lib.hid hz
  clear h1 hz
  go_wp2_with fail
  refine (cut_feed ⟨[], 0, false⟩ [0, 1, 255] _ _ H1.out (by decide) (by decide)).mono ?_
  rintro e w2 ⟨rfl, h2, k2⟩
  have hB2 := kept_new hb1 k2 (fun i hi => by omega)
  have H2 : Hid ((⟨[0, 1, 255], 0, false⟩ : Cut).At w2 w.heap.size) := Lib.hid h2
  clear h2 k2 hb1
  go_wp2_with fail
  refine (tells_any ⟨[0, 1, 255], 0, false⟩ _ [] 0 0 _ H2.out (by decide) ⟨by decide, by decide⟩).mono ?_
  rintro e w3 ⟨rfl, h3, k3⟩
  rw [show (⟨[0, 1, 255], 0, false⟩ : Cut).tells [] 0 0 = true from by decide]
  have hB3 := kept_new hB2 k3 (fun i hi => by omega)
  have H3 : Hid ((⟨[0, 1, 255], 0, false⟩ : Cut).At w3 w.heap.size) := Lib.hid h3
  clear h3 k3 hB2
  go_wp2_with fail
  refine (cut_feed ⟨[0, 1, 255], 0, false⟩ [254, 97, 97, 97, 0] _ _ H3.out (by decide) (by decide)).mono ?_
  rintro e w4 ⟨rfl, h4, k4⟩
  have hB4 := kept_new hB3 k4 (fun i hi => by omega)
  have H4 : Hid ((⟨[0, 1, 255, 254, 97, 97, 97, 0], 0, false⟩ : Cut).At w4 w.heap.size) := Lib.hid h4
  clear h4 k4 hB3
  go_wp2_with fail
  refine (tells_any ⟨[0, 1, 255, 254, 97, 97, 97, 0], 0, false⟩ _ [97] 0 1 _ H4.out (by decide) ⟨by decide, by decide⟩).mono ?_
  rintro e w5 ⟨rfl, h5, k5⟩
  rw [show (⟨[0, 1, 255, 254, 97, 97, 97, 0], 0, false⟩ : Cut).tells [97] 0 1 = true from by decide]
  have hB5 := kept_new hB4 k5 (fun i hi => by omega)
  have H5 : Hid ((⟨[0], 7, false⟩ : Cut).At w5 w.heap.size) := Lib.hid h5
  clear h5 k5 hB4
  go_wp2_with fail
  refine (tells_any ⟨[0], 7, false⟩ _ [] 7 0 _ H5.out (by decide) ⟨by decide, by decide⟩).mono ?_
  rintro e w6 ⟨rfl, h6, k6⟩
  rw [show (⟨[0], 7, false⟩ : Cut).tells [] 7 0 = true from by decide]
  have hB6 := kept_new hB5 k6 (fun i hi => by omega)
  have H6 : Hid ((⟨[0], 7, false⟩ : Cut).At w6 w.heap.size) := Lib.hid h6
  clear h6 k6 hB5
  go_wp2_with fail
  refine (cut_fed ⟨[0], 7, false⟩ _ _ H6.out (by decide) ⟨by decide, by decide⟩).mono ?_
  rintro e w7 ⟨rfl, hb7⟩
  have hB7 := bt hB6 hb7
  clear hb7 hB6
  go_wp2_with fail
  refine (bad_any [0, 0, 255, 255] _ (by decide) (by decide)).mono ?_
  rintro e w8 ⟨rfl, hb8⟩
  go_wp2
  go_ret
  exact ⟨rfl, bt hB7 hb8⟩

/-- what Put makes of a payload, and its error -/
def putF (l : List UInt8) : List UInt8 := two l.length ++ two (65535 - (l.length : Int)) ++ l ++ two (sumN l)
def putR (l : List UInt8) : List UInt8 × Int := if l.length = 0 then ([], 2) else if 600 < l.length then ([], 3) else (putF l, 0)

theorem put_none (s : ByteArray) (w : World) (hs : s.size = 0) : Calls Try.prog 17 #[.string s] w fun e w' => e = .returned (.tuple #[.string ⟨#[]⟩, .int .i64 2]) ∧ w = w' := by
  have t1 : ((s.size : Int) == 0) = true := by simp [hs]
  clear hs
  go_enter Try.func17, Try.ntmps17
  go_wp2
  go_ret2
  exact ⟨rfl, rfl⟩
theorem put_long (s : ByteArray) (w : World) (hs : 600 < s.size) : Calls Try.prog 17 #[.string s] w fun e w' => e = .returned (.tuple #[.string ⟨#[]⟩, .int .i64 3]) ∧ w = w' := by
  have t1 : ((s.size : Int) == 0) = false := by rw [beq_eq_false_iff_ne]; omega
  have t2 : decide (600 < (s.size : Int)) = true := by simp; omega
  clear hs
  go_enter Try.func17, Try.ntmps17
  go_wp2
  go_ret2
  exact ⟨rfl, rfl⟩
theorem two_len (n : Int) : (two n).length = 2 := rfl
theorem put_good (l : List UInt8) (w : World) (h0 : 0 < l.length) (h6 : l.length ≤ 600) : Calls Try.prog 17 #[strV l] w fun e w' => e = .returned (.tuple #[strV (putF l), .int .i64 0]) ∧ Below w.heap.size w w' := by
  have t1 : ((l.length : Int) == 0) = false := by rw [beq_eq_false_iff_ne]; omega
  have t2 : decide (600 < (l.length : Int)) = false := by simp; omega
  have n1 : (1 : Int) ≤ (l.length : Int) := by omega
  have n2 : (l.length : Int) ≤ 600 := by omega
  have p1 := fun W => pair_any (l.length : Int) W (by omega)
  have p2 := fun W => pair_any (65535 - (l.length : Int)) W (by omega)
  have hsb := fs_bd l
  have ps := fun W => sum_any ⟨l.toArray⟩ W (by rw [← len_data]; show l.toArray.toList.length ≤ _; simp; omega)
  have e1 : (⟨l.toArray⟩ : ByteArray).data.toList = l := rfl
  rw [e1] at ps
  obtain ⟨m, hm⟩ : ∃ m, m = sumN l := ⟨_, rfl⟩
  have p3 := fun W => pair_any m W (by rw [hm]; unfold sumN; omega)
  have hpf : putF l = two l.length ++ two (65535 - (l.length : Int)) ++ l ++ two m := by rw [hm]; rfl
  rw [← hm] at ps
  have P1 := Lib.hid p1
  have P2 := Lib.hid p2
  have P3 := Lib.hid p3
  have PS := Lib.hid ps
  have HP := Lib.hid hpf
  have hx := u16_not (l.length : Int) (by omega) (by omega)
  have HX := Lib.hid hx
  clear p1 p2 p3 ps hm hpf hsb e1 hx
  unfold strV
  go_enter Try.func17, Try.ntmps17
  go_wp2_with fail
  refine (P1.out _).mono ?_
  rintro e w1 ⟨rfl, hb1⟩
  have hx := HX.out
  go_wp2_with fail
  refine (P2.out _).mono ?_
  rintro e w2 ⟨rfl, hb2⟩
  clear hx
  obtain ⟨A, hA⟩ : ∃ A, A = two (l.length : Int) := ⟨_, rfl⟩
  obtain ⟨B, hB⟩ : ∃ B, B = two (65535 - (l.length : Int)) := ⟨_, rfl⟩
  obtain ⟨C, hC⟩ : ∃ C, C = two m := ⟨_, rfl⟩
  have lA : A.length = 2 := by rw [hA]; rfl
  have lB : B.length = 2 := by rw [hB]; rfl
  have lC : C.length = 2 := by rw [hC]; rfl
  rw [← hA, ← hB, ← hC] at HP
  rw [← hC] at P3
  rw [← hA, ← hB]
  have u1 : (A.length : Int) ≤ 8388608 := by omega
  have u2 : (B.length : Int) ≤ 8388608 := by omega
  have u3 : (C.length : Int) ≤ 8388608 := by omega
  have u4 : (l.length : Int) ≤ 8388608 := by omega
  have u5 : (A.length : Int) + (B.length : Int) ≤ 8388608 := by omega
  have u6 : (A.length : Int) + (B.length : Int) + (l.length : Int) ≤ 8388608 := by omega
  have u7 : (A.length : Int) + ((B.length : Int) + (l.length : Int)) ≤ 8388608 := by omega
  clear hA hB hC lA lB lC
  go_wp2_with fail
  refine (PS.out _).mono ?_
  rintro e w3 ⟨rfl, rfl⟩
  go_wp2_with fail
  refine (P3.out _).mono ?_
  rintro e w3' ⟨rfl, hb3⟩
  go_wp2_with fail
  go_ret2
  exact ⟨by simp [HP.out, strV, ByteArray.mk_append_mk], bt (bt hb1 hb2) hb3⟩
theorem rput_none (s : ByteArray) (w : World) (hs : s.size = 0) : Calls Try.prog 18 #[.string s] w fun e w' => e = .returned (.tuple #[.string ⟨#[]⟩, .int .i64 2]) ∧ w = w' := by
  have t1 : ((s.size : Int) == 0) = true := by simp [hs]
  clear hs
  go_enter Try.func18, Try.ntmps18
  go_wp2
  go_ret2
  exact ⟨rfl, rfl⟩
theorem rput_long (s : ByteArray) (w : World) (hs : 600 < s.size) : Calls Try.prog 18 #[.string s] w fun e w' => e = .returned (.tuple #[.string ⟨#[]⟩, .int .i64 3]) ∧ w = w' := by
  have t1 : ((s.size : Int) == 0) = false := by rw [beq_eq_false_iff_ne]; omega
  have t2 : decide (600 < (s.size : Int)) = true := by simp; omega
  clear hs
  go_enter Try.func18, Try.ntmps18
  go_wp2
  go_ret2
  exact ⟨rfl, rfl⟩
theorem rput_good (l : List UInt8) (w : World) (h0 : 0 < l.length) (h6 : l.length ≤ 600) : Calls Try.prog 18 #[strV l] w fun e w' => e = .returned (.tuple #[strV (putF l), .int .i64 0]) ∧ Below w.heap.size w w' := by
  have t1 : ((l.length : Int) == 0) = false := by rw [beq_eq_false_iff_ne]; omega
  have t2 : decide (600 < (l.length : Int)) = false := by simp; omega
  have n1 : (1 : Int) ≤ (l.length : Int) := by omega
  have n2 : (l.length : Int) ≤ 600 := by omega
  have p1 := fun W => two_any (l.length : Int) W (by omega)
  have p2 := fun W => two_any (65535 - (l.length : Int)) W (by omega)
  have hsb := fs_bd l
  have ps := fun W => rsum_any ⟨l.toArray⟩ W (by rw [← len_data]; show l.toArray.toList.length ≤ _; simp; omega)
  have e1 : (⟨l.toArray⟩ : ByteArray).data.toList = l := rfl
  rw [e1] at ps
  obtain ⟨m, hm⟩ : ∃ m, m = sumN l := ⟨_, rfl⟩
  have p3 := fun W => two_any m W (by rw [hm]; unfold sumN; omega)
  have hpf : putF l = two l.length ++ two (65535 - (l.length : Int)) ++ l ++ two m := by rw [hm]; rfl
  rw [← hm] at ps
  have P1 := Lib.hid p1
  have P2 := Lib.hid p2
  have P3 := Lib.hid p3
  have PS := Lib.hid ps
  have HP := Lib.hid hpf
  clear p1 p2 p3 ps hm hpf hsb e1
  unfold strV
  go_enter Try.func18, Try.ntmps18
  go_wp2_with fail
  refine (P1.out _).mono ?_
  rintro e w1 ⟨rfl, hb1⟩
  go_wp2_with fail
  refine (P2.out _).mono ?_
  rintro e w2 ⟨rfl, hb2⟩
  obtain ⟨A, hA⟩ : ∃ A, A = two (l.length : Int) := ⟨_, rfl⟩
  obtain ⟨B, hB⟩ : ∃ B, B = two (65535 - (l.length : Int)) := ⟨_, rfl⟩
  obtain ⟨C, hC⟩ : ∃ C, C = two m := ⟨_, rfl⟩
  have lA : A.length = 2 := by rw [hA]; rfl
  have lB : B.length = 2 := by rw [hB]; rfl
  have lC : C.length = 2 := by rw [hC]; rfl
  rw [← hA, ← hB, ← hC] at HP
  rw [← hC] at P3
  rw [← hA, ← hB]
  have u1 : (A.length : Int) ≤ 8388608 := by omega
  have u2 : (B.length : Int) ≤ 8388608 := by omega
  have u3 : (C.length : Int) ≤ 8388608 := by omega
  have u4 : (l.length : Int) ≤ 8388608 := by omega
  have u5 : (A.length : Int) + (B.length : Int) ≤ 8388608 := by omega
  have u6 : (A.length : Int) + (B.length : Int) + (l.length : Int) ≤ 8388608 := by omega
  have u7 : (A.length : Int) + ((B.length : Int) + (l.length : Int)) ≤ 8388608 := by omega
  clear hA hB hC lA lB lC
  go_wp2_with fail
  refine (PS.out _).mono ?_
  rintro e w3 ⟨rfl, rfl⟩
  go_wp2_with fail
  refine (P3.out _).mono ?_
  rintro e w3' ⟨rfl, hb3⟩
  go_wp2_with fail
  go_ret2
  exact ⟨by simp [HP.out, strV, ByteArray.mk_append_mk], bt (bt hb1 hb2) hb3⟩

theorem put_any (l : List UInt8) (w : World) : Calls Try.prog 17 #[strV l] w fun e w' => e = .returned (.tuple #[strV (putR l).1, .int .i64 (putR l).2]) ∧ Below w.heap.size w w' := by
  have hs : (⟨l.toArray⟩ : ByteArray).size = l.length := by rw [← len_data]
  by_cases h0 : l.length = 0
  · have e : putR l = ([], 2) := if_pos h0
    rw [e]
    exact (put_none ⟨l.toArray⟩ w (by omega)).mono fun _ _ ⟨h1, h2⟩ => ⟨h1, by rw [← h2]; exact bz w⟩
  · by_cases h6 : 600 < l.length
    · have e : putR l = ([], 3) := by unfold putR; rw [if_neg h0, if_pos h6]
      rw [e]
      exact (put_long ⟨l.toArray⟩ w (by omega)).mono fun _ _ ⟨h1, h2⟩ => ⟨h1, by rw [← h2]; exact bz w⟩
    · have e : putR l = (putF l, 0) := by unfold putR; rw [if_neg h0, if_neg h6]
      rw [e]
      exact put_good l w (by omega) (by omega)
theorem rput_any (l : List UInt8) (w : World) : Calls Try.prog 18 #[strV l] w fun e w' => e = .returned (.tuple #[strV (putR l).1, .int .i64 (putR l).2]) ∧ Below w.heap.size w w' := by
  have hs : (⟨l.toArray⟩ : ByteArray).size = l.length := by rw [← len_data]
  by_cases h0 : l.length = 0
  · have e : putR l = ([], 2) := if_pos h0
    rw [e]
    exact (rput_none ⟨l.toArray⟩ w (by omega)).mono fun _ _ ⟨h1, h2⟩ => ⟨h1, by rw [← h2]; exact bz w⟩
  · by_cases h6 : 600 < l.length
    · have e : putR l = ([], 3) := by unfold putR; rw [if_neg h0, if_pos h6]
      rw [e]
      exact (rput_long ⟨l.toArray⟩ w (by omega)).mono fun _ _ ⟨h1, h2⟩ => ⟨h1, by rw [← h2]; exact bz w⟩
    · have e : putR l = (putF l, 0) := by unfold putR; rw [if_neg h0, if_neg h6]
      rw [e]
      exact rput_good l w (by omega) (by omega)
end Go.Proofs.Ytkjcpdogibbahaa
