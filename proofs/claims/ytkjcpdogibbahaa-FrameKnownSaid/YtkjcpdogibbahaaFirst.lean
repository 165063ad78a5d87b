/- Two bytes of a number; the document's First. -/
import Derived.Test.YtkjcpdogibbahaaNext
import Derived.Lib.ConvBytes
import Derived.Laws.BytesArg
import Derived.StillTailTactics
import Derived.Deep.RegionHeld3
namespace Go.Proofs.Ytkjcpdogibbahaa
open Go.RowKit Go.Um
set_option maxHeartbeats 1000000

/-- the two bytes of a number -/
def two (n : Int) : List UInt8 := [UInt8.ofNat (n / 256).toNat, UInt8.ofNat (n % 256).toNat]
theorem conv2 (a b : Int) (w : World) (g : Nat) (hg : g = w.heap.size) : (convert 23 9 (.slice (some ⟨g, 0, none⟩) 2 2)).run Try.prog (w.alloc (.cells #[.int .u8 a, .int .u8 b] 5)) = .ok (.string ⟨[UInt8.ofNat a.toNat, UInt8.ofNat b.toNat].toArray⟩) (w.alloc (.cells #[.int .u8 a, .int .u8 b] 5)) := by
  subst hg
  have := run_convert_bytes_arg (P := Try.prog) (w.alloc (.cells #[.int .u8 a, .int .u8 b] 5)) 23 5 Try.underlying23 Try.underlying5 w.heap.size 0 2 2 [a, b] rfl (fun i hi => by
    have : i = 0 ∨ i = 1 := by omega
    rcases this with rfl | rfl <;> simp [go_sem]) 9 Try.underlying9
  exact this

theorem two_any (n : Int) (w : World) (hn : 0 ≤ n ∧ n ≤ 65535) : Calls Try.prog 27 #[.int .i64 n] w fun e w' => e = .returned (.string ⟨(two n).toArray⟩) ∧ Below w.heap.size w w' := by
  have hc := conv2
  obtain ⟨h0, h1⟩ := hn
  go_enter Try.func27, Try.ntmps27
  go_wp2
  go_ret
  exact ⟨rfl, ba (bz w) _⟩
theorem pair_any (n : Int) (w : World) (hn : 0 ≤ n ∧ n ≤ 65535) : Calls Try.prog 26 #[.int .u16 n] w fun e w' => e = .returned (.string ⟨(two n).toArray⟩) ∧ Below w.heap.size w w' := by
  have hc := conv2
  obtain ⟨h0, h1⟩ := hn
  go_enter Try.func26, Try.ntmps26
  go_wp2
  go_ret
  exact ⟨rfl, ba (bz w) _⟩

/-- what the document's First hands back of a payload -/
def payF (l : List UInt8) : List UInt8 := if (lookF l).1 = 1 then (l.drop 4).take (headN l) else []

theorem first_short (s : ByteArray) (w : World) (hs : s.size < 4) :
    Calls Try.prog 25 #[.string s] w fun e w' => e = .returned (.tuple #[.string ⟨#[]⟩, .int .i64 0, .int .i64 0]) ∧ Below w.heap.size w w' := by
  have b1 : (s.size : Int) < 4 := by omega
  go_enter Try.func25, Try.ntmps25
  go_wp2
  go_ret3
  exact ⟨rfl, bz w⟩
theorem two_num (l : List UInt8) (h : 2 ≤ l.length) (m : Int) (hm : 0 ≤ m ∧ m ≤ 65535) : l.take 2 = two m ↔ num l = m := by
  match l, h with
  | a :: b :: r, _ =>
    have ha := a.toNat_lt
    have hb := b.toNat_lt
    have e1 : num (a :: b :: r) = 256 * (a.toNat : Int) + b.toNat := by simp [num]
    rw [e1]
    simp only [two, List.take_succ_cons, List.take_zero, List.cons.injEq, and_true]
    constructor
    · rintro ⟨h1, h2⟩
      have h1' := congrArg UInt8.toNat h1
      have h2' := congrArg UInt8.toNat h2
      rw [UInt8.toNat_ofNat'] at h1' h2'
      rw [Nat.mod_eq_of_lt (by omega)] at h1' h2'
      omega
    · intro e
      subst e
      constructor
      · apply UInt8.toNat_inj.1
        rw [UInt8.toNat_ofNat', Nat.mod_eq_of_lt (by omega)]; omega
      · apply UInt8.toNat_inj.1
        rw [UInt8.toNat_ofNat', Nat.mod_eq_of_lt (by omega)]; omega

theorem first_long (s : ByteArray) (w : World) (hs : 4 ≤ s.size) (hm : s.size ≤ 1000000) :
    Calls Try.prog 25 #[.string s] w fun e w' => e = .returned (.tuple #[strV (payF s.data.toList), .int .i64 (lookF s.data.toList).2, .int .i64 (lookF s.data.toList).1]) ∧ Below w.heap.size w w' := by
  have b1 : ¬ (s.size : Int) < 4 := by omega
  have b2 : decide ((s.size : Int) < 4) = false := by simp; omega
  have b3 : (0 : Int) < (s.size : Int) := by omega
  have b4 : (1 : Int) < (s.size : Int) := by omega
  have b5 : 0 < s.size := by omega
  have b6 : 1 < s.size := by omega
  have hn := num_bd s.data.toList
  obtain ⟨n, hn'⟩ : ∃ n, n = (num s.data.toList).toNat := ⟨_, rfl⟩
  have hnn : num s.data.toList = (n : Int) := by omega
  have hw : wrap64 (wrap64 ((256 : Int) * wrap64 (s[0].toNat : Int)) + wrap64 (s[1].toNat : Int)) = (n : Int) := by
    have h0 := s[0].toNat_lt
    have h1 := s[1].toNat_lt
    rw [← hnn, IntWalk.wrap64_in (s[0].toNat : Int) (by omega), IntWalk.wrap64_in (s[1].toNat : Int) (by omega), IntWalk.wrap64_in ((256 : Int) * (s[0].toNat : Int)) (by omega), IntWalk.wrap64_in _ (by omega), num, getD_data s 0 (by omega), getD_data s 1 (by omega)]
  have Hw := Lib.hid hw
  have Hnn := Lib.hid hnn
  have hlen : s.data.toList.length = s.size := len_data s
  have Hlen := Lib.hid hlen
  clear hn' hw hlen
  cases hok : headOk s.data.toList with
  | false =>
    have e1 : (lookF s.data.toList) = (2, 0) := by unfold lookF; rw [Hlen.out, if_neg (by omega), if_pos hok]
    have e2 : payF s.data.toList = [] := by unfold payF; rw [e1]; rfl
    rw [e1, e2]
    unfold strV
    have hcs : n = 0 ∨ 600 < n ∨ (0 < n ∧ n ≤ 600 ∧ ¬ ((s.extract 2 4).data.toList = two (65535 - (n : Int)))) := by
      by_cases h0 : n = 0
      · exact .inl h0
      · by_cases h6 : 600 < n
        · exact .inr (.inl h6)
        · refine .inr (.inr ⟨by omega, by omega, fun e => ?_⟩)
          rw [ext2_data] at e
          have h2 : (s.data.toList.drop 2).length = s.size - 2 := by rw [List.length_drop, Hlen.out]
          have e3 := (two_num (s.data.toList.drop 2) (by omega) (65535 - (n : Int)) (by omega)).1 e
          have : headOk s.data.toList = true := by unfold headOk; rw [e3, Hnn.out]; simp; omega
          rw [this] at hok; cases hok
    clear e1 e2 hok hnn hn
    rcases hcs with h0 | h6 | ⟨h0, h6, hne⟩
    · have t1 : decide ((n : Int) < 1) = true := by simp; omega
      have H0 := Lib.hid h0
      clear h0
      go_enter Try.func25, Try.ntmps25
      go_wp2_with fail
      go_quiet (fail)
      go_wp2_with fail
      rw [Hw.out]
      go_quiet (fail)
      go_wp2_with fail
      go_ret3
      exact ⟨rfl, below_drewN (below_drewN (bz w) _) _⟩
    · have t1 : decide ((n : Int) < 1) = false := by simp; omega
      have t2 : decide (600 < (n : Int)) = true := by simp; omega
      go_enter Try.func25, Try.ntmps25
      go_wp2_with fail
      go_quiet (fail)
      go_wp2_with fail
      rw [Hw.out]
      go_quiet (fail)
      go_wp2_with fail
      go_ret3
      exact ⟨rfl, below_drewN (below_drewN (bz w) _) _⟩
    · have t1 : decide ((n : Int) < 1) = false := by simp; omega
      have t2 : decide (600 < (n : Int)) = false := by simp; omega
      have b7 : (4 : Int) ≤ (s.size : Int) := by omega
      have n1 : (1 : Int) ≤ n := by omega
      have n2 : (n : Int) ≤ 600 := by omega
      have Hne := Lib.hid hne
      have hT := fun W => two_any (65535 - (n : Int)) W (by omega)
      have HT := Lib.hid hT
      clear hT
      clear hne
      go_enter Try.func25, Try.ntmps25
      go_wp2_with fail
      go_quiet (fail)
      go_wp2_with fail
      rw [Hw.out]
      have hz : ((s.extract 2 4).toList == two (65535 - (n : Int))) = false := by
        rw [ByteArray.toList_eq]; simpa using Hne.out
      have y1 : IntKind.i64.wrap (65535 - (n : Int)) = 65535 - (n : Int) := IntWalk.i64_in _ (by omega)
      go_region_held3 (fun _ => True) (trivial) ((go_at_call 27; refine (HT.out _).mono ?_; rintro e w1 ⟨rfl, hb1⟩))
      go_wp2_with fail
      go_ret3
      exact ⟨rfl, bt (below_drewN (bz w) _).drew hb1⟩
  | true =>
    have hk : 0 < n ∧ n ≤ 600 ∧ num (s.data.toList.drop 2) = 65535 - (n : Int) := by
      unfold headOk at hok
      rw [hnn] at hok
      simp at hok
      omega
    obtain ⟨h0, h6, heq⟩ := hk
    have hlook : lookF s.data.toList = if s.size < n + 6 then (0, 0) else if num (s.data.toList.drop (4 + n)) == sumN ((s.data.toList.drop 4).take n) then (1, (n : Int) + 6) else (2, 0) := by
      unfold lookF sumOk headN
      rw [hok, Hlen.out, if_neg (by omega), if_neg (by decide), hnn]
      rfl
    have hhn : headN s.data.toList = n := by unfold headN; omega
    have hz : ((s.extract 2 4).toList == two (65535 - (n : Int))) = true := by
      rw [ByteArray.toList_eq, ext2_data]
      have h2 : (s.data.toList.drop 2).length = s.size - 2 := by rw [List.length_drop, Hlen.out]
      exact beq_iff_eq.2 ((two_num (s.data.toList.drop 2) (by omega) (65535 - (n : Int)) (by omega)).2 heq)
    have t1 : decide ((n : Int) < 1) = false := by simp; omega
    have t2 : decide (600 < (n : Int)) = false := by simp; omega
    have b7 : (4 : Int) ≤ (s.size : Int) := by omega
    have n1 : (1 : Int) ≤ n := by omega
    have n2 : (n : Int) ≤ 600 := by omega
    have hT := fun W => two_any (65535 - (n : Int)) W (by omega)
    have HT := Lib.hid hT
    have Hlook := Lib.hid hlook
    have Hhn := Lib.hid hhn
    clear hT hlook hok heq hhn hnn hn
    by_cases hl : s.size < n + 6
    · have t3 : decide ((s.size : Int) < (n : Int) + 6) = true := by simp; omega
      have e1 : lookF s.data.toList = (0, 0) := by rw [Hlook.out, if_pos hl]
      have e2 : payF s.data.toList = [] := by unfold payF; rw [e1]; rfl
      rw [e1, e2]
      unfold strV
      clear hl e1 e2
      go_enter Try.func25, Try.ntmps25
      go_wp2_with fail
      go_quiet (fail)
      go_wp2_with fail
      rw [Hw.out]
      have y1 : IntKind.i64.wrap (65535 - (n : Int)) = 65535 - (n : Int) := IntWalk.i64_in _ (by omega)
      go_region_held3 (fun _ => True) (trivial) ((go_at_call 27; refine (HT.out _).mono ?_; rintro e w1 ⟨rfl, hb1⟩))
      go_wp2_with fail
      go_ret3
      exact ⟨rfl, bt (below_drewN (bz w) _).drew hb1⟩
    · have t3 : decide ((s.size : Int) < (n : Int) + 6) = false := by simp; omega
      have v1 : (0 : Int) ≤ (n : Int) + 4 := by omega
      have v2 : (n : Int) + 4 ≤ (n : Int) + 6 := by omega
      have v3 : (n : Int) + 6 ≤ (s.size : Int) := by omega
      have v4 : (4 : Int) ≤ (n : Int) + 4 := by omega
      have v5 : (n : Int) + 4 ≤ (s.size : Int) := by omega
      have v6 : ((n : Int) + 4).toNat = n + 4 := by omega
      have v7 : ((n : Int) + 6).toNat = n + 6 := by omega
      have q3 : (s.extract 4 (n + 4)).size ≤ 1000000 := by rw [← len_data, ext2_data, List.length_take]; omega
      obtain ⟨m, hm'⟩ : ∃ m, m = sumN ((s.data.toList.drop 4).take n) := ⟨_, rfl⟩
      have hmb : 0 ≤ m ∧ m ≤ 65535 := by
        have := fs_bd ((s.data.toList.drop 4).take n)
        rw [hm']; unfold sumN; omega
      have qs := fun W => (rsum_any (s.extract 4 (n + 4)) W q3)
      rw [ext2_data, Nat.add_sub_cancel, ← hm'] at qs
      have hT2 := fun W => two_any m W hmb
      have QS := Lib.hid qs
      have HT2 := Lib.hid hT2
      have hlen4 : (s.data.toList.drop (n + 4)).length = s.size - (n + 4) := by rw [List.length_drop, Hlen.out]
      have hz2 : ((s.extract (n + 4) (n + 6)).toList == two m) = (num (s.data.toList.drop (4 + n)) == m) := by
        rw [ByteArray.toList_eq, ext2_data, show n + 6 - (n + 4) = 2 from by omega, Nat.add_comm 4 n, Bool.eq_iff_iff, beq_iff_eq, beq_iff_eq]
        exact two_num _ (by omega) m hmb
      have hl2 : lookF s.data.toList = if num (s.data.toList.drop (4 + n)) == m then (1, (n : Int) + 6) else (2, 0) := by
        rw [Hlook.out, if_neg hl, ← hm']
      obtain ⟨z, hz'⟩ : ∃ z, z = num (s.data.toList.drop (4 + n)) := ⟨_, rfl⟩
      rw [← hz'] at hz2 hl2
      have Hl2 := Lib.hid hl2
      clear qs hT2 hm' hl hz' hl2 hlen4 q3
      cases hzm : (z == m)
      all_goals
        rw [hzm] at hz2
        go_enter Try.func25, Try.ntmps25
        go_wp2_with fail
        go_quiet (fail)
        go_wp2_with fail
        rw [Hw.out]
        have y1 : IntKind.i64.wrap (65535 - (n : Int)) = 65535 - (n : Int) := IntWalk.i64_in _ (by omega)
        have y2 : IntKind.i64.wrap ((n : Int) + 4) = (n : Int) + 4 := IntWalk.i64_in _ (by omega)
        have y3 : IntKind.i64.wrap ((n : Int) + 6) = (n : Int) + 6 := IntWalk.i64_in _ (by omega)
        go_region_held3 (fun _ => True) (trivial) ((go_at_call 27; refine (HT.out _).mono ?_; rintro e w1 ⟨rfl, hb1⟩))
        go_wp2_with fail
        go_region_held3 (fun _ => True) (trivial) (first | (go_at_call 20; refine (QS.out _).mono ?_; rintro e w2 ⟨rfl, hq⟩; subst hq) | (go_at_call 27; refine (HT2.out _).mono ?_; rintro e w3 ⟨rfl, hb3⟩))
        go_wp2_with fail
        go_ret3
      · have e1 : lookF s.data.toList = (2, 0) := by rw [Hl2.out, if_neg (by rw [hzm]; decide)]
        have e2 : payF s.data.toList = [] := by unfold payF; rw [e1]; rfl
        exact ⟨by simp [e1, e2, strV], bt (bt (below_drewN (bz w) _).drew hb1).drew hb3⟩
      · have e1 : lookF s.data.toList = (1, (n : Int) + 6) := by rw [Hl2.out, if_pos hzm]
        have e2 : payF s.data.toList = (s.extract 4 (n + 4)).data.toList := by unfold payF; rw [e1, if_pos rfl, ext2_data, Hhn.out, Nat.add_sub_cancel]
        have e3 : (strV (payF s.data.toList)) = .string (s.extract 4 (n + 4)) := by rw [e2]; rfl
        exact ⟨by simp [e1, e3], bt (bt (below_drewN (bz w) _).drew hb1).drew hb3⟩

theorem first_any (s : ByteArray) (w : World) (hm : s.size ≤ 1000000) :
    Calls Try.prog 25 #[.string s] w fun e w' => e = .returned (.tuple #[strV (payF s.data.toList), .int .i64 (lookF s.data.toList).2, .int .i64 (lookF s.data.toList).1]) ∧ Below w.heap.size w w' := by
  by_cases hs : s.size < 4
  · have e1 : lookF s.data.toList = (0, 0) := by unfold lookF; rw [len_data, if_pos hs]
    have e2 : payF s.data.toList = [] := by unfold payF; rw [e1]; rfl
    rw [e1, e2]
    exact first_short s w hs
  · exact first_long s w (by omega) hm
end Go.Proofs.Ytkjcpdogibbahaa
