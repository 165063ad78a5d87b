/- The codec's reader: contracts. Printed by gen_rd.py. -/
import Derived.Test.YtehnkljaoaehjaaProg
import Derived.Test.YtehnkljaoaehjaaOpen
import Derived.Test.YtehnkljaoaehjaaRs
import Derived.StillTailTactics
import Derived.Deep.RegionHeld3
import Derived.Lib.ConvBytes
import Derived.BigQuiet
import Derived.KernelRfl
namespace Go.Proofs.Ytehnkljaoaehjaa
open Go.RowKit Go.Um
set_option linter.unusedSimpArgs false
set_option linter.unusedVariables false
set_option maxHeartbeats 2000000
set_option maxRecDepth 100000

theorem rwell (p : Nat) (e : Int) (w : World) (h : w.cell? ⟨p, 0, none⟩ = some (.int .i64 e)) :
    Calls Try.prog 30 #[.pointer (some ⟨p, 0, none⟩)] w fun en w' => en = .returned (.bool (e == 0)) ∧ w = w' := by
  go_enter Try.func30, Try.ntmps30
  go_wp2
  go_ret
  exact ⟨rfl, rfl⟩

/-- a reader at block p, over a text, where it stands -/
structure RdAt (w : World) (p : Nat) (s : ByteArray) (r : Rs) : Prop where
  e : w.cell? ⟨p, 0, none⟩ = some (.int .i64 r.e)
  str : w.cell? ⟨p, 1, none⟩ = some (.string s)
  at_ : w.cell? ⟨p, 2, none⟩ = some (.int .i64 r.k)
  fe : w.frozen? ⟨p, 0, none⟩ = false
  fs : w.frozen? ⟨p, 1, none⟩ = false
  fat : w.frozen? ⟨p, 2, none⟩ = false
  le : r.k ≤ s.size
theorem RdAt.lt {w : World} {p : Nat} {s : ByteArray} {r : Rs} (h : RdAt w p s r) : p < w.heap.size := World.block_lt_of_cell? w _ h.e
theorem RdAt.below {w w' : World} {p : Nat} {s : ByteArray} {r : Rs} (h : RdAt w p s r) (hb : Below w.heap.size w w') : RdAt w' p s r :=
  ⟨kc hb _ _ _ h.e, kc hb _ _ _ h.str, kc hb _ _ _ h.at_, kf hb _ _ h.lt h.fe, kf hb _ _ h.lt h.fs, kf hb _ _ h.lt h.fat, h.le⟩
theorem RdAt.kept {S : Nat → Prop} {w w' : World} {p : Nat} {s : ByteArray} {r : Rs} (h : RdAt w p s r) (hb : Kept S w w') (hp : ¬ S p) : RdAt w' p s r :=
  ⟨hb.cell h.e hp, hb.cell h.str hp, hb.cell h.at_ hp, (hb.frozen h.lt hp).trans h.fe, (hb.frozen h.lt hp).trans h.fs, (hb.frozen h.lt hp).trans h.fat, h.le⟩
theorem RdAt.new (w : World) (s : ByteArray) : RdAt (w.alloc (.cells #[.int .i64 0, .string s, .int .i64 0] 68)) w.heap.size s ⟨0, 0⟩ :=
  ⟨by simp [go_sem], by simp [go_sem], by simp [go_sem], by simp [go_sem], by simp [go_sem], by simp [go_sem], Nat.zero_le _⟩

theorem over_any (s : ByteArray) (w : World) : Calls Try.prog 11 #[.string s] w fun e w' => e = .returned (.pointer (some ⟨w.heap.size, 0, none⟩)) ∧ w' = w.alloc (.cells #[.int .i64 0, .string s, .int .i64 0] 68) := by
  go_enter Try.func11, Try.ntmps11
  go_wp2
  go_ret
  exact ⟨rfl, rfl⟩
theorem left_any (p : Nat) (s : ByteArray) (k : Nat) (w : World) (h1 : w.cell? ⟨p, 1, none⟩ = some (.string s)) (h2 : w.cell? ⟨p, 2, none⟩ = some (.int .i64 k)) (hle : k ≤ s.size) (hs : s.size ≤ 1000000) :
    Calls Try.prog 15 #[.pointer (some ⟨p, 0, none⟩)] w fun e w' => e = .returned (.int .i64 ((s.size : Int) - k)) ∧ ∃ n, w' = w.drewN n := by
  have e1 : IntKind.i64.wrap ((s.size : Int) - k) = (s.size : Int) - k := IntWalk.i64_in _ (by omega)
  go_enter Try.func15, Try.ntmps15
  go_wp2_with fail
  go_quiet (fail)
  go_wp2
  go_ret
  exact ⟨rfl, _, rfl⟩
theorem err_any (p : Nat) (en : Int) (w : World) (h1 : w.cell? ⟨p, 0, none⟩ = some (.int .i64 en)) :
    Calls Try.prog 13 #[.pointer (some ⟨p, 0, none⟩)] w fun e w' => e = .returned (.int .i64 en) ∧ w = w' := by
  go_enter Try.func13, Try.ntmps13
  go_wp2
  go_ret
  exact ⟨rfl, rfl⟩

/-- what Raw leaves -/
def RawPost (p : Nat) (s : ByteArray) (r : Rs) (n : Nat) (w : World) (e : Ending) (w' : World) : Prop :=
  e = .returned (.string (r.got s n)) ∧ RdAt w' p s (r.next s n) ∧ Kept (fun i => i = p) w w'
theorem rd_bad (p : Nat) (s : ByteArray) (r : Rs) (m : Int) (w : World) (h : RdAt w p s r) (he : r.e ≠ 0) :
    Calls Try.prog 26 #[.pointer (some ⟨p, 0, none⟩), .int .i64 m] w (RawPost p s r m.toNat w) := by
  unfold RawPost
  rw [(Rs.bad s r m.toNat he).1, (Rs.bad s r m.toNat he).2]
  have HR := Lib.hid h
  obtain ⟨k, er⟩ := r
  obtain ⟨c0, c1, c2, f0, f1, f2, hle⟩ := h
  dsimp only at c0 c2 he
  have t0 : (er == 0) = false := by simpa using he
  clear he
  by_cases hm : 0 < m
  · go_enter Try.func26, Try.ntmps26
    go_wp2_with fail
    refine (rwell p er _ c0).mono ?_
    rintro e w1 ⟨rfl, rfl⟩
    go_wp2
    go_ret
    exact ⟨rfl, HR.out, Kept.refl _ _⟩
  · go_enter Try.func26, Try.ntmps26
    go_wp2_with fail
    refine (rwell p er _ c0).mono ?_
    rintro e w1 ⟨rfl, rfl⟩
    go_wp2
    go_ret
    exact ⟨rfl, HR.out, Kept.refl _ _⟩
theorem rd_zero (p : Nat) (s : ByteArray) (k : Nat) (m : Int) (hm : ¬ 0 < m) (w : World) (h : RdAt w p s ⟨k, 0⟩) (hs : s.size ≤ 1000000) :
    Calls Try.prog 26 #[.pointer (some ⟨p, 0, none⟩), .int .i64 m] w (RawPost p s ⟨k, 0⟩ m.toNat w) := by
  have hz : m.toNat = 0 := by omega
  have hle := h.le
  dsimp only at hle
  unfold RawPost
  rw [hz, (Rs.fine s ⟨k, 0⟩ 0 rfl hle).1, (Rs.fine s ⟨k, 0⟩ 0 rfl hle).2]
  obtain ⟨c0, c1, c2, f0, f1, f2, _⟩ := h
  dsimp only at c0 c2 ⊢
  have hp := World.block_lt_of_cell? w _ c0
  simp only at hp
  clear hz
  have t1 : decide ((s.size : Int) - (k : Int) < 0) = false := by simp; omega
  have b1 : (0 : Int) ≤ (k : Int) := by omega
  have b2 : (k : Int) ≤ (s.size : Int) := by omega
  have e0 : IntKind.i64.wrap (k : Int) = (k : Int) := IntWalk.i64_in _ (by omega)
  have hx : ((s.extract k k).size : Int) = 0 := by simp
  go_enter Try.func26, Try.ntmps26
  go_wp2_with fail
  refine (rwell p 0 _ c0).mono ?_
  rintro e w1 ⟨rfl, rfl⟩
  go_wp2_with fail
  refine (left_any p s k _ c1 c2 hle hs).mono ?_
  rintro e w1 ⟨rfl, n, rfl⟩
  go_wp2_with fail
  go_quiet (fail)
  go_wp2
  go_ret
  refine ⟨by simp, ⟨?_, ?_, ?_, ?_, ?_, ?_, hle⟩, ?_⟩
  · simp [go_sem, c0]
  · simp [go_sem, c1]
  · simp [go_sem, c2]
  · simp [go_sem, f0]
  · simp [go_sem, f1]
  · simp [go_sem, f2]
  · exact (((Kept.refl (fun i => i = p) w).drewN _).setCell (p := ⟨p, 2, none⟩) (fun _ => rfl) _).drewN _
theorem rd_torn (p : Nat) (s : ByteArray) (k : Nat) (n : Nat) (w : World) (h : RdAt w p s ⟨k, 0⟩) (hs : s.size ≤ 1000000) (hn : s.size < k + n) (hn0 : 0 < n) :
    Calls Try.prog 26 #[.pointer (some ⟨p, 0, none⟩), .int .i64 n] w (RawPost p s ⟨k, 0⟩ n w) := by
  unfold RawPost
  rw [(Rs.torn s ⟨k, 0⟩ n rfl hn).1, (Rs.torn s ⟨k, 0⟩ n rfl hn).2]
  obtain ⟨c0, c1, c2, f0, f1, f2, hle⟩ := h
  dsimp only at c0 c2 hle ⊢
  have hp := World.block_lt_of_cell? w _ c0
  simp only at hp
  have t1 : decide ((s.size : Int) - (k : Int) < (n : Int)) = true := by simp; omega
  go_enter Try.func26, Try.ntmps26
  go_wp2_with fail
  refine (rwell p 0 _ c0).mono ?_
  rintro e w1 ⟨rfl, rfl⟩
  go_wp2_with fail
  refine (left_any p s k _ c1 c2 hle hs).mono ?_
  rintro e w1 ⟨rfl, m, rfl⟩
  go_wp2
  go_ret
  refine ⟨rfl, ⟨?_, ?_, ?_, ?_, ?_, ?_, hle⟩, ?_⟩
  · simp [go_sem, c0]
  · simp [go_sem, c1]
  · simp [go_sem, c2]
  · simp [go_sem, f0]
  · simp [go_sem, f1]
  · simp [go_sem, f2]
  · exact ((Kept.refl (fun i => i = p) w).drewN _).setCell (p := ⟨p, 0, none⟩) (fun _ => rfl) _
theorem rd_fine (p : Nat) (s : ByteArray) (k n : Nat) (w : World) (h : RdAt w p s ⟨k, 0⟩) (hs : s.size ≤ 1000000) (hn : k + n ≤ s.size) (hn0 : 0 < n) :
    Calls Try.prog 26 #[.pointer (some ⟨p, 0, none⟩), .int .i64 n] w (RawPost p s ⟨k, 0⟩ n w) := by
  unfold RawPost
  rw [(Rs.fine s ⟨k, 0⟩ n rfl hn).1, (Rs.fine s ⟨k, 0⟩ n rfl hn).2]
  have hx : ((s.extract k (k + n)).size : Int) = n := by simp; omega
  obtain ⟨c0, c1, c2, f0, f1, f2, hle⟩ := h
  dsimp only at c0 c2 hle ⊢
  have hp := World.block_lt_of_cell? w _ c0
  simp only at hp
  have t1 : decide ((s.size : Int) - (k : Int) < (n : Int)) = false := by simp; omega
  go_enter Try.func26, Try.ntmps26
  go_wp2_with fail
  refine (rwell p 0 _ c0).mono ?_
  rintro e w1 ⟨rfl, rfl⟩
  go_wp2_with fail
  refine (left_any p s k _ c1 c2 hle hs).mono ?_
  rintro e w1 ⟨rfl, m, rfl⟩
  have e1 : IntKind.i64.wrap ((k : Int) + n - n) = k := by rw [IntWalk.i64_in _ (by omega)]; omega
  have b1 : (k : Int) ≤ (k : Int) + n := by omega
  have b2 : (k : Int) + n ≤ (s.size : Int) := by omega
  have b3 : (0 : Int) ≤ (k : Int) := by omega
  go_wp2_with fail
  go_quiet (fail)
  go_wp2
  go_ret
  refine ⟨rfl, ⟨?_, ?_, ?_, ?_, ?_, ?_, hn⟩, ?_⟩
  · simp [go_sem, c0]
  · simp [go_sem, c1]
  · simp [go_sem, c2]
  · simp [go_sem, f0]
  · simp [go_sem, f1]
  · simp [go_sem, f2]
  · exact (((Kept.refl (fun i => i = p) w).drewN _).setCell (p := ⟨p, 2, none⟩) (fun _ => rfl) _).drewN _
theorem raw_int (p : Nat) (s : ByteArray) (r : Rs) (m : Int) (w : World) (h : RdAt w p s r) (hs : s.size ≤ 1000000) :
    Calls Try.prog 26 #[.pointer (some ⟨p, 0, none⟩), .int .i64 m] w (RawPost p s r m.toNat w) := by
  by_cases he : r.e = 0
  · obtain ⟨k, er⟩ := r
    dsimp only at he
    subst he
    by_cases hm : 0 < m
    · obtain ⟨n, rfl⟩ := Int.eq_ofNat_of_zero_le (by omega : 0 ≤ m)
      rw [Int.toNat_natCast]
      by_cases hn : s.size < k + n
      · exact rd_torn p s k n w h hs hn (by omega)
      · exact rd_fine p s k n w h hs (by omega) (by omega)
    · exact rd_zero p s k m hm w h hs
  · exact rd_bad p s r m w h he
theorem raw_any (p : Nat) (s : ByteArray) (r : Rs) (n : Nat) (w : World) (h : RdAt w p s r) (hs : s.size ≤ 1000000) :
    Calls Try.prog 26 #[.pointer (some ⟨p, 0, none⟩), .int .i64 n] w (RawPost p s r n w) := by
  have := raw_int p s r (n : Int) w h hs
  rwa [Int.toNat_natCast] at this

theorem below_bytes (w : World) (e : TypeId) (s : ByteArray) : Below w.heap.size w (Lib.bytesWorld w e s) :=
  ⟨by simp [Lib.bytesWorld, World.freeze, World.alloc, World.drew, -World.alloc_eq, -World.drew_eq], by simp [Lib.bytesWorld, World.freeze, World.alloc, World.drew, -World.alloc_eq, -World.drew_eq], by simp [Lib.bytesWorld, World.freeze, World.alloc, World.drew, -World.alloc_eq, -World.drew_eq], by rw [Lib.bytesWorld_size]; omega, fun k hk => Lib.bytesWorld_at_old w e s k hk⟩

/-- what a number's reading leaves -/
def TakePost (q : IntKind) (p : Nat) (s : ByteArray) (r : Rs) (n : Nat) (w : World) (e : Ending) (w' : World) : Prop :=
  e = .returned (.int q (numB (r.got s n))) ∧ RdAt w' p s (r.next s n) ∧ Kept (fun i => i = p) w w'

theorem takeu8_none (p : Nat) (s : ByteArray) (r : Rs) (w : World) (h : RdAt w p s r) (hs : s.size ≤ 1000000) (hg : r.got s 1 = ⟨#[]⟩) :
    Calls Try.prog 40 #[.pointer (some ⟨p, 0, none⟩), .int .i64 1] w (TakePost .u8 p s r 1 w) := by
  have hcv := fun (w : World) => Lib.run_convert_string_bytes (P := Try.prog) w 9 29 5 ⟨#[]⟩ Try.underlying9 Try.underlying29 Try.underlying5
  have HR := Lib.hid (fun W hW => raw_any p s r 1 W hW hs)
  unfold TakePost
  rw [hg]
  unfold RawPost at HR
  rw [hg] at HR
  have z : numB ⟨#[]⟩ = 0 := rfl
  rw [z]
  clear hg z
  go_enter Try.func40, Try.ntmps40
  go_wp2_with fail
  refine (HR.out _ h).mono ?_
  rintro e w1 ⟨rfl, hr, hk⟩
  go_wp2_with fail
  refine wp_loop_rounds 1 ?_
  rw [rounds_succ]
  go_wp2
  go_ret
  exact ⟨rfl, hr.below (below_bytes w1 5 ⟨#[]⟩), hk.trans (Kept.of_below (below_bytes w1 5 ⟨#[]⟩)) (fun i hi h => absurd h (by have := hk.size; omega))⟩
theorem takeu8_any (p : Nat) (s : ByteArray) (r : Rs) (w : World) (h : RdAt w p s r) (hs : s.size ≤ 1000000) :
    Calls Try.prog 40 #[.pointer (some ⟨p, 0, none⟩), .int .i64 1] w (TakePost .u8 p s r 1 w) := by
  rcases Rs.got_size s r 1 with hg | ⟨hg, _, _⟩
  · exact takeu8_none p s r w h hs hg
  have HR := Lib.hid (fun W hW => raw_any p s r 1 W hW hs)
  unfold TakePost
  unfold RawPost at HR
  obtain ⟨x, hx⟩ : ∃ x, x = r.got s 1 := ⟨_, rfl⟩
  rw [← hx] at hg HR ⊢
  clear hx
  have hcv := fun (w : World) => Lib.run_convert_string_bytes (P := Try.prog) w 9 29 5 x Try.underlying9 Try.underlying29 Try.underlying5
  obtain ⟨a, hl⟩ := list1 hg
  have gb := fun W j hj => Lib.bytesWorld_cell W 5 x j hj
  rw [hl] at gb
  have la := a.toNat_lt
  have HV : Hid (numB x = (0 * 256 + a.toNat)) := by unfold Hid numB; rw [hl]; rfl
  have hsz : (x.size : Int) = 1 := by omega
  have GB := Lib.hid gb
  clear gb hl
  go_enter Try.func40, Try.ntmps40
  go_wp2_with fail
  refine (HR.out _ h).mono ?_
  rintro e w1 ⟨rfl, hr, hk⟩
  have g0 := GB.out w1 0 (by omega)
  go_wp2_with fail
  refine wp_loop_rounds 2 ?_
  rw [rounds_succ]
  go_wp2
  rw [rounds_succ]
  go_wp2
  go_ret
  refine ⟨?_, hr.below (below_bytes w1 5 x), hk.trans (Kept.of_below (below_bytes w1 5 x)) (fun i hi h => absurd h (by have := hk.size; omega))⟩
  rw [HV.out]
  refine congrArg (fun z => Ending.returned (Value.int IntKind.u8 z)) ?_
  have z := or_byte 0 a.toNat (by omega) (by omega)
  simp only [Int.natCast_zero, Int.zero_mul, Nat.zero_mul, Nat.zero_add] at z ⊢
  rw [z]; omega

theorem takeu16_none (p : Nat) (s : ByteArray) (r : Rs) (w : World) (h : RdAt w p s r) (hs : s.size ≤ 1000000) (hg : r.got s 2 = ⟨#[]⟩) :
    Calls Try.prog 39 #[.pointer (some ⟨p, 0, none⟩), .int .i64 2] w (TakePost .u16 p s r 2 w) := by
  have hcv := fun (w : World) => Lib.run_convert_string_bytes (P := Try.prog) w 9 29 5 ⟨#[]⟩ Try.underlying9 Try.underlying29 Try.underlying5
  have HR := Lib.hid (fun W hW => raw_any p s r 2 W hW hs)
  unfold TakePost
  rw [hg]
  unfold RawPost at HR
  rw [hg] at HR
  have z : numB ⟨#[]⟩ = 0 := rfl
  rw [z]
  clear hg z
  go_enter Try.func39, Try.ntmps39
  go_wp2_with fail
  refine (HR.out _ h).mono ?_
  rintro e w1 ⟨rfl, hr, hk⟩
  go_wp2_with fail
  refine wp_loop_rounds 1 ?_
  rw [rounds_succ]
  go_wp2
  go_ret
  exact ⟨rfl, hr.below (below_bytes w1 5 ⟨#[]⟩), hk.trans (Kept.of_below (below_bytes w1 5 ⟨#[]⟩)) (fun i hi h => absurd h (by have := hk.size; omega))⟩
theorem takeu16_any (p : Nat) (s : ByteArray) (r : Rs) (w : World) (h : RdAt w p s r) (hs : s.size ≤ 1000000) :
    Calls Try.prog 39 #[.pointer (some ⟨p, 0, none⟩), .int .i64 2] w (TakePost .u16 p s r 2 w) := by
  rcases Rs.got_size s r 2 with hg | ⟨hg, _, _⟩
  · exact takeu16_none p s r w h hs hg
  have HR := Lib.hid (fun W hW => raw_any p s r 2 W hW hs)
  unfold TakePost
  unfold RawPost at HR
  obtain ⟨x, hx⟩ : ∃ x, x = r.got s 2 := ⟨_, rfl⟩
  rw [← hx] at hg HR ⊢
  clear hx
  have hcv := fun (w : World) => Lib.run_convert_string_bytes (P := Try.prog) w 9 29 5 x Try.underlying9 Try.underlying29 Try.underlying5
  obtain ⟨a, b, hl⟩ := list2 hg
  have gb := fun W j hj => Lib.bytesWorld_cell W 5 x j hj
  rw [hl] at gb
  have la := a.toNat_lt
  have lb := b.toNat_lt
  have HV : Hid (numB x = ((0 * 256 + a.toNat) * 256 + b.toNat)) := by unfold Hid numB; rw [hl]; rfl
  have hsz : (x.size : Int) = 2 := by omega
  have GB := Lib.hid gb
  clear gb hl
  go_enter Try.func39, Try.ntmps39
  go_wp2_with fail
  refine (HR.out _ h).mono ?_
  rintro e w1 ⟨rfl, hr, hk⟩
  have g0 := GB.out w1 0 (by omega)
  have g1 := GB.out w1 1 (by omega)
  go_wp2_with fail
  refine wp_loop_rounds 3 ?_
  rw [rounds_succ]
  go_wp2
  rw [rounds_succ]
  go_wp2
  rw [rounds_succ]
  go_wp2
  go_ret
  refine ⟨?_, hr.below (below_bytes w1 5 x), hk.trans (Kept.of_below (below_bytes w1 5 x)) (fun i hi h => absurd h (by have := hk.size; omega))⟩
  rw [HV.out]
  refine congrArg (fun z => Ending.returned (Value.int IntKind.u16 z)) ?_
  have z := or_byte 0 a.toNat (by omega) (by omega)
  have y := or_byte a.toNat b.toNat (by omega) (by omega)
  simp only [Int.natCast_zero, Int.zero_mul, Nat.zero_mul, Nat.zero_add] at z ⊢
  have e2 : (a.toNat : Int) % 4294967296 * 256 % 4294967296 = (a.toNat : Int) * 256 := by omega
  rw [z, wrapu16_in (n := (a.toNat : Int)) (by omega), e2, y]; exact wrapu16_in (by omega)

theorem takeu32_none (p : Nat) (s : ByteArray) (r : Rs) (w : World) (h : RdAt w p s r) (hs : s.size ≤ 1000000) (hg : r.got s 4 = ⟨#[]⟩) :
    Calls Try.prog 41 #[.pointer (some ⟨p, 0, none⟩), .int .i64 4] w (TakePost .u32 p s r 4 w) := by
  have hcv := fun (w : World) => Lib.run_convert_string_bytes (P := Try.prog) w 9 29 5 ⟨#[]⟩ Try.underlying9 Try.underlying29 Try.underlying5
  have HR := Lib.hid (fun W hW => raw_any p s r 4 W hW hs)
  unfold TakePost
  rw [hg]
  unfold RawPost at HR
  rw [hg] at HR
  have z : numB ⟨#[]⟩ = 0 := rfl
  rw [z]
  clear hg z
  go_enter Try.func41, Try.ntmps41
  go_wp2_with fail
  refine (HR.out _ h).mono ?_
  rintro e w1 ⟨rfl, hr, hk⟩
  go_wp2_with fail
  refine wp_loop_rounds 1 ?_
  rw [rounds_succ]
  go_wp2
  go_ret
  exact ⟨rfl, hr.below (below_bytes w1 5 ⟨#[]⟩), hk.trans (Kept.of_below (below_bytes w1 5 ⟨#[]⟩)) (fun i hi h => absurd h (by have := hk.size; omega))⟩
theorem takeu32_any (p : Nat) (s : ByteArray) (r : Rs) (w : World) (h : RdAt w p s r) (hs : s.size ≤ 1000000) :
    Calls Try.prog 41 #[.pointer (some ⟨p, 0, none⟩), .int .i64 4] w (TakePost .u32 p s r 4 w) := by
  rcases Rs.got_size s r 4 with hg | ⟨hg, _, _⟩
  · exact takeu32_none p s r w h hs hg
  have HR := Lib.hid (fun W hW => raw_any p s r 4 W hW hs)
  unfold TakePost
  unfold RawPost at HR
  obtain ⟨x, hx⟩ : ∃ x, x = r.got s 4 := ⟨_, rfl⟩
  rw [← hx] at hg HR ⊢
  clear hx
  have hcv := fun (w : World) => Lib.run_convert_string_bytes (P := Try.prog) w 9 29 5 x Try.underlying9 Try.underlying29 Try.underlying5
  obtain ⟨a, b, c, d, hl⟩ := list4 hg
  have gb := fun W j hj => Lib.bytesWorld_cell W 5 x j hj
  rw [hl] at gb
  have la := a.toNat_lt
  have lb := b.toNat_lt
  have lc := c.toNat_lt
  have ld := d.toNat_lt
  have HV : Hid (numB x = ((((0 * 256 + a.toNat) * 256 + b.toNat) * 256 + c.toNat) * 256 + d.toNat)) := by unfold Hid numB; rw [hl]; rfl
  have hsz : (x.size : Int) = 4 := by omega
  have GB := Lib.hid gb
  clear gb hl
  go_enter Try.func41, Try.ntmps41
  go_wp2_with fail
  refine (HR.out _ h).mono ?_
  rintro e w1 ⟨rfl, hr, hk⟩
  have g0 := GB.out w1 0 (by omega)
  have g1 := GB.out w1 1 (by omega)
  have g2 := GB.out w1 2 (by omega)
  have g3 := GB.out w1 3 (by omega)
  go_wp2_with fail
  refine wp_loop_rounds 5 ?_
  rw [rounds_succ]
  go_wp2
  rw [rounds_succ]
  go_wp2
  rw [rounds_succ]
  go_wp2
  rw [rounds_succ]
  go_wp2
  rw [rounds_succ]
  go_wp2
  go_ret
  refine ⟨?_, hr.below (below_bytes w1 5 x), hk.trans (Kept.of_below (below_bytes w1 5 x)) (fun i hi h => absurd h (by have := hk.size; omega))⟩
  rw [HV.out]
  refine congrArg (fun z => Ending.returned (Value.int IntKind.u32 z)) ?_
  have z := or_byte 0 a.toNat (by omega) (by omega)
  have y := or_byte a.toNat b.toNat (by omega) (by omega)
  have x2 := or_byte (a.toNat * 256 + b.toNat) c.toNat (by omega) (by omega)
  have x3 := or_byte ((a.toNat * 256 + b.toNat) * 256 + c.toNat) d.toNat (by omega) (by omega)
  simp only [Int.natCast_zero, Int.zero_mul, Nat.zero_mul, Nat.zero_add] at z ⊢
  have e2 : (a.toNat : Int) * 256 % 4294967296 = (a.toNat : Int) * 256 := by omega
  have e3 : ((a.toNat * 256 + b.toNat : Nat) : Int) * 256 % 4294967296 = ((a.toNat * 256 + b.toNat : Nat) : Int) * 256 := by omega
  have e4 : (((a.toNat * 256 + b.toNat) * 256 + c.toNat : Nat) : Int) * 256 % 4294967296 = (((a.toNat * 256 + b.toNat) * 256 + c.toNat : Nat) : Int) * 256 := by omega
  rw [z, e2, y, e3, x2, e4, x3]

theorem ru8_any (p : Nat) (s : ByteArray) (r : Rs) (w : World) (h : RdAt w p s r) (hs : s.size ≤ 1000000) :
    Calls Try.prog 24 #[.pointer (some ⟨p, 0, none⟩)] w (TakePost .u8 p s r 1 w) := by
  go_enter Try.func24, Try.ntmps24
  go_wp2_with fail
  refine (takeu8_any p s r _ h hs).mono ?_
  rintro e w1 ⟨rfl, hr, hk⟩
  go_wp2
  go_ret
  exact ⟨rfl, hr, hk⟩
theorem ru16_any (p : Nat) (s : ByteArray) (r : Rs) (w : World) (h : RdAt w p s r) (hs : s.size ≤ 1000000) :
    Calls Try.prog 23 #[.pointer (some ⟨p, 0, none⟩)] w (TakePost .u16 p s r 2 w) := by
  go_enter Try.func23, Try.ntmps23
  go_wp2_with fail
  refine (takeu16_any p s r _ h hs).mono ?_
  rintro e w1 ⟨rfl, hr, hk⟩
  go_wp2
  go_ret
  exact ⟨rfl, hr, hk⟩
theorem close_bad (p : Nat) (s : ByteArray) (r : Rs) (w : World) (h : RdAt w p s r) (he : r.e ≠ 0) :
    Calls Try.prog 16 #[.pointer (some ⟨p, 0, none⟩)] w fun e w' => e = .returned (.int .i64 (r.close s)) ∧ ∃ n, w' = w.drewN n := by
  have hc : r.close s = r.e := by unfold Rs.close; rw [if_neg he]
  rw [hc]
  have t1 : (r.e != 0) = true := by simpa using he
  clear he hc
  obtain ⟨k, er⟩ := r
  dsimp only at t1 ⊢
  go_enter Try.func16, Try.ntmps16
  go_wp2_with fail
  refine (err_any p er _ h.e).mono ?_
  rintro e w1 ⟨rfl, rfl⟩
  go_wp2
  go_ret
  exact ⟨rfl, 0, rfl⟩
theorem close_any (p : Nat) (s : ByteArray) (r : Rs) (w : World) (h : RdAt w p s r) (hs : s.size ≤ 1000000) :
    Calls Try.prog 16 #[.pointer (some ⟨p, 0, none⟩)] w fun e w' => e = .returned (.int .i64 (r.close s)) ∧ ∃ n, w' = w.drewN n := by
  by_cases he : r.e = 0
  · have hle := h.le
    have hc : r.close s = if s.size = r.k then 0 else 4 := by unfold Rs.close; rw [if_pos he]
    obtain ⟨k, er⟩ := r
    dsimp only at he hc hle
    subst he
    by_cases hk : s.size = k
    · have t1 : ((s.size : Int) - k == 0) = true := by rw [beq_iff_eq]; omega
      rw [hc, if_pos hk]
      clear hc
      have Hk := Lib.hid hk
      clear hk
      go_enter Try.func16, Try.ntmps16
      go_wp2_with fail
      refine (err_any p 0 _ h.e).mono ?_
      rintro e w1 ⟨rfl, rfl⟩
      go_wp2_with fail
      refine (left_any p s k _ h.str h.at_ hle hs).mono ?_
      rintro e w1 ⟨rfl, m, rfl⟩
      go_wp2
      go_ret
      exact ⟨rfl, _, rfl⟩
    · have t1 : ((s.size : Int) - k == 0) = false := by rw [beq_eq_false_iff_ne]; omega
      rw [hc, if_neg hk]
      clear hc
      have Hk := Lib.hid hk
      clear hk
      go_enter Try.func16, Try.ntmps16
      go_wp2_with fail
      refine (err_any p 0 _ h.e).mono ?_
      rintro e w1 ⟨rfl, rfl⟩
      go_wp2_with fail
      refine (left_any p s k _ h.str h.at_ hle hs).mono ?_
      rintro e w1 ⟨rfl, m, rfl⟩
      go_wp2
      go_ret
      exact ⟨rfl, _, rfl⟩
  · exact close_bad p s r w h he

theorem ru32_any (p : Nat) (s : ByteArray) (r : Rs) (w : World) (h : RdAt w p s r) (hs : s.size ≤ 1000000) :
    Calls Try.prog 32 #[.pointer (some ⟨p, 0, none⟩)] w (TakePost .u32 p s r 4 w) := by
  go_enter Try.func32, Try.ntmps32
  go_wp2_with fail
  refine (takeu32_any p s r _ h hs).mono ?_
  rintro e w1 ⟨rfl, hr, hk⟩
  go_wp2
  go_ret
  exact ⟨rfl, hr, hk⟩
theorem at_any (p : Nat) (k : Int) (w : World) (h : w.cell? ⟨p, 2, none⟩ = some (.int .i64 k)) :
    Calls Try.prog 14 #[.pointer (some ⟨p, 0, none⟩)] w fun e w' => e = .returned (.int .i64 k) ∧ w = w' := by
  go_enter Try.func14, Try.ntmps14
  go_wp2
  go_ret
  exact ⟨rfl, rfl⟩

end Go.Proofs.Ytehnkljaoaehjaa
