/- The codec's reader, as far as the register uses it. -/
import Derived.Test.YthheplpamcjphaaCodec
import Derived.Lib.ConvBytes
namespace Go.Proofs.Ythheplpamcjphaa
open Go.RowKit Go.Um
set_option maxHeartbeats 1000000

/-! ### the reader -/

/-- a reader without an error at block p, over a text, at a place -/
structure RdAt (w : World) (p : Nat) (s : ByteArray) (k : Nat) : Prop where
  e : w.cell? ⟨p, 0, none⟩ = some (.int .i64 0)
  str : w.cell? ⟨p, 1, none⟩ = some (.string s)
  at_ : w.cell? ⟨p, 2, none⟩ = some (.int .i64 k)
  fe : w.frozen? ⟨p, 0, none⟩ = false
  fs : w.frozen? ⟨p, 1, none⟩ = false
  fat : w.frozen? ⟨p, 2, none⟩ = false
  le : k ≤ s.size

theorem over_any (s : ByteArray) (w : World) : Calls Try.prog 22 #[.string s] w fun e w' => e = .returned (.pointer (some ⟨w.heap.size, 0, none⟩)) ∧ w' = w.alloc (.cells #[.int .i64 0, .string s, .int .i64 0] 74) := by
  go_enter Try.func22, Try.ntmps22
  go_wp2
  go_ret
  exact ⟨rfl, rfl⟩

theorem left_any (p : Nat) (s : ByteArray) (k : Nat) (w : World) (h1 : w.cell? ⟨p, 1, none⟩ = some (.string s)) (h2 : w.cell? ⟨p, 2, none⟩ = some (.int .i64 k)) (hle : k ≤ s.size) (hs : s.size ≤ 1000000) :
    Calls Try.prog 32 #[.pointer (some ⟨p, 0, none⟩)] w fun e w' => e = .returned (.int .i64 ((s.size : Int) - k)) ∧ ∃ n, w' = w.drewN n := by
  have e1 : IntKind.i64.wrap ((s.size : Int) - k) = (s.size : Int) - k := IntWalk.i64_in _ (by omega)
  go_enter Try.func32, Try.ntmps32
  go_wp2_with fail
  go_quiet (fail)
  go_wp2
  go_ret
  exact ⟨rfl, _, rfl⟩

theorem err_any (p : Nat) (en : Int) (w : World) (h1 : w.cell? ⟨p, 0, none⟩ = some (.int .i64 en)) :
    Calls Try.prog 31 #[.pointer (some ⟨p, 0, none⟩)] w fun e w' => e = .returned (.int .i64 en) ∧ w = w' := by
  go_enter Try.func31, Try.ntmps31
  go_wp2
  go_ret
  exact ⟨rfl, rfl⟩

/-- what Raw leaves where there are n bytes more -/
def RawPost (p : Nat) (s : ByteArray) (k n : Nat) (w : World) (e : Ending) (w' : World) : Prop :=
  e = .returned (.string (s.extract k (k + n))) ∧ RdAt w' p s (k + n) ∧ Kept (fun i => i = p) w w'

theorem raw_ok (p : Nat) (s : ByteArray) (k n : Nat) (w : World) (h : RdAt w p s k) (hs : s.size ≤ 1000000) (hn : k + n ≤ s.size) (hn0 : 0 < n) :
    Calls Try.prog 35 #[.pointer (some ⟨p, 0, none⟩), .int .i64 n] w (RawPost p s k n w) := by
  have hx : ((s.extract k (k + n)).size : Int) = n := by simp; omega
  obtain ⟨c0, c1, c2, f0, f1, f2, hle⟩ := h
  have hp := World.block_lt_of_cell? w _ c0
  simp only at hp
  go_enter Try.func35, Try.ntmps35
  go_wp2_with fail
  refine (well_any p 0 _ c0).mono ?_
  rintro e w1 ⟨rfl, rfl⟩
  go_wp2_with fail
  refine (left_any p s k _ c1 c2 hle hs).mono ?_
  rintro e w1 ⟨rfl, m, rfl⟩
  have e1 : IntKind.i64.wrap ((k : Int) + n - n) = k := by rw [IntWalk.i64_in _ (by omega)]; omega
  have b1 : (k : Int) ≤ (k : Int) + n := by omega
  have b2 : (k : Int) + n ≤ (s.size : Int) := by omega
  have b3 : (0 : Int) ≤ (k : Int) := by omega
  go_wp2_with fail
  go_quiet (fail)
  go_wp2
  go_ret
  refine ⟨rfl, ⟨?_, ?_, ?_, ?_, ?_, ?_, hn⟩, ?_⟩
  · simp [go_sem, c0]
  · simp [go_sem, c1]
  · simp [go_sem, c2]
  · simp [go_sem, f0]
  · simp [go_sem, f1]
  · simp [go_sem, f2]
  · exact (((Kept.refl (fun i => i = p) w).drewN _).setCell (p := ⟨p, 2, none⟩) (fun _ => rfl) _).drewN _

/-- a reader that is torn -/
structure RdTorn (w : World) (p : Nat) (s : ByteArray) (k : Nat) : Prop where
  e : w.cell? ⟨p, 0, none⟩ = some (.int .i64 5)
  str : w.cell? ⟨p, 1, none⟩ = some (.string s)
  at_ : w.cell? ⟨p, 2, none⟩ = some (.int .i64 k)

def TornPost (p : Nat) (s : ByteArray) (k : Nat) (w : World) (v : Value) (e : Ending) (w' : World) : Prop :=
  e = .returned v ∧ RdTorn w' p s k ∧ Kept (fun i => i = p) w w'

theorem raw_torn (p : Nat) (s : ByteArray) (k n : Nat) (w : World) (h : RdAt w p s k) (hs : s.size ≤ 1000000) (hn : s.size < k + n) (hn0 : 0 < n) :
    Calls Try.prog 35 #[.pointer (some ⟨p, 0, none⟩), .int .i64 n] w (TornPost p s k w (.string ⟨#[]⟩)) := by
  obtain ⟨c0, c1, c2, f0, f1, f2, hle⟩ := h
  have hp := World.block_lt_of_cell? w _ c0
  simp only at hp
  go_enter Try.func35, Try.ntmps35
  go_wp2_with fail
  refine (well_any p 0 _ c0).mono ?_
  rintro e w1 ⟨rfl, rfl⟩
  go_wp2_with fail
  refine (left_any p s k _ c1 c2 hle hs).mono ?_
  rintro e w1 ⟨rfl, m, rfl⟩
  go_wp2
  go_ret
  refine ⟨rfl, ⟨?_, ?_, ?_⟩, ?_⟩
  · simp [go_sem, c0]
  · simp [go_sem, c1]
  · simp [go_sem, c2]
  · exact ((Kept.refl (fun i => i = p) w).drewN _).setCell (p := ⟨p, 0, none⟩) (fun _ => rfl) _

theorem below_bytes (w : World) (e : TypeId) (s : ByteArray) : Below w.heap.size w (Lib.bytesWorld w e s) :=
  ⟨by simp [Lib.bytesWorld, World.freeze, World.alloc, World.drew, -World.alloc_eq, -World.drew_eq], by simp [Lib.bytesWorld, World.freeze, World.alloc, World.drew, -World.alloc_eq, -World.drew_eq], by simp [Lib.bytesWorld, World.freeze, World.alloc, World.drew, -World.alloc_eq, -World.drew_eq], by rw [Lib.bytesWorld_size]; omega, fun k hk => Lib.bytesWorld_at_old w e s k hk⟩

theorem or_bytes (a b : Nat) (ha : a < 16777216) (hb : b < 256) : bits BinOp.or IntKind.u32 ((a : Int) * 256) (b : Int) = (a : Int) * 256 + b := by
  have e1 : (((a : Int) * 256) % 2 ^ IntKind.u32.bits).toNat = 2 ^ 8 * a := by simp only [IntKind.bits]; omega
  have e2 : ((b : Int) % 2 ^ IntKind.u32.bits).toNat = b := by simp only [IntKind.bits]; omega
  have h : bits BinOp.or IntKind.u32 ((a : Int) * 256) (b : Int) = IntKind.u32.wrap ↑((((a : Int) * 256) % 2 ^ IntKind.u32.bits).toNat ||| ((b : Int) % 2 ^ IntKind.u32.bits).toNat) := by
    show IntKind.u32.wrap ↑(BitVec.ofInt _ _ ||| BitVec.ofInt _ _).toNat = _
    rw [BitVec.toNat_or, BitVec.toNat_ofInt, BitVec.toNat_ofInt]
    rfl
  rw [h, e1, e2, ← Nat.two_pow_add_eq_or_of_lt (i := 8) hb a]
  rw [wrap32_in (by omega)]
  omega

theorem wrap16_in {n : Int} (h : 0 ≤ n ∧ n ≤ 65535) : IntKind.u16.wrap n = n := IntWalk.u16_in n h

theorem take_val (b0 b1 : Nat) (h0 : b0 < 256) (h1 : b1 < 256) :
    IntKind.u16.wrap (bits BinOp.or IntKind.u32 (IntKind.u16.wrap (bits BinOp.or IntKind.u32 0 ((b0 : Int) % 256)) % 4294967296 * 256 % 4294967296) ((b1 : Int) % 256)) = (b0 : Int) * 256 + b1 := by
  have e0 : (b0 : Int) % 256 = (b0 : Int) := by omega
  have e1 : (b1 : Int) % 256 = (b1 : Int) := by omega
  have z : bits BinOp.or IntKind.u32 0 (b0 : Int) = (b0 : Int) := by have := or_bytes 0 b0 (by omega) h0; simpa using this
  rw [e0, e1, z, wrap16_in (n := (b0 : Int)) (by omega)]
  have e2 : (b0 : Int) % 4294967296 * 256 % 4294967296 = (b0 : Int) * 256 := by omega
  rw [e2, or_bytes b0 b1 (by omega) h1, wrap16_in (by omega)]

/-- what take leaves -/
def TakePost (p : Nat) (s : ByteArray) (k n : Nat) (x : Int) (w : World) (e : Ending) (w' : World) : Prop :=
  e = .returned (.int .u16 x) ∧ RdAt w' p s (k + n) ∧ Kept (fun i => i = p) w w'

theorem take_ok (p : Nat) (s : ByteArray) (k : Nat) (b0 b1 : Nat) (w : World) (h : RdAt w p s k) (hs : s.size ≤ 1000000) (hn : k + 2 ≤ s.size)
    (h0 : (s.extract k (k + 2)).data.toList.getD 0 0 = UInt8.ofNat b0) (h1 : (s.extract k (k + 2)).data.toList.getD 1 0 = UInt8.ofNat b1) (hb0 : b0 < 256) (hb1 : b1 < 256) :
    Calls Try.prog 30 #[.pointer (some ⟨p, 0, none⟩), .int .i64 2] w (TakePost p s k 2 (b0 * 256 + b1) w) := by
  have hsz : (s.extract k (k + 2)).size = 2 := by simp; omega
  obtain ⟨x, hx⟩ : ∃ x, x = s.extract k (k + 2) := ⟨_, rfl⟩
  rw [← hx] at h0 h1 hsz
  have Hx := Lib.hid hx
  clear hx
  have hcv := fun (w : World) => Lib.run_convert_string_bytes (P := Try.prog) w 9 67 5 x Try.underlying9 Try.underlying67 Try.underlying5
  go_enter Try.func30, Try.ntmps30
  go_wp2_with fail
  refine (raw_ok p s k 2 _ h hs hn (by omega)).mono ?_
  rintro e w1 ⟨rfl, hr, hk⟩
  rw [← Hx.out]
  have g0 := Lib.bytesWorld_cell w1 5 x 0 (by omega)
  have g1 := Lib.bytesWorld_cell w1 5 x 1 (by omega)
  rw [h0] at g0
  rw [h1] at g1
  go_wp2_with fail
  refine wp_loop_rounds 3 ?_
  rw [rounds_succ]
  go_wp2
  rw [rounds_succ]
  go_wp2
  rw [rounds_succ]
  go_wp2
  go_ret
  refine ⟨?_, ?_, ?_⟩
  · exact congrArg (fun z => Ending.returned (Value.int IntKind.u16 z)) (take_val b0 b1 hb0 hb1)
  · obtain ⟨c0, c1, c2, f0, f1, f2, hle⟩ := hr
    have hb := below_bytes w1 5 x
    have hp := World.block_lt_of_cell? w1 _ c0
    exact ⟨kc hb _ _ _ c0, kc hb _ _ _ c1, kc hb _ _ _ c2, kf hb _ _ hp f0, kf hb _ _ hp f1, kf hb _ _ hp f2, hle⟩
  · exact hk.trans (Kept.of_below (below_bytes w1 5 x)) (fun i hi h => absurd h (by have := hk.size; omega))

theorem take_torn (p : Nat) (s : ByteArray) (k : Nat) (w : World) (h : RdAt w p s k) (hs : s.size ≤ 1000000) (hn : s.size < k + 2) :
    Calls Try.prog 30 #[.pointer (some ⟨p, 0, none⟩), .int .i64 2] w (TornPost p s k w (.int .u16 0)) := by
  have hcv := fun (w : World) => Lib.run_convert_string_bytes (P := Try.prog) w 9 67 5 ⟨#[]⟩ Try.underlying9 Try.underlying67 Try.underlying5
  go_enter Try.func30, Try.ntmps30
  go_wp2_with fail
  refine (raw_torn p s k 2 _ h hs hn (by omega)).mono ?_
  rintro e w1 ⟨rfl, hr, hk⟩
  go_wp2_with fail
  refine wp_loop_rounds 1 ?_
  rw [rounds_succ]
  go_wp2
  go_ret
  refine ⟨rfl, ?_, ?_⟩
  · obtain ⟨c0, c1, c2⟩ := hr
    have hb := below_bytes w1 5 ⟨#[]⟩
    exact ⟨kc hb _ _ _ c0, kc hb _ _ _ c1, kc hb _ _ _ c2⟩
  · exact hk.trans (Kept.of_below (below_bytes w1 5 ⟨#[]⟩)) (fun i hi h => absurd h (by have := hk.size; omega))

theorem ru16_ok (p : Nat) (s : ByteArray) (k : Nat) (b0 b1 : Nat) (w : World) (h : RdAt w p s k) (hs : s.size ≤ 1000000) (hn : k + 2 ≤ s.size)
    (h0 : (s.extract k (k + 2)).data.toList.getD 0 0 = UInt8.ofNat b0) (h1 : (s.extract k (k + 2)).data.toList.getD 1 0 = UInt8.ofNat b1) (hb0 : b0 < 256) (hb1 : b1 < 256) :
    Calls Try.prog 23 #[.pointer (some ⟨p, 0, none⟩)] w (TakePost p s k 2 (b0 * 256 + b1) w) := by
  have H0 := Lib.hid h0
  have H1 := Lib.hid h1
  clear h0 h1
  go_enter Try.func23, Try.ntmps23
  go_wp2_with fail
  refine (take_ok p s k b0 b1 _ h hs hn H0.out H1.out hb0 hb1).mono ?_
  rintro e w1 ⟨rfl, hr, hk⟩
  go_wp2
  go_ret
  exact ⟨rfl, hr, hk⟩

theorem ru16_torn (p : Nat) (s : ByteArray) (k : Nat) (w : World) (h : RdAt w p s k) (hs : s.size ≤ 1000000) (hn : s.size < k + 2) :
    Calls Try.prog 23 #[.pointer (some ⟨p, 0, none⟩)] w (TornPost p s k w (.int .u16 0)) := by
  go_enter Try.func23, Try.ntmps23
  go_wp2_with fail
  refine (take_torn p s k _ h hs hn).mono ?_
  rintro e w1 ⟨rfl, hr, hk⟩
  go_wp2
  go_ret
  exact ⟨rfl, hr, hk⟩

theorem close_torn (p : Nat) (s : ByteArray) (k : Nat) (w : World) (h : RdTorn w p s k) :
    Calls Try.prog 24 #[.pointer (some ⟨p, 0, none⟩)] w fun e w' => e = .returned (.int .i64 5) ∧ w = w' := by
  go_enter Try.func24, Try.ntmps24
  go_wp2_with fail
  refine (err_any p 5 _ h.e).mono ?_
  rintro e w1 ⟨rfl, rfl⟩
  go_wp2
  go_ret
  exact ⟨rfl, rfl⟩

theorem close_ok (p : Nat) (s : ByteArray) (k : Nat) (w : World) (h : RdAt w p s k) (hs : s.size ≤ 1000000) :
    Calls Try.prog 24 #[.pointer (some ⟨p, 0, none⟩)] w fun e w' => e = .returned (.int .i64 (if s.size = k then 0 else 4)) ∧ ∃ n, w' = w.drewN n := by
  have hle := h.le
  by_cases hk : s.size = k
  · have t1 : ((s.size : Int) - k == 0) = true := by rw [beq_iff_eq]; omega
    rw [if_pos hk]
    have Hk := Lib.hid hk
    clear hk
    go_enter Try.func24, Try.ntmps24
    go_wp2_with fail
    refine (err_any p 0 _ h.e).mono ?_
    rintro e w1 ⟨rfl, rfl⟩
    go_wp2_with fail
    refine (left_any p s k _ h.str h.at_ hle hs).mono ?_
    rintro e w1 ⟨rfl, m, rfl⟩
    go_wp2
    go_ret
    exact ⟨rfl, _, rfl⟩
  · have t1 : ((s.size : Int) - k == 0) = false := by rw [beq_eq_false_iff_ne]; omega
    rw [if_neg hk]
    have Hk := Lib.hid hk
    clear hk
    go_enter Try.func24, Try.ntmps24
    go_wp2_with fail
    refine (err_any p 0 _ h.e).mono ?_
    rintro e w1 ⟨rfl, rfl⟩
    go_wp2_with fail
    refine (left_any p s k _ h.str h.at_ hle hs).mono ?_
    rintro e w1 ⟨rfl, m, rfl⟩
    go_wp2
    go_ret
    exact ⟨rfl, _, rfl⟩
end Go.Proofs.Ythheplpamcjphaa
