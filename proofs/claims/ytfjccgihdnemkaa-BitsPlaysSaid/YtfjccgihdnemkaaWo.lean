/- bits.Set's Without: contract. Printed from Wo.tmpl. -/
import Derived.Test.YtfjccgihdnemkaaCt
import Derived.Test.YtfjccgihdnemkaaFkp
namespace Go.Proofs.Ytfjccgihdnemkaa
open Go.RowKit Go.Um
set_option linter.unusedSimpArgs false
set_option linter.unusedVariables false
set_option maxHeartbeats 4000000
set_option maxRecDepth 100000
theorem bits_andn64 (x r : Nat) (hx : x < 2 ^ 64) (hr : r < 64) (hb : x.testBit r = true) : bits BinOp.andNot IntKind.u64 (x : Int) ((2 ^ r : Nat) : Int) = ((x ^^^ 2 ^ r : Nat) : Int) := by
  have hy : 2 ^ r < 2 ^ 64 := Nat.pow_lt_pow_right (by decide) hr
  have h : bits BinOp.andNot IntKind.u64 (x : Int) ((2 ^ r : Nat) : Int) = IntKind.u64.wrap ↑(BitVec.ofNat 64 x &&& ~~~ BitVec.ofNat 64 (2 ^ r)).toNat := by
    show IntKind.u64.wrap ↑(BitVec.ofInt _ _ &&& ~~~ BitVec.ofInt _ _).toNat = _
    rw [BitVec.ofInt_natCast, BitVec.ofInt_natCast]
    rfl
  have h2 : (BitVec.ofNat 64 x &&& ~~~ BitVec.ofNat 64 (2 ^ r)).toNat = x ^^^ 2 ^ r := by
    apply Nat.eq_of_testBit_eq
    intro i
    rw [BitVec.testBit_toNat, BitVec.getLsbD_and, BitVec.getLsbD_not, BitVec.getLsbD_ofNat, BitVec.getLsbD_ofNat, Nat.testBit_xor, Nat.testBit_two_pow]
    by_cases hi : i < 64
    · by_cases e : r = i
      · subst e; simp [hi, hb]
      · simp [hi, e]
    · have h3 := testBit_ge hx (n := i) (by omega)
      have h4 : ¬ r = i := by omega
      simp [hi, h3, h4]
  rw [h, h2]
  have := Nat.xor_lt_two_pow hx hy
  rw [pow64] at this
  exact wrapu64_in (by omega)
theorem word_xor (N n i : Nat) : wordN (N ^^^ 2 ^ n) i = if i = n / 64 then wordN N i ^^^ 2 ^ (n % 64) else wordN N i := by
  apply Nat.eq_of_testBit_eq
  intro k
  rw [testBit_word, Nat.testBit_xor, Nat.testBit_two_pow]
  split
  · rename_i e
    subst e
    rw [Nat.testBit_xor, testBit_word, Nat.testBit_two_pow]
    by_cases hk : k < 64
    · have : (n = 64 * (n / 64) + k) ↔ (n % 64 = k) := by omega
      simp [hk, this]
    · have : ¬ n % 64 = k := by omega
      simp [hk, this]
  · rename_i e
    rw [testBit_word]
    by_cases hk : k < 64
    · have : ¬ n = 64 * i + k := by omega
      simp [hk, this]
    · simp [hk]
theorem xor_lt {N n m : Nat} (h : N < 2 ^ m) (hn : N.testBit n = true) : N ^^^ 2 ^ n < 2 ^ m := lt_of_bits (fun i hi => by
  rw [Nat.testBit_xor, Nat.testBit_two_pow, testBit_ge h hi]
  have : ¬ n = i := fun e => by
    subst e
    rw [testBit_ge h hi] at hn
    cases hn
  simp [this])
/-- a set with one number less -/
def withoutN (N : Nat) (n : Int) : Nat := if hasB N n then N ^^^ 2 ^ n.toNat else N
theorem without_same (v : Value) (N : Nat) (n : Int) (w : World) (h : SetAt w v N) (hs : hasB N n = false) : Calls Try.prog 26 #[v, .int .i64 n] w (SetPost N w) := by
  have HH := Lib.hid h
  obtain ⟨m, ao, cap, b, o, rfl, hsl, hn, hm'⟩ := h
  have HS : Hid (∀ W, SetAt W (.agg #[.slice ao m cap]) N → Calls Try.prog 13 #[.agg #[.slice ao m cap], .int .i64 n] W fun e w' => e = .returned (.bool (hasB N n)) ∧ Below W.heap.size W w') := Lib.hid (fun W hW => has_any _ N n W hW)
  rw [hs] at HS
  clear hs hsl hn
  go_enter Try.func26, Try.ntmps26
  go_wp2_with fail
  have hb0 := (ba (bz w) (.cells #[.slice ao m cap] 27)).alloc (by simp) (.cells #[.slice none 0 0] 27)
  refine (HS.out _ (HH.out.below hb0)).mono ?_
  rintro e w2 ⟨rfl, hb2⟩
  have x0 := kc hb2 w.heap.size 0 (.slice ao m cap) (by simp [go_sem])
  have x1 := kc hb2 (w.heap.size + 1) 0 (.slice none 0 0) (by simp [go_sem])
  have f1 := kf hb2 (w.heap.size + 1) 0 (by simp) (by simp [go_sem])
  have HB2 : Hid (Below w.heap.size w w2) := Lib.hid (hb0.trans (hb2.mono (by simp; omega)))
  clear hb2 hb0
  go_wp2
  have hbb := bs HB2.out (p := ⟨w.heap.size + 1, 0, none⟩) (by simp) (.slice ao m cap)
  exact bodyPost_ret (v := .agg #[.slice ao m cap]) (by simp [results, Try.results26, go_sem, x1]) rfl ⟨_, rfl, HH.out.below hbb, hbb⟩
theorem without_new (v : Value) (N n : Nat) (w : World) (h : SetAt w v N) (hn : n ≤ 65535) (hb : N.testBit n = true) :
    Calls Try.prog 26 #[v, .int .i64 n] w (SetPost (N ^^^ 2 ^ n) w) := by
  have HH := Lib.hid h
  obtain ⟨m, ao, cap, b, o, rfl, hsl, hneed, hm'⟩ := h
  have HS : Hid (∀ W, SetAt W (.agg #[.slice ao m cap]) N → Calls Try.prog 13 #[.agg #[.slice ao m cap], .int .i64 n] W fun e w' => e = .returned (.bool true) ∧ Below W.heap.size W w') := Lib.hid (fun W hW => by rw [← hb]; exact has_in _ N n W hW hn)
  have hnm : n < 64 * m := by
    refine Classical.byContradiction fun hi => ?_
    rw [testBit_ge hneed.lt (by omega)] at hb
    cases hb
  obtain ⟨q, hq⟩ : ∃ q, q = n / 64 := ⟨_, rfl⟩
  obtain ⟨r, hr⟩ : ∃ r, r = n % 64 := ⟨_, rfl⟩
  have hr64 : r < 64 := by omega
  have hq1 : (n : Int) / 64 = (q : Int) := by omega
  have hr1 : (n : Int) % 64 = (r : Int) := by omega
  have hq0 : (0 : Int) ≤ (q : Int) := by omega
  have hn0 : (0 : Int) ≤ (n : Int) := by omega
  have hqM : q < m := by omega
  have hqM2 : (q : Int) < (m : Int) := by omega
  have HR : Hid (∀ W, SlAt W 1 m (u64s (words N m)) ao cap b o → Calls Try.prog 38 #[.agg #[.slice ao m cap], .int .i64 0] W (RoomPost N m W)) := Lib.hid (fun W hW => room_any m N ao cap b o 0 m W hW hneed.lt (by omega) hm')
  have hbit : (wordN N q).testBit r = true := by rw [testBit_word, hq, hr, Nat.div_add_mod]; simp [Nat.mod_lt, hb]
  have HNEW : Hid (N ^^^ 2 ^ n < 2 ^ (64 * m) ∧ words (N ^^^ 2 ^ n) m = (words N m).set q (wordN N q ^^^ 2 ^ r)) := Lib.hid ⟨xor_lt hneed.lt hb, by
    apply List.ext_getElem?
    intro j
    rw [List.getElem?_set]
    by_cases hj : j < m
    · rw [words_at _ _ _ hj, words_at _ _ _ hj, word_xor, ← hq, ← hr]
      by_cases e : q = j
      · subst e; simp [words_len, hqM]
      · have : ¬ j = q := fun x => e x.symm
        simp [e, this]
    · have e : ¬ q = j := by omega
      rw [List.getElem?_eq_none (by rw [words_len]; omega), if_neg e, List.getElem?_eq_none (by rw [words_len]; omega)]⟩
  have HSL := Lib.hid hsl
  have hand := bits_andn64 (wordN N q) r (wordN_lt _ _) hr64 hbit
  clear hsl hneed hq hr hb hbit hnm
  go_enter Try.func26, Try.ntmps26
  go_wp2_with fail
  have hb0 := (ba (bz w) (.cells #[.slice ao m cap] 27)).alloc (by simp) (.cells #[.slice none 0 0] 27)
  refine (HS.out _ (HH.out.below hb0)).mono ?_
  rintro e w2 ⟨rfl, hb2⟩
  have x0 := kc hb2 w.heap.size 0 (.slice ao m cap) (by simp [go_sem])
  have HB2 : Hid (Below w.heap.size w w2) := Lib.hid (hb0.trans (hb2.mono (by simp; omega)))
  have hs2 := hb2.size
  have X1 := Lib.hid (kc hb2 (w.heap.size + 1) 0 (.slice none 0 0) (by simp [go_sem]))
  have F1 := Lib.hid (kf hb2 (w.heap.size + 1) 0 (by simp) (by simp [go_sem]))
  clear hb2 hb0
  go_wp2_with fail
  refine (HR.out _ (HSL.out.below HB2.out)).mono ?_
  rintro e w3 ⟨g, rfl, hrow, hb3, hg⟩
  have hlen := words_len N m
  unfold RowW at hrow
  rw [hlen] at hrow
  have HROW := Lib.hid hrow
  have gq := (hrow.cellAt q (by omega)).trans (u64s_at (words_at N m q hqM))
  have fq := hrow.frozenAt q
  have x1 := kc hb3 _ _ _ X1.out
  have f1 := kf hb3 _ _ (World.block_lt_of_cell? _ _ X1.out) F1.out
  have HB3 : Hid (Below w.heap.size w w3) := Lib.hid (bt HB2.out hb3)
  have hgs : w.heap.size + 1 < g := by have := World.block_lt_of_cell? _ _ X1.out; simp at this; omega
  obtain ⟨R2, hR2⟩ : ∃ R, R = 2 ^ r := ⟨_, rfl⟩
  obtain ⟨Z, hZ⟩ : ∃ Z, Z = wordN N q ^^^ 2 ^ r := ⟨_, rfl⟩
  rw [← hZ] at hand
  rw [← hR2] at hand
  obtain ⟨Y, hY⟩ : ∃ Y, Y = wordN N q := ⟨_, rfl⟩
  have hP : IntKind.u64.wrap (2 ^ r) = (R2 : Int) := by
    have h3 : (2 : Nat) ^ r < 2 ^ 64 := Nat.pow_lt_pow_right (by decide) hr64
    rw [show ((2 : Int) ^ r) = ((2 ^ r : Nat) : Int) by simp, ← hR2]
    rw [← hR2] at h3
    have := pow64
    exact wrapu64_in (by omega)
  rw [← hY] at gq hand
  have HZ := Lib.hid hZ
  have hq2 : IntKind.i64.wrap (q : Int) = (q : Int) := IntWalk.i64_in _ (by omega)
  have hr2 : IntKind.i64.wrap (r : Int) = (r : Int) := IntWalk.i64_in _ (by omega)
  have hr3 : (n : Int).tmod 64 = (r : Int) := by rw [Int.tmod_eq_emod_of_nonneg hn0]; exact hr1
  have hq3 : (n : Int).tdiv 64 = (q : Int) := by rw [Int.tdiv_eq_ediv_of_nonneg hn0]; exact hq1
  clear hlen hrow hb3 x0 X1 F1 hR2 hY hZ
  go_wp2_with fail
  go_still_tail 10, (by kernel_rfl)
  change wpList _ _ _ _ _ w3.drew
  have HB4 : Hid (Below w.heap.size w w3.drew) := Lib.hid HB3.out.drew
  have HROW4 : Hid (w3.drew.ownsRow w2.heap.size 61 1 (.slice (some ⟨g, 0, none⟩) m m) m (u64s (words N m))) := Lib.hid HROW.out.drew
  have x1' : w3.drew.cell? ⟨w.heap.size + 1, 0, none⟩ = some (.slice none 0 0) := x1
  have f1' : w3.drew.frozen? ⟨w.heap.size + 1, 0, none⟩ = false := f1
  have gq' : w3.drew.cell? ⟨g, q, none⟩ = some (.int .u64 Y) := gq
  have fq' : w3.drew.frozen? ⟨g, q, none⟩ = false := fq
  generalize w3.drew = w4 at *
  clear x1 f1 gq fq HB3 HROW hP hand hq2 hr2 hr3 hq3
  go_wp2_with fail
  have hst := (HROW4.out.stored q (.int .u64 Z)).1
  have hcs : (u64s (words N m)).set q (.int .u64 Z) = u64s (words (N ^^^ 2 ^ n) m) := by
    rw [HNEW.out.2, ← HZ.out]; simp [u64s, List.map_set]
  rw [hcs] at hst
  obtain ⟨ao', cap', b', o', hv, hs', _⟩ := SlAt.owned hst
  cases hv
  refine (cut_any _ _ _ _ _ _ _ hs' HNEW.out.1 hm').mono ?_
  rintro e w5 ⟨v, rfl, hset, hb5⟩
  have y1 : (w4.setCell ⟨g, q, none⟩ (.int .u64 Z)).cell? ⟨w.heap.size + 1, 0, none⟩ = some (.slice none 0 0) := (World.cell?_of_block (w := w4) (Below.heap_setCell w4 ⟨g, q, none⟩ (.int .u64 Z) (w.heap.size + 1) (by simp; omega))).trans x1'
  have y2 : (w4.setCell ⟨g, q, none⟩ (.int .u64 Z)).frozen? ⟨w.heap.size + 1, 0, none⟩ = false := by rw [World.frozen?_setCell]; exact f1'
  have x5 := kc hb5 _ _ _ y1
  have f5 := kf hb5 _ _ (World.block_lt_of_cell? _ _ y1) y2
  have HB5 : Hid (Below w.heap.size w w5) := Lib.hid (bt (bs HB4.out (p := ⟨g, q, none⟩) (by simp; omega) (.int .u64 Z)) hb5)
  have HSET := Lib.hid hset
  obtain ⟨m1, ao1, cap1, b1, o1, rfl, hs1, hn1, hm1⟩ := hset
  clear hst hs' hb5 y1 y2 hs1 hn1 hcs
  go_wp2
  exact bodyPost_ret (v := .agg #[.slice ao1 m1 cap1]) (by simp [results, Try.results26, go_sem, x5]) rfl ⟨_, rfl, set_other HSET.out x5 (fun x => by simp) _, bs HB5.out (p := ⟨w.heap.size + 1, 0, none⟩) (by simp) _⟩
theorem without_any (v : Value) (N : Nat) (n : Int) (w : World) (h : SetAt w v N) : Calls Try.prog 26 #[v, .int .i64 n] w (SetPost (withoutN N n) w) := by
  unfold withoutN
  cases hb : hasB N n
  · exact without_same v N n w h hb
  · rw [if_pos rfl]
    unfold hasB mayB at hb
    simp only [Bool.and_eq_true, decide_eq_true_eq] at hb
    obtain ⟨k, rfl⟩ := Int.eq_ofNat_of_zero_le hb.1.1
    rw [Int.toNat_natCast] at hb ⊢
    exact without_new v N k w h (by omega) hb.2
end Go.Proofs.Ytfjccgihdnemkaa
