/- bits.FromKey: contract. Printed from Fk.tmpl. -/
import Derived.Test.YtfjccgihdnemkaaOf
import Derived.Test.YtfjccgihdnemkaaFkp
namespace Go.Proofs.Ytfjccgihdnemkaa
open Go.RowKit Go.Um
set_option linter.unusedSimpArgs false
set_option linter.unusedVariables false
set_option maxHeartbeats 4000000
set_option maxRecDepth 100000
def keyL (s : ByteArray) : List Nat := s.data.toList.map (·.toNat)
theorem keyL_len (s : ByteArray) : (keyL s).length = s.size := by simp [keyL]
theorem keyL_lt (s : ByteArray) : ∀ b ∈ keyL s, b < 256 := by
  intro b hb
  obtain ⟨c, _, rfl⟩ := List.mem_map.1 hb
  exact c.toNat_lt
theorem keyL_at (s : ByteArray) (k : Nat) (h : k < s.size) : ((keyL s)[k]?).getD 0 = (s[k]'h).toNat := by
  have : k < s.data.toList.length := by simpa using h
  simp only [keyL, List.getElem?_map, List.getElem?_eq_getElem this]
  rfl
/-- is it a set's key? -/
def goodKey (s : ByteArray) : Prop := s.size ≤ 8192 ∧ (s.size ≠ 0 → ((keyL s)[s.size - 1]?).getD 0 ≠ 0)
def setOf (s : ByteArray) : Nat := kn (keyL s) s.size
theorem size0 {s : ByteArray} (h : s.size = 0) : s = ⟨#[]⟩ := by
  obtain ⟨⟨l⟩⟩ := s
  cases l with
  | nil => rfl
  | cons a l => exact absurd h (by simp [ByteArray.size])
theorem goodKey.key {s : ByteArray} (h : goodKey s) : Needs 64 ((s.size + 7) / 8) (setOf s) ∧ IsKey (setOf s) (keyL s) := by
  have hl : keyL s ≠ [] → ((keyL s)[(keyL s).length - 1]?).getD 0 ≠ 0 := fun hne => by
    rw [keyL_len]
    refine h.2 (fun e => hne (List.eq_nil_of_length_eq_zero (by rw [keyL_len]; exact e)))
  have h1 := kn_needs (keyL s) (keyL_lt s) hl
  have h2 := kn_key (keyL s) (keyL_lt s) hl
  rw [keyL_len] at h1 h2
  exact ⟨h1.1, h2⟩
def FkPost (s : ByteArray) (w : World) (e : Ending) (w' : World) : Prop := ∃ v E, e = .returned (.tuple #[v, .int .i64 E]) ∧ Below w.heap.size w w' ∧ ((goodKey s ∧ E = 0 ∧ SetAt w' v (setOf s)) ∨ (¬ goodKey s ∧ E = 4 ∧ SetAt w' v 0))
theorem loop_len (s : ByteArray) : ∀ (k i : Nat) (r : List UInt8), s.size - i = k → (ByteArray.toList.loop s i r).length = r.length + k
  | 0, i, r, h => by
    rw [ByteArray.toList.loop]
    have : ¬ i < s.size := by omega
    simp [this]
  | k + 1, i, r, h => by
    rw [ByteArray.toList.loop]
    have : i < s.size := by omega
    rw [if_pos this, loop_len s k (i + 1) _ (by omega)]
    simp; omega
theorem toList_len (s : ByteArray) : s.toList.length = s.size := by
  rw [ByteArray.toList, loop_len s s.size 0 [] (by omega)]; simp
theorem some_key {s : ByteArray} (h : 0 < s.size) : ¬ s.toList = [] ∧ s.toList.isEmpty = false ∧ (!s.toList.isEmpty) = true := by
  have h1 := toList_len s
  cases e : s.toList with
  | nil => rw [e] at h1; simp at h1; omega
  | cons a l => simp
theorem fromkey_bad1 (s : ByteArray) (w : World) (h : 8192 < s.size) : Calls Try.prog 16 #[.string s] w (FkPost s w) := by
  have HB := Lib.hid (show ¬ goodKey s from fun g => by have := g.1; omega)
  have h1 : (8192 : Int) < (s.size : Int) := by omega
  go_enter Try.func16, Try.ntmps16
  go_wp2_with fail
  exact bodyPost_ret (v := .tuple #[.agg #[.slice none 0 0], .int .i64 4]) (by simp [results, Try.results16, go_sem]) rfl ⟨_, _, rfl, ba (bz w) _, .inr ⟨HB.out, rfl, SetAt.zero _⟩⟩
theorem fromkey_bad2 (s : ByteArray) (w : World) (h : s.size ≤ 8192) (h0 : 0 < s.size) (hz : ((keyL s)[s.size - 1]?).getD 0 = 0) : Calls Try.prog 16 #[.string s] w (FkPost s w) := by
  have HB := Lib.hid (show ¬ goodKey s from fun g => g.2 (by omega) hz)
  rw [keyL_at s _ (by omega)] at hz
  have h1 : ¬ (8192 : Int) < (s.size : Int) := by omega
  obtain ⟨e1, e2, e3⟩ := some_key h0
  go_enter Try.func16, Try.ntmps16
  go_wp2_with fail
  exact bodyPost_ret (v := .tuple #[.agg #[.slice none 0 0], .int .i64 4]) (by simp [results, Try.results16, go_sem]) rfl ⟨_, _, rfl, ba (bz w) _, .inr ⟨HB.out, rfl, SetAt.zero _⟩⟩
/-- at the head of a round -/
structure FkI (w : World) (s : ByteArray) (M i : Nat) (v : Value) (wr : World) : Prop where
  own : wr.ownsRow (w.heap.size + 1) 61 1 v M (u64s (words (kn (keyL s) i) M))
  below : Below (w.heap.size + 1) (w.alloc (.cells #[.slice none 0 0] 27)) wr
theorem fromkey_loop (s : ByteArray) (w : World) (h : goodKey s) (hn : s.size = 0 ∨ 0 < s.size ∧ ((keyL s)[s.size - 1]?).getD 0 ≠ 0) : Calls Try.prog 16 #[.string s] w (FkPost s w) := by
  have h8 := h.1
  have h1 : ¬ (8192 : Int) < (s.size : Int) := by omega
  obtain ⟨j0, hj, jz0, jz1, jz2⟩ := info_parts info61
  obtain ⟨M, hM⟩ : ∃ M, M = (s.size + 7) / 8 := ⟨_, rfl⟩
  have hm1 : ((s.size : Int) + 8 - 1) / 8 = (M : Int) := by omega
  have hm2 : ((s.size : Int) + 8 - 1).tdiv 8 = (M : Int) := by rw [Int.tdiv_eq_ediv_of_nonneg (by omega)]; exact hm1
  have hM2 : M ≤ 1024 := by omega
  have hfin : Hid (∀ v wr w', FkI w s M s.size v wr → (∃ ao cap, v = .slice ao M cap) → Below wr.heap.size wr w' → SetAt w' (.agg #[v]) (setOf s)) := Lib.hid (by
    rintro v wr w' hi ⟨ao, cap, rfl⟩ hb
    obtain ⟨ao', cap', b', o', hv, hs', _⟩ := SlAt.owned hi.own
    cases hv
    exact ⟨M, ao, cap, b', o', rfl, hs'.below hb, by rw [hM]; exact h.key.1, hM2⟩)
  have HG := Lib.hid h
  have HM := Lib.hid hM
  clear h hM
  rcases hn with h0 | ⟨h0, hz⟩
  · have e1 : s.toList = [] := List.eq_nil_of_length_eq_zero (by rw [toList_len]; exact h0)
    have e2 : s.toList.isEmpty = true := by rw [e1]; rfl
    have e3 : (!s.toList.isEmpty) = false := by rw [e2]; rfl
    have H0 := Lib.hid h0
    clear h0
    go_enter Try.func16, Try.ntmps16
    go_wp2_with (at_make; refine wpList_make_full _ rfl _ _ 25 rfl (w.alloc (.cells #[.slice none 0 0] 27)).heap.size 61 j0 (.int .u64 0) 1 Try.underlying25 hj jz0 jz1 .i64 .i64 M M M rfl rfl rfl rfl (by rw [jz2]; omega) (by unfold maxLen; omega) (Nat.le_refl _) ?_; intro w6 hown6 hgrow6; have HI0 : Hid (FkI w s M 0 (.slice (some ⟨w.heap.size + 1, 0, none⟩) M M) w6) := Lib.hid ⟨by have hm := made_one (.int .u64 0) rfl M; rw [hm] at hown6; have : u64s (words (kn (keyL s) 0) M) = List.replicate M (.int .u64 0) := (by rw [show kn (keyL s) 0 = 0 from rfl, words_zero]; simp [u64s]); rw [this]; rw [World.size_alloc] at hown6; exact hown6, (by have : Below (w.alloc (.cells #[.slice none 0 0] 27)).heap.size (w.alloc (.cells #[.slice none 0 0] 27)) w6 := ⟨hgrow6.os, hgrow6.tape, hgrow6.output, hgrow6.size, fun k hk => hgrow6.block k hk (by simp)⟩; rwa [World.size_alloc] at this)⟩; clear hown6 hgrow6)
    obtain ⟨g, hg⟩ : ∃ g, g = w.heap.size + 1 := ⟨_, rfl⟩
    have HI1 : Hid (FkI w s M 0 (.slice (some ⟨g, 0, none⟩) M M) w6) := by rw [hg]; exact HI0
    have HGG := Lib.hid hg
    rw [← hg]
    clear HI0 hg hm1 hm2
    go_loopw [30] (fun t30 wr => ∃ i : Nat, i ≤ s.size ∧ t30 = .int .i64 i ∧ Hid (FkI w s M i (.slice (some ⟨g, 0, none⟩) M M) wr)) (fun t30 _ => s.size - (intOf t30).toNat)
    case atStart => exact ⟨0, Nat.zero_le _, rfl, HI1⟩
    case round =>
      obtain ⟨i, hi, rfl, HI⟩ := hrel
      clear HI1
      by_cases hlt : i < s.size
      · have i1 : (0 : Int) ≤ (i : Int) := by omega
        have i2 : (i : Int) < (s.size : Int) := by omega
        have hq8 : i / 8 < M := by have := HM.out; omega
        have hkw := kn_words (keyL s) (keyL_lt s) i M hq8
        have hx0 := keyL_at s i hlt
        have hlt64 := wordN_lt (kn (keyL s) i) (i / 8)
        obtain ⟨q, hq⟩ : ∃ q, q = i / 8 := ⟨_, rfl⟩
        obtain ⟨r, hr⟩ : ∃ r, r = i % 8 := ⟨_, rfl⟩
        obtain ⟨x, hx⟩ : ∃ x, x = (s[i]'hlt).toNat := ⟨_, rfl⟩
        have hx256 : x < 256 := by rw [hx]; exact UInt8.toNat_lt _
        have gq := (HI.out.own.cellAt (i / 8) (by omega)).trans (u64s_at (words_at _ M (i / 8) hq8))
        have fq := HI.out.own.frozenAt (i / 8)
        rw [hx0, ← hx, ← hq, ← hr] at hkw
        rw [← hq] at gq fq hlt64
        obtain ⟨Y, hY⟩ : ∃ Y, Y = wordN (kn (keyL s) i) q := ⟨_, rfl⟩
        rw [← hY] at gq hkw hlt64
        obtain ⟨r8, hr8⟩ : ∃ r8, r8 = 8 * r := ⟨_, rfl⟩
        rw [← hr8] at hkw
        have hr8' : r8 ≤ 56 := by omega
        obtain ⟨X, hX⟩ : ∃ X, X = x * 2 ^ r8 := ⟨_, rfl⟩
        have hX64 : X < 2 ^ 64 := by
          rw [hX]
          have h3 : (2 : Nat) ^ r8 ≤ 2 ^ 56 := Nat.pow_le_pow_right (by decide) hr8'
          have h4 : x * 2 ^ r8 ≤ 255 * 2 ^ 56 := Nat.mul_le_mul (by omega) h3
          exact Nat.lt_of_le_of_lt h4 (by decide)
        rw [← hX] at hkw
        obtain ⟨Z, hZ⟩ : ∃ Z, Z = Y ||| X := ⟨_, rfl⟩
        rw [← hZ] at hkw
        have d1 : (i : Int) / 8 = (q : Int) := by omega
        have d2 : (i : Int) % 8 = (r : Int) := by omega
        have d3 : (i : Int).tdiv 8 = (q : Int) := by rw [Int.tdiv_eq_ediv_of_nonneg i1]; exact d1
        have d4 : (i : Int).tmod 8 = (r : Int) := by rw [Int.tmod_eq_emod_of_nonneg i1]; exact d2
        have d5 : IntKind.i64.wrap (q : Int) = (q : Int) := IntWalk.i64_in _ (by omega)
        have d6 : IntKind.i64.wrap (r : Int) = (r : Int) := IntWalk.i64_in _ (by omega)
        have d7 : IntKind.i64.wrap (8 * (r : Int)) = (r8 : Int) := by rw [show 8 * (r : Int) = (r8 : Int) by omega]; exact IntWalk.i64_in _ (by omega)
        have d8 : IntKind.u64.wrap (x : Int) = (x : Int) := wrapu64_in (by omega)
        have d9 : IntKind.u64.wrap ((x : Int) * 2 ^ r8) = (X : Int) := by
          rw [show (x : Int) * 2 ^ r8 = (X : Int) by rw [hX]; simp]
          have := pow64
          exact wrapu64_in (by omega)
        have d10 : bits BinOp.or IntKind.u64 (Y : Int) (X : Int) = (Z : Int) := by rw [hZ]; exact bits_or64 _ _ hlt64 hX64
        have d11 : 8 * (r : Int) = (r8 : Int) := by omega
        have d12 : IntKind.i64.wrap (r8 : Int) = (r8 : Int) := IntWalk.i64_in _ (by omega)
        have hix : (s[i]'hlt).toNat = x := hx.symm
        have q0 : (0 : Int) ≤ (q : Int) := by omega
        have q1 : (q : Int) < (M : Int) := by omega
        have r0 : (0 : Int) ≤ (r8 : Int) := by omega
        have r1 : ¬ (r8 : Int) < 0 := by omega
        have HKW := Lib.hid hkw
        clear hkw hx0 hlt64 hq hr hx hY hr8 hX hX64 hZ hq8 hx256
        go_wp2_with fail
        go_still_tail 15, (by kernel_rfl)
        change wpList _ _ _ _ _ wr.drew
        have HROW4 : Hid (wr.drew.ownsRow (w.heap.size + 1) 61 1 (.slice (some ⟨g, 0, none⟩) M M) M (u64s (words (kn (keyL s) i) M))) := Lib.hid HI.out.own.drew
        have HB4 : Hid (Below (w.heap.size + 1) (w.alloc (.cells #[.slice none 0 0] 27)) wr.drew) := Lib.hid HI.out.below.drew
        have gq' : wr.drew.cell? ⟨g, q, none⟩ = some (.int .u64 Y) := gq
        have fq' : wr.drew.frozen? ⟨g, q, none⟩ = false := fq
        generalize wr.drew = w4 at *
        clear gq fq d1 d2 d3 d4 d5 d6 d7 d8 d9 d10 d11 d12 hix
        go_wp2_with fail
        have HI2 : Hid (FkI w s M (i + 1) (.slice (some ⟨g, 0, none⟩) M M) (w4.setCell ⟨g, q, none⟩ (.int .u64 Z))) := by
          refine Lib.hid ⟨?_, HB4.out.setCell (p := ⟨g, q, none⟩) (by show w.heap.size + 1 ≤ g; rw [HGG.out]; exact Nat.le_refl _) _⟩
          have hst := (HROW4.out.stored q (.int .u64 Z)).1
          have hcs : (u64s (words (kn (keyL s) i) M)).set q (.int .u64 (Z : Int)) = u64s (words (kn (keyL s) (i + 1)) M) := by
            rw [HKW.out]; simp [u64s, List.map_set]
          rw [hcs] at hst
          exact hst
        go_roundw
        case rel => exact ⟨i + 1, by omega, by go_num, HI2⟩
        case measure => simp [intOf]; omega
      · have i2 : ¬ (i : Int) < (s.size : Int) := by omega
        obtain rfl : i = s.size := by omega
        have hbz : Below (w.alloc (.cells #[.slice none 0 0] 27)).heap.size (w.alloc (.cells #[.slice none 0 0] 27)) wr := by rw [World.size_alloc]; exact HI.out.below
        have c2 := kc hbz w.heap.size 0 (.slice none 0 0) (by simp [go_sem])
        have f2 := kf hbz w.heap.size 0 (by simp) (by simp [go_sem])
        clear hbz
        go_wp2
        have hb2 : Below w.heap.size w (wr.setCell ⟨w.heap.size, 0, none⟩ (.slice (some ⟨g, 0, none⟩) M M)) := bs ((ba (bz w) _).trans (HI.out.below.mono (by omega))) (by simp) _
        refine bodyPost_ret (v := .tuple #[.agg #[.slice (some ⟨g, 0, none⟩) M M], .int .i64 0]) (by simp [results, Try.results16, go_sem, c2]) rfl ⟨_, _, rfl, hb2, .inl ⟨HG.out, rfl, ?_⟩⟩
        refine set_other (hfin.out _ wr wr HI.out ⟨_, _, rfl⟩ (bz wr)) c2 (fun x => by simp) _
  · rw [keyL_at s _ (by omega)] at hz
    have hz' : (((s[s.size - 1]'(by omega)).toNat : Int) == 0) = false := by simp; omega
    obtain ⟨e1, e2, e3⟩ := some_key h0
    go_enter Try.func16, Try.ntmps16
    go_wp2_with (at_make; refine wpList_make_full _ rfl _ _ 25 rfl (w.alloc (.cells #[.slice none 0 0] 27)).heap.size 61 j0 (.int .u64 0) 1 Try.underlying25 hj jz0 jz1 .i64 .i64 M M M rfl rfl rfl rfl (by rw [jz2]; omega) (by unfold maxLen; omega) (Nat.le_refl _) ?_; intro w6 hown6 hgrow6; have HI0 : Hid (FkI w s M 0 (.slice (some ⟨w.heap.size + 1, 0, none⟩) M M) w6) := Lib.hid ⟨by have hm := made_one (.int .u64 0) rfl M; rw [hm] at hown6; have : u64s (words (kn (keyL s) 0) M) = List.replicate M (.int .u64 0) := (by rw [show kn (keyL s) 0 = 0 from rfl, words_zero]; simp [u64s]); rw [this]; rw [World.size_alloc] at hown6; exact hown6, (by have : Below (w.alloc (.cells #[.slice none 0 0] 27)).heap.size (w.alloc (.cells #[.slice none 0 0] 27)) w6 := ⟨hgrow6.os, hgrow6.tape, hgrow6.output, hgrow6.size, fun k hk => hgrow6.block k hk (by simp)⟩; rwa [World.size_alloc] at this)⟩; clear hown6 hgrow6)
    obtain ⟨g, hg⟩ : ∃ g, g = w.heap.size + 1 := ⟨_, rfl⟩
    have HI1 : Hid (FkI w s M 0 (.slice (some ⟨g, 0, none⟩) M M) w6) := by rw [hg]; exact HI0
    have HGG := Lib.hid hg
    rw [← hg]
    clear HI0 hg hm1 hm2
    go_loopw [30] (fun t30 wr => ∃ i : Nat, i ≤ s.size ∧ t30 = .int .i64 i ∧ Hid (FkI w s M i (.slice (some ⟨g, 0, none⟩) M M) wr)) (fun t30 _ => s.size - (intOf t30).toNat)
    case atStart => exact ⟨0, Nat.zero_le _, rfl, HI1⟩
    case round =>
      obtain ⟨i, hi, rfl, HI⟩ := hrel
      clear HI1
      by_cases hlt : i < s.size
      · have i1 : (0 : Int) ≤ (i : Int) := by omega
        have i2 : (i : Int) < (s.size : Int) := by omega
        have hq8 : i / 8 < M := by have := HM.out; omega
        have hkw := kn_words (keyL s) (keyL_lt s) i M hq8
        have hx0 := keyL_at s i hlt
        have hlt64 := wordN_lt (kn (keyL s) i) (i / 8)
        obtain ⟨q, hq⟩ : ∃ q, q = i / 8 := ⟨_, rfl⟩
        obtain ⟨r, hr⟩ : ∃ r, r = i % 8 := ⟨_, rfl⟩
        obtain ⟨x, hx⟩ : ∃ x, x = (s[i]'hlt).toNat := ⟨_, rfl⟩
        have hx256 : x < 256 := by rw [hx]; exact UInt8.toNat_lt _
        have gq := (HI.out.own.cellAt (i / 8) (by omega)).trans (u64s_at (words_at _ M (i / 8) hq8))
        have fq := HI.out.own.frozenAt (i / 8)
        rw [hx0, ← hx, ← hq, ← hr] at hkw
        rw [← hq] at gq fq hlt64
        obtain ⟨Y, hY⟩ : ∃ Y, Y = wordN (kn (keyL s) i) q := ⟨_, rfl⟩
        rw [← hY] at gq hkw hlt64
        obtain ⟨r8, hr8⟩ : ∃ r8, r8 = 8 * r := ⟨_, rfl⟩
        rw [← hr8] at hkw
        have hr8' : r8 ≤ 56 := by omega
        obtain ⟨X, hX⟩ : ∃ X, X = x * 2 ^ r8 := ⟨_, rfl⟩
        have hX64 : X < 2 ^ 64 := by
          rw [hX]
          have h3 : (2 : Nat) ^ r8 ≤ 2 ^ 56 := Nat.pow_le_pow_right (by decide) hr8'
          have h4 : x * 2 ^ r8 ≤ 255 * 2 ^ 56 := Nat.mul_le_mul (by omega) h3
          exact Nat.lt_of_le_of_lt h4 (by decide)
        rw [← hX] at hkw
        obtain ⟨Z, hZ⟩ : ∃ Z, Z = Y ||| X := ⟨_, rfl⟩
        rw [← hZ] at hkw
        have d1 : (i : Int) / 8 = (q : Int) := by omega
        have d2 : (i : Int) % 8 = (r : Int) := by omega
        have d3 : (i : Int).tdiv 8 = (q : Int) := by rw [Int.tdiv_eq_ediv_of_nonneg i1]; exact d1
        have d4 : (i : Int).tmod 8 = (r : Int) := by rw [Int.tmod_eq_emod_of_nonneg i1]; exact d2
        have d5 : IntKind.i64.wrap (q : Int) = (q : Int) := IntWalk.i64_in _ (by omega)
        have d6 : IntKind.i64.wrap (r : Int) = (r : Int) := IntWalk.i64_in _ (by omega)
        have d7 : IntKind.i64.wrap (8 * (r : Int)) = (r8 : Int) := by rw [show 8 * (r : Int) = (r8 : Int) by omega]; exact IntWalk.i64_in _ (by omega)
        have d8 : IntKind.u64.wrap (x : Int) = (x : Int) := wrapu64_in (by omega)
        have d9 : IntKind.u64.wrap ((x : Int) * 2 ^ r8) = (X : Int) := by
          rw [show (x : Int) * 2 ^ r8 = (X : Int) by rw [hX]; simp]
          have := pow64
          exact wrapu64_in (by omega)
        have d10 : bits BinOp.or IntKind.u64 (Y : Int) (X : Int) = (Z : Int) := by rw [hZ]; exact bits_or64 _ _ hlt64 hX64
        have d11 : 8 * (r : Int) = (r8 : Int) := by omega
        have d12 : IntKind.i64.wrap (r8 : Int) = (r8 : Int) := IntWalk.i64_in _ (by omega)
        have hix : (s[i]'hlt).toNat = x := hx.symm
        have q0 : (0 : Int) ≤ (q : Int) := by omega
        have q1 : (q : Int) < (M : Int) := by omega
        have r0 : (0 : Int) ≤ (r8 : Int) := by omega
        have r1 : ¬ (r8 : Int) < 0 := by omega
        have HKW := Lib.hid hkw
        clear hkw hx0 hlt64 hq hr hx hY hr8 hX hX64 hZ hq8 hx256
        go_wp2_with fail
        go_still_tail 15, (by kernel_rfl)
        change wpList _ _ _ _ _ wr.drew
        have HROW4 : Hid (wr.drew.ownsRow (w.heap.size + 1) 61 1 (.slice (some ⟨g, 0, none⟩) M M) M (u64s (words (kn (keyL s) i) M))) := Lib.hid HI.out.own.drew
        have HB4 : Hid (Below (w.heap.size + 1) (w.alloc (.cells #[.slice none 0 0] 27)) wr.drew) := Lib.hid HI.out.below.drew
        have gq' : wr.drew.cell? ⟨g, q, none⟩ = some (.int .u64 Y) := gq
        have fq' : wr.drew.frozen? ⟨g, q, none⟩ = false := fq
        generalize wr.drew = w4 at *
        clear gq fq d1 d2 d3 d4 d5 d6 d7 d8 d9 d10 d11 d12 hix
        go_wp2_with fail
        have HI2 : Hid (FkI w s M (i + 1) (.slice (some ⟨g, 0, none⟩) M M) (w4.setCell ⟨g, q, none⟩ (.int .u64 Z))) := by
          refine Lib.hid ⟨?_, HB4.out.setCell (p := ⟨g, q, none⟩) (by show w.heap.size + 1 ≤ g; rw [HGG.out]; exact Nat.le_refl _) _⟩
          have hst := (HROW4.out.stored q (.int .u64 Z)).1
          have hcs : (u64s (words (kn (keyL s) i) M)).set q (.int .u64 (Z : Int)) = u64s (words (kn (keyL s) (i + 1)) M) := by
            rw [HKW.out]; simp [u64s, List.map_set]
          rw [hcs] at hst
          exact hst
        go_roundw
        case rel => exact ⟨i + 1, by omega, by go_num, HI2⟩
        case measure => simp [intOf]; omega
      · have i2 : ¬ (i : Int) < (s.size : Int) := by omega
        obtain rfl : i = s.size := by omega
        have hbz : Below (w.alloc (.cells #[.slice none 0 0] 27)).heap.size (w.alloc (.cells #[.slice none 0 0] 27)) wr := by rw [World.size_alloc]; exact HI.out.below
        have c2 := kc hbz w.heap.size 0 (.slice none 0 0) (by simp [go_sem])
        have f2 := kf hbz w.heap.size 0 (by simp) (by simp [go_sem])
        clear hbz
        go_wp2
        have hb2 : Below w.heap.size w (wr.setCell ⟨w.heap.size, 0, none⟩ (.slice (some ⟨g, 0, none⟩) M M)) := bs ((ba (bz w) _).trans (HI.out.below.mono (by omega))) (by simp) _
        refine bodyPost_ret (v := .tuple #[.agg #[.slice (some ⟨g, 0, none⟩) M M], .int .i64 0]) (by simp [results, Try.results16, go_sem, c2]) rfl ⟨_, _, rfl, hb2, .inl ⟨HG.out, rfl, ?_⟩⟩
        refine set_other (hfin.out _ wr wr HI.out ⟨_, _, rfl⟩ (bz wr)) c2 (fun x => by simp) _
theorem fromkey_any (s : ByteArray) (w : World) : Calls Try.prog 16 #[.string s] w (FkPost s w) := by
  by_cases h8 : 8192 < s.size
  · exact fromkey_bad1 s w h8
  · by_cases h0 : s.size = 0
    · exact fromkey_loop s w ⟨by omega, fun h => absurd h0 h⟩ (.inl h0)
    · by_cases hz : ((keyL s)[s.size - 1]?).getD 0 = 0
      · exact fromkey_bad2 s w (by omega) (by omega) hz
      · exact fromkey_loop s w ⟨by omega, fun _ => hz⟩ (.inr ⟨by omega, hz⟩)
end Go.Proofs.Ytfjccgihdnemkaa
