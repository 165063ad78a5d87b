/- Something that is read by both readers (one, f12). Printed by gen_one.py. -/
import Derived.Test.YtehnkljaoaehjaaLr
namespace Go.Proofs.Ytehnkljaoaehjaa
open Go.RowKit Go.Um
set_option linter.unusedSimpArgs false
set_option linter.unusedVariables false
set_option maxHeartbeats 4000000
set_option maxRecDepth 100000

/-- where a reader stands behind something that is asked -/
def askS (s : ByteArray) (r : Rs) (kind n : Int) : Rs :=
  if Int.tmod kind 5 = 0 then r.next s 1 else if Int.tmod kind 5 = 1 then r.next s 2 else if Int.tmod kind 5 = 2 then r.next s 4 else if Int.tmod kind 5 = 3 then r.next s n.toNat else listS s r
def OnePost (p q : Nat) (s : ByteArray) (r : Rs) (w : World) (e : Ending) (w' : World) : Prop :=
  e = .returned (.bool true) ∧ RdAt w' p s r ∧ RfAt w' q s r ∧ Kept (fun i => i = p ∨ i = q) w w'
theorem kp {p q : Nat} {w w' : World} (h : Kept (fun i => i = p) w w') : Kept (fun i => i = p ∨ i = q) w w' := h.mono (fun _ _ e => .inl e)
theorem kq {p q : Nat} {w w' : World} (h : Kept (fun i => i = q) w w') : Kept (fun i => i = p ∨ i = q) w w' := h.mono (fun _ _ e => .inr e)
theorem kt {p q : Nat} {a b c : World} (h : Kept (fun i => i = p ∨ i = q) a b) (k : Kept (fun i => i = p ∨ i = q) b c) : Kept (fun i => i = p ∨ i = q) a c := h.trans k (fun _ _ e => e)

theorem one_0 (p q : Nat) (s : ByteArray) (r : Rs) (kind n : Int) (w : World) (hp : RdAt w p s r) (hq : RfAt w q s r) (hpq : p ≠ q) (hs : s.size ≤ 1000000) (hK : Int.tmod kind 5 = 0) : Calls Try.prog 12 #[.pointer (some ⟨p, 0, none⟩), .pointer (some ⟨q, 0, none⟩), .agg #[.int .u8 kind, .int .i64 n]] w (OnePost p q s (askS s r kind n) w) := by
  have hsk : askS s r kind n = r.next s 1 := by unfold askS; rw [hK]; simp
  rw [hsk]
  have HP := Lib.hid (hp.below (ba (bz w) (.cells #[.int .u8 kind, .int .i64 n] 48)))
  have HQ := Lib.hid (hq.below (ba (bz w) (.cells #[.int .u8 kind, .int .i64 n] 48)))
  have hpl := hp.lt
  have hql := hq.lt
  clear hsk hp hq
  go_enter Try.func12, Try.ntmps12
  go_wp2_with fail
  have hlt := Rs.num_lt s r 1
  refine (ru8_any p s r _ HP.out hs).mono ?_
  rintro e w1 ⟨rfl, hr1, hk1⟩
  have HP1 := Lib.hid hr1
  have HQ1 := Lib.hid (HQ.out.kept hk1 (fun e => hpq e.symm))
  have HN := Lib.hid (fun W hW => refnum_any q s r 1 W hW hs (by omega))
  unfold RefNumPost at HN
  have HK1 := Lib.hid (kt (q := q) (((Kept.refl _ w).alloc (.cells #[.int .u8 kind, .int .i64 n] 48))) (kp (q := q) hk1))
  obtain ⟨X, hX⟩ : ∃ X, X = numB (r.got s 1) := ⟨_, rfl⟩
  rw [← hX] at HN hlt ⊢
  have e1 : (X : Int) % 4294967296 = (X : Int) := by omega
  clear hr1 hk1 hX
  go_wp2_with fail
  refine (HN.out _ HQ1.out).mono ?_
  rintro e w2 ⟨rfl, hr2, hk2⟩
  have HP2 := Lib.hid (HP1.out.kept hk2 (fun e => hpq e))
  have HQ2 := Lib.hid hr2
  have HK2 := Lib.hid (kt HK1.out (kq hk2))
  clear hr2 hk2
  go_wp2
  go_ret
  exact ⟨by simp, HP2.out, HQ2.out, HK2.out⟩

theorem one_1 (p q : Nat) (s : ByteArray) (r : Rs) (kind n : Int) (w : World) (hp : RdAt w p s r) (hq : RfAt w q s r) (hpq : p ≠ q) (hs : s.size ≤ 1000000) (hK : Int.tmod kind 5 = 1) : Calls Try.prog 12 #[.pointer (some ⟨p, 0, none⟩), .pointer (some ⟨q, 0, none⟩), .agg #[.int .u8 kind, .int .i64 n]] w (OnePost p q s (askS s r kind n) w) := by
  have hsk : askS s r kind n = r.next s 2 := by unfold askS; rw [hK]; simp
  rw [hsk]
  have HP := Lib.hid (hp.below (ba (bz w) (.cells #[.int .u8 kind, .int .i64 n] 48)))
  have HQ := Lib.hid (hq.below (ba (bz w) (.cells #[.int .u8 kind, .int .i64 n] 48)))
  have hpl := hp.lt
  have hql := hq.lt
  clear hsk hp hq
  go_enter Try.func12, Try.ntmps12
  go_wp2_with fail
  have hlt := Rs.num_lt s r 2
  refine (ru16_any p s r _ HP.out hs).mono ?_
  rintro e w1 ⟨rfl, hr1, hk1⟩
  have HP1 := Lib.hid hr1
  have HQ1 := Lib.hid (HQ.out.kept hk1 (fun e => hpq e.symm))
  have HN := Lib.hid (fun W hW => refnum_any q s r 2 W hW hs (by omega))
  unfold RefNumPost at HN
  have HK1 := Lib.hid (kt (q := q) (((Kept.refl _ w).alloc (.cells #[.int .u8 kind, .int .i64 n] 48))) (kp (q := q) hk1))
  obtain ⟨X, hX⟩ : ∃ X, X = numB (r.got s 2) := ⟨_, rfl⟩
  rw [← hX] at HN hlt ⊢
  have e1 : (X : Int) % 4294967296 = (X : Int) := by omega
  clear hr1 hk1 hX
  go_wp2_with fail
  refine (HN.out _ HQ1.out).mono ?_
  rintro e w2 ⟨rfl, hr2, hk2⟩
  have HP2 := Lib.hid (HP1.out.kept hk2 (fun e => hpq e))
  have HQ2 := Lib.hid hr2
  have HK2 := Lib.hid (kt HK1.out (kq hk2))
  clear hr2 hk2
  go_wp2
  go_ret
  exact ⟨by simp, HP2.out, HQ2.out, HK2.out⟩

theorem one_2 (p q : Nat) (s : ByteArray) (r : Rs) (kind n : Int) (w : World) (hp : RdAt w p s r) (hq : RfAt w q s r) (hpq : p ≠ q) (hs : s.size ≤ 1000000) (hK : Int.tmod kind 5 = 2) : Calls Try.prog 12 #[.pointer (some ⟨p, 0, none⟩), .pointer (some ⟨q, 0, none⟩), .agg #[.int .u8 kind, .int .i64 n]] w (OnePost p q s (askS s r kind n) w) := by
  have hsk : askS s r kind n = r.next s 4 := by unfold askS; rw [hK]; simp
  rw [hsk]
  have HP := Lib.hid (hp.below (ba (bz w) (.cells #[.int .u8 kind, .int .i64 n] 48)))
  have HQ := Lib.hid (hq.below (ba (bz w) (.cells #[.int .u8 kind, .int .i64 n] 48)))
  have hpl := hp.lt
  have hql := hq.lt
  clear hsk hp hq
  go_enter Try.func12, Try.ntmps12
  go_wp2_with fail
  have hlt := Rs.num_lt s r 4
  refine (ru32_any p s r _ HP.out hs).mono ?_
  rintro e w1 ⟨rfl, hr1, hk1⟩
  have HP1 := Lib.hid hr1
  have HQ1 := Lib.hid (HQ.out.kept hk1 (fun e => hpq e.symm))
  have HN := Lib.hid (fun W hW => refnum_any q s r 4 W hW hs (by omega))
  unfold RefNumPost at HN
  have HK1 := Lib.hid (kt (q := q) (((Kept.refl _ w).alloc (.cells #[.int .u8 kind, .int .i64 n] 48))) (kp (q := q) hk1))
  obtain ⟨X, hX⟩ : ∃ X, X = numB (r.got s 4) := ⟨_, rfl⟩
  rw [← hX] at HN hlt ⊢
  have e1 : (X : Int) % 4294967296 = (X : Int) := by omega
  clear hr1 hk1 hX
  go_wp2_with fail
  refine (HN.out _ HQ1.out).mono ?_
  rintro e w2 ⟨rfl, hr2, hk2⟩
  have HP2 := Lib.hid (HP1.out.kept hk2 (fun e => hpq e))
  have HQ2 := Lib.hid hr2
  have HK2 := Lib.hid (kt HK1.out (kq hk2))
  clear hr2 hk2
  go_wp2
  go_ret
  exact ⟨by simp, HP2.out, HQ2.out, HK2.out⟩

theorem one_3 (p q : Nat) (s : ByteArray) (r : Rs) (kind n : Int) (w : World) (hp : RdAt w p s r) (hq : RfAt w q s r) (hpq : p ≠ q) (hs : s.size ≤ 1000000) (hK : Int.tmod kind 5 = 3) : Calls Try.prog 12 #[.pointer (some ⟨p, 0, none⟩), .pointer (some ⟨q, 0, none⟩), .agg #[.int .u8 kind, .int .i64 n]] w (OnePost p q s (askS s r kind n) w) := by
  have hsk : askS s r kind n = r.next s n.toNat := by unfold askS; rw [hK]; simp
  rw [hsk]
  have HP := Lib.hid (hp.below (ba (bz w) (.cells #[.int .u8 kind, .int .i64 n] 48)))
  have HQ := Lib.hid (hq.below (ba (bz w) (.cells #[.int .u8 kind, .int .i64 n] 48)))
  have hpl := hp.lt
  have hql := hq.lt
  clear hsk hp hq
  go_enter Try.func12, Try.ntmps12
  go_wp2_with fail
  have x1 : (w.alloc (.cells #[.int .u8 kind, .int .i64 n] 48)).cell? ⟨w.heap.size, 1, none⟩ = some (.int .i64 n) := by simp [go_sem]
  refine (raw_int p s r n _ HP.out hs).mono ?_
  rintro e w1 ⟨rfl, hr1, hk1⟩
  have HP1 := Lib.hid hr1
  have HQ1 := Lib.hid (HQ.out.kept hk1 (fun e => hpq e.symm))
  have HN := Lib.hid (fun W hW => refraw_int q s r n W hW hs)
  unfold RefRawPost at HN
  have HK1 := Lib.hid (kt (q := q) (((Kept.refl _ w).alloc (.cells #[.int .u8 kind, .int .i64 n] 48))) (kp (q := q) hk1))
  have x2 := hk1.cell x1 (by omega)
  obtain ⟨X, hX⟩ : ∃ X, X = r.got s n.toNat := ⟨_, rfl⟩
  rw [← hX] at HN ⊢
  clear hr1 hk1 hX x1
  go_wp2_with fail
  refine (HN.out _ HQ1.out).mono ?_
  rintro e w2 ⟨rfl, hr2, hk2⟩
  have HP2 := Lib.hid (HP1.out.kept hk2 (fun e => hpq e))
  have HQ2 := Lib.hid hr2
  have HK2 := Lib.hid (kt HK1.out (kq hk2))
  clear hr2 hk2
  go_wp2
  go_ret
  exact ⟨by simp, HP2.out, HQ2.out, HK2.out⟩

theorem one_4 (p q : Nat) (s : ByteArray) (r : Rs) (kind n : Int) (w : World) (hp : RdAt w p s r) (hq : RfAt w q s r) (hpq : p ≠ q) (hs : s.size ≤ 1000000) (hK : Int.tmod kind 5 = 4) : Calls Try.prog 12 #[.pointer (some ⟨p, 0, none⟩), .pointer (some ⟨q, 0, none⟩), .agg #[.int .u8 kind, .int .i64 n]] w (OnePost p q s (askS s r kind n) w) := by
  have hsk : askS s r kind n = listS s r := by unfold askS; rw [hK]; simp
  rw [hsk]
  have HP := Lib.hid (hp.below (ba (bz w) (.cells #[.int .u8 kind, .int .i64 n] 48)))
  have HQ := Lib.hid (hq.below (ba (bz w) (.cells #[.int .u8 kind, .int .i64 n] 48)))
  have hpl := hp.lt
  have hql := hq.lt
  clear hsk hp hq
  go_enter Try.func12, Try.ntmps12
  go_wp2_with fail
  have hll : (listV s r).length ≤ 100000 := by
    unfold listV
    split
    · rw [vals_len]; have := many_lt s r.k; omega
    · simp
  refine (list_any p s r _ HP.out hs).mono ?_
  rintro e w1 ⟨ao, cap, b, o, rfl, hsl, hr1, hk1, hbb⟩
  have HP1 := Lib.hid hr1
  have HQ1 := Lib.hid (HQ.out.kept hk1 (fun e => hpq e.symm))
  have HN := Lib.hid (fun W hW => reflist_any q s r W hW hs)
  unfold ListPost at HN
  have HK1 := Lib.hid (kt (q := q) (((Kept.refl _ w).alloc (.cells #[.int .u8 kind, .int .i64 n] 48))) (kp (q := q) hk1))
  have hbq : Hid (0 < (listV s r).length → b ≠ q) := fun hx e => by have := hbb hx; simp at this; omega
  have HSL := Lib.hid hsl
  obtain ⟨X, hX⟩ : ∃ X, X = listV s r := ⟨_, rfl⟩
  rw [← hX] at HN hll hbq HSL ⊢
  clear hr1 hk1 hX hsl hbb
  go_wp2_with fail
  refine (HN.out _ HQ1.out).mono ?_
  rintro e w2 ⟨ao2, cap2, b2, o2, rfl, hsl2, hr2, hk2, _⟩
  have HP2 := Lib.hid (HP1.out.kept hk2 (fun e => hpq e))
  have HQ2 := Lib.hid hr2
  have HK2 := Lib.hid (kt HK1.out (kq hk2))
  have HS2 := Lib.hid hsl2
  have HS1 : Hid (SlAt w2 1 X.length (X.map (Value.int .u16)) ao cap b o) := Lib.hid ⟨HSL.out.len, HSL.out.le, HSL.out.max, HSL.out.addr, fun hq => Nat.lt_of_lt_of_le (HSL.out.lt hq) hk2.size, fun j u hu => hk2.cell (HSL.out.cell j u hu) (hbq.out (by have := (List.getElem?_eq_some_iff.1 hu).1; simp at this; omega))⟩
  clear hr2 hk2 hsl2
  go_wp2_with fail
  refine (samel_any X X.length rfl ao ao2 cap b o cap2 b2 o2 _ HS1.out HS2.out hll).mono ?_
  rintro e w3 ⟨rfl, hb3⟩
  have HP3 := Lib.hid (HP2.out.below hb3)
  have HQ3 := Lib.hid (HQ2.out.below hb3)
  have HK3 := Lib.hid (HK2.out.trans (Kept.of_below hb3) (fun i hi h => absurd h (by have := HK2.out.size; omega)))
  go_wp2
  go_ret
  exact ⟨by simp, HP3.out, HQ3.out, HK3.out⟩

theorem one_any (p q : Nat) (s : ByteArray) (r : Rs) (kind n : Int) (w : World) (hp : RdAt w p s r) (hq : RfAt w q s r) (hpq : p ≠ q) (hs : s.size ≤ 1000000) (hk : 0 ≤ kind) : Calls Try.prog 12 #[.pointer (some ⟨p, 0, none⟩), .pointer (some ⟨q, 0, none⟩), .agg #[.int .u8 kind, .int .i64 n]] w (OnePost p q s (askS s r kind n) w) := by
  have h : Int.tmod kind 5 = 0 ∨ Int.tmod kind 5 = 1 ∨ Int.tmod kind 5 = 2 ∨ Int.tmod kind 5 = 3 ∨ Int.tmod kind 5 = 4 := by
    rw [Int.tmod_eq_emod_of_nonneg hk]; omega
  rcases h with h | h | h | h | h
  · exact one_0 p q s r kind n w hp hq hpq hs h
  · exact one_1 p q s r kind n w hp hq hpq hs h
  · exact one_2 p q s r kind n w hp hq hpq hs h
  · exact one_3 p q s r kind n w hp hq hpq hs h
  · exact one_4 p q s r kind n w hp hq hpq hs h
end Go.Proofs.Ytehnkljaoaehjaa
