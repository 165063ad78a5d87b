/- The cutter's Next. -/
import Derived.Test.YtkjcpdogibbahaaLook
import Derived.RegionTactic
import Derived.BigRegion
namespace Go.Proofs.Ytkjcpdogibbahaa
open Go.RowKit Go.Um
set_option maxHeartbeats 1000000

theorem CutAt.below {w w' : World} {p : Nat} {made bad : Bool} {rest : ByteArray} {at' : Int} (h : CutAt w p made rest at' bad) (hb : Below w.heap.size w w') : CutAt w' p made rest at' bad := by
  have hp := World.block_lt_of_cell? w _ h.c0
  exact ⟨kc hb _ _ _ h.c0, kc hb _ _ _ h.c1, kc hb _ _ _ h.c2, kc hb _ _ _ h.c3, kf hb _ _ hp h.f0, kf hb _ _ hp h.f1, kf hb _ _ hp h.f2, kf hb _ _ hp h.f3⟩
theorem CutAt.kept {S : Nat → Prop} {w w' : World} {p : Nat} {made bad : Bool} {rest : ByteArray} {at' : Int} (h : CutAt w p made rest at' bad) (hb : Kept S w w') (hp : ¬ S p) : CutAt w' p made rest at' bad := by
  have hl := World.block_lt_of_cell? w _ h.c0
  exact ⟨hb.cell h.c0 hp, hb.cell h.c1 hp, hb.cell h.c2 hp, hb.cell h.c3 hp, (hb.frozen hl hp).trans h.f0, (hb.frozen hl hp).trans h.f1, (hb.frozen hl hp).trans h.f2, (hb.frozen hl hp).trans h.f3⟩

/-- what a stopped Next tells of a state -/
def stopSt (bad : Bool) (st : Int) : Int := if bad || st == 2 then 2 else st

theorem next_stop (p : Nat) (bad : Bool) (rest : ByteArray) (at' : Int) (w : World) (h : CutAt w p true rest at' bad) (hm : rest.size ≤ 1000000) (hst : bad = true ∨ (lookF rest.data.toList).1 ≠ 1) :
    Calls Try.prog 13 #[.pointer (some ⟨p, 0, none⟩)] w fun e w' => e = .returned (.tuple #[.string ⟨#[]⟩, .int .i64 at', .int .i64 (stopSt bad (lookF rest.data.toList).1)]) ∧
      CutAt w' p true rest at' (bad || (lookF rest.data.toList).1 == 2) ∧ Kept (fun k => k = p) w w' := by
  have c2 := h.c2
  have hlk := fun W hb => look_any p true bad rest at' W (h.below hb) hm
  obtain ⟨st, hst'⟩ : ∃ st, st = (lookF rest.data.toList).1 := ⟨_, rfl⟩
  obtain ⟨sz, hsz'⟩ : ∃ sz, sz = (lookF rest.data.toList).2 := ⟨_, rfl⟩
  rw [← hst', ← hsz'] at hlk
  rw [← hst'] at hst ⊢
  have Hlk := Lib.hid hlk
  have Hh := Lib.hid h
  clear hst' hsz' hlk
  cases bad with
  | true =>
    have Hst := Lib.hid hst
    clear hst
    go_enter Try.func13, Try.ntmps13
    go_wp2_with fail
    refine (is_any p true true rest at' _ h).mono ?_
    rintro e w1 ⟨rfl, rfl⟩
    go_wp2_with fail
    refine (Hlk.out w (bz w)).mono ?_
    rintro e w1 ⟨rfl, hb1⟩
    have h1 := Hh.out.below hb1
    have d0 := h1.c0
    have d1 := h1.c1
    have d2 := h1.c2
    have d3 := h1.c3
    have f0 := h1.f0
    have f1 := h1.f1
    have f2 := h1.f2
    have f3 := h1.f3
    clear h1
    go_wp2_with fail
    go_ret3
    refine ⟨by simp [stopSt], ⟨by simp [go_sem, d0], by simp [go_sem, d1], by simp [go_sem, d2], by simp [go_sem, d3], by simp [go_sem, f0], by simp [go_sem, f1], by simp [go_sem, f2], by simp [go_sem, f3]⟩, ?_⟩
    exact Kept.setCell (S := fun k => k = p) ((Kept.of_below hb1).mono fun i hi h => absurd h (by omega)) (fun _ => rfl) _
  | false =>
    have hne : st ≠ 1 := hst.resolve_left (by decide)
    have t1 : (st != 1) = true := by rw [bne_iff_ne]; exact hne
    have Hst := Lib.hid hne
    clear hst hne
    cases hs2 : (st == 2)
    all_goals
      go_enter Try.func13, Try.ntmps13
      go_wp2_with fail
      refine (is_any p true false rest at' _ h).mono ?_
      rintro e w1 ⟨rfl, rfl⟩
      go_wp2_with fail
      refine (Hlk.out w (bz w)).mono ?_
      rintro e w1 ⟨rfl, hb1⟩
      have h1 := Hh.out.below hb1
      have d0 := h1.c0
      have d1 := h1.c1
      have d2 := h1.c2
      have d3 := h1.c3
      have f0 := h1.f0
      have f1 := h1.f1
      have f2 := h1.f2
      have f3 := h1.f3
      clear h1
      go_wp2_with fail
      go_ret3
      refine ⟨by simp [stopSt, hs2], ⟨by simp [go_sem, d0], by simp [go_sem, d1], by simp [go_sem, d2], by simp [go_sem, d3], by simp [go_sem, f0], by simp [go_sem, f1], by simp [go_sem, f2], by simp [go_sem, f3]⟩, ?_⟩
      exact Kept.setCell (S := fun k => k = p) ((Kept.of_below hb1).mono fun i hi h => absurd h (by omega)) (fun _ => rfl) _

theorem next_cut (p : Nat) (rest : ByteArray) (at' : Int) (w : World) (h : CutAt w p true rest at' false) (hm : rest.size ≤ 1000000) (ha : 0 ≤ at' ∧ at' ≤ 1000000) (hst : (lookF rest.data.toList).1 = 1) :
    Calls Try.prog 13 #[.pointer (some ⟨p, 0, none⟩)] w fun e w' => e = .returned (.tuple #[.string (rest.extract 4 (4 + headN rest.data.toList)), .int .i64 at', .int .i64 1]) ∧
      CutAt w' p true (rest.extract (headN rest.data.toList + 6) rest.size) (at' + ((headN rest.data.toList : Nat) : Int) + 6) false ∧ Kept (fun k => k = p) w w' := by
  have c2 := h.c2
  have hlk := fun W hb => look_any p true false rest at' W (h.below hb) hm
  obtain ⟨st, hst'⟩ : ∃ st, st = (lookF rest.data.toList).1 := ⟨_, rfl⟩
  obtain ⟨n, hn'⟩ : ∃ n, n = headN rest.data.toList := ⟨_, rfl⟩
  have hsz : (lookF rest.data.toList).2 = (n : Int) + 6 ∧ n + 6 ≤ rest.size ∧ 0 < n := by
    have h2 := num_bd rest.data.toList
    unfold lookF at hst
    split at hst
    · cases hst
    · split at hst
      · cases hst
      · split at hst
        · cases hst
        · split at hst
          · rename_i h1 h3 h4 h5
            have h6 : 0 < num rest.data.toList := by
              cases hk : headOk rest.data.toList with
              | false => exact absurd hk h3
              | true => unfold headOk at hk; simp at hk; omega
            have h8 : rest.data.toList.length = rest.size := len_data rest
            unfold lookF
            rw [if_neg h1, if_neg h3, if_neg h4, if_pos h5]
            have h7 : (n : Int) = num rest.data.toList := by rw [hn']; unfold headN; omega
            rw [← hn'] at h4
            refine ⟨by rw [← h7], by omega, by omega⟩
          · cases hst
  rw [hst, hsz.1] at hlk
  rw [← hn']
  obtain ⟨_, hs1, hs2⟩ := hsz
  have Hlk := Lib.hid hlk
  have Hh := Lib.hid h
  have v0 : (6 : Int) ≤ (n : Int) + 6 := by omega
  have v1 : (4 : Int) ≤ (n : Int) + 6 - 2 := by omega
  have v2 : (n : Int) + 6 - 2 ≤ (rest.size : Int) := by omega
  have v3 : (n : Int) + 6 ≤ (rest.size : Int) := by omega
  have v4 : (0 : Int) ≤ (n : Int) + 6 := by omega
  have v5 : ((n : Int) + 6 - 2).toNat = 4 + n := by omega
  have v6 : ((n : Int) + 6).toNat = n + 6 := by omega
  have v7 : (rest.size : Int) ≤ 1000000 := by omega
  obtain ⟨a0, a1⟩ := ha
  clear hst' hn' hlk
  go_enter Try.func13, Try.ntmps13
  go_wp2_with fail
  refine (is_any p true false rest at' _ h).mono ?_
  rintro e w1 ⟨rfl, rfl⟩
  go_wp2_with fail
  refine (Hlk.out w (bz w)).mono ?_
  rintro e w1 ⟨rfl, hb1⟩
  have h1 := Hh.out.below hb1
  have d0 := h1.c0
  have d1 := h1.c1
  have d2 := h1.c2
  have d3 := h1.c3
  have f0 := h1.f0
  have f1 := h1.f1
  have f2 := h1.f2
  have f3 := h1.f3
  clear h1
  go_wp2_with fail
  go_region
  go_wp2_with fail
  go_ret3
  have e1 : at' + ((n : Int) + 6) = at' + (n : Int) + 6 := by omega
  refine ⟨rfl, ⟨by simp [go_sem, d0], by simp [go_sem, d1], by simp [go_sem, d2, e1], by simp [go_sem, d3], by simp [go_sem, f0], by simp [go_sem, f1], by simp [go_sem, f2], by simp [go_sem, f3]⟩, ?_⟩
  exact (Kept.setCell (S := fun k => k = p) (Kept.setCell (S := fun k => k = p) ((Kept.of_below hb1).mono fun i hi h => absurd h (by omega)) (fun _ => rfl) _) (fun _ => rfl) _).drew

theorem next_not (p : Nat) (bad : Bool) (rest : ByteArray) (at' : Int) (w : World) (h : CutAt w p false rest at' bad) :
    Calls Try.prog 13 #[.pointer (some ⟨p, 0, none⟩)] w fun e w' => e = .returned (.tuple #[.string ⟨#[]⟩, .int .i64 0, .int .i64 2]) ∧ w = w' := by
  go_enter Try.func13, Try.ntmps13
  go_wp2_with fail
  refine (is_any p false bad rest at' _ h).mono ?_
  rintro e w1 ⟨rfl, rfl⟩
  go_wp2
  go_ret3
  exact ⟨rfl, rfl⟩
theorem next_nil (w : World) : Calls Try.prog 13 #[.pointer none] w fun e w' => e = .returned (.tuple #[.string ⟨#[]⟩, .int .i64 0, .int .i64 2]) ∧ w = w' := by
  go_enter Try.func13, Try.ntmps13
  go_wp2_with fail
  refine (is_nil _).mono ?_
  rintro e w1 ⟨rfl, rfl⟩
  go_wp2
  go_ret3
  exact ⟨rfl, rfl⟩

/-! ### a cutter, and what it tells -/
/-- a cutter: what is left, where it begins, was it bad? -/
structure Cut where
  rest : List UInt8
  pos : Int
  bad : Bool
/-- what Next tells: payload, place, state -/
def Cut.tell (c : Cut) : List UInt8 × Int × Int :=
  if c.bad = false ∧ (lookF c.rest).1 = 1 then ((c.rest.drop 4).take (headN c.rest), c.pos, 1) else ([], c.pos, stopSt c.bad (lookF c.rest).1)
/-- the cutter behind it -/
def Cut.next (c : Cut) : Cut :=
  if c.bad = false ∧ (lookF c.rest).1 = 1 then ⟨c.rest.drop (headN c.rest + 6), c.pos + headN c.rest + 6, false⟩ else ⟨c.rest, c.pos, c.bad || (lookF c.rest).1 == 2⟩
def Cut.feed (c : Cut) (s : List UInt8) : Cut := { c with rest := c.rest ++ s }
/-- the cutter lies at block p -/
def Cut.At (c : Cut) (w : World) (p : Nat) : Prop := ∃ s : ByteArray, s.data.toList = c.rest ∧ CutAt w p true s c.pos c.bad
def strV (l : List UInt8) : Value := .string ⟨l.toArray⟩
theorem strV_eq (s : ByteArray) : Value.string s = strV s.data.toList := rfl

theorem cut_next (c : Cut) (p : Nat) (w : World) (h : c.At w p) (hm : c.rest.length ≤ 1000000) (ha : 0 ≤ c.pos ∧ c.pos ≤ 1000000) :
    Calls Try.prog 13 #[.pointer (some ⟨p, 0, none⟩)] w fun e w' => e = .returned (.tuple #[strV c.tell.1, .int .i64 c.tell.2.1, .int .i64 c.tell.2.2]) ∧ c.next.At w' p ∧ Kept (fun k => k = p) w w' := by
  obtain ⟨s, hs, h⟩ := h
  have hsz : s.size = c.rest.length := by rw [← len_data, hs]
  by_cases hc : c.bad = false ∧ (lookF c.rest).1 = 1
  · have e1 : c.tell = ((c.rest.drop 4).take (headN c.rest), c.pos, 1) := if_pos hc
    have e2 : c.next = ⟨c.rest.drop (headN c.rest + 6), c.pos + headN c.rest + 6, false⟩ := if_pos hc
    rw [hc.1] at h
    refine (next_cut p s c.pos w h (by omega) ha (by rw [hs]; exact hc.2)).mono fun e w' ⟨h1, h2, h3⟩ => ⟨?_, ?_, h3⟩
    · rw [h1, e1, strV_eq, ext2_data, hs, Nat.add_sub_cancel_left]
    · rw [e2]; rw [hs] at h2; exact ⟨_, by rw [ext_data, hs], h2⟩
  · have e1 : c.tell = ([], c.pos, stopSt c.bad (lookF c.rest).1) := if_neg hc
    have e2 : c.next = ⟨c.rest, c.pos, c.bad || (lookF c.rest).1 == 2⟩ := if_neg hc
    have hst : c.bad = true ∨ (lookF s.data.toList).1 ≠ 1 := by
      rw [hs]
      cases hb : c.bad with
      | true => exact .inl rfl
      | false => exact .inr fun h => hc ⟨hb, h⟩
    refine (next_stop p c.bad s c.pos w h (by omega) hst).mono fun e w' ⟨h1, h2, h3⟩ => ⟨?_, ?_, h3⟩
    · rw [h1, e1, hs]; rfl
    · rw [e2]; rw [hs] at h2; exact ⟨s, hs, h2⟩
theorem app_data (a b : ByteArray) : (a ++ b).data.toList = a.data.toList ++ b.data.toList := by simp [ByteArray.data_append]
theorem cut_feed (c : Cut) (l : List UInt8) (p : Nat) (w : World) (h : c.At w p) (hm : c.rest.length ≤ 1000000) (hl : l.length ≤ 1000000) :
    Calls Try.prog 12 #[.pointer (some ⟨p, 0, none⟩), strV l] w fun e w' => e = .returned (.tuple #[]) ∧ (c.feed l).At w' p ∧ Kept (fun k => k = p) w w' := by
  obtain ⟨s, hs, h⟩ := h
  have hsz : s.size = c.rest.length := by rw [← len_data, hs]
  refine (feed_any p c.bad s ⟨l.toArray⟩ c.pos w h (by omega) (by rw [← len_data]; simpa using hl)).mono fun e w' ⟨h1, h2, h3⟩ => ⟨h1, ⟨_, ?_, h2⟩, h3⟩
  rw [app_data, hs]; simp [Cut.feed]
theorem cut_new (w : World) : Calls Try.prog 11 #[] w fun e w' => e = .returned (.pointer (some ⟨w.heap.size, 0, none⟩)) ∧ (Cut.mk [] 0 false).At w' w.heap.size ∧ Below w.heap.size w w' ∧ w'.heap.size = w.heap.size + 1 :=
  (new_any w).mono fun _ _ ⟨h1, h2, h3⟩ => ⟨h1, ⟨⟨#[]⟩, rfl, h2⟩, h3⟩
theorem cut_fed_q (c : Cut) (p : Nat) (w : World) (h : c.At w p) (hm : c.rest.length ≤ 1000000) (ha : 0 ≤ c.pos ∧ c.pos ≤ 1000000) :
    Calls Try.prog 15 #[.pointer (some ⟨p, 0, none⟩)] w fun e w' => e = .returned (.int .i64 (c.pos + c.rest.length)) ∧ ∃ n, w' = w.drewN n := by
  obtain ⟨s, hs, h⟩ := h
  have hsz : s.size = c.rest.length := by rw [← len_data, hs]
  rw [← hsz]
  exact fed_q p c.bad s c.pos w h (by omega) ha
theorem cut_fed (c : Cut) (p : Nat) (w : World) (h : c.At w p) (hm : c.rest.length ≤ 1000000) (ha : 0 ≤ c.pos ∧ c.pos ≤ 1000000) :
    Calls Try.prog 15 #[.pointer (some ⟨p, 0, none⟩)] w fun e w' => e = .returned (.int .i64 (c.pos + c.rest.length)) ∧ Below w.heap.size w w' :=
  (cut_fed_q c p w h hm ha).mono fun _ _ ⟨h1, n, h2⟩ => ⟨h1, by rw [h2]; exact below_drewN (bz w) n⟩
theorem Cut.At.kept {S : Nat → Prop} {c : Cut} {w w' : World} {p : Nat} (h : c.At w p) (hb : Kept S w w') (hp : ¬ S p) : c.At w' p := by
  obtain ⟨s, hs, h⟩ := h
  exact ⟨s, hs, h.kept hb hp⟩
theorem Cut.At.below {c : Cut} {w w' : World} {p : Nat} (h : c.At w p) (hb : Below w.heap.size w w') : c.At w' p := by
  obtain ⟨s, hs, h⟩ := h
  exact ⟨s, hs, h.below hb⟩
theorem Cut.At.lt {c : Cut} {w : World} {p : Nat} (h : c.At w p) : p < w.heap.size := by
  obtain ⟨s, hs, h⟩ := h
  exact World.block_lt_of_cell? w _ h.c0

/-- is this what a cutter tells next? -/
def Cut.tells (c : Cut) (l : List UInt8) (pos st : Int) : Bool := c.tell.1 == l && c.tell.2.1 == pos && c.tell.2.2 == st
theorem tells_any (c : Cut) (p : Nat) (l : List UInt8) (pos st : Int) (w : World) (h : c.At w p) (hm : c.rest.length ≤ 1000000) (ha : 0 ≤ c.pos ∧ c.pos ≤ 1000000) :
    Calls Try.prog 16 #[.pointer (some ⟨p, 0, none⟩), strV l, .int .i64 pos, .int .i64 st] w fun e w' => e = .returned (.bool (c.tells l pos st)) ∧ c.next.At w' p ∧ Kept (fun k => k = p) w w' := by
  have hn := cut_next c p w h hm ha
  unfold strV at hn ⊢
  have Hn := Lib.hid hn
  clear hn h
  go_enter Try.func16, Try.ntmps16
  go_wp2_with fail
  refine Hn.out.mono ?_
  rintro e w1 ⟨rfl, h2, h3⟩
  have H2 := Lib.hid h2
  have H3 := Lib.hid h3
  clear h2 h3 Hn
  go_wp2_with fail
  all_goals go_ret
  all_goals exact ⟨by simp [Cut.tells, *], H2.out, H3.out⟩
end Go.Proofs.Ytkjcpdogibbahaa
