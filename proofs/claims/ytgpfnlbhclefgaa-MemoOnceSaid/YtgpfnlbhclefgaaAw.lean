/- Some of the chapter's answers: awake is true (f8). -/
import Derived.Test.YtgpfnlbhclefgaaFew
namespace Go.Proofs.Ytgpfnlbhclefgaa
open Go.RowKit Go.Um
set_option linter.unusedSimpArgs false
set_option linter.unusedVariables false
set_option maxHeartbeats 4000000
set_option maxRecDepth 100000
/-- a memo that the call has made -/
structure KM (w W : World) (p b : Nat) (ks : List Cfg) (T sv : Nat) : Prop where
  m : MmAt W p (some b) ks T sv
  below : Below w.heap.size w W
  gp : w.heap.size ≤ p
  gb : w.heap.size ≤ b
theorem KM.step {w W w' : World} {p b : Nat} {ks ks' : List Cfg} {T sv T' sv' : Nat} (h : KM w W p b ks T sv) (hm : MmAt w' p (some b) ks' T' sv') (hk : Kept (fun i => i = p ∨ some b = some i) W w') : KM w w' p b ks' T' sv' :=
  ⟨hm, h.below.trans (hk.below (fun i hi _ e => by
    have h1 := h.gp
    have h2 := h.gb
    rcases e with e | e
    · omega
    · injection e with e; omega) h.below.size), h.gp, h.gb⟩
theorem KM.ext {w W w' : World} {p b : Nat} {ks : List Cfg} {T sv : Nat} (h : KM w W p b ks T sv) (hb : Below W.heap.size W w') : KM w w' p b ks T sv := ⟨h.m.below hb, bt h.below hb, h.gp, h.gb⟩
/-- Add of a set and a text at a memo of the call's own -/
theorem km_add {w W : World} {p b : Nat} {ks : List Cfg} {T sv : Nat} {v : Value} {N : Nat} {S : ByteArray} (h : KM w W p b ks T sv) (hv : SetAt W v N) (hK : keyN N S) (wd : ByteArray) (h1 : S.size ≤ 8192) (h2 : wd.size ≤ 8192) (hT : T ≤ 1000000) (hsv : sv ≤ 1000000) (B : Bool) (hB : B = true ↔ (S, wd) ∈ ks) :
    Calls Try.prog 17 #[.pointer (some ⟨p, 0, none⟩), v, .string wd] W fun e w' => e = .returned (.bool (!B)) ∧ KM w w' p b (addK ks (S, wd)) (T + 1) (addS ks (S, wd) sv) ∧ Kept (fun i => i = p ∨ some b = some i) W w' :=
  (add_on p b ks T sv v N S wd W h.m hv hK (by unfold maxLen; omega) (by unfold maxLen; omega) hT hsv B hB).mono fun e w' ⟨he, hm, hk⟩ => ⟨he, h.step hm hk, hk⟩
theorem addK_new {ks : List Cfg} {k : Cfg} (h : k ∉ ks) (sv : Nat) : addK ks k = ks ++ [k] ∧ addS ks k sv = sv := by
  unfold addK addS; rw [if_neg h, if_neg h]; exact ⟨rfl, rfl⟩
theorem addK_old {ks : List Cfg} {k : Cfg} (h : k ∈ ks) (sv : Nat) : addK ks k = ks ∧ addS ks k sv = sv + 1 := by
  unfold addK addS; rw [if_pos h, if_pos h]; exact ⟨rfl, rfl⟩
/-- a new configuration -/
theorem km_new {w W : World} {p b : Nat} {ks : List Cfg} {T sv : Nat} {v : Value} {N : Nat} {S : ByteArray} (h : KM w W p b ks T sv) (hv : SetAt W v N) (hK : keyN N S) (wd : ByteArray) (h1 : S.size ≤ 8192) (h2 : wd.size ≤ 8192) (hT : T ≤ 1000000) (hsv : sv ≤ 1000000) (hn : (S, wd) ∉ ks) :
    Calls Try.prog 17 #[.pointer (some ⟨p, 0, none⟩), v, .string wd] W fun e w' => e = .returned (.bool true) ∧ KM w w' p b (ks ++ [(S, wd)]) (T + 1) sv ∧ Kept (fun i => i = p ∨ some b = some i) W w' := by
  have := km_add h hv hK wd h1 h2 hT hsv false (by simpa using hn)
  rwa [(addK_new hn sv).1, (addK_new hn sv).2] at this
theorem km_old {w W : World} {p b : Nat} {ks : List Cfg} {T sv : Nat} {v : Value} {N : Nat} {S : ByteArray} (h : KM w W p b ks T sv) (hv : SetAt W v N) (hK : keyN N S) (wd : ByteArray) (h1 : S.size ≤ 8192) (h2 : wd.size ≤ 8192) (hT : T ≤ 1000000) (hsv : sv ≤ 1000000) (hn : (S, wd) ∈ ks) :
    Calls Try.prog 17 #[.pointer (some ⟨p, 0, none⟩), v, .string wd] W fun e w' => e = .returned (.bool false) ∧ KM w w' p b ks (T + 1) (sv + 1) ∧ Kept (fun i => i = p ∨ some b = some i) W w' := by
  have := km_add h hv hK wd h1 h2 hT hsv true (by simpa using hn)
  rwa [(addK_old hn sv).1, (addK_old hn sv).2] at this
theorem awake_any (w : World) : Calls Try.prog 8 #[] w fun e w' => e = .returned (.bool true) ∧ Below w.heap.size w w' := by
  have e1 : ofN [1] = 2 := by decide
  have e2 : withN 2 2 = 6 := by decide
  have HE := Lib.hid (And.intro e1 e2)
  clear e1 e2
  go_enter Try.func8, Try.ntmps8
  go_wp2_with fail
  refine (new_any true w).mono ?_
  rintro e w1 ⟨p, ob, rfl, hm1, hob, hb1, hp1, hg1⟩
  obtain ⟨b, rfl⟩ : ∃ b, ob = some b := by cases ob with
    | none => cases hob
    | some b => exact ⟨b, rfl⟩
  have HK1 : Hid (KM w w1 p b [] 0 0) := Lib.hid ⟨hm1, hb1, hp1, hg1 b rfl⟩
  clear hm1 hob hb1 hp1 hg1
  go_wp2_with fail
  have HSL := Lib.hid (SlAt.new w1 3 1 1 ([1].map (Value.int .i64)) w1.heap.size rfl rfl (by decide))
  have HK2 := Lib.hid (HK1.out.ext (ba (bz w1) (.cells #[.int .i64 1] 3)))
  refine (of_any [1] 1 rfl _ 1 w1.heap.size 0 _ HSL.out (by decide)).mono ?_
  rintro e w2 ⟨v, rfl, hv, hb2⟩
  rw [HE.out.1] at hv
  obtain ⟨S, hS, hSs⟩ := key_ex hv
  obtain ⟨m, ao, cap, bb, oo, hvv, hrest⟩ := id hv
  subst hvv
  clear hrest
  have HK3 := Lib.hid (HK2.out.ext hb2)
  have HV := Lib.hid hv
  have HS := Lib.hid (And.intro hS hSs)
  have hs2 := hb2.size
  clear hv hb2 hS hSs HSL HK1 HK2
  go_wp2_with fail
  obtain ⟨c2, hc2⟩ : ∃ c, c = w2.heap.size := ⟨_, rfl⟩
  have HCP : Hid (p < c2 ∧ b < c2) := Lib.hid ⟨by have := HK3.out.m.lt; omega, by have := (HK3.out.m.m b rfl).1.lt; omega⟩
  have x0 : (w2.alloc (.cells #[.slice ao m cap] 33)).cell? ⟨c2, 0, none⟩ = some (.slice ao m cap) := by rw [hc2]; simp [go_sem]
  have HK := Lib.hid (HK3.out.ext (ba (bz w2) (.cells #[.slice ao m cap] 33)))
  replace HV := Lib.hid (HV.out.below (ba (bz w2) (.cells #[.slice ao m cap] 33)))
  rw [← hc2]
  generalize w2.alloc (.cells #[.slice ao m cap] 33) = W3 at *
  clear hc2 HK3 hs2
  refine (km_new HK.out HV.out HS.out.1 ⟨#[97, 98]⟩ HS.out.2 (by decide) (by omega) (by omega) (by simp)).mono ?_
  rintro e x1 ⟨rfl, hm, hk⟩
  have x0 := hk.cell x0 (by rintro (e | e); (· have := HCP.out; omega); (· injection e with e; have := HCP.out; omega))
  replace HV := Lib.hid (set_apart HK.out.m HV.out hk)
  replace HK := Lib.hid hm
  clear hm hk
  go_wp2_with fail
  refine (km_old HK.out HV.out HS.out.1 ⟨#[97, 98]⟩ HS.out.2 (by decide) (by omega) (by omega) (by simp)).mono ?_
  rintro e x2 ⟨rfl, hm, hk⟩
  have x0 := hk.cell x0 (by rintro (e | e); (· have := HCP.out; omega); (· injection e with e; have := HCP.out; omega))
  replace HV := Lib.hid (set_apart HK.out.m HV.out hk)
  replace HK := Lib.hid hm
  clear hm hk
  go_wp2_with fail
  refine (km_new HK.out HV.out HS.out.1 ⟨#[97]⟩ HS.out.2 (by decide) (by omega) (by omega) (by intro h; simp at h)).mono ?_
  rintro e x3 ⟨rfl, hm, hk⟩
  have x0 := hk.cell x0 (by rintro (e | e); (· have := HCP.out; omega); (· injection e with e; have := HCP.out; omega))
  replace HV := Lib.hid (set_apart HK.out.m HV.out hk)
  replace HK := Lib.hid hm
  clear hm hk
  go_wp2_with fail
  refine (with_any (.agg #[.slice ao m cap]) 2 2 _ HV.out).mono ?_
  rintro e y1 ⟨v4, rfl, hv4, hb4⟩
  rw [HE.out.2] at hv4
  obtain ⟨S4, hS4, hSs4⟩ := key_ex hv4
  have hne : S4 ≠ S := fun e => by
    subst e
    have := hS4.inj HS.out.1
    omega
  replace HK := Lib.hid (HK.out.ext hb4)
  have HV4 := Lib.hid hv4
  have HS4 := Lib.hid (And.intro hS4 hSs4)
  have HNE := Lib.hid hne
  obtain ⟨m4, ao4, cap4, b4, o4, hvv4, _⟩ := hv4
  subst hvv4
  clear hS4 hSs4 hb4 x0 HV hne
  go_wp2_with fail
  refine (km_new HK.out HV4.out HS4.out.1 ⟨#[97, 98]⟩ HS4.out.2 (by decide) (by omega) (by omega) (by intro h; simp only [List.mem_append, List.mem_cons, Prod.mk.injEq, List.not_mem_nil, or_false, false_or] at h; rcases h with h | h <;> exact HNE.out h.1)).mono ?_
  rintro e y2 ⟨rfl, hm, hk⟩
  replace HK := Lib.hid hm
  clear hm hk HV4 HS4
  go_wp2_with fail
  refine (len_any p (some b) _ _ _ _ HK.out.m).mono ?_
  rintro e y3 ⟨rfl, rfl⟩
  go_wp2_with fail
  refine (saved_any p (some b) _ _ _ _ HK.out.m).mono ?_
  rintro e y4 ⟨rfl, rfl⟩
  go_wp2
  go_ret
  exact ⟨rfl, HK.out.below⟩
end Go.Proofs.Ytgpfnlbhclefgaa
