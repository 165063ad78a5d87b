/- The chapter's examples; writers and readers that are none (CodecKnown, f5). Printed by gen_known.py. -/
import Derived.Test.YtehnkljaoaehjaaWraw
import Derived.Test.YtehnkljaoaehjaaAwake
import Derived.Test.YtehnkljaoaehjaaLs
import Derived.BigQuiet
namespace Go.Proofs.Ytehnkljaoaehjaa
open Go.RowKit Go.Um
set_option linter.unusedSimpArgs false
set_option linter.unusedVariables false
set_option maxHeartbeats 4000000
set_option maxRecDepth 100000
/-- a writer that the call has made -/
structure KW (w W : World) (p : Nat) (v : Value) (bs : List Int) (er : Int) : Prop where
  a : WrAt W p (p + 1) v bs er
  below : Below w.heap.size w W
  ge : w.heap.size ≤ p
theorem KW.step {w W w' : World} {p : Nat} {v v' : Value} {bs bs' : List Int} {er er' : Int} (h : KW w W p v bs er) (hw : WrAt w' p (p + 1) v' bs' er') (hk : Kept (fun k => k = p ∨ v.ownBlock = some k) W w') : KW w w' p v' bs' er' :=
  ⟨hw, h.below.trans (hk.below (fun i hi _ e => by
    have := h.ge
    rcases e with e | e
    · omega
    · have := (h.a.own.lt _ e).1; omega) h.below.size), h.ge⟩
theorem KW.ext {w W w' : World} {p : Nat} {v : Value} {bs : List Int} {er : Int} (h : KW w W p v bs er) (hb : Below W.heap.size W w') : KW w w' p v bs er := ⟨h.a.below hb, bt h.below hb, h.ge⟩
/-- three readers that the call has made -/
structure K3 (w W : World) (pa pb pc : Nat) (sa sb sc : ByteArray) (ra rb rc : Rs) : Prop where
  a : RdAt W pa sa ra
  b : RdAt W pb sb rb
  c : RdAt W pc sc rc
  below : Below w.heap.size w W
  ga : w.heap.size ≤ pa
  ab : pa < pb
  bc : pb < pc
theorem K3.stepA {w W w' : World} {pa pb pc : Nat} {sa sb sc : ByteArray} {ra rb rc r : Rs} (h : K3 w W pa pb pc sa sb sc ra rb rc) (hr : RdAt w' pa sa r) (hk : Kept (fun i => i = pa) W w') : K3 w w' pa pb pc sa sb sc r rb rc := by
  obtain ⟨a, b, c, d, e, f, g⟩ := h
  exact ⟨hr, b.kept hk (by omega), c.kept hk (by omega), d.trans (hk.below (fun i hi _ e => by omega) d.size), e, f, g⟩
theorem K3.stepB {w W w' : World} {pa pb pc : Nat} {sa sb sc : ByteArray} {ra rb rc r : Rs} (h : K3 w W pa pb pc sa sb sc ra rb rc) (hr : RdAt w' pb sb r) (hk : Kept (fun i => i = pb) W w') : K3 w w' pa pb pc sa sb sc ra r rc := by
  obtain ⟨a, b, c, d, e, f, g⟩ := h
  exact ⟨a.kept hk (by omega), hr, c.kept hk (by omega), d.trans (hk.below (fun i hi _ e => by omega) d.size), e, f, g⟩
theorem K3.stepC {w W w' : World} {pa pb pc : Nat} {sa sb sc : ByteArray} {ra rb rc r : Rs} (h : K3 w W pa pb pc sa sb sc ra rb rc) (hr : RdAt w' pc sc r) (hk : Kept (fun i => i = pc) W w') : K3 w w' pa pb pc sa sb sc ra rb r := by
  obtain ⟨a, b, c, d, e, f, g⟩ := h
  exact ⟨a.kept hk (by omega), b.kept hk (by omega), hr, d.trans (hk.below (fun i hi _ e => by omega) d.size), e, f, g⟩
theorem K3.ext {w W w' : World} {pa pb pc : Nat} {sa sb sc : ByteArray} {ra rb rc : Rs} (h : K3 w W pa pb pc sa sb sc ra rb rc) (hb : Below W.heap.size W w') : K3 w w' pa pb pc sa sb sc ra rb rc :=
  ⟨h.a.below hb, h.b.below hb, h.c.below hb, bt h.below hb, h.ga, h.ab, h.bc⟩
theorem grown_none {W w' : World} (h : W.grownBy w' none) : Below W.heap.size W w' := ⟨h.os, h.tape, h.output, h.size, fun k hk => h.block k hk (by simp)⟩
def RdStep (p : Nat) (s : ByteArray) (v : Value) (r : Rs) (w : World) (e : Ending) (w' : World) : Prop := e = .returned v ∧ RdAt w' p s r ∧ Kept (fun i => i = p) w w'

theorem k1 (p : Nat) (W : World) (h : RdAt W p ⟨#[1, 2, 7]⟩ ⟨0, 0⟩) : Calls Try.prog 23 #[.pointer (some ⟨p, 0, none⟩)] W (RdStep p ⟨#[1, 2, 7]⟩ (.int .u16 258) ⟨2, 0⟩ W) := by
  have := ru16_any p ⟨#[1, 2, 7]⟩ ⟨0, 0⟩ W h (by decide)
  unfold TakePost at this
  rw [show numB ((⟨0, 0⟩ : Rs).got ⟨#[1, 2, 7]⟩ 2) = 258 by decide +kernel, show (⟨0, 0⟩ : Rs).next ⟨#[1, 2, 7]⟩ 2 = ⟨2, 0⟩ by decide +kernel] at this
  exact this
theorem k2 (p : Nat) (W : World) (h : RdAt W p ⟨#[1, 2, 7]⟩ ⟨2, 0⟩) : Calls Try.prog 23 #[.pointer (some ⟨p, 0, none⟩)] W (RdStep p ⟨#[1, 2, 7]⟩ (.int .u16 0) ⟨2, 5⟩ W) := by
  have := ru16_any p ⟨#[1, 2, 7]⟩ ⟨2, 0⟩ W h (by decide)
  unfold TakePost at this
  rw [show numB ((⟨2, 0⟩ : Rs).got ⟨#[1, 2, 7]⟩ 2) = 0 by decide +kernel, show (⟨2, 0⟩ : Rs).next ⟨#[1, 2, 7]⟩ 2 = ⟨2, 5⟩ by decide +kernel] at this
  exact this
theorem k5 (p : Nat) (W : World) (h : RdAt W p ⟨#[1, 2, 7]⟩ ⟨2, 5⟩) : Calls Try.prog 24 #[.pointer (some ⟨p, 0, none⟩)] W (RdStep p ⟨#[1, 2, 7]⟩ (.int .u8 0) ⟨2, 5⟩ W) := by
  have := ru8_any p ⟨#[1, 2, 7]⟩ ⟨2, 5⟩ W h (by decide)
  unfold TakePost at this
  rw [show numB ((⟨2, 5⟩ : Rs).got ⟨#[1, 2, 7]⟩ 1) = 0 by decide +kernel, show (⟨2, 5⟩ : Rs).next ⟨#[1, 2, 7]⟩ 1 = ⟨2, 5⟩ by decide +kernel] at this
  exact this
theorem k7 (p : Nat) (W : World) (h : RdAt W p ⟨#[2, 0, 1, 0]⟩ ⟨0, 0⟩) : Calls Try.prog 25 #[.pointer (some ⟨p, 0, none⟩)] W (fun e w' => ∃ ao cap, RdStep p ⟨#[2, 0, 1, 0]⟩ (.slice ao 0 cap) ⟨0, 5⟩ W e w') := by
  have := list_any p ⟨#[2, 0, 1, 0]⟩ ⟨0, 0⟩ W h (by decide)
  rw [show listV ⟨#[2, 0, 1, 0]⟩ ⟨0, 0⟩ = [] by decide +kernel, show listS ⟨#[2, 0, 1, 0]⟩ ⟨0, 0⟩ = ⟨0, 5⟩ by decide +kernel] at this
  exact this.mono fun e w' ⟨ao, cap, b, o, h1, h2, h3, h4, h5⟩ => ⟨ao, cap, h1, h3, h4⟩
theorem k11 (p : Nat) (W : World) (h : RdAt W p ⟨#[97, 98]⟩ ⟨0, 0⟩) : Calls Try.prog 26 #[.pointer (some ⟨p, 0, none⟩), .int .i64 (-1)] W (RdStep p ⟨#[97, 98]⟩ (.string ⟨#[]⟩) ⟨0, 0⟩ W) := by
  have := raw_int p ⟨#[97, 98]⟩ ⟨0, 0⟩ (-1) W h (by decide)
  unfold RawPost at this
  rw [show (⟨0, 0⟩ : Rs).got ⟨#[97, 98]⟩ ((-1) : Int).toNat = ⟨#[]⟩ by decide +kernel, show (⟨0, 0⟩ : Rs).next ⟨#[97, 98]⟩ ((-1) : Int).toNat = ⟨0, 0⟩ by decide +kernel] at this
  exact this
theorem k12 (p : Nat) (W : World) (h : RdAt W p ⟨#[97, 98]⟩ ⟨0, 0⟩) : Calls Try.prog 26 #[.pointer (some ⟨p, 0, none⟩), .int .i64 (1)] W (RdStep p ⟨#[97, 98]⟩ (.string ⟨#[97]⟩) ⟨1, 0⟩ W) := by
  have := raw_int p ⟨#[97, 98]⟩ ⟨0, 0⟩ (1) W h (by decide)
  unfold RawPost at this
  rw [show (⟨0, 0⟩ : Rs).got ⟨#[97, 98]⟩ ((1) : Int).toNat = ⟨#[97]⟩ by decide +kernel, show (⟨0, 0⟩ : Rs).next ⟨#[97, 98]⟩ ((1) : Int).toNat = ⟨1, 0⟩ by decide +kernel] at this
  exact this
theorem k14 (p : Nat) (W : World) (h : RdAt W p ⟨#[97, 98]⟩ ⟨1, 0⟩) : Calls Try.prog 26 #[.pointer (some ⟨p, 0, none⟩), .int .i64 (1)] W (RdStep p ⟨#[97, 98]⟩ (.string ⟨#[98]⟩) ⟨2, 0⟩ W) := by
  have := raw_int p ⟨#[97, 98]⟩ ⟨1, 0⟩ (1) W h (by decide)
  unfold RawPost at this
  rw [show (⟨1, 0⟩ : Rs).got ⟨#[97, 98]⟩ ((1) : Int).toNat = ⟨#[98]⟩ by decide +kernel, show (⟨1, 0⟩ : Rs).next ⟨#[97, 98]⟩ ((1) : Int).toNat = ⟨2, 0⟩ by decide +kernel] at this
  exact this
theorem k10 (p : Nat) (W : World) (h : RdAt W p ⟨#[2, 0, 1, 0]⟩ ⟨0, 5⟩) : Calls Try.prog 16 #[.pointer (some ⟨p, 0, none⟩)] W (fun e w' => e = .returned (.int .i64 5) ∧ ∃ n, w' = W.drewN n) := by
  have := close_any p ⟨#[2, 0, 1, 0]⟩ ⟨0, 5⟩ W h (by decide)
  rwa [show (⟨0, 5⟩ : Rs).close ⟨#[2, 0, 1, 0]⟩ = 5 by decide +kernel] at this
theorem k13 (p : Nat) (W : World) (h : RdAt W p ⟨#[97, 98]⟩ ⟨1, 0⟩) : Calls Try.prog 16 #[.pointer (some ⟨p, 0, none⟩)] W (fun e w' => e = .returned (.int .i64 4) ∧ ∃ n, w' = W.drewN n) := by
  have := close_any p ⟨#[97, 98]⟩ ⟨1, 0⟩ W h (by decide)
  rwa [show (⟨1, 0⟩ : Rs).close ⟨#[97, 98]⟩ = 4 by decide +kernel] at this
theorem k15 (p : Nat) (W : World) (h : RdAt W p ⟨#[97, 98]⟩ ⟨2, 0⟩) : Calls Try.prog 16 #[.pointer (some ⟨p, 0, none⟩)] W (fun e w' => e = .returned (.int .i64 0) ∧ ∃ n, w' = W.drewN n) := by
  have := close_any p ⟨#[97, 98]⟩ ⟨2, 0⟩ W h (by decide)
  rwa [show (⟨2, 0⟩ : Rs).close ⟨#[97, 98]⟩ = 0 by decide +kernel] at this

/-! ### none -/
theorem nraw (w : World) (s : ByteArray) : Calls Try.prog 21 #[.pointer none, .string s] w fun e w' => e = .returned (.tuple #[]) ∧ w = w' := by
  go_enter Try.func21, Try.ntmps21
  go_wp2
  go_end0
  exact ⟨rfl, rfl⟩
theorem nlist (w : World) (v : Value) : Calls Try.prog 20 #[.pointer none, v] w fun e w' => e = .returned (.tuple #[]) ∧ w = w' := by
  go_enter Try.func20, Try.ntmps20
  go_wp2
  exact bodyPost_ret (v := .tuple #[]) (by simp [results, Try.results20]) rfl ⟨rfl, rfl⟩
theorem nbytes (w : World) : Calls Try.prog 10 #[.pointer none] w fun e w' => e = .returned (.tuple #[.string ⟨#[]⟩, .int .i64 1]) ∧ w = w' := by
  go_enter Try.func10, Try.ntmps10
  go_wp2
  go_ret2
  exact ⟨rfl, rfl⟩
theorem nraw2 (w : World) (m : Int) : Calls Try.prog 26 #[.pointer none, .int .i64 m] w fun e w' => e = .returned (.string ⟨#[]⟩) ∧ w = w' := by
  by_cases h : 0 ≤ m
  all_goals go_enter Try.func26, Try.ntmps26
  all_goals go_wp2
  all_goals go_ret
  all_goals exact ⟨rfl, rfl⟩
theorem ntake (w : World) : Calls Try.prog 39 #[.pointer none, .int .i64 2] w fun e w' => e = .returned (.int .u16 0) ∧ Below w.heap.size w w' := by
  have hcv := fun (w : World) => Lib.run_convert_string_bytes (P := Try.prog) w 9 29 5 ⟨#[]⟩ Try.underlying9 Try.underlying29 Try.underlying5
  go_enter Try.func39, Try.ntmps39
  go_wp2_with fail
  refine (nraw2 _ _).mono ?_
  rintro e w1 ⟨rfl, rfl⟩
  go_wp2_with fail
  refine wp_loop_rounds 1 ?_
  rw [rounds_succ]
  go_wp2
  go_ret
  exact ⟨rfl, below_bytes _ 5 ⟨#[]⟩⟩
theorem nu16 (w : World) : Calls Try.prog 23 #[.pointer none] w fun e w' => e = .returned (.int .u16 0) ∧ Below w.heap.size w w' := by
  go_enter Try.func23, Try.ntmps23
  go_wp2_with fail
  refine (ntake _).mono ?_
  rintro e w1 ⟨rfl, hb⟩
  go_wp2
  go_ret
  exact ⟨rfl, hb⟩
theorem nlist2 (w : World) : Calls Try.prog 25 #[.pointer none] w fun e w' => e = .returned (.slice none 0 0) ∧ w = w' := by
  go_enter Try.func25, Try.ntmps25
  go_wp2
  go_ret
  exact ⟨rfl, rfl⟩
theorem nat (w : World) : Calls Try.prog 14 #[.pointer none] w fun e w' => e = .returned (.int .i64 0) ∧ w = w' := by
  go_enter Try.func14, Try.ntmps14
  go_wp2
  go_ret
  exact ⟨rfl, rfl⟩
theorem nleft (w : World) : Calls Try.prog 15 #[.pointer none] w fun e w' => e = .returned (.int .i64 0) ∧ w = w' := by
  go_enter Try.func15, Try.ntmps15
  go_wp2
  go_ret
  exact ⟨rfl, rfl⟩
theorem nerr (w : World) : Calls Try.prog 13 #[.pointer none] w fun e w' => e = .returned (.int .i64 1) ∧ w = w' := by
  go_enter Try.func13, Try.ntmps13
  go_wp2
  go_ret
  exact ⟨rfl, rfl⟩
theorem nclose (w : World) : Calls Try.prog 16 #[.pointer none] w fun e w' => e = .returned (.int .i64 1) ∧ w = w' := by
  go_enter Try.func16, Try.ntmps16
  go_wp2_with fail
  refine (nerr _).mono ?_
  rintro e w1 ⟨rfl, rfl⟩
  go_wp2
  go_ret
  exact ⟨rfl, rfl⟩

theorem known_any (w : World) : Calls Try.prog 5 #[] w fun e w' => e = .returned (.bool true) ∧ Below w.heap.size w w' := by
  have e1 : wput (wput (wput (wput [] 0 (be 258 2)) 0 (be 7 1)) 0 (lbytes [1, 256])) 0 (numsOf ⟨#[97, 98]⟩) = [1, 2, 7, 2, 0, 1, 1, 0, 97, 98] := by decide +kernel
  have e2 : lerr 0 [1, 256] = 0 := by decide
  have e3 : wbytes [1, 2, 7, 2, 0, 1, 1, 0, 97, 98] 0 = ⟨#[1, 2, 7, 2, 0, 1, 1, 0, 97, 98]⟩ := by decide +kernel
  have e4 : lerr 0 [] = 0 := by decide
  have e5 : wput (wput [] 0 (be 2147483650 4)) 0 (lbytes []) = [128, 0, 0, 2, 0] := by decide +kernel
  have e6 : wbytes [128, 0, 0, 2, 0] 0 = ⟨#[128, 0, 0, 2, 0]⟩ := by decide +kernel
  have HE := Lib.hid (And.intro e1 (And.intro e2 (And.intro e3 (And.intro e4 (And.intro e5 e6)))))
  have HL : Hid (lerr 0 (List.replicate 256 0) = 3 ∧ ∀ (bs : List Int) m, wput bs 3 m = bs) := Lib.hid ⟨by decide +kernel, fun bs m => by unfold wput; rw [if_neg (by decide)]⟩
  obtain ⟨j0, hj, jz0, jz1, jz2⟩ := info_parts info53
  clear e1 e2 e3 e4 e5 e6
  go_enter Try.func5, Try.ntmps5
  go_wp2_with fail
  have HK0 : Hid (KW w (w.alloc (.cells #[.int .i64 0, .slice none 0 0] 31)) w.heap.size (.slice none 0 0) [] 0) := Lib.hid ⟨WrAt.new w _, ba (bz w) _, Nat.le_refl _⟩
  obtain ⟨p, hp⟩ : ∃ p, p = w.heap.size := ⟨_, rfl⟩
  obtain ⟨W0, hW⟩ : ∃ W, W = w.alloc (.cells #[.int .i64 0, .slice none 0 0] 31) := ⟨_, rfl⟩
  rw [← hp] at HK0 ⊢
  rw [← hW] at HK0 ⊢
  clear hp hW
  refine (wu16_any p (p + 1) _ [] 0 258 W0 HK0.out.a (by omega) (by simp) HK0.out.a.lt).mono ?_
  rintro e w1 ⟨v1, rfl, hw1, hk1, hn1⟩
  have HK1 := Lib.hid (HK0.out.step hw1 hk1)
  clear hw1 hk1 hn1 HK0
  go_wp2_with fail
  refine (wu8_any p (p + 1) _ _ 0 7 w1 HK1.out.a (by omega) (by decide) HK1.out.a.lt).mono ?_
  rintro e w2 ⟨v2, rfl, hw2, hk2, hn2⟩
  have HK2 := Lib.hid (HK1.out.step hw2 hk2)
  clear hw2 hk2 hn2 HK1
  go_wp2_with fail
  have HSL := Lib.hid (SlAt.new w2 53 1 2 [.int .u16 1, .int .u16 256] w2.heap.size rfl rfl (by decide))
  have HK2b := Lib.hid (HK2.out.ext (ba (bz w2) (.cells #[.int .u16 1, .int .u16 256] 53)))
  have hpl := HK2.out.a.lt
  refine (wlist_any p (p + 1) v2 _ 0 [1, 256] _ 2 w2.heap.size 0 _ HK2b.out.a HSL.out (by intro x hx; simp at hx; omega) (fun _ => ⟨by omega, fun e => by have := (HK2.out.a.own.lt _ e).2; omega⟩) (by decide) HK2b.out.a.lt).mono ?_
  rintro e w3 ⟨v3, rfl, hw3, hk3, hn3⟩
  rw [HE.out.2.1] at hw3
  have HK3 := Lib.hid (HK2b.out.step hw3 hk3)
  clear hw3 hk3 hn3 HK2 HK2b HSL hpl
  go_wp2_with fail
  refine (wraw_any p (p + 1) _ _ _ ⟨#[97, 98]⟩ w3 HK3.out.a (by decide +kernel) HK3.out.a.lt (by omega)).mono ?_
  rintro e w4 ⟨v4, rfl, hw4, hk4⟩
  rw [HE.out.1] at hw4
  have HK4 := Lib.hid (HK3.out.step hw4 hk4)
  clear hw4 hk4 HK3
  go_wp2_with fail
  have HBY := Lib.hid (bytes_any _ _ _ _ _ _ HK4.out.a)
  rw [HE.out.2.2.1] at HBY
  refine HBY.out.mono ?_
  rintro e w5 ⟨rfl, n5, rfl⟩
  have HK5 := Lib.hid (HK4.out.ext (below_drewN (bz w4) n5))
  clear HBY HK4
  go_wp2_with (at_make; refine wpList_make_full _ rfl _ _ 35 rfl (w4.drewN n5).heap.size 53 j0 (.int .u16 0) 1 Try.underlying35 hj jz0 jz1 .i64 .i64 256 256 256 rfl rfl rfl rfl (by rw [jz2]; decide) (by decide) (Nat.le_refl _) ?_; intro w6 hown6 hgrow6)
  have HK6 : Hid (KW w w6 p v4 [1, 2, 7, 2, 0, 1, 1, 0, 97, 98] 0) := Lib.hid (HK5.out.ext (grown_none hgrow6))
  have HS6 : Hid (SlAt w6 1 256 ((List.replicate 256 (0 : Int)).map (Value.int .u16)) (some ⟨(w4.drewN n5).heap.size, 0, none⟩) 256 (w4.drewN n5).heap.size 0) := by
    obtain ⟨ao, cap, b, o, hv, hs, _⟩ := SlAt.owned hown6
    simp only [Value.slice.injEq] at hv
    obtain ⟨rfl, _, rfl⟩ := hv
    have e := hs.addr (by rw [hs.len]; decide)
    simp only [Option.some.injEq, Addr.mk.injEq] at e
    obtain ⟨rfl, rfl, _⟩ := e
    have hm : (madeCells (Value.int IntKind.u16 0).cells (256 * 1)).toList = (List.replicate 256 (0 : Int)).map (Value.int .u16) := by kernel_rfl
    rw [hm] at hs
    exact Lib.hid hs
  have hpl := HK5.out.a.lt
  have hd : (w4.drewN n5).heap.size = w4.heap.size := rfl
  have HWL := Lib.hid (wlist_any p (p + 1) v4 _ 0 (List.replicate 256 0) _ 256 _ 0 _ HK6.out.a (by simpa using HS6.out) (by intro x hx; rw [List.eq_of_mem_replicate hx]; decide) (fun _ => ⟨by omega, fun e => by have := (HK5.out.a.own.lt _ e).2; omega⟩) (by decide +kernel) HK6.out.a.lt)
  rw [List.length_replicate, HL.out.1, HL.out.2] at HWL
  clear hown6 hgrow6 hd
  go_wp2_with fail
  refine HWL.out.mono ?_
  rintro e w7 ⟨v7, rfl, hw7, hk7, hn7⟩
  have HK7 := Lib.hid (HK6.out.step hw7 hk7)
  clear hw7 hk7 hn7 HWL HS6 HK6 HK5 hpl
  go_wp2_with fail
  refine (wu32_any p (p + 1) _ _ 3 1 w7 HK7.out.a (by omega) (by decide) HK7.out.a.lt).mono ?_
  rintro e w8 ⟨v8, rfl, hw8, hk8, hn8⟩
  rw [HL.out.2] at hw8
  have HK8 := Lib.hid (HK7.out.step hw8 hk8)
  clear hw8 hk8 hn8 HK7
  go_wp2_with fail
  have HBZ := Lib.hid (bytes_any _ _ _ _ _ _ HK8.out.a)
  rw [show wbytes [1, 2, 7, 2, 0, 1, 1, 0, 97, 98] 3 = ⟨#[]⟩ from rfl] at HBZ
  refine HBZ.out.mono ?_
  rintro e w9 ⟨rfl, n9, rfl⟩
  have HB9 : Hid (Below w.heap.size w (w8.drewN n9)) := Lib.hid (below_drewN HK8.out.below n9)
  obtain ⟨W9, hW9⟩ : ∃ W, W = w8.drewN n9 := ⟨_, rfl⟩
  rw [← hW9] at HB9 ⊢
  clear hW9 HBZ HK8
  go_wp2_with fail
  refine (over_any _ _).mono ?_
  rintro e wa ⟨rfl, hwa⟩
  have Hwa := Lib.hid hwa
  clear hwa
  go_wp2_with fail
  refine (over_any _ _).mono ?_
  rintro e wb ⟨rfl, hwb⟩
  have Hwb := Lib.hid hwb
  clear hwb
  go_wp2_with fail
  refine (over_any _ _).mono ?_
  rintro e wc ⟨rfl, hwc⟩
  have Hwc := Lib.hid hwc
  clear hwc
  have hwa := Hwa.out
  have hwb := Hwb.out
  have hwc := Hwc.out
  have hza : wa.heap.size = W9.heap.size + 1 := by rw [hwa, World.size_alloc]
  have hzb : wb.heap.size = wa.heap.size + 1 := by rw [hwb, World.size_alloc]
  have HK : Hid (K3 w wc W9.heap.size wa.heap.size wb.heap.size ⟨#[1, 2, 7]⟩ ⟨#[2, 0, 1, 0]⟩ ⟨#[97, 98]⟩ ⟨0, 0⟩ ⟨0, 0⟩ ⟨0, 0⟩) := Lib.hid (by
    have ra : RdAt wa W9.heap.size ⟨#[1, 2, 7]⟩ ⟨0, 0⟩ := by rw [hwa]; exact RdAt.new _ _
    have rb : RdAt wb wa.heap.size ⟨#[2, 0, 1, 0]⟩ ⟨0, 0⟩ := by rw [hwb]; exact RdAt.new _ _
    have rc : RdAt wc wb.heap.size ⟨#[97, 98]⟩ ⟨0, 0⟩ := by rw [hwc]; exact RdAt.new _ _
    have ba' : Below wa.heap.size wa wb := by rw [hwb]; exact ba (bz _) _
    have bb' : Below wb.heap.size wb wc := by rw [hwc]; exact ba (bz _) _
    have b9 : Below W9.heap.size W9 wa := by rw [hwa]; exact ba (bz _) _
    exact ⟨(ra.below ba').below bb', rb.below bb', rc, bt (bt (bt HB9.out b9) ba') bb', HB9.out.size, by omega, by omega⟩)
  obtain ⟨pa, hpa⟩ : ∃ p, p = W9.heap.size := ⟨_, rfl⟩
  obtain ⟨pb, hpb⟩ : ∃ p, p = wa.heap.size := ⟨_, rfl⟩
  obtain ⟨pc, hpc⟩ : ∃ p, p = wb.heap.size := ⟨_, rfl⟩
  rw [← hpa] at HK ⊢
  rw [← hpb] at HK ⊢
  rw [← hpc] at HK ⊢
  clear hwa hwb hwc Hwa Hwb Hwc hza hzb hpa hpb hpc HB9
  go_wp2_with fail
  refine (k1 pa _ HK.out.a).mono ?_
  rintro e x0 ⟨rfl, hr0, hk0⟩
  replace HK := Lib.hid (HK.out.stepA hr0 hk0)
  clear hr0 hk0
  go_wp2_with fail
  refine (k2 pa _ HK.out.a).mono ?_
  rintro e x1 ⟨rfl, hr1, hk1⟩
  replace HK := Lib.hid (HK.out.stepA hr1 hk1)
  clear hr1 hk1
  go_wp2_with fail
  refine (err_any pa 5 _ HK.out.a.e).mono ?_
  rintro e wX ⟨rfl, rfl⟩
  go_wp2_with fail
  refine (at_any pa 2 _ HK.out.a.at_).mono ?_
  rintro e wX ⟨rfl, rfl⟩
  go_wp2_with fail
  refine (k5 pa _ HK.out.a).mono ?_
  rintro e x4 ⟨rfl, hr4, hk4⟩
  replace HK := Lib.hid (HK.out.stepA hr4 hk4)
  clear hr4 hk4
  go_wp2_with fail
  refine (left_any pa _ 2 _ HK.out.a.str HK.out.a.at_ (by decide) (by decide)).mono ?_
  rintro e wX ⟨rfl, m5, rfl⟩
  replace HK := Lib.hid (HK.out.ext (below_drewN (bz _) m5))
  go_wp2_with fail
  refine (k7 pb _ HK.out.b).mono ?_
  rintro e x6 ⟨ao7, cap7, rfl, hr6, hk6⟩
  replace HK := Lib.hid (HK.out.stepB hr6 hk6)
  clear hr6 hk6
  go_wp2_with fail
  refine (err_any pb 5 _ HK.out.b.e).mono ?_
  rintro e wX ⟨rfl, rfl⟩
  go_wp2_with fail
  refine (at_any pb 0 _ HK.out.b.at_).mono ?_
  rintro e wX ⟨rfl, rfl⟩
  go_wp2_with fail
  refine (k10 pb _ HK.out.b).mono ?_
  rintro e wX ⟨rfl, m9, rfl⟩
  replace HK := Lib.hid (HK.out.ext (below_drewN (bz _) m9))
  go_wp2_with fail
  refine (k11 pc _ HK.out.c).mono ?_
  rintro e x10 ⟨rfl, hr10, hk10⟩
  replace HK := Lib.hid (HK.out.stepC hr10 hk10)
  clear hr10 hk10
  go_wp2_with fail
  refine (k12 pc _ HK.out.c).mono ?_
  rintro e x11 ⟨rfl, hr11, hk11⟩
  replace HK := Lib.hid (HK.out.stepC hr11 hk11)
  clear hr11 hk11
  go_wp2_with fail
  refine (k13 pc _ HK.out.c).mono ?_
  rintro e wX ⟨rfl, m12, rfl⟩
  replace HK := Lib.hid (HK.out.ext (below_drewN (bz _) m12))
  go_wp2_with fail
  refine (k14 pc _ HK.out.c).mono ?_
  rintro e x13 ⟨rfl, hr13, hk13⟩
  replace HK := Lib.hid (HK.out.stepC hr13 hk13)
  clear hr13 hk13
  go_wp2_with fail
  refine (k15 pc _ HK.out.c).mono ?_
  rintro e wX ⟨rfl, m14, rfl⟩
  replace HK := Lib.hid (HK.out.ext (below_drewN (bz _) m14))
  have HB := Lib.hid HK.out.below
  clear HK
  obtain ⟨WX, hWX⟩ : ∃ W, W = x13.drewN m14 := ⟨_, rfl⟩
  rw [← hWX] at HB ⊢
  clear hWX
  go_wp2_with fail
  have HX0 : Hid (KW w (WX.alloc (.cells #[.int .i64 0, .slice none 0 0] 31)) WX.heap.size (.slice none 0 0) [] 0) := Lib.hid ⟨WrAt.new WX _, ba HB.out _, HB.out.size⟩
  obtain ⟨q, hq⟩ : ∃ p, p = WX.heap.size := ⟨_, rfl⟩
  obtain ⟨Y0, hY⟩ : ∃ W, W = WX.alloc (.cells #[.int .i64 0, .slice none 0 0] 31) := ⟨_, rfl⟩
  rw [← hq] at HX0 ⊢
  rw [← hY] at HX0 ⊢
  clear hq hY HB
  refine (wu32_any q (q + 1) _ [] 0 2147483650 Y0 HX0.out.a (by omega) (by simp) HX0.out.a.lt).mono ?_
  rintro e y1 ⟨u1, rfl, hw1, hk1, hn1⟩
  have HX1 := Lib.hid (HX0.out.step hw1 hk1)
  clear hw1 hk1 hn1 HX0
  go_wp2_with fail
  refine (wlist_any q (q + 1) u1 _ 0 [] none 0 0 0 _ HX1.out.a (slat_nil1 _) (by intro x hx; cases hx) (fun h => absurd h (by simp)) (by decide) HX1.out.a.lt).mono ?_
  rintro e y2 ⟨u2, rfl, hw2, hk2, hn2⟩
  rw [HE.out.2.2.2.1, HE.out.2.2.2.2.1] at hw2
  have HX2 := Lib.hid (HX1.out.step hw2 hk2)
  clear hw2 hk2 hn2 HX1
  go_wp2_with fail
  have HBQ := Lib.hid (bytes_any _ _ _ _ _ _ HX2.out.a)
  rw [HE.out.2.2.2.2.2] at HBQ
  refine HBQ.out.mono ?_
  rintro e y3 ⟨rfl, k3, rfl⟩
  have HB : Hid (Below w.heap.size w (y2.drewN k3)) := Lib.hid (below_drewN HX2.out.below k3)
  obtain ⟨WZ, hWZ⟩ : ∃ W, W = y2.drewN k3 := ⟨_, rfl⟩
  rw [← hWZ] at HB ⊢
  clear hWZ HBQ HX2
  go_wp2_with fail
  refine (nraw _ _).mono ?_
  rintro e wX ⟨rfl, rfl⟩
  go_wp2_with fail
  refine (nlist _ _).mono ?_
  rintro e wX ⟨rfl, rfl⟩
  go_wp2_with fail
  refine (nbytes _).mono ?_
  rintro e wX ⟨rfl, rfl⟩
  go_wp2_with fail
  refine (nu16 _).mono ?_
  rintro e w16 ⟨rfl, hb16⟩
  replace HB := Lib.hid (bt HB.out hb16)
  clear hb16
  go_wp2_with fail
  refine (nraw2 _ _).mono ?_
  rintro e wX ⟨rfl, rfl⟩
  go_wp2_with fail
  refine (nlist2 _).mono ?_
  rintro e wX ⟨rfl, rfl⟩
  go_wp2_with fail
  refine (nat _).mono ?_
  rintro e wX ⟨rfl, rfl⟩
  go_wp2_with fail
  refine (nleft _).mono ?_
  rintro e wX ⟨rfl, rfl⟩
  go_wp2_with fail
  refine (nerr _).mono ?_
  rintro e wX ⟨rfl, rfl⟩
  go_wp2_with fail
  refine (nclose _).mono ?_
  rintro e wX ⟨rfl, rfl⟩
  go_wp2_with fail
  refine (awake_any _).mono ?_
  rintro e w17 ⟨rfl, hb17⟩
  go_wp2
  go_ret
  exact ⟨rfl, bt HB.out hb17⟩
end Go.Proofs.Ytehnkljaoaehjaa
