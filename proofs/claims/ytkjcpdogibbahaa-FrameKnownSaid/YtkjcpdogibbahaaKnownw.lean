/- FrameKnown: the known answers. -/
import Derived.Test.YtkjcpdogibbahaaSpoilt
import Derived.Test.YtkjcpdogibbahaaPuts
import Derived.Test.YtkjcpdogibbahaaShelf
namespace Go.Proofs.Ytkjcpdogibbahaa
open Go.RowKit Go.Um
set_option maxHeartbeats 1000000
set_option maxRecDepth 10000

theorem kput_a (w : World) : Calls Try.prog 17 #[.string ⟨#[97]⟩] w fun e w' => e = .returned (.tuple #[.string ⟨#[0, 1, 255, 254, 97, 97, 97]⟩, .int .i64 0]) ∧ Below w.heap.size w w' := by
  have h := put_any [97] w
  rw [show putR [97] = ([0, 1, 255, 254, 97, 97, 97], 0) from by decide] at h
  exact h
theorem kput_0 (w : World) : Calls Try.prog 17 #[.string ⟨#[]⟩] w fun e w' => e = .returned (.tuple #[.string ⟨#[]⟩, .int .i64 2]) ∧ Below w.heap.size w w' := by
  have h := put_any [] w
  rw [show putR [] = ([], 2) from by decide] at h
  exact h
def Rep (w : World) (n : Nat) (e : Ending) (w' : World) : Prop := ∃ s : ByteArray, s.size = n ∧ e = .returned (.string s) ∧ Below w.heap.size w w'
theorem repeatL_len (l : List UInt8) (n : Nat) : (Lib.repeatL l n).length = n * l.length := by
  induction n with
  | zero => simp [Lib.repeatL]
  | succ n ih => simp [Lib.repeatL, ih, Nat.succ_mul]; omega
theorem krep (n : Nat) (w : World) (hn : n ≤ 1000) : Calls Try.prog 21 #[.string ⟨#[120]⟩, .int .i64 n] w (Rep w n) := by
  refine (Try.strings_Repeat ⟨#[120]⟩ n w (by omega) (by show 1 * n ≤ _; omega)).mono fun e w' ⟨h1, h2⟩ => ⟨_, ?_, h1, h2⟩
  show (List.toArray _).size = n
  rw [List.size_toArray, repeatL_len]; simp
theorem kput_long (s : ByteArray) (w : World) (hs : s.size = 601) : Calls Try.prog 17 #[.string s] w fun e w' => e = .returned (.tuple #[.string ⟨#[]⟩, .int .i64 3]) ∧ Below w.heap.size w w' := by
  refine (put_long s w (by omega)).mono fun e w' ⟨h1, h2⟩ => ⟨h1, ?_⟩
  subst h2; exact bz w
def PutM (w : World) (e : Ending) (w' : World) : Prop := ∃ f : ByteArray, (f.size : Int) = 606 ∧ e = .returned (.tuple #[.string f, .int .i64 0]) ∧ Below w.heap.size w w'
theorem kput_m (s : ByteArray) (w : World) (hs : s.size = 600) : Calls Try.prog 17 #[.string s] w (PutM w) := by
  have hl : s.data.toList.length = 600 := by rw [len_data, hs]
  refine (put_good s.data.toList w (by omega) (by omega)).mono fun e w' ⟨h1, h2⟩ => ⟨_, ?_, h1, h2⟩
  show (((putF s.data.toList).toArray.size : Nat) : Int) = 606
  rw [List.size_toArray]; simp [putF, two]; omega
theorem ksum (s : ByteArray) (n : Int) (w : World) (hs : s.size ≤ 100) (hn : sumN s.data.toList = n) : Calls Try.prog 19 #[.string s] w fun e w' => e = .returned (.int .u16 n) ∧ Below w.heap.size w w' := by
  refine (sum_any s w (by omega)).mono fun e w' ⟨h1, h2⟩ => ⟨by rw [h1, hn], ?_⟩
  subst h2; exact bz w
theorem kbad (s : ByteArray) (w : World) (hs : s.size ≤ 100) (hn : (lookF s.data.toList).1 = 2) : Calls Try.prog 22 #[.string s] w fun e w' => e = .returned (.bool true) ∧ Below w.heap.size w w' := by
  have h := bad_any s.data.toList w (by rw [len_data]; omega) hn
  exact h

def K0 : Cut := ⟨[], 0, false⟩
def fr : List UInt8 := [0, 1, 255, 254, 97, 97, 97]
def K1 : Cut := ⟨fr ++ fr ++ [0, 0, 0, 0] ++ fr, 0, false⟩
def K2 : Cut := ⟨fr ++ [0, 0, 0, 0] ++ fr, 7, false⟩
def K3 : Cut := ⟨[0, 0, 0, 0] ++ fr, 14, false⟩
def K4 : Cut := ⟨[0, 0, 0, 0] ++ fr, 14, true⟩
def K5 : Cut := ⟨[0, 0, 0, 0] ++ fr ++ fr, 14, true⟩
theorem kfeed (c d : Cut) (s : ByteArray) (p : Nat) (w : World) (h : Hid (c.At w p)) (hc : c.rest.length ≤ 100) (hs : s.data.toList.length ≤ 100) (hd : c.feed s.data.toList = d) :
    Calls Try.prog 12 #[.pointer (some ⟨p, 0, none⟩), .string s] w fun e w' => e = .returned (.tuple #[]) ∧ Hid (d.At w' p) ∧ Kept (fun k => k = p) w w' := by
  have hf := cut_feed c s.data.toList p w h.out (by omega) (by omega)
  rw [hd] at hf
  exact hf.mono fun e w' ⟨h1, h2, h3⟩ => ⟨h1, Lib.hid h2, h3⟩
theorem ktell (c d : Cut) (s : ByteArray) (n st : Int) (p : Nat) (w : World) (h : Hid (c.At w p)) (hc : c.rest.length ≤ 100) (ha : 0 ≤ c.pos ∧ c.pos ≤ 100) (ht : c.tells s.data.toList n st = true) (hd : c.next = d) :
    Calls Try.prog 16 #[.pointer (some ⟨p, 0, none⟩), .string s, .int .i64 n, .int .i64 st] w fun e w' => e = .returned (.bool true) ∧ Hid (d.At w' p) ∧ Kept (fun k => k = p) w w' := by
  have hf := tells_any c p s.data.toList n st w h.out (by omega) ⟨ha.1, by omega⟩
  rw [ht, hd] at hf
  exact hf.mono fun e w' ⟨h1, h2, h3⟩ => ⟨h1, Lib.hid h2, h3⟩
theorem kfed (c : Cut) (n : Int) (p : Nat) (w : World) (h : Hid (c.At w p)) (hc : c.rest.length ≤ 100) (ha : 0 ≤ c.pos ∧ c.pos ≤ 100) (hn : c.pos + (c.rest.length : Nat) = n) :
    Calls Try.prog 15 #[.pointer (some ⟨p, 0, none⟩)] w fun e w' => e = .returned (.int .i64 n) ∧ Below w.heap.size w w' := by
  rw [← hn]; exact cut_fed c p w h.out (by omega) ⟨ha.1, by omega⟩
theorem ktell_nil (w : World) : Calls Try.prog 16 #[.pointer none, .string ⟨#[]⟩, .int .i64 0, .int .i64 2] w fun e w' => e = .returned (.bool true) ∧ w = w' := by
  go_enter Try.func16, Try.ntmps16
  go_wp2_with fail
  refine (next_nil _).mono ?_
  rintro e w1 ⟨rfl, rfl⟩
  go_wp2
  go_ret
  exact ⟨by simp, rfl⟩
theorem ktell_not (p : Nat) (w : World) (h : Hid (CutAt w p false ⟨#[]⟩ 0 false)) : Calls Try.prog 16 #[.pointer (some ⟨p, 0, none⟩), .string ⟨#[]⟩, .int .i64 0, .int .i64 2] w fun e w' => e = .returned (.bool true) ∧ w = w' := by
  go_enter Try.func16, Try.ntmps16
  go_wp2_with fail
  refine (next_not p false ⟨#[]⟩ 0 _ h.out).mono ?_
  rintro e w1 ⟨rfl, rfl⟩
  go_wp2
  go_ret
  exact ⟨by simp, rfl⟩
theorem knot (w : World) : Hid (CutAt (w.alloc (.cells #[.bool false, .string ⟨#[]⟩, .int .i64 0, .bool false] 55)) w.heap.size false ⟨#[]⟩ 0 false) :=
  Lib.hid ⟨by simp [go_sem], by simp [go_sem], by simp [go_sem], by simp [go_sem], by simp [go_sem], by simp [go_sem], by simp [go_sem], by simp [go_sem]⟩

theorem known_any (w : World) : Calls Try.prog 8 #[] w fun e w' => e = .returned (.bool true) ∧ Below w.heap.size w w' := by
  have HW := Lib.hid (bz w)
  go_enter Try.func8, Try.ntmps8
  go_wp2_with fail
  refine (kput_a _).mono ?_
  rintro e w1 ⟨rfl, hb⟩
  replace HW := Lib.hid (bt HW.out hb)
  clear hb
  go_wp2_with fail
  refine (kput_0 _).mono ?_
  rintro e w2 ⟨rfl, hb⟩
  replace HW := Lib.hid (bt HW.out hb)
  clear hb
  go_wp2_with fail
  refine (krep 601 _ (by decide)).mono ?_
  rintro e w3 ⟨s3, hz3, rfl, hb⟩
  replace HW := Lib.hid (bt HW.out hb)
  clear hb
  go_wp2_with fail
  refine (kput_long s3 _ hz3).mono ?_
  rintro e w4 ⟨rfl, hb⟩
  replace HW := Lib.hid (bt HW.out hb)
  clear hb hz3
  go_wp2_with fail
  refine (krep 600 _ (by decide)).mono ?_
  rintro e w5 ⟨s5, hz5, rfl, hb⟩
  replace HW := Lib.hid (bt HW.out hb)
  clear hb
  go_wp2_with fail
  refine (kput_m s5 _ hz5).mono ?_
  rintro e w6 ⟨f6, hz6, rfl, hb⟩
  replace HW := Lib.hid (bt HW.out hb)
  clear hb hz5
  go_wp2_with fail
  refine (works_any _).mono ?_
  rintro e w7 ⟨rfl, hb⟩
  replace HW := Lib.hid (bt HW.out hb)
  clear hb
  go_wp2_with fail
  refine (ksum _ 0 _ (by decide) (by decide)).mono ?_
  rintro e w8 ⟨rfl, hb⟩
  replace HW := Lib.hid (bt HW.out hb)
  clear hb
  go_wp2_with fail
  refine (ksum _ 51440 _ (by decide) (by decide)).mono ?_
  rintro e w9 ⟨rfl, hb⟩
  replace HW := Lib.hid (bt HW.out hb)
  clear hb
  go_wp2_with fail
  refine (ksum _ 8279 _ (by decide) (by decide)).mono ?_
  rintro e w10 ⟨rfl, hb⟩
  replace HW := Lib.hid (bt HW.out hb)
  clear hb
  go_wp2_with fail
  refine (ksum _ 1575 _ (by decide) (by decide)).mono ?_
  rintro e w11 ⟨rfl, hb⟩
  replace HW := Lib.hid (bt HW.out hb)
  clear hb
  go_wp2_with fail
  refine (kbad _ _ (by decide) (by decide)).mono ?_
  rintro e w12 ⟨rfl, hb⟩
  replace HW := Lib.hid (bt HW.out hb)
  clear hb
  go_wp2_with fail
  refine (kbad _ _ (by decide) (by decide)).mono ?_
  rintro e w13 ⟨rfl, hb⟩
  replace HW := Lib.hid (bt HW.out hb)
  clear hb
  go_wp2_with fail
  refine (kbad _ _ (by decide) (by decide)).mono ?_
  rintro e w14 ⟨rfl, hb⟩
  replace HW := Lib.hid (bt HW.out hb)
  clear hb
  go_wp2_with fail
  refine (cut_new _).mono ?_
  rintro e w15 ⟨rfl, hc, hb, _⟩
  have HP := Lib.hid HW.out.size
  obtain ⟨p, hp⟩ : ∃ p, p = w14.heap.size := ⟨_, rfl⟩
  rw [← hp] at hc HP ⊢
  have HC : Hid (K0.At w15 p) := Lib.hid hc
  replace HW := Lib.hid (bt HW.out hb)
  clear hb hc hp
  have HN : Hid (∀ i, i < w.heap.size → ¬ i = p) := Lib.hid fun i hi e => by have := HP.out; omega
  go_wp2_with fail
  refine (kfeed K0 K1 _ p _ HC (by decide) (by decide) (by rfl)).mono ?_
  rintro e w16 ⟨rfl, hc, hk⟩
  replace HW := Lib.hid (kept_new HW.out hk HN.out)
  replace HC := hc
  clear hc hk
  go_wp2_with fail
  refine (ktell K1 K2 _ 0 1 p _ HC (by decide) (by decide) (by decide) (by rfl)).mono ?_
  rintro e w17 ⟨rfl, hc, hk⟩
  replace HW := Lib.hid (kept_new HW.out hk HN.out)
  replace HC := hc
  clear hc hk
  go_wp2_with fail
  refine (ktell K2 K3 _ 7 1 p _ HC (by decide) (by decide) (by decide) (by rfl)).mono ?_
  rintro e w18 ⟨rfl, hc, hk⟩
  replace HW := Lib.hid (kept_new HW.out hk HN.out)
  replace HC := hc
  clear hc hk
  go_wp2_with fail
  refine (ktell K3 K4 _ 14 2 p _ HC (by decide) (by decide) (by decide) (by rfl)).mono ?_
  rintro e w19 ⟨rfl, hc, hk⟩
  replace HW := Lib.hid (kept_new HW.out hk HN.out)
  replace HC := hc
  clear hc hk
  go_wp2_with fail
  refine (ktell K4 K4 _ 14 2 p _ HC (by decide) (by decide) (by decide) (by rfl)).mono ?_
  rintro e w20 ⟨rfl, hc, hk⟩
  replace HW := Lib.hid (kept_new HW.out hk HN.out)
  replace HC := hc
  clear hc hk
  go_wp2_with fail
  refine (kfeed K4 K5 _ p _ HC (by decide) (by decide) (by rfl)).mono ?_
  rintro e w21 ⟨rfl, hc, hk⟩
  replace HW := Lib.hid (kept_new HW.out hk HN.out)
  replace HC := hc
  clear hc hk
  go_wp2_with fail
  refine (feed_nil _ _).mono ?_
  rintro e w22 ⟨rfl, hw⟩
  have HLT := Lib.hid HC.out.lt
  have HE := Lib.hid (knot w21)
  replace HC := Lib.hid (HC.out.below (ba (bz w21) (.cells #[.bool false, .string ⟨#[]⟩, .int .i64 0, .bool false] 55)))
  replace HW := Lib.hid (ba HW.out (.cells #[.bool false, .string ⟨#[]⟩, .int .i64 0, .bool false] 55))
  rw [hw] at HE HC HW
  obtain ⟨e22, he⟩ : ∃ e22, e22 = w21.heap.size := ⟨_, rfl⟩
  rw [← he] at HE HLT ⊢
  clear hw he
  go_wp2_with fail
  refine (feed_not e22 false ⟨#[]⟩ _ 0 _ HE.out).mono ?_
  rintro e w23 ⟨rfl, rfl⟩
  go_wp2_with fail
  refine (ktell K5 K5 _ 14 2 p _ HC (by decide) (by decide) (by decide) (by rfl)).mono ?_
  rintro e w24 ⟨rfl, hc, hk⟩
  replace HW := Lib.hid (kept_new HW.out hk HN.out)
  replace HC := hc
  have HE2 : Hid (CutAt w24 e22 false ⟨#[]⟩ 0 false) := Lib.hid (HE.out.kept hk (by have := HLT.out; omega))
  clear hc hk HE HLT
  go_wp2_with fail
  refine (kfed K5 32 p _ HC (by decide) (by decide) (by decide)).mono ?_
  rintro e w25 ⟨rfl, hb⟩
  replace HW := Lib.hid (bt HW.out hb)
  replace HE2 := Lib.hid (HE2.out.below hb)
  clear hb HC
  go_wp2_with fail
  refine (ktell_nil _).mono ?_
  rintro e w26 ⟨rfl, rfl⟩
  go_wp2_with fail
  refine (ktell_not e22 _ HE2).mono ?_
  rintro e w27 ⟨rfl, rfl⟩
  go_wp2_with fail
  refine (fed_nil _).mono ?_
  rintro e w28 ⟨rfl, rfl⟩
  go_wp2_with fail
  refine (fed_not e22 false ⟨#[]⟩ 0 _ HE2.out).mono ?_
  rintro e w29 ⟨rfl, rfl⟩
  go_wp2_with fail
  refine (works_any _).mono ?_
  rintro e w30 ⟨rfl, hb⟩
  replace HW := Lib.hid (bt HW.out hb)
  clear hb
  go_wp2
  go_ret
  exact ⟨by simp, HW.out⟩
end Go.Proofs.Ytkjcpdogibbahaa
