/- umpirelaw15's BitsKnown: the walk. Printed by gen_nw.py. -/
import Derived.Test.YtfjccgihdnemkaaApl
import Derived.Test.YtfjccgihdnemkaaGp
import Derived.Test.YtfjccgihdnemkaaGq
import Derived.Test.YtfjccgihdnemkaaShelf
namespace Go.Proofs.Ytfjccgihdnemkaa
open Go.RowKit Go.Um
set_option linter.unusedSimpArgs false
set_option linter.unusedVariables false
set_option maxHeartbeats 8000000
set_option maxRecDepth 100000
theorem gap_at {v : Value} {N : Nat} {n G : Int} {w : World} (h : SetAt w v N) (h1 : max 0 n ≤ G) (h2 : hasB N G = false) (h3 : ∀ j : Int, max 0 n ≤ j → j < G → hasB N j = true) :
    Calls Try.prog 14 #[v, .int .i64 n] w fun e w' => e = .returned (.int .i64 G) ∧ Below w.heap.size w w' := by
  refine (gap_any v N n w h).mono ?_
  rintro e w' ⟨g, rfl, k1, k2, k3, hb⟩
  rw [gap_uniq (f := hasB N) h1 h2 h3 k1 k2 k3]
  exact ⟨rfl, hb⟩
def FkE (N : Nat) (E : Int) (w : World) (e : Ending) (w' : World) : Prop := ∃ v, e = .returned (.tuple #[v, .int .i64 E]) ∧ SetAt w' v N ∧ Below w.heap.size w w'
theorem fk_good {s : ByteArray} {N : Nat} (h : goodKey s) (hN : setOf s = N) (w : World) : Calls Try.prog 16 #[.string s] w (FkE N 0 w) := by
  refine (fromkey_any s w).mono ?_
  rintro e w' ⟨v, E, rfl, hb, ⟨_, rfl, hs⟩ | ⟨g, _⟩⟩
  · exact ⟨v, rfl, by rw [← hN]; exact hs, hb⟩
  · exact absurd h g
theorem fk_bad {s : ByteArray} (h : ¬ goodKey s) (w : World) : Calls Try.prog 16 #[.string s] w (FkE 0 4 w) := by
  refine (fromkey_any s w).mono ?_
  rintro e w' ⟨v, E, rfl, hb, ⟨g, _⟩ | ⟨_, rfl, hs⟩⟩
  · exact absurd g h
  · exact ⟨v, rfl, hs, hb⟩
theorem repeatL_len (l : List UInt8) (n : Nat) : (Lib.repeatL l n).length = n * l.length := by
  induction n with
  | zero => simp [Lib.repeatL]
  | succ n ih => simp [Lib.repeatL, ih, Nat.succ_mul]; omega
def Rep (w : World) (n : Nat) (e : Ending) (w' : World) : Prop := ∃ s : ByteArray, s.size = n ∧ e = .returned (.string s) ∧ Below w.heap.size w w'
theorem rep_any (n : Nat) (w : World) (hn : n ≤ 100000) : Calls Try.prog 28 #[.string ⟨#[1]⟩, .int .i64 n] w (Rep w n) := by
  refine (Try.strings_Repeat ⟨#[1]⟩ n w (by omega) (by show 1 * n ≤ _; omega)).mono fun e w' ⟨h1, h2⟩ => ⟨_, ?_, h1, h2⟩
  show (Lib.repeatL _ n).toArray.size = n
  rw [List.size_toArray, repeatL_len]; simp
theorem key_size {N last : Nat} {s : ByteArray} (hk : keyN N s) (hl : LisN [last] N) : s.size = last / 8 + 1 := by
  obtain ⟨l, hl2, rfl⟩ := hk
  have hkl := keyL_str hl2
  obtain ⟨k, hlk, hneed⟩ := hl2
  rw [← keyL_len, hkl, hlk, bytesN_len]
  exact Needs.unique (by decide) hneed (hl.needs rfl)
theorem lis_one {n : Nat} (h : n ≤ 65535) : LisN [n] (ofN [(n : Int)]) := by
  have := lisOf_n [(n : Int)]
  have e : lisOf [(n : Int)] = [n] := by
    have hm : mayB (n : Int) = true := decide_eq_true (by omega)
    simp [lisOf, rins, hm, insL]
  rwa [e] at this
theorem known_any (w : World) : Calls Try.prog 7 #[] w fun e w' => e = .returned (.bool true) ∧ Below w.heap.size w w' := by
  have HB := Lib.hid (bz w)
  have HZ : Hid (([] : List Nat) = allN 0) := Lib.hid (by rw [allN_small (t := 0) (by decide) (by decide)]; rfl)
  have HK0 : Hid (keyN 0 ⟨#[]⟩) := Lib.hid ⟨[], ⟨0, rfl, Needs.zero 8⟩, rfl⟩
  have HO65 : Hid (ofN [65536, -1] = 0) := Lib.hid (by decide)
  go_enter Try.func7, Try.ntmps7
  go_wp2_with fail
  replace HB := Lib.hid (HB.out.alloc HB.out.size (.cells #[Value.int .i64 0, Value.int .i64 1, Value.int .i64 3] 3))
  have hsl1 : SlAt (w.alloc (.cells #[Value.int .i64 0, Value.int .i64 1, Value.int .i64 3] 3)) 1 3 (([0, 1, 3] : List Int).map (Value.int .i64)) (some ⟨w.heap.size, 0, none⟩) 3 w.heap.size 0 := SlAt.new w 3 1 3 (([0, 1, 3] : List Int).map (Value.int .i64)) w.heap.size rfl rfl (by decide)
  have ho1 := of_any [0, 1, 3] 3 rfl _ _ _ _ _ hsl1 (by decide)
  rw [show ofN [0, 1, 3] = 11 from by decide] at ho1
  refine (ho1).mono ?_
  rintro e w1 ⟨v1, rfl, hset1, hb⟩
  replace HB := Lib.hid (bt HB.out hb)
  have HV1 := Lib.hid hset1
  obtain ⟨m1, ao1, cap1, b1, o1, rfl, _⟩ := id hset1
  clear hset1 hsl1 ho1
  clear hb
  go_wp2_with fail
  obtain ⟨p1, hp1⟩ : ∃ p, p = w1.heap.size := ⟨_, rfl⟩
  replace HB := Lib.hid (HB.out.alloc HB.out.size (.cells #[Value.slice ao1 m1 cap1] 27))
  replace HV1 := Lib.hid (HV1.out.below (ba (bz _) (.cells #[Value.slice ao1 m1 cap1] 27)))
  have x1 : (w1.alloc (.cells #[Value.slice ao1 m1 cap1] 27)).cell? ⟨p1, 0, none⟩ = some (.slice ao1 m1 cap1) := by rw [hp1]; exact (cell_new_l w1 _ 27).1
  rw [← hp1]
  clear hp1
  generalize w1.alloc (.cells #[Value.slice ao1 m1 cap1] 27) = W1 at *
  refine (awake_any W1).mono ?_
  rintro e w2 ⟨rfl, hb⟩
  replace x1 := cell_past_ hb x1
  replace HV1 := Lib.hid (HV1.out.below hb)
  replace HB := Lib.hid (bt HB.out hb)
  clear hb
  go_wp2_with fail
  refine (gap_at (n := 0) (G := 2) HV1.out (by decide) (by decide) (fun j h1 h2 => by first | (exfalso; omega) | (have : j = 0 ∨ j = 1 ∨ j = 3 := (by omega); rcases this with rfl | rfl | rfl <;> first | rfl | decide))).mono ?_
  rintro e w3 ⟨rfl, hb⟩
  replace x1 := cell_past_ hb x1
  replace HV1 := Lib.hid (HV1.out.below hb)
  replace HB := Lib.hid (bt HB.out hb)
  clear hb
  go_wp2_with fail
  refine (gap_at (n := 3) (G := 4) HV1.out (by decide) (by decide) (fun j h1 h2 => by first | (exfalso; omega) | (have : j = 0 ∨ j = 1 ∨ j = 3 := (by omega); rcases this with rfl | rfl | rfl <;> first | rfl | decide))).mono ?_
  rintro e w4 ⟨rfl, hb⟩
  replace x1 := cell_past_ hb x1
  replace HV1 := Lib.hid (HV1.out.below hb)
  replace HB := Lib.hid (bt HB.out hb)
  clear hb
  go_wp2_with fail
  refine (gap_at (n := -5) (G := 2) HV1.out (by decide) (by decide) (fun j h1 h2 => by first | (exfalso; omega) | (have : j = 0 ∨ j = 1 ∨ j = 3 := (by omega); rcases this with rfl | rfl | rfl <;> first | rfl | decide))).mono ?_
  rintro e w5 ⟨rfl, hb⟩
  replace x1 := cell_past_ hb x1
  replace HV1 := Lib.hid (HV1.out.below hb)
  replace HB := Lib.hid (bt HB.out hb)
  clear hb
  go_wp2_with fail
  refine (gap_at (n := 70000) (G := 70000) HV1.out (by decide) (by decide) (fun j h1 h2 => by first | (exfalso; omega) | (have : j = 0 ∨ j = 1 ∨ j = 3 := (by omega); rcases this with rfl | rfl | rfl <;> first | rfl | decide))).mono ?_
  rintro e w6 ⟨rfl, hb⟩
  replace x1 := cell_past_ hb x1
  replace HV1 := Lib.hid (HV1.out.below hb)
  replace HB := Lib.hid (bt HB.out hb)
  clear hb
  go_wp2_with fail
  replace x1 := cell_alloc_l (.cells #[Value.int .i64 1, Value.int .i64 9] 3) x1
  replace HV1 := Lib.hid (HV1.out.below (ba (bz _) (.cells #[Value.int .i64 1, Value.int .i64 9] 3)))
  replace HB := Lib.hid (HB.out.alloc HB.out.size (.cells #[Value.int .i64 1, Value.int .i64 9] 3))
  have hsl7 : SlAt (w6.alloc (.cells #[Value.int .i64 1, Value.int .i64 9] 3)) 1 2 (([1, 9] : List Int).map (Value.int .i64)) (some ⟨w6.heap.size, 0, none⟩) 2 w6.heap.size 0 := SlAt.new w6 3 1 2 (([1, 9] : List Int).map (Value.int .i64)) w6.heap.size rfl rfl (by decide)
  have ho7 := of_any [1, 9] 2 rfl _ _ _ _ _ hsl7 (by decide)
  rw [show ofN [1, 9] = 514 from by decide] at ho7
  refine (ho7).mono ?_
  rintro e w7 ⟨v7, rfl, hset7, hb⟩
  replace x1 := cell_past_ hb x1
  replace HV1 := Lib.hid (HV1.out.below hb)
  replace HB := Lib.hid (bt HB.out hb)
  have HV7 := Lib.hid hset7
  obtain ⟨m7, ao7, cap7, b7, o7, rfl, _⟩ := id hset7
  clear hset7 hsl7 ho7
  clear hb
  go_wp2_with fail
  refine (down_any (by0 := 1) HV7.out).mono ?_
  rintro e w8 ⟨v8, rfl, hset8, hb⟩
  replace x1 := cell_past_ hb x1
  replace HV1 := Lib.hid (HV1.out.below hb)
  replace HV7 := Lib.hid (HV7.out.below hb)
  replace HB := Lib.hid (bt HB.out hb)
  have HV8 := Lib.hid hset8
  clear hset8
  clear hb
  go_wp2_with fail
  replace x1 := cell_alloc_l (.cells #[Value.int .i64 0, Value.int .i64 8] 3) x1
  replace HV1 := Lib.hid (HV1.out.below (ba (bz _) (.cells #[Value.int .i64 0, Value.int .i64 8] 3)))
  replace HV8 := Lib.hid (HV8.out.below (ba (bz _) (.cells #[Value.int .i64 0, Value.int .i64 8] 3)))
  replace HB := Lib.hid (HB.out.alloc HB.out.size (.cells #[Value.int .i64 0, Value.int .i64 8] 3))
  have hl9 : LisAt (w8.alloc (.cells #[Value.int .i64 0, Value.int .i64 8] 3)) (.slice (some ⟨w8.heap.size, 0, none⟩) 2 2) [0, 8] := by simpa [i64s] using LisAt.lit w8 [0, 8] (by decide)
  have hiff9 : (true = true) ↔ ([0, 8] : List Nat) = allN (514 / 2 ^ (1 : Int).toNat) := ⟨fun _ => by rw [allN_small (t := 12) (by decide) (by decide)]; decide, fun _ => rfl⟩
  have hi9 := is_any HV8.out hl9 (show ([0, 8] : List Nat).length ≤ 100000 by simp) true hiff9
  refine (hi9).mono ?_
  rintro e w9 ⟨rfl, hb⟩
  replace x1 := cell_past_ hb x1
  replace HV1 := Lib.hid (HV1.out.below hb)
  replace HV8 := Lib.hid (HV8.out.below hb)
  replace HB := Lib.hid (bt HB.out hb)
  clear hl9 hiff9 hi9
  clear hb
  go_wp2_with fail
  refine (down_any (by0 := -1) HV1.out).mono ?_
  rintro e w10 ⟨v10, rfl, hset10, hb⟩
  replace x1 := cell_past_ hb x1
  replace HV1 := Lib.hid (HV1.out.below hb)
  replace HB := Lib.hid (bt HB.out hb)
  have HV10 := Lib.hid hset10
  clear hset10
  clear hb
  go_wp2_with fail
  replace x1 := cell_alloc_l (.cells #[Value.int .i64 0, Value.int .i64 1, Value.int .i64 3] 3) x1
  replace HV1 := Lib.hid (HV1.out.below (ba (bz _) (.cells #[Value.int .i64 0, Value.int .i64 1, Value.int .i64 3] 3)))
  replace HV10 := Lib.hid (HV10.out.below (ba (bz _) (.cells #[Value.int .i64 0, Value.int .i64 1, Value.int .i64 3] 3)))
  replace HB := Lib.hid (HB.out.alloc HB.out.size (.cells #[Value.int .i64 0, Value.int .i64 1, Value.int .i64 3] 3))
  have hl11 : LisAt (w10.alloc (.cells #[Value.int .i64 0, Value.int .i64 1, Value.int .i64 3] 3)) (.slice (some ⟨w10.heap.size, 0, none⟩) 3 3) [0, 1, 3] := by simpa [i64s] using LisAt.lit w10 [0, 1, 3] (by decide)
  have hiff11 : (true = true) ↔ ([0, 1, 3] : List Nat) = allN (11 / 2 ^ (-1 : Int).toNat) := ⟨fun _ => by rw [allN_small (t := 12) (by decide) (by decide)]; decide, fun _ => rfl⟩
  have hi11 := is_any HV10.out hl11 (show ([0, 1, 3] : List Nat).length ≤ 100000 by simp) true hiff11
  refine (hi11).mono ?_
  rintro e w11 ⟨rfl, hb⟩
  replace x1 := cell_past_ hb x1
  replace HV1 := Lib.hid (HV1.out.below hb)
  replace HV10 := Lib.hid (HV10.out.below hb)
  replace HB := Lib.hid (bt HB.out hb)
  clear hl11 hiff11 hi11
  clear hb
  go_wp2_with fail
  refine (fk_good (s := ⟨#[2, 2]⟩) (N := 514) ⟨by decide, by decide⟩ (by decide) _).mono ?_
  rintro e w12 ⟨v12, rfl, hset12, hb⟩
  replace x1 := cell_past_ hb x1
  replace HV1 := Lib.hid (HV1.out.below hb)
  replace HB := Lib.hid (bt HB.out hb)
  have HV12 := Lib.hid hset12
  obtain ⟨m12, ao12, cap12, b12, o12, rfl, _⟩ := id hset12
  clear hset12
  clear hb
  go_wp2_with fail
  obtain ⟨p2, hp2⟩ : ∃ p, p = w12.heap.size := ⟨_, rfl⟩
  replace x1 := cell_alloc_l (.cells #[Value.slice ao12 m12 cap12] 27) x1
  replace HV1 := Lib.hid (HV1.out.below (ba (bz _) (.cells #[Value.slice ao12 m12 cap12] 27)))
  replace HB := Lib.hid (HB.out.alloc HB.out.size (.cells #[Value.slice ao12 m12 cap12] 27))
  replace HV12 := Lib.hid (HV12.out.below (ba (bz _) (.cells #[Value.slice ao12 m12 cap12] 27)))
  have x2 : (w12.alloc (.cells #[Value.slice ao12 m12 cap12] 27)).cell? ⟨p2, 0, none⟩ = some (.slice ao12 m12 cap12) := by rw [hp2]; exact (cell_new_l w12 _ 27).1
  rw [← hp2]
  clear hp2
  generalize w12.alloc (.cells #[Value.slice ao12 m12 cap12] 27) = W12 at *
  refine (fk_bad (s := ⟨#[2, 0]⟩) (fun g => absurd rfl (g.2 (by decide))) _).mono ?_
  rintro e w13 ⟨v13, rfl, hset13, hb⟩
  replace x1 := cell_past_ hb x1
  replace x2 := cell_past_ hb x2
  replace HV1 := Lib.hid (HV1.out.below hb)
  replace HV12 := Lib.hid (HV12.out.below hb)
  replace HB := Lib.hid (bt HB.out hb)
  have HV13 := Lib.hid hset13
  obtain ⟨m13, ao13, cap13, b13, o13, rfl, _⟩ := id hset13
  clear hset13
  clear hb
  go_wp2_with fail
  obtain ⟨p4, hp4⟩ : ∃ p, p = w13.heap.size := ⟨_, rfl⟩
  replace x1 := cell_alloc_l (.cells #[Value.slice ao13 m13 cap13] 27) x1
  replace x2 := cell_alloc_l (.cells #[Value.slice ao13 m13 cap13] 27) x2
  replace HV1 := Lib.hid (HV1.out.below (ba (bz _) (.cells #[Value.slice ao13 m13 cap13] 27)))
  replace HV12 := Lib.hid (HV12.out.below (ba (bz _) (.cells #[Value.slice ao13 m13 cap13] 27)))
  replace HB := Lib.hid (HB.out.alloc HB.out.size (.cells #[Value.slice ao13 m13 cap13] 27))
  replace HV13 := Lib.hid (HV13.out.below (ba (bz _) (.cells #[Value.slice ao13 m13 cap13] 27)))
  have x4 : (w13.alloc (.cells #[Value.slice ao13 m13 cap13] 27)).cell? ⟨p4, 0, none⟩ = some (.slice ao13 m13 cap13) := by rw [hp4]; exact (cell_new_l w13 _ 27).1
  rw [← hp4]
  clear hp4
  generalize w13.alloc (.cells #[Value.slice ao13 m13 cap13] 27) = W13 at *
  refine (fk_good (s := ⟨#[]⟩) (N := 0) ⟨by decide, by decide⟩ (by decide) _).mono ?_
  rintro e w14 ⟨v14, rfl, hset14, hb⟩
  replace x1 := cell_past_ hb x1
  replace x2 := cell_past_ hb x2
  replace x4 := cell_past_ hb x4
  replace HV1 := Lib.hid (HV1.out.below hb)
  replace HV12 := Lib.hid (HV12.out.below hb)
  replace HV13 := Lib.hid (HV13.out.below hb)
  replace HB := Lib.hid (bt HB.out hb)
  have HV14 := Lib.hid hset14
  obtain ⟨m14, ao14, cap14, b14, o14, rfl, _⟩ := id hset14
  clear hset14
  clear hb
  go_wp2_with fail
  obtain ⟨p6, hp6⟩ : ∃ p, p = w14.heap.size := ⟨_, rfl⟩
  replace x1 := cell_alloc_l (.cells #[Value.slice ao14 m14 cap14] 27) x1
  replace x2 := cell_alloc_l (.cells #[Value.slice ao14 m14 cap14] 27) x2
  replace x4 := cell_alloc_l (.cells #[Value.slice ao14 m14 cap14] 27) x4
  replace HV1 := Lib.hid (HV1.out.below (ba (bz _) (.cells #[Value.slice ao14 m14 cap14] 27)))
  replace HV12 := Lib.hid (HV12.out.below (ba (bz _) (.cells #[Value.slice ao14 m14 cap14] 27)))
  replace HV13 := Lib.hid (HV13.out.below (ba (bz _) (.cells #[Value.slice ao14 m14 cap14] 27)))
  replace HB := Lib.hid (HB.out.alloc HB.out.size (.cells #[Value.slice ao14 m14 cap14] 27))
  replace HV14 := Lib.hid (HV14.out.below (ba (bz _) (.cells #[Value.slice ao14 m14 cap14] 27)))
  have x6 : (w14.alloc (.cells #[Value.slice ao14 m14 cap14] 27)).cell? ⟨p6, 0, none⟩ = some (.slice ao14 m14 cap14) := by rw [hp6]; exact (cell_new_l w14 _ 27).1
  rw [← hp6]
  clear hp6
  generalize w14.alloc (.cells #[Value.slice ao14 m14 cap14] 27) = W14 at *
  refine (rep_any 8193 _ (by decide)).mono ?_
  rintro e w15 ⟨S, hS, rfl, hb⟩
  replace x1 := cell_past_ hb x1
  replace x2 := cell_past_ hb x2
  replace x4 := cell_past_ hb x4
  replace x6 := cell_past_ hb x6
  replace HV1 := Lib.hid (HV1.out.below hb)
  replace HV12 := Lib.hid (HV12.out.below hb)
  replace HV13 := Lib.hid (HV13.out.below hb)
  replace HV14 := Lib.hid (HV14.out.below hb)
  replace HB := Lib.hid (bt HB.out hb)
  clear hb
  go_wp2_with fail
  refine (fk_bad (s := S) (fun g => by have := g.1; omega) _).mono ?_
  rintro e w16 ⟨v16, rfl, hset16, hb⟩
  replace x1 := cell_past_ hb x1
  replace x2 := cell_past_ hb x2
  replace x4 := cell_past_ hb x4
  replace x6 := cell_past_ hb x6
  replace HV1 := Lib.hid (HV1.out.below hb)
  replace HV12 := Lib.hid (HV12.out.below hb)
  replace HV13 := Lib.hid (HV13.out.below hb)
  replace HV14 := Lib.hid (HV14.out.below hb)
  replace HB := Lib.hid (bt HB.out hb)
  have HV16 := Lib.hid hset16
  obtain ⟨m16, ao16, cap16, b16, o16, rfl, _⟩ := id hset16
  clear hset16
  clear hb
  have y2 := cell_alloc_l (.cells #[Value.slice none 0 0] 27) (cell_alloc_l (.cells #[Value.slice ao16 m16 cap16] 27) x2)
  go_wp2_with fail
  clear y2
  replace x1 := cell_alloc_l (.cells #[Value.slice ao16 m16 cap16] 27) x1
  replace x2 := cell_alloc_l (.cells #[Value.slice ao16 m16 cap16] 27) x2
  replace x4 := cell_alloc_l (.cells #[Value.slice ao16 m16 cap16] 27) x4
  replace x6 := cell_alloc_l (.cells #[Value.slice ao16 m16 cap16] 27) x6
  replace HV1 := Lib.hid (HV1.out.below (ba (bz _) (.cells #[Value.slice ao16 m16 cap16] 27)))
  replace HV12 := Lib.hid (HV12.out.below (ba (bz _) (.cells #[Value.slice ao16 m16 cap16] 27)))
  replace HV13 := Lib.hid (HV13.out.below (ba (bz _) (.cells #[Value.slice ao16 m16 cap16] 27)))
  replace HV14 := Lib.hid (HV14.out.below (ba (bz _) (.cells #[Value.slice ao16 m16 cap16] 27)))
  replace HB := Lib.hid (HB.out.alloc HB.out.size (.cells #[Value.slice ao16 m16 cap16] 27))
  replace x1 := cell_alloc_l (.cells #[Value.slice none 0 0] 27) x1
  replace x2 := cell_alloc_l (.cells #[Value.slice none 0 0] 27) x2
  replace x4 := cell_alloc_l (.cells #[Value.slice none 0 0] 27) x4
  replace x6 := cell_alloc_l (.cells #[Value.slice none 0 0] 27) x6
  replace HV1 := Lib.hid (HV1.out.below (ba (bz _) (.cells #[Value.slice none 0 0] 27)))
  replace HV12 := Lib.hid (HV12.out.below (ba (bz _) (.cells #[Value.slice none 0 0] 27)))
  replace HV13 := Lib.hid (HV13.out.below (ba (bz _) (.cells #[Value.slice none 0 0] 27)))
  replace HV14 := Lib.hid (HV14.out.below (ba (bz _) (.cells #[Value.slice none 0 0] 27)))
  replace HB := Lib.hid (HB.out.alloc HB.out.size (.cells #[Value.slice none 0 0] 27))
  obtain ⟨p10, hp10⟩ : ∃ p, p = w16.heap.size + 1 := ⟨_, rfl⟩
  have x10 : ((w16.alloc (.cells #[Value.slice ao16 m16 cap16] 27)).alloc (.cells #[Value.slice none 0 0] 27)).cell? ⟨p10, 0, none⟩ = some (.slice none 0 0) := by have := (cell_new_l (w16.alloc (.cells #[Value.slice ao16 m16 cap16] 27)) (.slice none 0 0) 27).1; rw [World.size_alloc, ← hp10] at this; exact this
  have hq10 : ((w16.alloc (.cells #[Value.slice ao16 m16 cap16] 27)).alloc (.cells #[Value.slice none 0 0] 27)).heap.size = w16.heap.size + 1 + 1 := by simp
  generalize ((w16.alloc (.cells #[Value.slice ao16 m16 cap16] 27)).alloc (.cells #[Value.slice none 0 0] 27)) = Z10 at *
  rw [← hq10]
  rw [← hp10]
  clear hp10 hq10
  have HV10z := Lib.hid (SetAt.zero Z10)
  replace x1 := cell_alloc_l (.cells #[Value.int .i64 1, Value.int .i64 9] 3) x1
  replace x2 := cell_alloc_l (.cells #[Value.int .i64 1, Value.int .i64 9] 3) x2
  replace x4 := cell_alloc_l (.cells #[Value.int .i64 1, Value.int .i64 9] 3) x4
  replace x6 := cell_alloc_l (.cells #[Value.int .i64 1, Value.int .i64 9] 3) x6
  replace x10 := cell_alloc_l (.cells #[Value.int .i64 1, Value.int .i64 9] 3) x10
  replace HV1 := Lib.hid (HV1.out.below (ba (bz _) (.cells #[Value.int .i64 1, Value.int .i64 9] 3)))
  replace HV12 := Lib.hid (HV12.out.below (ba (bz _) (.cells #[Value.int .i64 1, Value.int .i64 9] 3)))
  replace HV13 := Lib.hid (HV13.out.below (ba (bz _) (.cells #[Value.int .i64 1, Value.int .i64 9] 3)))
  replace HV14 := Lib.hid (HV14.out.below (ba (bz _) (.cells #[Value.int .i64 1, Value.int .i64 9] 3)))
  replace HV10z := Lib.hid (HV10z.out.below (ba (bz _) (.cells #[Value.int .i64 1, Value.int .i64 9] 3)))
  replace HB := Lib.hid (HB.out.alloc HB.out.size (.cells #[Value.int .i64 1, Value.int .i64 9] 3))
  have hl17 : LisAt (Z10.alloc (.cells #[Value.int .i64 1, Value.int .i64 9] 3)) (.slice (some ⟨Z10.heap.size, 0, none⟩) 2 2) [1, 9] := by simpa [i64s] using LisAt.lit Z10 [1, 9] (by decide)
  have hiff17 : (true = true) ↔ ([1, 9] : List Nat) = allN 514 := ⟨fun _ => by rw [allN_small (t := 12) (by decide) (by decide)]; decide, fun _ => rfl⟩
  have hi17 := is_any HV12.out hl17 (show ([1, 9] : List Nat).length ≤ 100000 by simp) true hiff17
  refine hi17.mono ?_
  rintro e w17 ⟨rfl, hb⟩
  replace x1 := cell_past_ hb x1
  replace x2 := cell_past_ hb x2
  replace x4 := cell_past_ hb x4
  replace x6 := cell_past_ hb x6
  replace x10 := cell_past_ hb x10
  replace HV1 := Lib.hid (HV1.out.below hb)
  replace HV12 := Lib.hid (HV12.out.below hb)
  replace HV13 := Lib.hid (HV13.out.below hb)
  replace HV14 := Lib.hid (HV14.out.below hb)
  replace HV10z := Lib.hid (HV10z.out.below hb)
  replace HB := Lib.hid (bt HB.out hb)
  clear hb hl17 hiff17 hi17
  go_wp2_with fail
  have hi18 := is_any HV14.out (LisAt.nil w17) (by simp) true ⟨fun _ => HZ.out, fun _ => rfl⟩
  refine (hi18).mono ?_
  rintro e w18 ⟨rfl, hb⟩
  replace x1 := cell_past_ hb x1
  replace x2 := cell_past_ hb x2
  replace x4 := cell_past_ hb x4
  replace x6 := cell_past_ hb x6
  replace x10 := cell_past_ hb x10
  replace HV1 := Lib.hid (HV1.out.below hb)
  replace HV12 := Lib.hid (HV12.out.below hb)
  replace HV13 := Lib.hid (HV13.out.below hb)
  replace HV14 := Lib.hid (HV14.out.below hb)
  replace HV10z := Lib.hid (HV10z.out.below hb)
  replace HB := Lib.hid (bt HB.out hb)
  clear hi18
  clear hb
  go_wp2_with fail
  refine (key_any _ _ _ HV10z.out).mono ?_
  rintro e w19 ⟨s19, rfl, hk19, hb⟩
  replace x1 := cell_past_ hb x1
  replace x2 := cell_past_ hb x2
  replace x4 := cell_past_ hb x4
  replace x6 := cell_past_ hb x6
  replace x10 := cell_past_ hb x10
  replace HV1 := Lib.hid (HV1.out.below hb)
  replace HV12 := Lib.hid (HV12.out.below hb)
  replace HV13 := Lib.hid (HV13.out.below hb)
  replace HV14 := Lib.hid (HV14.out.below hb)
  replace HV10z := Lib.hid (HV10z.out.below hb)
  replace HB := Lib.hid (bt HB.out hb)
  obtain rfl := hk19.unique HK0.out
  clear hk19
  clear hb
  go_wp2_with fail
  have hle20 := least_any HV10z.out
  rw [show leastN (allN 0) = -1 by rw [← HZ.out]; rfl] at hle20
  refine (hle20).mono ?_
  rintro e w20 ⟨rfl, hb⟩
  replace x1 := cell_past_ hb x1
  replace x2 := cell_past_ hb x2
  replace x4 := cell_past_ hb x4
  replace x6 := cell_past_ hb x6
  replace x10 := cell_past_ hb x10
  replace HV1 := Lib.hid (HV1.out.below hb)
  replace HV12 := Lib.hid (HV12.out.below hb)
  replace HV13 := Lib.hid (HV13.out.below hb)
  replace HV14 := Lib.hid (HV14.out.below hb)
  replace HV10z := Lib.hid (HV10z.out.below hb)
  replace HB := Lib.hid (bt HB.out hb)
  clear hb
  clear hle20
  go_wp2_with fail
  have hh21 := has_any _ 0 0 _ HV10z.out
  rw [show hasB 0 0 = false from by decide] at hh21
  refine (hh21).mono ?_
  rintro e w21 ⟨rfl, hb⟩
  replace x1 := cell_past_ hb x1
  replace x2 := cell_past_ hb x2
  replace x4 := cell_past_ hb x4
  replace x6 := cell_past_ hb x6
  replace x10 := cell_past_ hb x10
  replace HV1 := Lib.hid (HV1.out.below hb)
  replace HV12 := Lib.hid (HV12.out.below hb)
  replace HV13 := Lib.hid (HV13.out.below hb)
  replace HV14 := Lib.hid (HV14.out.below hb)
  replace HV10z := Lib.hid (HV10z.out.below hb)
  replace HB := Lib.hid (bt HB.out hb)
  clear hb
  clear hh21
  go_wp2_with fail
  refine (within_any HV10z.out HV10z.out true ⟨fun _ n h => h, fun _ => rfl⟩).mono ?_
  rintro e w22 ⟨rfl, hb⟩
  replace x1 := cell_past_ hb x1
  replace x2 := cell_past_ hb x2
  replace x4 := cell_past_ hb x4
  replace x6 := cell_past_ hb x6
  replace x10 := cell_past_ hb x10
  replace HV1 := Lib.hid (HV1.out.below hb)
  replace HV12 := Lib.hid (HV12.out.below hb)
  replace HV13 := Lib.hid (HV13.out.below hb)
  replace HV14 := Lib.hid (HV14.out.below hb)
  replace HV10z := Lib.hid (HV10z.out.below hb)
  replace HB := Lib.hid (bt HB.out hb)
  clear hb
  go_wp2_with fail
  have hh23 := has_any _ 11 (-1) _ HV1.out
  rw [show hasB 11 (-1) = false from by decide] at hh23
  refine (hh23).mono ?_
  rintro e w23 ⟨rfl, hb⟩
  replace x1 := cell_past_ hb x1
  replace x2 := cell_past_ hb x2
  replace x4 := cell_past_ hb x4
  replace x6 := cell_past_ hb x6
  replace x10 := cell_past_ hb x10
  replace HV1 := Lib.hid (HV1.out.below hb)
  replace HV12 := Lib.hid (HV12.out.below hb)
  replace HV13 := Lib.hid (HV13.out.below hb)
  replace HV14 := Lib.hid (HV14.out.below hb)
  replace HV10z := Lib.hid (HV10z.out.below hb)
  replace HB := Lib.hid (bt HB.out hb)
  clear hb
  clear hh23
  go_wp2_with fail
  have hh24 := has_any _ 11 65536 _ HV1.out
  rw [show hasB 11 65536 = false from by decide] at hh24
  refine (hh24).mono ?_
  rintro e w24 ⟨rfl, hb⟩
  replace x1 := cell_past_ hb x1
  replace x2 := cell_past_ hb x2
  replace x4 := cell_past_ hb x4
  replace x6 := cell_past_ hb x6
  replace x10 := cell_past_ hb x10
  replace HV1 := Lib.hid (HV1.out.below hb)
  replace HV12 := Lib.hid (HV12.out.below hb)
  replace HV13 := Lib.hid (HV13.out.below hb)
  replace HV14 := Lib.hid (HV14.out.below hb)
  replace HV10z := Lib.hid (HV10z.out.below hb)
  replace HB := Lib.hid (bt HB.out hb)
  clear hb
  clear hh24
  go_wp2_with fail
  replace x1 := cell_alloc_l (.cells #[Value.int .i64 65535] 3) x1
  replace x2 := cell_alloc_l (.cells #[Value.int .i64 65535] 3) x2
  replace x4 := cell_alloc_l (.cells #[Value.int .i64 65535] 3) x4
  replace x6 := cell_alloc_l (.cells #[Value.int .i64 65535] 3) x6
  replace x10 := cell_alloc_l (.cells #[Value.int .i64 65535] 3) x10
  replace HV1 := Lib.hid (HV1.out.below (ba (bz _) (.cells #[Value.int .i64 65535] 3)))
  replace HV12 := Lib.hid (HV12.out.below (ba (bz _) (.cells #[Value.int .i64 65535] 3)))
  replace HV13 := Lib.hid (HV13.out.below (ba (bz _) (.cells #[Value.int .i64 65535] 3)))
  replace HV14 := Lib.hid (HV14.out.below (ba (bz _) (.cells #[Value.int .i64 65535] 3)))
  replace HV10z := Lib.hid (HV10z.out.below (ba (bz _) (.cells #[Value.int .i64 65535] 3)))
  replace HB := Lib.hid (HB.out.alloc HB.out.size (.cells #[Value.int .i64 65535] 3))
  have hsl25 : SlAt (w24.alloc (.cells #[Value.int .i64 65535] 3)) 1 1 (([65535] : List Int).map (Value.int .i64)) (some ⟨w24.heap.size, 0, none⟩) 1 w24.heap.size 0 := SlAt.new w24 3 1 1 (([65535] : List Int).map (Value.int .i64)) w24.heap.size rfl rfl (by decide)
  have ho25 := of_any [65535] 1 rfl _ _ _ _ _ hsl25 (by decide)
  refine (ho25).mono ?_
  rintro e w25 ⟨v25, rfl, hset25, hb⟩
  replace x1 := cell_past_ hb x1
  replace x2 := cell_past_ hb x2
  replace x4 := cell_past_ hb x4
  replace x6 := cell_past_ hb x6
  replace x10 := cell_past_ hb x10
  replace HV1 := Lib.hid (HV1.out.below hb)
  replace HV12 := Lib.hid (HV12.out.below hb)
  replace HV13 := Lib.hid (HV13.out.below hb)
  replace HV14 := Lib.hid (HV14.out.below hb)
  replace HV10z := Lib.hid (HV10z.out.below hb)
  replace HB := Lib.hid (bt HB.out hb)
  have HV25 := Lib.hid hset25
  obtain ⟨m25, ao25, cap25, b25, o25, rfl, _⟩ := id hset25
  clear hset25 hsl25 ho25
  clear hb
  go_wp2_with fail
  refine (key_any _ _ _ HV25.out).mono ?_
  rintro e w26 ⟨s26, rfl, hk26, hb⟩
  replace x1 := cell_past_ hb x1
  replace x2 := cell_past_ hb x2
  replace x4 := cell_past_ hb x4
  replace x6 := cell_past_ hb x6
  replace x10 := cell_past_ hb x10
  replace HV1 := Lib.hid (HV1.out.below hb)
  replace HV12 := Lib.hid (HV12.out.below hb)
  replace HV13 := Lib.hid (HV13.out.below hb)
  replace HV14 := Lib.hid (HV14.out.below hb)
  replace HV10z := Lib.hid (HV10z.out.below hb)
  replace HV25 := Lib.hid (HV25.out.below hb)
  replace HB := Lib.hid (bt HB.out hb)
  have hsz26 : s26.size = 8192 := key_size hk26 (lis_one (n := 65535) (by decide))
  have hsy26 : (s26.size : Int) = 8192 := by omega
  clear hk26
  clear hb
  go_wp2_with fail
  replace x1 := cell_alloc_l (.cells #[Value.int .i64 65536, Value.int .i64 (-1)] 3) x1
  replace x2 := cell_alloc_l (.cells #[Value.int .i64 65536, Value.int .i64 (-1)] 3) x2
  replace x4 := cell_alloc_l (.cells #[Value.int .i64 65536, Value.int .i64 (-1)] 3) x4
  replace x6 := cell_alloc_l (.cells #[Value.int .i64 65536, Value.int .i64 (-1)] 3) x6
  replace x10 := cell_alloc_l (.cells #[Value.int .i64 65536, Value.int .i64 (-1)] 3) x10
  replace HV1 := Lib.hid (HV1.out.below (ba (bz _) (.cells #[Value.int .i64 65536, Value.int .i64 (-1)] 3)))
  replace HV12 := Lib.hid (HV12.out.below (ba (bz _) (.cells #[Value.int .i64 65536, Value.int .i64 (-1)] 3)))
  replace HV13 := Lib.hid (HV13.out.below (ba (bz _) (.cells #[Value.int .i64 65536, Value.int .i64 (-1)] 3)))
  replace HV14 := Lib.hid (HV14.out.below (ba (bz _) (.cells #[Value.int .i64 65536, Value.int .i64 (-1)] 3)))
  replace HV10z := Lib.hid (HV10z.out.below (ba (bz _) (.cells #[Value.int .i64 65536, Value.int .i64 (-1)] 3)))
  replace HB := Lib.hid (HB.out.alloc HB.out.size (.cells #[Value.int .i64 65536, Value.int .i64 (-1)] 3))
  have hsl27 : SlAt (w26.alloc (.cells #[Value.int .i64 65536, Value.int .i64 (-1)] 3)) 1 2 (([65536, -1] : List Int).map (Value.int .i64)) (some ⟨w26.heap.size, 0, none⟩) 2 w26.heap.size 0 := SlAt.new w26 3 1 2 (([65536, -1] : List Int).map (Value.int .i64)) w26.heap.size rfl rfl (by decide)
  have ho27 := of_any [65536, -1] 2 rfl _ _ _ _ _ hsl27 (by decide)
  refine (ho27).mono ?_
  rintro e w27 ⟨v27, rfl, hset27, hb⟩
  replace x1 := cell_past_ hb x1
  replace x2 := cell_past_ hb x2
  replace x4 := cell_past_ hb x4
  replace x6 := cell_past_ hb x6
  replace x10 := cell_past_ hb x10
  replace HV1 := Lib.hid (HV1.out.below hb)
  replace HV12 := Lib.hid (HV12.out.below hb)
  replace HV13 := Lib.hid (HV13.out.below hb)
  replace HV14 := Lib.hid (HV14.out.below hb)
  replace HV10z := Lib.hid (HV10z.out.below hb)
  replace HB := Lib.hid (bt HB.out hb)
  have HV27 := Lib.hid hset27
  obtain ⟨m27, ao27, cap27, b27, o27, rfl, _⟩ := id hset27
  clear hset27 hsl27 ho27
  clear hb
  rw [HO65.out] at HV27
  go_wp2_with fail
  have hi28 := is_any HV27.out (LisAt.nil w27) (by simp) true ⟨fun _ => HZ.out, fun _ => rfl⟩
  refine (hi28).mono ?_
  rintro e w28 ⟨rfl, hb⟩
  replace x1 := cell_past_ hb x1
  replace x2 := cell_past_ hb x2
  replace x4 := cell_past_ hb x4
  replace x6 := cell_past_ hb x6
  replace x10 := cell_past_ hb x10
  replace HV1 := Lib.hid (HV1.out.below hb)
  replace HV12 := Lib.hid (HV12.out.below hb)
  replace HV13 := Lib.hid (HV13.out.below hb)
  replace HV14 := Lib.hid (HV14.out.below hb)
  replace HV10z := Lib.hid (HV10z.out.below hb)
  replace HV27 := Lib.hid (HV27.out.below hb)
  replace HB := Lib.hid (bt HB.out hb)
  clear hi28
  clear hb
  go_wp2_with fail
  refine (awake_any _).mono ?_
  rintro e w29 ⟨rfl, hb⟩
  replace x1 := cell_past_ hb x1
  replace x2 := cell_past_ hb x2
  replace x4 := cell_past_ hb x4
  replace x6 := cell_past_ hb x6
  replace x10 := cell_past_ hb x10
  replace HV1 := Lib.hid (HV1.out.below hb)
  replace HV12 := Lib.hid (HV12.out.below hb)
  replace HV13 := Lib.hid (HV13.out.below hb)
  replace HV14 := Lib.hid (HV14.out.below hb)
  replace HV10z := Lib.hid (HV10z.out.below hb)
  replace HV27 := Lib.hid (HV27.out.below hb)
  replace HB := Lib.hid (bt HB.out hb)
  clear hb
  go_wp2
  go_ret
  exact ⟨rfl, HB.out⟩
end Go.Proofs.Ytfjccgihdnemkaa
