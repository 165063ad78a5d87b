/- umpirelaw15's awake. Printed from Aw15.tmpl. -/
import Derived.Test.YtfjccgihdnemkaaDn
import Derived.Test.YtfjccgihdnemkaaWo
namespace Go.Proofs.Ytfjccgihdnemkaa
open Go.RowKit Go.Um
set_option linter.unusedSimpArgs false
set_option linter.unusedVariables false
set_option maxHeartbeats 4000000
set_option maxRecDepth 100000
theorem allN_small {N t : Nat} (h : N < 2 ^ t) (ht : t ≤ 65536) : allN N = upto N t := by
  have := upto_more (N := N) (t := t) (fun n hn => testBit_ge h hn) (65536 - t)
  rw [show t + (65536 - t) = 65536 by omega] at this
  exact this
theorem keyN_lit {N k : Nat} {l : List Nat} {s : ByteArray} (h1 : bytesN N k = l) (h2 : Needs 8 k N) (h3 : strOfNums (l.map fun (x : Nat) => (x : Int)) = s) : keyN N s := ⟨l, ⟨k, h1.symm, h2⟩, h3.symm⟩
theorem LisAt.lit (w : World) (L : List Nat) (hL : L.length ≤ 1000) : LisAt (w.alloc (.cells (i64s L).toArray 3)) (.slice (some ⟨w.heap.size, 0, none⟩) L.length L.length) L :=
  ⟨_, _, _, _, rfl, SlAt.new w 3 1 L.length (i64s L) w.heap.size rfl (by simp [i64s]) (by unfold maxLen; omega)⟩
theorem awake_any (w : World) : Calls Try.prog 8 #[] w fun e w' => e = .returned (.bool true) ∧ Below w.heap.size w w' := by
  have n1 : ofN [1, 9, 1, -1] = 514 := by decide
  have a1 : allN 514 = [1, 9] := by rw [allN_small (t := 10) (by decide) (by decide)]; decide
  have a2 : allN (514 / 2 ^ (2 : Int).toNat) = [7] := by rw [allN_small (t := 10) (by decide) (by decide)]; decide
  have k1 : keyN 514 ⟨#[2, 2]⟩ := keyN_lit (k := 2) (l := [2, 2]) (by decide) ⟨by decide, .inr (by decide)⟩ (by rfl)
  have k2 : keyN 3 ⟨#[3]⟩ := keyN_lit (k := 1) (l := [3]) (by decide) ⟨by decide, .inr (by decide)⟩ (by rfl)
  have n2 : withoutN (withN 514 0) 9 = 3 := by decide
  have H1 := Lib.hid a1
  have H2 := Lib.hid a2
  have H3 := Lib.hid k1
  have H4 := Lib.hid k2
  have H5 := Lib.hid n1
  have H6 := Lib.hid n2
  clear a1 a2 k1 k2 n1 n2
  go_enter Try.func8, Try.ntmps8
  go_wp2_with fail
  have hO := of_any [1, 9, 1, -1] 4 rfl (some ⟨w.heap.size, 0, none⟩) 4 w.heap.size 0 (w.alloc (.cells #[Value.int IntKind.i64 1, Value.int IntKind.i64 9, Value.int IntKind.i64 1, Value.int IntKind.i64 (-1)] 3)) (SlAt.new w 3 1 4 ([1, 9, 1, -1].map (Value.int .i64)) w.heap.size rfl rfl (by decide)) (by decide)
  rw [H5.out] at hO
  refine hO.mono ?_
  rintro e w1 ⟨v, rfl, hset, hb⟩
  have HB1 : Hid (Below w.heap.size w w1) := Lib.hid ((ba (bz w) _).trans (hb.mono (by simp)))
  have HS1 := Lib.hid hset
  obtain ⟨m, ao, cap, b, o, rfl, _, _, hm⟩ := hset
  clear hO hb
  go_wp2_with fail
  obtain ⟨w2, hw2⟩ : ∃ w2, w2 = w1.alloc (.cells #[Value.slice ao m cap] 27) := ⟨_, rfl⟩
  have x2 : w2.cell? ⟨w1.heap.size, 0, none⟩ = some (.slice ao m cap) := by rw [hw2]; simp [go_sem]
  have hS2 : SetAt w2 (.agg #[.slice ao m cap]) 514 := by rw [hw2]; exact HS1.out.below (ba (bz w1) _)
  have hB2 : Below w.heap.size w w2 := by rw [hw2]; exact HB1.out.alloc HB1.out.size _
  have hs2 : w2.heap.size = w1.heap.size + 1 := by rw [hw2]; simp
  rw [← hw2]
  have hl : LisAt (w2.alloc (.cells #[.int .i64 1, .int .i64 9] 3)) (.slice (some ⟨w2.heap.size, 0, none⟩) 2 2) [1, 9] := by simpa [i64s] using LisAt.lit w2 [1, 9] (by decide)
  rw [hs2] at hl
  have hiff : (true = true) ↔ ([1, 9] : List Nat) = allN 514 := ⟨fun _ => H1.out.symm, fun _ => rfl⟩
  have hI := is_any (hS2.below (ba (bz w2) (.cells #[.int .i64 1, .int .i64 9] 3))) hl (show ([1, 9] : List Nat).length ≤ 100000 by simp) true hiff
  refine hI.mono ?_
  rintro e w3 ⟨rfl, hb3⟩
  have HS3 := Lib.hid ((hS2.below (ba (bz w2) _)).below hb3)
  have HB3 := Lib.hid (bt (hB2.alloc hB2.size (.cells #[.int .i64 1, .int .i64 9] 3)) hb3)
  have x3 := kc hb3 _ _ _ ((cell_alloc_l (.cells #[.int .i64 1, .int .i64 9] 3) x2))
  clear hs2 hw2 x2 hS2 hB2 hb3 hl hI hiff
  go_wp2_with fail
  refine (key_any _ _ w3 HS3.out).mono ?_
  rintro e w4 ⟨s, rfl, hk, hb4⟩
  obtain rfl := hk.unique H3.out
  have x4 := kc hb4 _ _ _ x3
  have HS4 := Lib.hid (HS3.out.below hb4)
  have HB4 := Lib.hid (bt HB3.out hb4)
  clear hk hb4 x3
  go_wp2_with fail
  refine (with_any _ _ 0 w4 HS4.out).mono ?_
  rintro e w5 ⟨v5, rfl, hset5, hb5⟩
  have x5 := kc hb5 _ _ _ x4
  have HS5 := Lib.hid (HS4.out.below hb5)
  have HB5 := Lib.hid (bt HB4.out hb5)
  have HT5 := Lib.hid hset5
  clear hset5 hb5 x4
  go_wp2_with fail
  have hW := without_any v5 _ 9 w5 HT5.out
  rw [H6.out] at hW
  refine hW.mono ?_
  rintro e w6 ⟨v6, rfl, hset6, hb6⟩
  have x6 := kc hb6 _ _ _ x5
  have HS6 := Lib.hid (HS5.out.below hb6)
  have HB6 := Lib.hid (bt HB5.out hb6)
  have HT6 := Lib.hid hset6
  clear hset6 hb6 x5 hW
  go_wp2_with fail
  refine (key_any _ _ w6 HT6.out).mono ?_
  rintro e w7 ⟨s7, rfl, hk7, hb7⟩
  obtain rfl := hk7.unique H4.out
  have x7 := kc hb7 _ _ _ x6
  have HS7 := Lib.hid (HS6.out.below hb7)
  have HB7 := Lib.hid (bt HB6.out hb7)
  clear hk7 hb7 x6
  go_wp2_with fail
  have hC := count_any HS7.out
  rw [H1.out] at hC
  refine hC.mono ?_
  rintro e w8 ⟨rfl, hb8⟩
  have x8 := kc hb8 _ _ _ x7
  have HS8 := Lib.hid (HS7.out.below hb8)
  have HB8 := Lib.hid (bt HB7.out hb8)
  clear hb8 x7 hC
  go_wp2_with fail
  refine (down_any (by0 := 2) HS8.out).mono ?_
  rintro e w9 ⟨v9, rfl, hset9, hb9⟩
  have HB9 := Lib.hid (bt HB8.out hb9)
  have HT9 := Lib.hid hset9
  clear hset9 hb9 x8
  go_wp2_with fail
  have hl : LisAt (w9.alloc (.cells #[.int .i64 7] 3)) (.slice (some ⟨w9.heap.size, 0, none⟩) 1 1) [7] := by simpa [i64s] using LisAt.lit w9 [7] (by decide)
  have hiff : (true = true) ↔ ([7] : List Nat) = allN (514 / 2 ^ (2 : Int).toNat) := ⟨fun _ => H2.out.symm, fun _ => rfl⟩
  have hI := is_any (HT9.out.below (ba (bz w9) (.cells #[.int .i64 7] 3))) hl (show ([7] : List Nat).length ≤ 100000 by simp) true hiff
  refine hI.mono ?_
  rintro e w10 ⟨rfl, hb10⟩
  have HB10 := Lib.hid (bt (HB9.out.alloc HB9.out.size (.cells #[.int .i64 7] 3)) hb10)
  clear hb10 hl hI hiff
  go_wp2
  go_ret
  exact ⟨rfl, HB10.out⟩
end Go.Proofs.Ytfjccgihdnemkaa
