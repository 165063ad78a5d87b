/- QueueKnown: the chapter's examples hold. -/
import Derived.Test.YtfaoakahmllpjaaDoorOrder
import Derived.Test.YtfaoakahmllpjaaDoorEncode
import Derived.Test.YtfaoakahmllpjaaDoorDecode
namespace Go.Proofs.YtfaoakahmllpjaaDoor
open Go.RowKit Go.Um
set_option maxHeartbeats 0
def ops7 : List Op5 := [⟨4, 0, 0, 1, 0⟩, ⟨4, 0, 0, 2, 0⟩, ⟨5, 0, 0, 0, 0⟩, ⟨4, 0, 0, 3, 0⟩, ⟨5, 0, 0, 0, 0⟩, ⟨5, 0, 0, 0, 0⟩, ⟨5, 0, 0, 0, 0⟩]
theorem ops7_ok : ∀ x ∈ ops7, x.ok := by
  intro x hx
  simp only [ops7, List.mem_cons, List.not_mem_nil, or_false] at hx
  rcases hx with rfl | rfl | rfl | rfl | rfl | rfl | rfl <;> exact op_ok (by decide)
def ops3 : List Op5 := [⟨5, 0, 0, 0, 0⟩, ⟨1, 0, 0, 0, 0⟩, ⟨5, 0, 0, 0, 0⟩]
theorem ops3_ok : ∀ x ∈ ops3, x.ok := by
  intro x hx
  simp only [ops3, List.mem_cons, List.not_mem_nil, or_false] at hx
  rcases hx with rfl | rfl | rfl <;> exact op_ok (by decide)
def out7 : List (Int × Int) := [(0, 0), (0, 0), (1, 1), (0, 0), (1, 2), (1, 3), (2, 0)]
set_option maxRecDepth 100000 in
theorem qknown_any (w : World) (hk : Kinds w) : Calls Tryd.prog 9 #[] w fun e w' => e = .returned (.bool true) ∧ Below w.heap.size w w' := by
  have HW : Hid (Below w.heap.size w w) := Lib.hid (bz w)
  have HK := Lib.hid hk
  clear hk
  have hneq := neq31
  have heql := eql31
  have e7 : decE [0, 5, 1, 2] = 0 := rfl
  have e9 : decE [0] = 5 := rfl
  go_enter Tryd.func9, Tryd.ntmps9
  go_wp2_with fail
  refine (new_any _).mono ?_
  rintro e w1 ⟨rfl, hb⟩
  have hB : Below w.heap.size w w1 := bt (by repeat (first | (with_reducible exact bz w) | (with_reducible apply ba) | (with_reducible apply Below.drew))) hb
  replace HW := Lib.hid (bt HW.out hB)
  clear hb hB
  go_wp2_with fail
  refine (enq_any 1 _).mono ?_
  rintro e w2 ⟨rfl, hb⟩
  have hB : Below w1.heap.size w1 w2 := bt (by repeat (first | (with_reducible exact bz w1) | (with_reducible apply ba) | (with_reducible apply Below.drew))) hb
  replace HW := Lib.hid (bt HW.out hB)
  clear hb hB
  unfold opV
  go_wp2_with fail
  refine (enq_any 2 _).mono ?_
  rintro e w3 ⟨rfl, hb⟩
  have hB : Below w2.heap.size w2 w3 := bt (by repeat (first | (with_reducible exact bz w2) | (with_reducible apply ba) | (with_reducible apply Below.drew))) hb
  replace HW := Lib.hid (bt HW.out hB)
  clear hb hB
  unfold opV
  go_wp2_with fail
  refine (deq_any _).mono ?_
  rintro e w4 ⟨rfl, hb⟩
  have hB : Below w3.heap.size w3 w4 := bt (by repeat (first | (with_reducible exact bz w3) | (with_reducible apply ba) | (with_reducible apply Below.drew))) hb
  replace HW := Lib.hid (bt HW.out hB)
  clear hb hB
  unfold opV
  go_wp2_with fail
  refine (enq_any 3 _).mono ?_
  rintro e w5 ⟨rfl, hb⟩
  have hB : Below w4.heap.size w4 w5 := bt (by repeat (first | (with_reducible exact bz w4) | (with_reducible apply ba) | (with_reducible apply Below.drew))) hb
  replace HW := Lib.hid (bt HW.out hB)
  clear hb hB
  unfold opV
  go_wp2_with fail
  refine (deq_any _).mono ?_
  rintro e w6 ⟨rfl, hb⟩
  have hB : Below w5.heap.size w5 w6 := bt (by repeat (first | (with_reducible exact bz w5) | (with_reducible apply ba) | (with_reducible apply Below.drew))) hb
  replace HW := Lib.hid (bt HW.out hB)
  clear hb hB
  unfold opV
  go_wp2_with fail
  refine (deq_any _).mono ?_
  rintro e w7 ⟨rfl, hb⟩
  have hB : Below w6.heap.size w6 w7 := bt (by repeat (first | (with_reducible exact bz w6) | (with_reducible apply ba) | (with_reducible apply Below.drew))) hb
  replace HW := Lib.hid (bt HW.out hB)
  clear hb hB
  unfold opV
  go_wp2_with fail
  refine (deq_any _).mono ?_
  rintro e w8 ⟨rfl, hb⟩
  have hB : Below w7.heap.size w7 w8 := bt (by repeat (first | (with_reducible exact bz w7) | (with_reducible apply ba) | (with_reducible apply Below.drew))) hb
  replace HW := Lib.hid (bt HW.out hB)
  clear hb hB
  unfold opV
  go_wp2_with fail
  have hp := prun_any (fun b => b < w8.heap.size) [] (.slice none 0 0) ops7 (some ⟨w8.heap.size, 0, none⟩) 7 w8.heap.size 0 (w8.alloc (.cells (ops7.flatMap Op5.cells).toArray 25)) ((Far.of_lies (nil_lies w8)).below (ba (bz w8) _)) (SlAt.new w8 25 5 7 (ops7.flatMap Op5.cells) _ rfl rfl (by decide)) ops7_ok (by decide) (by decide) (HK.out.below (bt HW.out (ba (bz w8) _)))
  unfold RunPost at hp
  rw [show stopAt ops7 = 7 from rfl, show stN [] ops7 7 = [] from rfl, show outN [] ops7 7 = out7 from rfl, show errAt ops7 = 0 from rfl] at hp
  refine hp.mono ?_
  clear hp
  rintro e w9 ⟨vs, vr, rfl, hf, hown, hb⟩
  replace HW := Lib.hid (bt HW.out (bt (ba (bz w8) _) hb))
  have LS := Lib.hid hf.lies
  obtain ⟨aos, caps, bs0, os, rfl, _, _⟩ := hf
  obtain ⟨aor, capr, br, or, rfl, hsr, _⟩ := SlAt.owned hown
  have SR := Lib.hid hsr
  have hidx := hsr.idx (P := Tryd.prog) (t := 42) Tryd.underlying42 size31 (by decide)
  clear hsr hown hb
  have SW := Lib.hid (SlAt.new (w9.alloc (.cells #[.slice aos 0 caps] 28)) 31 2 7 (out7.flatMap resC) (w9.heap.size + 1) (by simp) rfl (by decide))
  have hidx' := (SlAt.new (w9.alloc (.cells #[.slice aos 0 caps] 28)) 31 2 7 (out7.flatMap resC) (w9.heap.size + 1) (by simp) rfl (by decide)).idx (P := Tryd.prog) (t := 42) Tryd.underlying42 size31 (by decide)
  go_wp2_with fail
  refine (works_any _ (HK.out.below (bt HW.out (by repeat (first | (with_reducible exact bz _) | (with_reducible apply ba)))))).mono ?_
  rintro e w10 ⟨rfl, hb⟩
  have hB : Below w9.heap.size w9 w10 := bt (by repeat (first | (with_reducible exact bz w9) | (with_reducible apply ba) | (with_reducible apply Below.drew))) hb
  have c1 := kc hb (w9.heap.size) 0 (.slice aos 0 caps) (by simp [go_sem])
  replace LS := Lib.hid (LS.out.below hB)
  replace SR := Lib.hid (SR.out.below hB)
  replace HW := Lib.hid (bt HW.out hB)
  replace SW := Lib.hid (SW.out.below hb)
  clear hb hB
  go_wp2_with fail
  refine (has_any [] [] _ none 0 0 0 _ LS.out (nil_at _) (by decide)).mono ?_
  rintro e w11 ⟨rfl, hb⟩
  have hB : Below w10.heap.size w10 w11 := bt (by repeat (first | (with_reducible exact bz w10) | (with_reducible apply ba) | (with_reducible apply Below.drew))) hb
  replace c1 := cell_past hB c1
  replace LS := Lib.hid (LS.out.below hB)
  replace SR := Lib.hid (SR.out.below hB)
  replace SW := Lib.hid (SW.out.below hB)
  replace HW := Lib.hid (bt HW.out hB)
  clear hb hB
  rw [decide_eq_true (rfl : ([] : List Int) = [])]
  go_wp2_with fail
  refine (enq_any 7 _).mono ?_
  rintro e w12 ⟨rfl, hb⟩
  have hB : Below w11.heap.size w11 w12 := bt (by repeat (first | (with_reducible exact bz w11) | (with_reducible apply ba) | (with_reducible apply Below.drew))) hb
  replace c1 := cell_past hB c1
  replace LS := Lib.hid (LS.out.below hB)
  replace SR := Lib.hid (SR.out.below hB)
  replace SW := Lib.hid (SW.out.below hB)
  replace HW := Lib.hid (bt HW.out hB)
  have L5 := Lib.hid ((new_lies w11 [5] _ rfl (by decide)).below hb)
  clear hb hB
  unfold opV
  go_wp2_with fail
  refine (steps_any [5] _ ⟨4, 0, 0, 7, 0⟩ (0, 0) [5, 7] _ _ _ _ _ (L5.out.below (ba (bz w12) _)) (SlAt.new w12 23 1 2 (us [5, 7]) _ rfl rfl (by decide)) (op_ok (by decide)) (by decide) (by decide) ((HK.out.below HW.out).below (by repeat (first | (with_reducible exact bz w12) | (with_reducible apply ba)))) rfl rfl rfl).mono ?_
  rintro e w13 ⟨rfl, hb⟩
  have hB : Below w12.heap.size w12 w13 := bt (by repeat (first | (with_reducible exact bz w12) | (with_reducible apply ba) | (with_reducible apply Below.drew))) hb
  replace c1 := cell_past hB c1
  replace LS := Lib.hid (LS.out.below hB)
  replace L5 := Lib.hid (L5.out.below hB)
  replace SR := Lib.hid (SR.out.below hB)
  replace SW := Lib.hid (SW.out.below hB)
  replace HW := Lib.hid (bt HW.out hB)
  clear hb hB
  have HS0 := Lib.hid hidx
  have HS1 := Lib.hid hidx'
  clear L5
  go_wp2_with fail
  go_loopw [5] (fun t5 wr => ∃ k : Nat, k ≤ 7 ∧ t5 = .int .i64 k ∧ Hid (Below w13.heap.size w13 wr)) (fun t5 _ => 7 - (intOf t5).toNat)
  case atStart => exact ⟨0, Nat.zero_le _, rfl, bz _⟩
  case round =>
    obtain ⟨k, hk, rfl, hbel⟩ := hrel
    by_cases hlt : k < 7
    · obtain ⟨x, hx⟩ : ∃ x, out7[k]? = some x := ⟨_, List.getElem?_eq_getElem (show k < out7.length from hlt)⟩
      obtain ⟨g0, g1⟩ := res_at (SR.out.below hbel.out) hx
      obtain ⟨k0, k1⟩ := res_at (SW.out.below hbel.out) hx
      have bb1 : (0 : Int) ≤ (k : Int) := by omega
      have bb2 : (k : Int) < 7 := by omega
      clear hx
      have ix := hidx (k : Int) bb1 (by omega)
      have ix' := hidx' (k : Int) bb1 (by omega)
      simp only [Int.toNat_natCast, Nat.zero_add] at ix ix' k0 k1
      go_wp2_with fail
      go_quiet (fail)
      go_wp2_with fail
      go_roundw
      case rel => exact ⟨k + 1, by omega, by go_num, below_drewN hbel.out _⟩
      case measure => simp [intOf]; omega
    · obtain rfl : k = 7 := by omega
      have hB := hbel.out
      obtain ⟨w14, hw14⟩ : ∃ w14, w14 = wr := ⟨_, rfl⟩
      rw [← hw14] at hB ⊢
      replace c1 := cell_past hB c1
      replace LS := Lib.hid (LS.out.below hB)
      replace SR := Lib.hid (SR.out.below hB)
      replace SW := Lib.hid (SW.out.below hB)
      replace HW := Lib.hid (bt HW.out hB)
      clear hB hw14 hbel hlt hk
      clear SW HS1 hidx'
      go_wp2_with fail
      refine (decode_any ⟨#[0, 5, 1, 2]⟩ _ (by decide)).mono ?_
      rintro e w15 ⟨vt, rfl, hf, hb⟩
      have hB : Below w14.heap.size w14 w15 := bt (by repeat (first | (with_reducible exact bz w14) | (with_reducible apply ba) | (with_reducible apply Below.drew))) hb
      replace c1 := cell_past hB c1
      replace LS := Lib.hid (LS.out.below hB)
      replace SR := Lib.hid (SR.out.below hB)
      replace HW := Lib.hid (bt HW.out hB)
      have hf' : Far _ _ ([5, 258] : List Int) _ := hf
      have LT : Hid (Lies _ [5, 258] _) := Lib.hid hf'.lies
      obtain ⟨aoLT, capLT, bLT, oLT, rfl, _, _⟩ := hf'
      clear hb hB
      go_wp2_with fail
      refine (decode_any ⟨#[0]⟩ _ (by decide)).mono ?_
      rintro e w16 ⟨vx, rfl, hf, hb⟩
      have hB : Below w15.heap.size w15 w16 := bt (by repeat (first | (with_reducible exact bz w15) | (with_reducible apply ba) | (with_reducible apply Below.drew))) hb
      have c6 := kc hb (w15.heap.size) 0 (.slice aoLT 2 capLT) (by simp [go_sem])
      replace c1 := cell_past hB c1
      replace LS := Lib.hid (LS.out.below hB)
      replace LT := Lib.hid (LT.out.below hB)
      replace SR := Lib.hid (SR.out.below hB)
      replace HW := Lib.hid (bt HW.out hB)
      obtain ⟨aox, capx, bx, ox, rfl, _, _⟩ := (show Far _ _ ([] : List Int) _ from hf)
      clear hb hB
      go_wp2_with fail
      refine (qof_any [5] _ _ (new_lies (w16.alloc (.cells #[.slice aox 0 capx] 28)) [5] _ (by simp) (by decide)) (by decide)).mono ?_
      rintro e w17 ⟨v1, rfl, hown, hb⟩
      have hB : Below w16.heap.size w16 w17 := bt (by repeat (first | (with_reducible exact bz w16) | (with_reducible apply ba) | (with_reducible apply Below.drew))) hb
      replace c1 := cell_past hB c1
      replace c6 := cell_past hB c6
      replace LS := Lib.hid (LS.out.below hB)
      replace LT := Lib.hid (LT.out.below hB)
      replace SR := Lib.hid (SR.out.below hB)
      replace HW := Lib.hid (bt HW.out hB)
      have LU : Hid (Lies _ [5] _) := Lib.hid (Lies.own hown)
      obtain ⟨aoU, capU, bU, oU, rfl, _, _⟩ := SlAt.owned hown
      clear hown
      clear hb hB
      go_wp2_with fail
      refine (deq_any _).mono ?_
      rintro e w18 ⟨rfl, hb⟩
      have hB : Below w17.heap.size w17 w18 := bt (by repeat (first | (with_reducible exact bz w17) | (with_reducible apply ba) | (with_reducible apply Below.drew))) hb
      replace c1 := cell_past hB c1
      replace c6 := cell_past hB c6
      replace LS := Lib.hid (LS.out.below hB)
      replace LT := Lib.hid (LT.out.below hB)
      replace LU := Lib.hid (LU.out.below hB)
      replace SR := Lib.hid (SR.out.below hB)
      replace HW := Lib.hid (bt HW.out hB)
      clear hb hB
      unfold opV
      go_wp2_with fail
      refine (deq_any _).mono ?_
      rintro e w19 ⟨rfl, hb⟩
      have hB : Below w18.heap.size w18 w19 := bt (by repeat (first | (with_reducible exact bz w18) | (with_reducible apply ba) | (with_reducible apply Below.drew))) hb
      replace c1 := cell_past hB c1
      replace c6 := cell_past hB c6
      replace LS := Lib.hid (LS.out.below hB)
      replace LT := Lib.hid (LT.out.below hB)
      replace LU := Lib.hid (LU.out.below hB)
      replace SR := Lib.hid (SR.out.below hB)
      replace HW := Lib.hid (bt HW.out hB)
      clear hb hB
      unfold opV
      go_wp2_with fail
      have hp := prun_any (fun b => b < w19.heap.size) [5] (.slice aoU 1 capU) ops3 (some ⟨w19.heap.size, 0, none⟩) 3 (w19.heap.size) 0 (w19.alloc (.cells (ops3.flatMap Op5.cells).toArray 25)) ((Far.of_lies LU.out).below (ba (bz w19) _)) (SlAt.new _ 25 5 3 (ops3.flatMap Op5.cells) _ (by simp) rfl (by decide)) ops3_ok (by decide) (by decide) (HK.out.below (bt HW.out (ba (bz w19) _)))
      unfold RunPost at hp
      rw [show stopAt ops3 = 1 from rfl, show stN [5] ops3 1 = [] from rfl, show outN [5] ops3 1 = [(1, 5)] from rfl, show errAt ops3 = 10 from rfl] at hp
      refine hp.mono ?_
      clear hp
      rintro e w20 ⟨v3, vr3, rfl, hf, hown, hb⟩
      have hB : Below w19.heap.size w19 w20 := bt (ba (bz w19) _) hb
      replace c1 := cell_past hB c1
      replace c6 := cell_past hB c6
      replace LS := Lib.hid (LS.out.below hB)
      replace LT := Lib.hid (LT.out.below hB)
      replace LU := Lib.hid (LU.out.below hB)
      replace SR := Lib.hid (SR.out.below hB)
      replace HW := Lib.hid (bt HW.out hB)
      have L3 := Lib.hid hf.lies
      obtain ⟨ao3, cap3, b3, o3, rfl, _, _⟩ := hf
      obtain ⟨aoq, capq, bq, oq, rfl, hsq, _⟩ := SlAt.owned hown
      have SQ := Lib.hid hsq
      have hidxq := hsq.idx (P := Tryd.prog) (t := 42) Tryd.underlying42 size31 (by decide) 0 (by decide) (by decide)
      clear hsq hown hb hB LU
      go_wp2_with fail
      refine (qof_any [5] _ _ (new_lies (w20.alloc (.cells #[.slice ao3 0 cap3] 28)) [5] _ (by simp) (by decide)) (by decide)).mono ?_
      rintro e w21 ⟨v1, rfl, hown, hb⟩
      have hB : Below w20.heap.size w20 w21 := bt (by repeat (first | (with_reducible exact bz w20) | (with_reducible apply ba) | (with_reducible apply Below.drew))) hb
      have c10 := kc hb (w20.heap.size) 0 (.slice ao3 0 cap3) (by simp [go_sem])
      replace c1 := cell_past hB c1
      replace c6 := cell_past hB c6
      replace LS := Lib.hid (LS.out.below hB)
      replace LT := Lib.hid (LT.out.below hB)
      replace L3 := Lib.hid (L3.out.below hB)
      replace SR := Lib.hid (SR.out.below hB)
      replace SQ := Lib.hid (SQ.out.below hB)
      replace HW := Lib.hid (bt HW.out hB)
      have LU : Hid (Lies _ [5] _) := Lib.hid (Lies.own hown)
      obtain ⟨aoU, capU, bU, oU, rfl, _, _⟩ := SlAt.owned hown
      clear hown
      clear hb hB
      go_wp2_with fail
      refine (step_any (fun b => b < w21.heap.size) [5] _ ⟨1, 0, 0, 0, 0⟩ (op_ok (by decide)) _ (Far.of_lies LU.out) (by decide) ((HK.out.below HW.out).below (by repeat (first | (with_reducible exact bz w21) | (with_reducible apply ba))))).mono ?_
      rintro e w22 ⟨v4, rfl, hf, hb⟩
      have hB : Below w21.heap.size w21 w22 := bt (by repeat (first | (with_reducible exact bz w21) | (with_reducible apply ba) | (with_reducible apply Below.drew))) hb
      replace c1 := cell_past hB c1
      replace c6 := cell_past hB c6
      replace c10 := cell_past hB c10
      replace LS := Lib.hid (LS.out.below hB)
      replace LT := Lib.hid (LT.out.below hB)
      replace L3 := Lib.hid (L3.out.below hB)
      replace LU := Lib.hid (LU.out.below hB)
      replace SR := Lib.hid (SR.out.below hB)
      replace SQ := Lib.hid (SQ.out.below hB)
      replace HW := Lib.hid (bt HW.out hB)
      have hf' : Far _ _ ([5] : List Int) _ := hf
      have L13 : Hid (Lies _ [5] _) := Lib.hid hf'.lies
      obtain ⟨ao13, cap13, b13, o13, rfl, _, _⟩ := hf'
      clear hb hB
      clear LU
      rw [show ans [5] ⟨1, 0, 0, 0, 0⟩ = (0, 0) from rfl, show errOf ⟨1, 0, 0, 0, 0⟩ = 10 from rfl]
      go_wp2_with fail
      refine (new_any _).mono ?_
      rintro e w23 ⟨rfl, hb⟩
      have hB : Below w22.heap.size w22 w23 := bt (by repeat (first | (with_reducible exact bz w22) | (with_reducible apply ba) | (with_reducible apply Below.drew))) hb
      have c13 := kc hb (w22.heap.size) 0 (.slice ao13 1 cap13) (by simp [go_sem])
      replace c1 := cell_past hB c1
      replace c6 := cell_past hB c6
      replace c10 := cell_past hB c10
      replace LS := Lib.hid (LS.out.below hB)
      replace LT := Lib.hid (LT.out.below hB)
      replace L3 := Lib.hid (L3.out.below hB)
      replace L13 := Lib.hid (L13.out.below hB)
      replace SR := Lib.hid (SR.out.below hB)
      replace SQ := Lib.hid (SQ.out.below hB)
      replace HW := Lib.hid (bt HW.out hB)
      clear hb hB
      go_wp2_with fail
      refine (step_any (fun b => b < w23.heap.size) [] _ ⟨5, 0, 0, 1, 0⟩ (op_ok (by decide)) _ (Far.of_lies (nil_lies _)) (by decide) ((HK.out.below HW.out).below (by repeat (first | (with_reducible exact bz w23) | (with_reducible apply ba))))).mono ?_
      rintro e w24 ⟨v5, rfl, hf, hb⟩
      have hB : Below w23.heap.size w23 w24 := bt (by repeat (first | (with_reducible exact bz w23) | (with_reducible apply ba) | (with_reducible apply Below.drew))) hb
      replace c1 := cell_past hB c1
      replace c6 := cell_past hB c6
      replace c10 := cell_past hB c10
      replace c13 := cell_past hB c13
      replace LS := Lib.hid (LS.out.below hB)
      replace LT := Lib.hid (LT.out.below hB)
      replace L3 := Lib.hid (L3.out.below hB)
      replace L13 := Lib.hid (L13.out.below hB)
      replace SR := Lib.hid (SR.out.below hB)
      replace SQ := Lib.hid (SQ.out.below hB)
      replace HW := Lib.hid (bt HW.out hB)
      obtain ⟨ao16, cap16, b16, o16, rfl, _, _⟩ := (show Far _ _ ([] : List Int) _ from hf)
      clear hb hB
      rw [show ans [] ⟨5, 0, 0, 1, 0⟩ = (0, 0) from rfl, show errOf ⟨5, 0, 0, 1, 0⟩ = 10 from rfl]
      go_wp2_with fail
      refine (qof_any [5, 258] _ _ (new_lies ((w24.alloc (.cells #[.slice ao16 0 cap16] 28)).alloc (.cells #[.int .u8 0, .int .u16 0] 31)) [5, 258] _ (by simp) (by decide)) (by decide)).mono ?_
      rintro e w25 ⟨v1, rfl, hown, hb⟩
      have hB : Below w24.heap.size w24 w25 := bt (by repeat (first | (with_reducible exact bz w24) | (with_reducible apply ba) | (with_reducible apply Below.drew))) hb
      replace c1 := cell_past hB c1
      replace c6 := cell_past hB c6
      replace c10 := cell_past hB c10
      replace c13 := cell_past hB c13
      replace LS := Lib.hid (LS.out.below hB)
      replace LT := Lib.hid (LT.out.below hB)
      replace L3 := Lib.hid (L3.out.below hB)
      replace L13 := Lib.hid (L13.out.below hB)
      replace SR := Lib.hid (SR.out.below hB)
      replace SQ := Lib.hid (SQ.out.below hB)
      replace HW := Lib.hid (bt HW.out hB)
      have LE : Hid (Lies _ [5, 258] _) := Lib.hid (Lies.own hown)
      obtain ⟨aoE, capE, bE, oE, rfl, _, _⟩ := SlAt.owned hown
      clear hown
      clear hb hB
      go_wp2_with fail
      refine (encode_any [5, 258] _ _ LE.out (by intro n hn; simp at hn; rcases hn with rfl | rfl <;> exact ⟨by decide, by decide⟩) (by decide)).mono ?_
      rintro e w26 ⟨rfl, hb⟩
      have hB : Below w25.heap.size w25 w26 := bt (by repeat (first | (with_reducible exact bz w25) | (with_reducible apply ba) | (with_reducible apply Below.drew))) hb
      replace c1 := cell_past hB c1
      replace c6 := cell_past hB c6
      replace c10 := cell_past hB c10
      replace c13 := cell_past hB c13
      replace LS := Lib.hid (LS.out.below hB)
      replace LT := Lib.hid (LT.out.below hB)
      replace L3 := Lib.hid (L3.out.below hB)
      replace L13 := Lib.hid (L13.out.below hB)
      replace LE := Lib.hid (LE.out.below hB)
      replace SR := Lib.hid (SR.out.below hB)
      replace SQ := Lib.hid (SQ.out.below hB)
      replace HW := Lib.hid (bt HW.out hB)
      clear hb hB
      clear LE
      rw [show strOfNums (encL [5, 258]) = ⟨#[0, 5, 1, 2]⟩ from rfl]
      go_wp2_with fail
      refine (has_any [5, 258] [5, 258] _ _ _ _ _ _ (LT.out.below (ba (bz w26) _)) (SlAt.new w26 23 1 2 (us [5, 258]) _ rfl rfl (by decide)) (by decide)).mono ?_
      rintro e w27 ⟨rfl, hb⟩
      have hB : Below w26.heap.size w26 w27 := bt (by repeat (first | (with_reducible exact bz w26) | (with_reducible apply ba) | (with_reducible apply Below.drew))) hb
      replace c1 := cell_past hB c1
      replace c6 := cell_past hB c6
      replace c10 := cell_past hB c10
      replace c13 := cell_past hB c13
      replace LS := Lib.hid (LS.out.below hB)
      replace LT := Lib.hid (LT.out.below hB)
      replace L3 := Lib.hid (L3.out.below hB)
      replace L13 := Lib.hid (L13.out.below hB)
      replace SR := Lib.hid (SR.out.below hB)
      replace SQ := Lib.hid (SQ.out.below hB)
      replace HW := Lib.hid (bt HW.out hB)
      clear hb hB
      rw [decide_eq_true (rfl : ([5, 258] : List Int) = [5, 258])]
      go_wp2_with fail
      refine (has_any [] [] _ none 0 0 0 _ L3.out (nil_at _) (by decide)).mono ?_
      rintro e w28 ⟨rfl, hb⟩
      have hB : Below w27.heap.size w27 w28 := bt (by repeat (first | (with_reducible exact bz w27) | (with_reducible apply ba) | (with_reducible apply Below.drew))) hb
      replace c1 := cell_past hB c1
      replace c6 := cell_past hB c6
      replace c10 := cell_past hB c10
      replace c13 := cell_past hB c13
      replace LS := Lib.hid (LS.out.below hB)
      replace LT := Lib.hid (LT.out.below hB)
      replace L3 := Lib.hid (L3.out.below hB)
      replace L13 := Lib.hid (L13.out.below hB)
      replace SR := Lib.hid (SR.out.below hB)
      replace SQ := Lib.hid (SQ.out.below hB)
      replace HW := Lib.hid (bt HW.out hB)
      clear hb hB
      rw [decide_eq_true (rfl : ([] : List Int) = [])]
      obtain ⟨q0, q1⟩ := res_at (k := 0) (x := (1, 5)) SQ.out rfl
      simp at hidxq q0 q1
      go_wp2_with fail
      refine (has_any [5] [5] _ _ _ _ _ _ (L13.out.below (ba (bz w28) _)) (SlAt.new w28 23 1 1 (us [5]) _ rfl rfl (by decide)) (by decide)).mono ?_
      rintro e w29 ⟨rfl, hb⟩
      have hB : Below w28.heap.size w28 w29 := bt (by repeat (first | (with_reducible exact bz w28) | (with_reducible apply ba) | (with_reducible apply Below.drew))) hb
      replace c1 := cell_past hB c1
      replace c6 := cell_past hB c6
      replace c10 := cell_past hB c10
      replace c13 := cell_past hB c13
      replace LS := Lib.hid (LS.out.below hB)
      replace LT := Lib.hid (LT.out.below hB)
      replace L3 := Lib.hid (L3.out.below hB)
      replace L13 := Lib.hid (L13.out.below hB)
      replace SR := Lib.hid (SR.out.below hB)
      replace SQ := Lib.hid (SQ.out.below hB)
      replace HW := Lib.hid (bt HW.out hB)
      clear hb hB
      rw [decide_eq_true (rfl : ([5] : List Int) = [5])]
      go_wp2_with fail
      refine (new_any _).mono ?_
      rintro e w30 ⟨rfl, hb⟩
      have hB : Below w29.heap.size w29 w30 := bt (by repeat (first | (with_reducible exact bz w29) | (with_reducible apply ba) | (with_reducible apply Below.drew))) hb
      replace c1 := cell_past hB c1
      replace c6 := cell_past hB c6
      replace c10 := cell_past hB c10
      replace c13 := cell_past hB c13
      replace LS := Lib.hid (LS.out.below hB)
      replace LT := Lib.hid (LT.out.below hB)
      replace L3 := Lib.hid (L3.out.below hB)
      replace L13 := Lib.hid (L13.out.below hB)
      replace SR := Lib.hid (SR.out.below hB)
      replace SQ := Lib.hid (SQ.out.below hB)
      replace HW := Lib.hid (bt HW.out hB)
      clear hb hB
      go_wp2_with fail
      refine (same_any [] [] _ _ _ (nil_lies _) (nil_lies _) (by decide)).mono ?_
      rintro e w31 ⟨rfl, hb⟩
      have hB : Below w30.heap.size w30 w31 := bt (by repeat (first | (with_reducible exact bz w30) | (with_reducible apply ba) | (with_reducible apply Below.drew))) hb
      replace c1 := cell_past hB c1
      replace c6 := cell_past hB c6
      replace c10 := cell_past hB c10
      replace c13 := cell_past hB c13
      replace LS := Lib.hid (LS.out.below hB)
      replace LT := Lib.hid (LT.out.below hB)
      replace L3 := Lib.hid (L3.out.below hB)
      replace L13 := Lib.hid (L13.out.below hB)
      replace SR := Lib.hid (SR.out.below hB)
      replace SQ := Lib.hid (SQ.out.below hB)
      replace HW := Lib.hid (bt HW.out hB)
      clear hb hB
      rw [decide_eq_true (rfl : ([] : List Int) = [])]
      go_wp2_with fail
      refine (works_any _ ((HK.out.below HW.out).below (by repeat (first | (with_reducible exact bz w31) | (with_reducible apply ba))))).mono ?_
      rintro e w32 ⟨rfl, hb⟩
      have hB : Below w31.heap.size w31 w32 := bt (by repeat (first | (with_reducible exact bz w31) | (with_reducible apply ba) | (with_reducible apply Below.drew))) hb
      replace c1 := cell_past hB c1
      replace c6 := cell_past hB c6
      replace c10 := cell_past hB c10
      replace c13 := cell_past hB c13
      replace LS := Lib.hid (LS.out.below hB)
      replace LT := Lib.hid (LT.out.below hB)
      replace L3 := Lib.hid (L3.out.below hB)
      replace L13 := Lib.hid (L13.out.below hB)
      replace SR := Lib.hid (SR.out.below hB)
      replace SQ := Lib.hid (SQ.out.below hB)
      replace HW := Lib.hid (bt HW.out hB)
      clear hb hB
      go_wp2
      go_ret
      exact ⟨by simp, HW.out⟩
end Go.Proofs.YtfaoakahmllpjaaDoor
