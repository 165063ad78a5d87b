/- KvmapKnown: the examples of the chapter. Printed by gen_known.py. -/
import Derived.Test.YtoidbmgoofbcfaaAwake
import Derived.Test.YtoidbmgoofbcfaaDecode
namespace Go.Proofs.Ytoidbmgoofbcfaa
open Go.RowKit Go.Um
set_option linter.unusedSimpArgs false
set_option linter.unusedVariables false
set_option maxHeartbeats 4000000
set_option maxRecDepth 100000

theorem k_step1 (w : World) : Calls Try.prog 21 #[.agg #[.int .u8 5, .int .u16 1, .int .u16 0, .int .u16 258, .int .u16 0, .int .u16 0, .int .u16 0, .int .u16 0, .int .u16 0], .agg #[.int .u8 6, .int .u8 0, .int .u8 8, .int .u16 0, .int .u16 0]] w fun e w' => e = .returned (.tuple #[.agg #[.int .u8 5, .int .u16 1, .int .u16 0, .int .u16 258, .int .u16 0, .int .u16 0, .int .u16 0, .int .u16 0, .int .u16 0], .agg #[.int .u8 0, .int .u16 0], .int .i64 10]) ∧ Below w.heap.size w w' :=
  Step_any twS ⟨6, 0, 8, 0, 0⟩ w tw_ok (ops_ok (l := [⟨6, 0, 8, 0, 0⟩]) (by decide) _ (by simp))
theorem k_step2 (w : World) : Calls Try.prog 21 #[.agg #[.int .u8 5, .int .u16 1, .int .u16 0, .int .u16 258, .int .u16 0, .int .u16 0, .int .u16 0, .int .u16 0, .int .u16 0], .agg #[.int .u8 1, .int .u8 0, .int .u8 0, .int .u16 0, .int .u16 0]] w fun e w' => e = .returned (.tuple #[.agg #[.int .u8 5, .int .u16 1, .int .u16 0, .int .u16 258, .int .u16 0, .int .u16 0, .int .u16 0, .int .u16 0, .int .u16 0], .agg #[.int .u8 0, .int .u16 0], .int .i64 10]) ∧ Below w.heap.size w w' :=
  Step_any twS ⟨1, 0, 0, 0, 0⟩ w tw_ok (ops_ok (l := [⟨1, 0, 0, 0, 0⟩]) (by decide) _ (by simp))
theorem k_dec0 (w : World) : Calls Try.prog 23 #[.string ⟨#[1, 0]⟩] w fun e w' => e = .returned (.tuple #[.agg #[.int .u8 0, .int .u16 0, .int .u16 0, .int .u16 0, .int .u16 0, .int .u16 0, .int .u16 0, .int .u16 0, .int .u16 0], .int .i64 4]) ∧ Below w.heap.size w w' := by
  have h := decode_any ⟨#[1, 0]⟩ w (by decide)
  unfold DecPost at h
  rw [show decS ⟨#[1, 0]⟩ = KV.zero from by decide +kernel, show decE ⟨#[1, 0]⟩ = 4 from by decide +kernel] at h
  exact h
theorem k_dec1 (w : World) : Calls Try.prog 23 #[.string ⟨#[0, 0]⟩] w fun e w' => e = .returned (.tuple #[.agg #[.int .u8 0, .int .u16 0, .int .u16 0, .int .u16 0, .int .u16 0, .int .u16 0, .int .u16 0, .int .u16 0, .int .u16 0], .int .i64 4]) ∧ Below w.heap.size w w' := by
  have h := decode_any ⟨#[0, 0]⟩ w (by decide)
  unfold DecPost at h
  rw [show decS ⟨#[0, 0]⟩ = KV.zero from by decide +kernel, show decE ⟨#[0, 0]⟩ = 4 from by decide +kernel] at h
  exact h
theorem k_dec2 (w : World) : Calls Try.prog 23 #[.string ⟨#[0]⟩] w fun e w' => e = .returned (.tuple #[.agg #[.int .u8 0, .int .u16 0, .int .u16 0, .int .u16 0, .int .u16 0, .int .u16 0, .int .u16 0, .int .u16 0, .int .u16 0], .int .i64 0]) ∧ Below w.heap.size w w' := by
  have h := decode_any ⟨#[0]⟩ w (by decide)
  unfold DecPost at h
  rw [show decS ⟨#[0]⟩ = KV.zero from by decide +kernel, show decE ⟨#[0]⟩ = 0 from by decide +kernel] at h
  exact h
theorem k_dec3 (w : World) : Calls Try.prog 23 #[.string ⟨#[]⟩] w fun e w' => e = .returned (.tuple #[.agg #[.int .u8 0, .int .u16 0, .int .u16 0, .int .u16 0, .int .u16 0, .int .u16 0, .int .u16 0, .int .u16 0, .int .u16 0], .int .i64 4]) ∧ Below w.heap.size w w' := by
  have h := decode_any ⟨#[]⟩ w (by decide)
  unfold DecPost at h
  rw [show decS ⟨#[]⟩ = KV.zero from by decide +kernel, show decE ⟨#[]⟩ = 4 from by decide +kernel] at h
  exact h
theorem k_only2 (w : World) : Calls Try.prog 18 #[.agg #[.int .u8 5, .int .u16 1, .int .u16 0, .int .u16 258, .int .u16 0, .int .u16 0, .int .u16 0, .int .u16 0, .int .u16 0], .int .u8 2] w fun e w' => e = .returned (.agg #[.int .u8 4, .int .u16 0, .int .u16 0, .int .u16 258, .int .u16 0, .int .u16 0, .int .u16 0, .int .u16 0, .int .u16 0]) ∧ Below w.heap.size w w' := by
  have h := only_any twS 2 w tw_ok
  rw [show twS.only 2 = ⟨4, 0, 0, 258, 0, 0, 0, 0, 0⟩ from by decide +kernel] at h
  exact h
theorem k_only1 (w : World) : Calls Try.prog 18 #[.agg #[.int .u8 5, .int .u16 1, .int .u16 0, .int .u16 258, .int .u16 0, .int .u16 0, .int .u16 0, .int .u16 0, .int .u16 0], .int .u8 1] w fun e w' => e = .returned (.agg #[.int .u8 0, .int .u16 0, .int .u16 0, .int .u16 0, .int .u16 0, .int .u16 0, .int .u16 0, .int .u16 0, .int .u16 0]) ∧ Below w.heap.size w w' := by
  have h := only_any twS 1 w tw_ok
  rw [show twS.only 1 = KV.zero from by decide +kernel] at h
  exact h
theorem k_only9 (w : World) : Calls Try.prog 18 #[.agg #[.int .u8 5, .int .u16 1, .int .u16 0, .int .u16 258, .int .u16 0, .int .u16 0, .int .u16 0, .int .u16 0, .int .u16 0], .int .u8 9] w fun e w' => e = .returned (.agg #[.int .u8 0, .int .u16 0, .int .u16 0, .int .u16 0, .int .u16 0, .int .u16 0, .int .u16 0, .int .u16 0, .int .u16 0]) ∧ Below w.heap.size w w' := by
  have h := only_any twS 9 w tw_ok
  rw [show twS.only 9 = KV.zero from by decide +kernel] at h
  exact h
theorem k_check (w : World) : Calls Try.prog 20 #[.agg #[.int .u8 0, .int .u16 1, .int .u16 0, .int .u16 0, .int .u16 0, .int .u16 0, .int .u16 0, .int .u16 0, .int .u16 0]] w fun e w' => e = .returned (.int .i64 4) ∧ Below w.heap.size w w' := by
  have h := check_any ⟨0, 1, 0, 0, 0, 0, 0, 0, 0⟩ w ⟨by decide, fun k => by rcases k with _ | _ | _ | _ | _ | _ | _ | _ | k <;> simp [KV.get]⟩
  rw [show checkV ⟨0, 1, 0, 0, 0, 0, 0, 0, 0⟩ = 4 from by decide +kernel] at h
  exact h

theorem known_any (w : World) : Calls Try.prog 9 #[] w fun e w' => e = .returned (.bool true) ∧ Below w.heap.size w w' := by
  have heq := eq25
  go_enter Try.func9, Try.ntmps9
  go_wp2_with fail
  refine (two_any _).mono ?_
  rintro e w1 ⟨rfl, hb⟩
  have HW := Lib.hid hb
  clear hb
  go_wp2_with fail
  refine (op_any 6 8 0 0 _).mono ?_
  rintro e w2 ⟨rfl, hb⟩
  replace HW := Lib.hid (bt HW.out (bt (by repeat (first | (with_reducible exact bz _) | (with_reducible apply ba) | (with_reducible apply Below.drew))) hb))
  clear hb
  go_wp2_with fail
  refine (k_step1 _).mono ?_
  rintro e w3 ⟨rfl, hb⟩
  replace HW := Lib.hid (bt HW.out (bt (by repeat (first | (with_reducible exact bz _) | (with_reducible apply ba) | (with_reducible apply Below.drew))) hb))
  clear hb
  go_wp2_with fail
  refine (two_any _).mono ?_
  rintro e w4 ⟨rfl, hb⟩
  replace HW := Lib.hid (bt HW.out (bt (by repeat (first | (with_reducible exact bz _) | (with_reducible apply ba) | (with_reducible apply Below.drew))) hb))
  clear hb
  go_wp2_with fail
  refine (op_any 1 0 0 0 _).mono ?_
  rintro e w5 ⟨rfl, hb⟩
  replace HW := Lib.hid (bt HW.out (bt (by repeat (first | (with_reducible exact bz _) | (with_reducible apply ba) | (with_reducible apply Below.drew))) hb))
  clear hb
  go_wp2_with fail
  refine (k_step2 _).mono ?_
  rintro e w6 ⟨rfl, hb⟩
  replace HW := Lib.hid (bt HW.out (bt (by repeat (first | (with_reducible exact bz _) | (with_reducible apply ba) | (with_reducible apply Below.drew))) hb))
  clear hb
  go_wp2_with fail
  refine (k_dec0 _).mono ?_
  rintro e w7 ⟨rfl, hb⟩
  replace HW := Lib.hid (bt HW.out (bt (by repeat (first | (with_reducible exact bz _) | (with_reducible apply ba) | (with_reducible apply Below.drew))) hb))
  clear hb
  go_wp2_with fail
  refine (k_dec1 _).mono ?_
  rintro e w8 ⟨rfl, hb⟩
  replace HW := Lib.hid (bt HW.out (bt (by repeat (first | (with_reducible exact bz _) | (with_reducible apply ba) | (with_reducible apply Below.drew))) hb))
  clear hb
  go_wp2_with fail
  refine (k_dec2 _).mono ?_
  rintro e w9 ⟨rfl, hb⟩
  replace HW := Lib.hid (bt HW.out (bt (by repeat (first | (with_reducible exact bz _) | (with_reducible apply ba) | (with_reducible apply Below.drew))) hb))
  clear hb
  have K11 := Lib.hid (KvAt.new w9 KV.zero)
  obtain ⟨P11, hP11⟩ : ∃ p, p = w9.heap.size := ⟨_, rfl⟩
  go_wp2_with fail
  replace K11 : Hid (KvAt (w9.alloc (.cells #[.int .u8 0, .int .u16 0, .int .u16 0, .int .u16 0, .int .u16 0, .int .u16 0, .int .u16 0, .int .u16 0, .int .u16 0] 25)) w9.heap.size KV.zero) := K11
  replace HW := Lib.hid (ba HW.out (.cells #[.int .u8 0, .int .u16 0, .int .u16 0, .int .u16 0, .int .u16 0, .int .u16 0, .int .u16 0, .int .u16 0, .int .u16 0] 25))
  obtain ⟨Y, hY⟩ : ∃ Y, Y = w9.alloc (.cells #[.int .u8 0, .int .u16 0, .int .u16 0, .int .u16 0, .int .u16 0, .int .u16 0, .int .u16 0, .int .u16 0, .int .u16 0] 25) := ⟨_, rfl⟩
  rw [← hY] at K11 HW ⊢
  rw [← hP11] at K11 ⊢
  clear hY hP11
  refine (k_dec3 _).mono ?_
  rintro e w10 ⟨rfl, hb⟩
  replace HW := Lib.hid (bt HW.out hb)
  replace K11 := Lib.hid (K11.out.below hb)
  clear hb
  go_wp2_with fail
  refine (two_any _).mono ?_
  rintro e w11 ⟨rfl, hb⟩
  replace HW := Lib.hid (bt HW.out (bt (by repeat (first | (with_reducible exact bz _) | (with_reducible apply ba) | (with_reducible apply Below.drew))) hb))
  replace K11 := Lib.hid ((K11.out.below (by repeat (first | (with_reducible exact bz _) | (with_reducible apply ba) | (with_reducible apply Below.drew)))).below hb)
  clear hb
  go_wp2_with fail
  refine (k_only2 _).mono ?_
  rintro e w12 ⟨rfl, hb⟩
  replace HW := Lib.hid (bt HW.out (bt (by repeat (first | (with_reducible exact bz _) | (with_reducible apply ba) | (with_reducible apply Below.drew))) hb))
  replace K11 := Lib.hid ((K11.out.below (by repeat (first | (with_reducible exact bz _) | (with_reducible apply ba) | (with_reducible apply Below.drew)))).below hb)
  clear hb
  go_wp2_with fail
  have K15 := Lib.hid (KvAt.new w12 ⟨4, 0, 0, 258, 0, 0, 0, 0, 0⟩)
  replace K15 : Hid (KvAt (w12.alloc (.cells #[.int .u8 4, .int .u16 0, .int .u16 0, .int .u16 258, .int .u16 0, .int .u16 0, .int .u16 0, .int .u16 0, .int .u16 0] 25)) w12.heap.size ⟨4, 0, 0, 258, 0, 0, 0, 0, 0⟩) := K15
  replace HW := Lib.hid (ba HW.out (.cells #[.int .u8 4, .int .u16 0, .int .u16 0, .int .u16 258, .int .u16 0, .int .u16 0, .int .u16 0, .int .u16 0, .int .u16 0] 25))
  replace K11 := Lib.hid (K11.out.below (ba (bz w12) (.cells #[.int .u8 4, .int .u16 0, .int .u16 0, .int .u16 258, .int .u16 0, .int .u16 0, .int .u16 0, .int .u16 0, .int .u16 0] 25)))
  obtain ⟨Y2, hY2⟩ : ∃ Y, Y = w12.alloc (.cells #[.int .u8 4, .int .u16 0, .int .u16 0, .int .u16 258, .int .u16 0, .int .u16 0, .int .u16 0, .int .u16 0, .int .u16 0] 25) := ⟨_, rfl⟩
  rw [← hY2] at K11 K15 HW ⊢
  obtain ⟨P15, hP15⟩ : ∃ p, p = w12.heap.size := ⟨_, rfl⟩
  rw [← hP15] at K15 ⊢
  clear hY2 hP15
  obtain ⟨x0, x1, x2, x3, x4, x5, x6, x7, x8, _, _, _, _, _, _, _, _, _⟩ := K11.out
  simp only [KV.zero] at x0 x1 x2 x3 x4 x5 x6 x7 x8
  obtain ⟨y0, y1, y2, y3, _, _, _, _, _, _, _, _, _, _, _, _, _, _⟩ := K15.out
  dsimp only at y0 y1 y2 y3
  clear K11 K15 y2
  simp only [List.append_eq, List.cons_append, List.nil_append]
  go_region_held3 (fun w' => w'.cell? ⟨P11, 0, none⟩ = some (.int .u8 0) ∧ w'.cell? ⟨P11, 1, none⟩ = some (.int .u16 0) ∧ w'.cell? ⟨P11, 2, none⟩ = some (.int .u16 0) ∧ w'.cell? ⟨P11, 3, none⟩ = some (.int .u16 0) ∧ w'.cell? ⟨P11, 4, none⟩ = some (.int .u16 0) ∧ w'.cell? ⟨P11, 5, none⟩ = some (.int .u16 0) ∧ w'.cell? ⟨P11, 6, none⟩ = some (.int .u16 0) ∧ w'.cell? ⟨P11, 7, none⟩ = some (.int .u16 0) ∧ w'.cell? ⟨P11, 8, none⟩ = some (.int .u16 0) ∧ w'.cell? ⟨P15, 0, none⟩ = some (.int .u8 4) ∧ w'.cell? ⟨P15, 1, none⟩ = some (.int .u16 0) ∧ w'.cell? ⟨P15, 3, none⟩ = some (.int .u16 258))
    (refine ⟨?_, ?_, ?_, ?_, ?_, ?_, ?_, ?_, ?_, ?_, ?_, ?_⟩ <;> (repeat (first | (with_reducible assumption) | (with_reducible apply keep_alloc) | (with_reducible apply keep_drew))))
    (first
      | (go_at_call 16; refine (new0 _).mono ?_; rintro e wX ⟨rfl, hb⟩; replace x0 := cell_past hb (by repeat (first | (with_reducible exact x0) | (with_reducible apply keep_alloc) | (with_reducible apply keep_drew))); replace x1 := cell_past hb (by repeat (first | (with_reducible exact x1) | (with_reducible apply keep_alloc) | (with_reducible apply keep_drew))); replace x2 := cell_past hb (by repeat (first | (with_reducible exact x2) | (with_reducible apply keep_alloc) | (with_reducible apply keep_drew))); replace x3 := cell_past hb (by repeat (first | (with_reducible exact x3) | (with_reducible apply keep_alloc) | (with_reducible apply keep_drew))); replace x4 := cell_past hb (by repeat (first | (with_reducible exact x4) | (with_reducible apply keep_alloc) | (with_reducible apply keep_drew))); replace x5 := cell_past hb (by repeat (first | (with_reducible exact x5) | (with_reducible apply keep_alloc) | (with_reducible apply keep_drew))); replace x6 := cell_past hb (by repeat (first | (with_reducible exact x6) | (with_reducible apply keep_alloc) | (with_reducible apply keep_drew))); replace x7 := cell_past hb (by repeat (first | (with_reducible exact x7) | (with_reducible apply keep_alloc) | (with_reducible apply keep_drew))); replace x8 := cell_past hb (by repeat (first | (with_reducible exact x8) | (with_reducible apply keep_alloc) | (with_reducible apply keep_drew))); replace y0 := cell_past hb (by repeat (first | (with_reducible exact y0) | (with_reducible apply keep_alloc) | (with_reducible apply keep_drew))); replace y1 := cell_past hb (by repeat (first | (with_reducible exact y1) | (with_reducible apply keep_alloc) | (with_reducible apply keep_drew))); replace y3 := cell_past hb (by repeat (first | (with_reducible exact y3) | (with_reducible apply keep_alloc) | (with_reducible apply keep_drew))); replace HW := Lib.hid (bt HW.out (bt (by repeat (first | (with_reducible exact bz _) | (with_reducible apply ba) | (with_reducible apply Below.drew))) hb)); clear hb)
      | (go_at_call 27; refine (two_any _).mono ?_; rintro e wX ⟨rfl, hb⟩; replace x0 := cell_past hb (by repeat (first | (with_reducible exact x0) | (with_reducible apply keep_alloc) | (with_reducible apply keep_drew))); replace x1 := cell_past hb (by repeat (first | (with_reducible exact x1) | (with_reducible apply keep_alloc) | (with_reducible apply keep_drew))); replace x2 := cell_past hb (by repeat (first | (with_reducible exact x2) | (with_reducible apply keep_alloc) | (with_reducible apply keep_drew))); replace x3 := cell_past hb (by repeat (first | (with_reducible exact x3) | (with_reducible apply keep_alloc) | (with_reducible apply keep_drew))); replace x4 := cell_past hb (by repeat (first | (with_reducible exact x4) | (with_reducible apply keep_alloc) | (with_reducible apply keep_drew))); replace x5 := cell_past hb (by repeat (first | (with_reducible exact x5) | (with_reducible apply keep_alloc) | (with_reducible apply keep_drew))); replace x6 := cell_past hb (by repeat (first | (with_reducible exact x6) | (with_reducible apply keep_alloc) | (with_reducible apply keep_drew))); replace x7 := cell_past hb (by repeat (first | (with_reducible exact x7) | (with_reducible apply keep_alloc) | (with_reducible apply keep_drew))); replace x8 := cell_past hb (by repeat (first | (with_reducible exact x8) | (with_reducible apply keep_alloc) | (with_reducible apply keep_drew))); replace y0 := cell_past hb (by repeat (first | (with_reducible exact y0) | (with_reducible apply keep_alloc) | (with_reducible apply keep_drew))); replace y1 := cell_past hb (by repeat (first | (with_reducible exact y1) | (with_reducible apply keep_alloc) | (with_reducible apply keep_drew))); replace y3 := cell_past hb (by repeat (first | (with_reducible exact y3) | (with_reducible apply keep_alloc) | (with_reducible apply keep_drew))); replace HW := Lib.hid (bt HW.out (bt (by repeat (first | (with_reducible exact bz _) | (with_reducible apply ba) | (with_reducible apply Below.drew))) hb)); clear hb)
      | (go_at_call 10; refine (awake_any _).mono ?_; rintro e wX ⟨rfl, hb⟩; replace x0 := cell_past hb (by repeat (first | (with_reducible exact x0) | (with_reducible apply keep_alloc) | (with_reducible apply keep_drew))); replace x1 := cell_past hb (by repeat (first | (with_reducible exact x1) | (with_reducible apply keep_alloc) | (with_reducible apply keep_drew))); replace x2 := cell_past hb (by repeat (first | (with_reducible exact x2) | (with_reducible apply keep_alloc) | (with_reducible apply keep_drew))); replace x3 := cell_past hb (by repeat (first | (with_reducible exact x3) | (with_reducible apply keep_alloc) | (with_reducible apply keep_drew))); replace x4 := cell_past hb (by repeat (first | (with_reducible exact x4) | (with_reducible apply keep_alloc) | (with_reducible apply keep_drew))); replace x5 := cell_past hb (by repeat (first | (with_reducible exact x5) | (with_reducible apply keep_alloc) | (with_reducible apply keep_drew))); replace x6 := cell_past hb (by repeat (first | (with_reducible exact x6) | (with_reducible apply keep_alloc) | (with_reducible apply keep_drew))); replace x7 := cell_past hb (by repeat (first | (with_reducible exact x7) | (with_reducible apply keep_alloc) | (with_reducible apply keep_drew))); replace x8 := cell_past hb (by repeat (first | (with_reducible exact x8) | (with_reducible apply keep_alloc) | (with_reducible apply keep_drew))); replace y0 := cell_past hb (by repeat (first | (with_reducible exact y0) | (with_reducible apply keep_alloc) | (with_reducible apply keep_drew))); replace y1 := cell_past hb (by repeat (first | (with_reducible exact y1) | (with_reducible apply keep_alloc) | (with_reducible apply keep_drew))); replace y3 := cell_past hb (by repeat (first | (with_reducible exact y3) | (with_reducible apply keep_alloc) | (with_reducible apply keep_drew))); replace HW := Lib.hid (bt HW.out (bt (by repeat (first | (with_reducible exact bz _) | (with_reducible apply ba) | (with_reducible apply Below.drew))) hb)); clear hb)
      | (go_at_call 20; refine (k_check _).mono ?_; rintro e wX ⟨rfl, hb⟩; replace x0 := cell_past hb (by repeat (first | (with_reducible exact x0) | (with_reducible apply keep_alloc) | (with_reducible apply keep_drew))); replace x1 := cell_past hb (by repeat (first | (with_reducible exact x1) | (with_reducible apply keep_alloc) | (with_reducible apply keep_drew))); replace x2 := cell_past hb (by repeat (first | (with_reducible exact x2) | (with_reducible apply keep_alloc) | (with_reducible apply keep_drew))); replace x3 := cell_past hb (by repeat (first | (with_reducible exact x3) | (with_reducible apply keep_alloc) | (with_reducible apply keep_drew))); replace x4 := cell_past hb (by repeat (first | (with_reducible exact x4) | (with_reducible apply keep_alloc) | (with_reducible apply keep_drew))); replace x5 := cell_past hb (by repeat (first | (with_reducible exact x5) | (with_reducible apply keep_alloc) | (with_reducible apply keep_drew))); replace x6 := cell_past hb (by repeat (first | (with_reducible exact x6) | (with_reducible apply keep_alloc) | (with_reducible apply keep_drew))); replace x7 := cell_past hb (by repeat (first | (with_reducible exact x7) | (with_reducible apply keep_alloc) | (with_reducible apply keep_drew))); replace x8 := cell_past hb (by repeat (first | (with_reducible exact x8) | (with_reducible apply keep_alloc) | (with_reducible apply keep_drew))); replace y0 := cell_past hb (by repeat (first | (with_reducible exact y0) | (with_reducible apply keep_alloc) | (with_reducible apply keep_drew))); replace y1 := cell_past hb (by repeat (first | (with_reducible exact y1) | (with_reducible apply keep_alloc) | (with_reducible apply keep_drew))); replace y3 := cell_past hb (by repeat (first | (with_reducible exact y3) | (with_reducible apply keep_alloc) | (with_reducible apply keep_drew))); replace HW := Lib.hid (bt HW.out (bt (by repeat (first | (with_reducible exact bz _) | (with_reducible apply ba) | (with_reducible apply Below.drew))) hb)); clear hb)
      | (go_at_call 18; (first | (with_reducible refine (k_only1 _).mono ?_) | (with_reducible refine (k_only9 _).mono ?_)); rintro e wX ⟨rfl, hb⟩; replace x0 := cell_past hb (by repeat (first | (with_reducible exact x0) | (with_reducible apply keep_alloc) | (with_reducible apply keep_drew))); replace x1 := cell_past hb (by repeat (first | (with_reducible exact x1) | (with_reducible apply keep_alloc) | (with_reducible apply keep_drew))); replace x2 := cell_past hb (by repeat (first | (with_reducible exact x2) | (with_reducible apply keep_alloc) | (with_reducible apply keep_drew))); replace x3 := cell_past hb (by repeat (first | (with_reducible exact x3) | (with_reducible apply keep_alloc) | (with_reducible apply keep_drew))); replace x4 := cell_past hb (by repeat (first | (with_reducible exact x4) | (with_reducible apply keep_alloc) | (with_reducible apply keep_drew))); replace x5 := cell_past hb (by repeat (first | (with_reducible exact x5) | (with_reducible apply keep_alloc) | (with_reducible apply keep_drew))); replace x6 := cell_past hb (by repeat (first | (with_reducible exact x6) | (with_reducible apply keep_alloc) | (with_reducible apply keep_drew))); replace x7 := cell_past hb (by repeat (first | (with_reducible exact x7) | (with_reducible apply keep_alloc) | (with_reducible apply keep_drew))); replace x8 := cell_past hb (by repeat (first | (with_reducible exact x8) | (with_reducible apply keep_alloc) | (with_reducible apply keep_drew))); replace y0 := cell_past hb (by repeat (first | (with_reducible exact y0) | (with_reducible apply keep_alloc) | (with_reducible apply keep_drew))); replace y1 := cell_past hb (by repeat (first | (with_reducible exact y1) | (with_reducible apply keep_alloc) | (with_reducible apply keep_drew))); replace y3 := cell_past hb (by repeat (first | (with_reducible exact y3) | (with_reducible apply keep_alloc) | (with_reducible apply keep_drew))); replace HW := Lib.hid (bt HW.out (bt (by repeat (first | (with_reducible exact bz _) | (with_reducible apply ba) | (with_reducible apply Below.drew))) hb)); clear hb)
      | (go_at_call 29; refine (idle_any _ _).mono ?_; rintro e wX ⟨rfl, rfl⟩))
  all_goals go_wp2
  all_goals go_ret
  all_goals exact ⟨by simp, by first | exact HW.out | exact HW.out.drew⟩
end Go.Proofs.Ytoidbmgoofbcfaa
