/- Two examples of states, and some of the chapter's answers: awake is true. Printed by gen_awake.py. -/
import Derived.Test.YtoidbmgoofbcfaaRun
import Derived.Test.YtoidbmgoofbcfaaEncode
import Derived.Test.YtoidbmgoofbcfaaSame
namespace Go.Proofs.Ytoidbmgoofbcfaa
open Go.RowKit Go.Um
set_option linter.unusedSimpArgs false
set_option linter.unusedVariables false
set_option maxHeartbeats 4000000
set_option maxRecDepth 100000

theorem new0 (w : World) : Calls Try.prog 16 #[] w fun e w' => e = .returned (.agg #[.int .u8 0, .int .u16 0, .int .u16 0, .int .u16 0, .int .u16 0, .int .u16 0, .int .u16 0, .int .u16 0, .int .u16 0]) ∧ Below w.heap.size w w' := new_any w
def awOps : List Op5 := [⟨6, 0, 3, 0, 0⟩, ⟨7, 0, 3, 5, 0⟩, ⟨9, 0, 3, 5, 7⟩, ⟨9, 0, 3, 5, 8⟩, ⟨6, 0, 3, 0, 0⟩, ⟨8, 0, 3, 0, 0⟩, ⟨8, 0, 3, 0, 0⟩]
def awOut : List (Int × Int) := [(2, 0), (0, 0), (3, 0), (4, 0), (1, 7), (3, 0), (4, 0)]
def twOps : List Op5 := [⟨7, 0, 0, 1, 0⟩, ⟨7, 0, 2, 258, 0⟩]
def twS : KV := ⟨5, 1, 0, 258, 0, 0, 0, 0, 0⟩
theorem zero_ok : KV.zero.ok := ⟨by decide, fun k => by rcases k with _ | _ | _ | _ | _ | _ | _ | _ | k <;> simp [KV.get, KV.zero]⟩
theorem tw_ok : twS.ok := ⟨by decide, fun k => by rcases k with _ | _ | _ | _ | _ | _ | _ | _ | k <;> simp [KV.get, twS]⟩
theorem ops_ok {l : List Op5} (h : l.all (fun x => decide (0 ≤ x.f ∧ x.f ≤ 255 ∧ 0 ≤ x.o ∧ x.o ≤ 255 ∧ 0 ≤ x.k ∧ x.k ≤ 255 ∧ 0 ≤ x.a ∧ x.a ≤ 65535 ∧ 0 ≤ x.b ∧ x.b ≤ 65535)) = true) : ∀ x ∈ l, x.ok := fun x hx => by
  have := of_decide_eq_true (List.all_eq_true.1 h x hx)
  exact ⟨⟨this.1, this.2.1⟩, ⟨this.2.2.1, this.2.2.2.1⟩, ⟨this.2.2.2.2.1, this.2.2.2.2.2.1⟩, ⟨this.2.2.2.2.2.2.1, this.2.2.2.2.2.2.2.1⟩, ⟨this.2.2.2.2.2.2.2.2.1, this.2.2.2.2.2.2.2.2.2⟩⟩
def OutPost (n : Nat) (st : Value) (out : List (Int × Int)) (w : World) (e : Ending) (w' : World) : Prop := ∃ ao cap b o, e = .returned (.tuple #[st, .slice ao n cap, .int .i64 0]) ∧ SlAt w' 2 n (out.flatMap resC) ao cap b o ∧ Below w.heap.size w w'
theorem aw_run (w : World) (g : Nat) (h : SlAt w 5 7 (awOps.flatMap Op5.cells) (some ⟨g, 0, none⟩) 7 g 0) :
    Calls Try.prog 12 #[.agg #[.int .u8 0, .int .u16 0, .int .u16 0, .int .u16 0, .int .u16 0, .int .u16 0, .int .u16 0, .int .u16 0, .int .u16 0], .slice (some ⟨g, 0, none⟩) 7 7] w (OutPost 7 (.agg #[.int .u8 0, .int .u16 0, .int .u16 0, .int .u16 0, .int .u16 0, .int .u16 0, .int .u16 0, .int .u16 0, .int .u16 0]) awOut w) := by
  refine (run_any KV.zero awOps _ 7 g 0 w zero_ok h (ops_ok (by decide)) (by decide)).mono ?_
  rintro e w' ⟨v', rfl, hown, hb⟩
  have e1 : stopAt awOps = 7 := by decide
  have e2 : stN KV.zero awOps 7 = KV.zero := by decide +kernel
  have e3 : outN KV.zero awOps 7 = awOut := by decide +kernel
  rw [e1, e3] at hown
  obtain ⟨ao, cap, b, o, rfl, hsl, _⟩ := SlAt.owned hown
  exact ⟨ao, cap, b, o, by rw [errAt, e1, e2]; rfl, hsl, hb⟩
theorem tw_run (w : World) (g : Nat) (h : SlAt w 5 2 (twOps.flatMap Op5.cells) (some ⟨g, 0, none⟩) 2 g 0) :
    Calls Try.prog 12 #[.agg #[.int .u8 0, .int .u16 0, .int .u16 0, .int .u16 0, .int .u16 0, .int .u16 0, .int .u16 0, .int .u16 0, .int .u16 0], .slice (some ⟨g, 0, none⟩) 2 2] w (OutPost 2 (.agg #[.int .u8 5, .int .u16 1, .int .u16 0, .int .u16 258, .int .u16 0, .int .u16 0, .int .u16 0, .int .u16 0, .int .u16 0]) [(0, 0), (0, 0)] w) := by
  refine (run_any KV.zero twOps _ 2 g 0 w zero_ok h (ops_ok (by decide)) (by decide)).mono ?_
  rintro e w' ⟨v', rfl, hown, hb⟩
  have e1 : stopAt twOps = 2 := by decide
  have e2 : stN KV.zero twOps 2 = twS := by decide +kernel
  have e3 : outN KV.zero twOps 2 = [(0, 0), (0, 0)] := by decide +kernel
  rw [e1, e3] at hown
  obtain ⟨ao, cap, b, o, rfl, hsl, _⟩ := SlAt.owned hown
  exact ⟨ao, cap, b, o, by rw [errAt, e1, e2]; rfl, hsl, hb⟩
theorem enc_tw (w : World) : Calls Try.prog 25 #[.agg #[.int .u8 5, .int .u16 1, .int .u16 0, .int .u16 258, .int .u16 0, .int .u16 0, .int .u16 0, .int .u16 0, .int .u16 0]] w fun e w' => e = .returned (.string ⟨#[5, 0, 1, 1, 2]⟩) ∧ Below w.heap.size w w' := by
  have h := encode_any twS w tw_ok
  rw [show strOfNums (encL twS 8) = ⟨#[5, 0, 1, 1, 2]⟩ from by decide +kernel] at h
  exact h

theorem two_any (w : World) : Calls Try.prog 27 #[] w fun e w' => e = .returned (.agg #[.int .u8 5, .int .u16 1, .int .u16 0, .int .u16 258, .int .u16 0, .int .u16 0, .int .u16 0, .int .u16 0, .int .u16 0]) ∧ Below w.heap.size w w' := by
  go_enter Try.func27, Try.ntmps27
  go_wp2_with fail
  refine (new0 _).mono ?_
  rintro e w1 ⟨rfl, hb1⟩
  have HW := Lib.hid (bt (ba (bz w) _) hb1)
  have K0 : Hid (KvAt w1 w.heap.size KV.zero) := Lib.hid ((KvAt.new w KV.zero).below hb1)
  clear hb1
  go_wp2_with fail
  refine (op_any 7 0 1 0 _).mono ?_
  rintro e w2 ⟨rfl, hb⟩
  replace HW := Lib.hid (bt HW.out (bt (by repeat (first | (with_reducible exact bz w1) | (with_reducible apply ba) | (with_reducible apply Below.drew))) hb))
  replace K0 := Lib.hid (K0.out.below (bt (by repeat (first | (with_reducible exact bz w1) | (with_reducible apply ba) | (with_reducible apply Below.drew))) hb))
  clear hb
  go_wp2_with fail
  refine (op_any 7 2 258 0 _).mono ?_
  rintro e w3 ⟨rfl, hb⟩
  replace HW := Lib.hid (bt HW.out (bt (by repeat (first | (with_reducible exact bz w2) | (with_reducible apply ba) | (with_reducible apply Below.drew))) hb))
  replace K0 := Lib.hid (K0.out.below (bt (by repeat (first | (with_reducible exact bz w2) | (with_reducible apply ba) | (with_reducible apply Below.drew))) hb))
  clear hb
  go_wp2_with fail
  refine (tw_run _ w3.heap.size (SlAt.new w3 44 5 2 (twOps.flatMap Op5.cells) _ rfl rfl (by decide))).mono ?_
  rintro e w4 ⟨ao, cap, b, o, rfl, hsl, hb⟩
  replace HW := Lib.hid (bt HW.out (bt (by repeat (first | (with_reducible exact bz w3) | (with_reducible apply ba) | (with_reducible apply Below.drew))) hb))
  replace K0 := Lib.hid (K0.out.below (bt (by repeat (first | (with_reducible exact bz w3) | (with_reducible apply ba) | (with_reducible apply Below.drew))) hb))
  clear hsl
  clear hb
  obtain ⟨c0, c1, c2, c3, c4, c5, c6, c7, c8, f0, f1, f2, f3, f4, f5, f6, f7, f8⟩ := K0.out
  have hz : w.heap.size < w4.heap.size := K0.out.lt
  simp only [KV.zero] at c0 c1 c2 c3 c4 c5 c6 c7 c8
  clear K0
  go_wp2
  refine bodyPost_ret (by simp [results, Try.results27, go_sem, c0, c1, c2, c3, c4, c5, c6, c7, c8, hz] <;> rfl) rfl ⟨rfl, ?_⟩
  repeat (first | (with_reducible exact HW.out) | (with_reducible refine bs ?_ (by first | (simp; done) | (simp; omega)) _) | (with_reducible apply Below.drew) | (with_reducible refine ba ?_ _))

theorem eq25 (W : World) : (binOp .eql 25 (.agg #[.int .u8 0, .int .u16 0, .int .u16 0, .int .u16 0, .int .u16 0, .int .u16 0, .int .u16 0, .int .u16 0, .int .u16 0]) (.agg #[.int .u8 0, .int .u16 0, .int .u16 0, .int .u16 0, .int .u16 0, .int .u16 0, .int .u16 0, .int .u16 0, .int .u16 0])).run Try.prog W = .ok (.bool true) W := by kernel_rfl
theorem same_aw (ao : Option Addr) (cap b o g : Nat) (w : World) (h : SlAt w 2 7 (awOut.flatMap resC) ao cap b o) (h' : SlAt w 2 7 (awOut.flatMap resC) (some ⟨g, 0, none⟩) 7 g 0) : Calls Try.prog 19 #[.slice ao 7 cap, .slice (some ⟨g, 0, none⟩) 7 7] w fun e w' => e = .returned (.bool true) ∧ Below w.heap.size w w' := by
  have h1 := same_any awOut awOut ao (some ⟨g, 0, none⟩) cap b o 7 g 0 w h h' (by decide)
  refine h1.mono fun e w' ⟨e1, e2⟩ => ⟨by rw [e1]; simp, e2⟩
theorem awake_any (w : World) : Calls Try.prog 10 #[] w fun e w' => e = .returned (.bool true) ∧ Below w.heap.size w w' := by
  have heq := eq25
  go_enter Try.func10, Try.ntmps10
  go_wp2_with fail
  refine (new0 _).mono ?_
  rintro e w1 ⟨rfl, hb1⟩
  have HW := Lib.hid hb1
  clear hb1
  go_wp2_with fail
  refine (op_any 6 3 0 0 _).mono ?_
  rintro e w2 ⟨rfl, hb⟩
  replace HW := Lib.hid (bt HW.out (bt (by repeat (first | (with_reducible exact bz w1) | (with_reducible apply ba) | (with_reducible apply Below.drew))) hb))
  clear hb
  go_wp2_with fail
  refine (op_any 7 3 5 0 _).mono ?_
  rintro e w3 ⟨rfl, hb⟩
  replace HW := Lib.hid (bt HW.out (bt (by repeat (first | (with_reducible exact bz w2) | (with_reducible apply ba) | (with_reducible apply Below.drew))) hb))
  clear hb
  go_wp2_with fail
  refine (op_any 9 3 5 7 _).mono ?_
  rintro e w4 ⟨rfl, hb⟩
  replace HW := Lib.hid (bt HW.out (bt (by repeat (first | (with_reducible exact bz w3) | (with_reducible apply ba) | (with_reducible apply Below.drew))) hb))
  clear hb
  go_wp2_with fail
  refine (op_any 9 3 5 8 _).mono ?_
  rintro e w5 ⟨rfl, hb⟩
  replace HW := Lib.hid (bt HW.out (bt (by repeat (first | (with_reducible exact bz w4) | (with_reducible apply ba) | (with_reducible apply Below.drew))) hb))
  clear hb
  go_wp2_with fail
  refine (op_any 6 3 0 0 _).mono ?_
  rintro e w6 ⟨rfl, hb⟩
  replace HW := Lib.hid (bt HW.out (bt (by repeat (first | (with_reducible exact bz w5) | (with_reducible apply ba) | (with_reducible apply Below.drew))) hb))
  clear hb
  go_wp2_with fail
  refine (op_any 8 3 0 0 _).mono ?_
  rintro e w7 ⟨rfl, hb⟩
  replace HW := Lib.hid (bt HW.out (bt (by repeat (first | (with_reducible exact bz w6) | (with_reducible apply ba) | (with_reducible apply Below.drew))) hb))
  clear hb
  go_wp2_with fail
  refine (op_any 8 3 0 0 _).mono ?_
  rintro e w8 ⟨rfl, hb⟩
  replace HW := Lib.hid (bt HW.out (bt (by repeat (first | (with_reducible exact bz w7) | (with_reducible apply ba) | (with_reducible apply Below.drew))) hb))
  clear hb
  go_wp2_with fail
  refine (aw_run _ w8.heap.size (SlAt.new w8 44 5 7 (awOps.flatMap Op5.cells) _ rfl rfl (by decide))).mono ?_
  rintro e w9 ⟨aoR, capR, bR, oR, rfl, hsl, hb⟩
  replace HW := Lib.hid (bt HW.out (bt (by repeat (first | (with_reducible exact bz w8) | (with_reducible apply ba) | (with_reducible apply Below.drew))) hb))
  have HR := Lib.hid hsl
  clear hsl
  clear hb
  go_wp2_with fail
  have KP := KvAt.new w9 KV.zero
  obtain ⟨x0, x1, x2, x3, x4, x5, x6, x7, x8, _, _, _, _, _, _, _, _, _⟩ := KP
  simp only [KV.zero, KV.cells] at x0 x1 x2 x3 x4 x5 x6 x7 x8
  obtain ⟨P1, hP1⟩ : ∃ p, p = w9.heap.size := ⟨_, rfl⟩
  rw [← hP1] at x0 x1 x2 x3 x4 x5 x6 x7 x8 ⊢
  clear hP1
  replace HR := Lib.hid (HR.out.below (ba (bz w9) (.cells #[.int .u8 0, .int .u16 0, .int .u16 0, .int .u16 0, .int .u16 0, .int .u16 0, .int .u16 0, .int .u16 0, .int .u16 0] 25)))
  replace HW := Lib.hid (ba HW.out (.cells #[.int .u8 0, .int .u16 0, .int .u16 0, .int .u16 0, .int .u16 0, .int .u16 0, .int .u16 0, .int .u16 0, .int .u16 0] 25))
  obtain ⟨Y, hY⟩ : ∃ Y, Y = w9.alloc (.cells #[.int .u8 0, .int .u16 0, .int .u16 0, .int .u16 0, .int .u16 0, .int .u16 0, .int .u16 0, .int .u16 0, .int .u16 0] 25) := ⟨_, rfl⟩
  rw [← hY] at x0 x1 x2 x3 x4 x5 x6 x7 x8 HR HW ⊢
  clear hY
  go_region_held3 (fun w' => w'.cell? ⟨P1, 0, none⟩ = some (.int .u8 0) ∧ w'.cell? ⟨P1, 1, none⟩ = some (.int .u16 0) ∧ w'.cell? ⟨P1, 2, none⟩ = some (.int .u16 0) ∧ w'.cell? ⟨P1, 3, none⟩ = some (.int .u16 0) ∧ w'.cell? ⟨P1, 4, none⟩ = some (.int .u16 0) ∧ w'.cell? ⟨P1, 5, none⟩ = some (.int .u16 0) ∧ w'.cell? ⟨P1, 6, none⟩ = some (.int .u16 0) ∧ w'.cell? ⟨P1, 7, none⟩ = some (.int .u16 0) ∧ w'.cell? ⟨P1, 8, none⟩ = some (.int .u16 0))
    (refine ⟨?_, ?_, ?_, ?_, ?_, ?_, ?_, ?_, ?_⟩ <;> (repeat (first | (with_reducible assumption) | (with_reducible apply keep_alloc) | (with_reducible apply keep_drew))))
    (first
      | (go_at_call 16; refine (new0 _).mono ?_; rintro e wX ⟨rfl, hb⟩; replace x0 := cell_past hb (by repeat (first | (with_reducible exact x0) | (with_reducible apply keep_alloc) | (with_reducible apply keep_drew))); replace x1 := cell_past hb (by repeat (first | (with_reducible exact x1) | (with_reducible apply keep_alloc) | (with_reducible apply keep_drew))); replace x2 := cell_past hb (by repeat (first | (with_reducible exact x2) | (with_reducible apply keep_alloc) | (with_reducible apply keep_drew))); replace x3 := cell_past hb (by repeat (first | (with_reducible exact x3) | (with_reducible apply keep_alloc) | (with_reducible apply keep_drew))); replace x4 := cell_past hb (by repeat (first | (with_reducible exact x4) | (with_reducible apply keep_alloc) | (with_reducible apply keep_drew))); replace x5 := cell_past hb (by repeat (first | (with_reducible exact x5) | (with_reducible apply keep_alloc) | (with_reducible apply keep_drew))); replace x6 := cell_past hb (by repeat (first | (with_reducible exact x6) | (with_reducible apply keep_alloc) | (with_reducible apply keep_drew))); replace x7 := cell_past hb (by repeat (first | (with_reducible exact x7) | (with_reducible apply keep_alloc) | (with_reducible apply keep_drew))); replace x8 := cell_past hb (by repeat (first | (with_reducible exact x8) | (with_reducible apply keep_alloc) | (with_reducible apply keep_drew))); replace HR := Lib.hid ((HR.out.below (by repeat (first | (with_reducible exact bz _) | (with_reducible apply ba) | (with_reducible apply Below.drew)))).below hb); replace HW := Lib.hid (bt HW.out (bt (by repeat (first | (with_reducible exact bz _) | (with_reducible apply ba) | (with_reducible apply Below.drew))) hb)); clear hb)
      | (go_at_call 17; refine (is_any _ _ _).mono ?_; rintro e wX ⟨rfl, hb⟩; replace x0 := cell_past hb (by repeat (first | (with_reducible exact x0) | (with_reducible apply keep_alloc) | (with_reducible apply keep_drew))); replace x1 := cell_past hb (by repeat (first | (with_reducible exact x1) | (with_reducible apply keep_alloc) | (with_reducible apply keep_drew))); replace x2 := cell_past hb (by repeat (first | (with_reducible exact x2) | (with_reducible apply keep_alloc) | (with_reducible apply keep_drew))); replace x3 := cell_past hb (by repeat (first | (with_reducible exact x3) | (with_reducible apply keep_alloc) | (with_reducible apply keep_drew))); replace x4 := cell_past hb (by repeat (first | (with_reducible exact x4) | (with_reducible apply keep_alloc) | (with_reducible apply keep_drew))); replace x5 := cell_past hb (by repeat (first | (with_reducible exact x5) | (with_reducible apply keep_alloc) | (with_reducible apply keep_drew))); replace x6 := cell_past hb (by repeat (first | (with_reducible exact x6) | (with_reducible apply keep_alloc) | (with_reducible apply keep_drew))); replace x7 := cell_past hb (by repeat (first | (with_reducible exact x7) | (with_reducible apply keep_alloc) | (with_reducible apply keep_drew))); replace x8 := cell_past hb (by repeat (first | (with_reducible exact x8) | (with_reducible apply keep_alloc) | (with_reducible apply keep_drew))); replace HR := Lib.hid ((HR.out.below (by repeat (first | (with_reducible exact bz _) | (with_reducible apply ba) | (with_reducible apply Below.drew)))).below hb); replace HW := Lib.hid (bt HW.out (bt (by repeat (first | (with_reducible exact bz _) | (with_reducible apply ba) | (with_reducible apply Below.drew))) hb)); clear hb)
      | (go_at_call 19; refine (same_aw aoR capR bR oR _ _ (HR.out.below (by repeat (first | (with_reducible exact bz _) | (with_reducible apply ba) | (with_reducible apply Below.drew)))) (SlAt.new _ 39 2 7 (awOut.flatMap resC) _ rfl rfl (by decide))).mono ?_; rintro e wX ⟨rfl, hb⟩; replace x0 := cell_past hb (by repeat (first | (with_reducible exact x0) | (with_reducible apply keep_alloc) | (with_reducible apply keep_drew))); replace x1 := cell_past hb (by repeat (first | (with_reducible exact x1) | (with_reducible apply keep_alloc) | (with_reducible apply keep_drew))); replace x2 := cell_past hb (by repeat (first | (with_reducible exact x2) | (with_reducible apply keep_alloc) | (with_reducible apply keep_drew))); replace x3 := cell_past hb (by repeat (first | (with_reducible exact x3) | (with_reducible apply keep_alloc) | (with_reducible apply keep_drew))); replace x4 := cell_past hb (by repeat (first | (with_reducible exact x4) | (with_reducible apply keep_alloc) | (with_reducible apply keep_drew))); replace x5 := cell_past hb (by repeat (first | (with_reducible exact x5) | (with_reducible apply keep_alloc) | (with_reducible apply keep_drew))); replace x6 := cell_past hb (by repeat (first | (with_reducible exact x6) | (with_reducible apply keep_alloc) | (with_reducible apply keep_drew))); replace x7 := cell_past hb (by repeat (first | (with_reducible exact x7) | (with_reducible apply keep_alloc) | (with_reducible apply keep_drew))); replace x8 := cell_past hb (by repeat (first | (with_reducible exact x8) | (with_reducible apply keep_alloc) | (with_reducible apply keep_drew))); replace HR := Lib.hid ((HR.out.below (by repeat (first | (with_reducible exact bz _) | (with_reducible apply ba) | (with_reducible apply Below.drew)))).below hb); replace HW := Lib.hid (bt HW.out (bt (by repeat (first | (with_reducible exact bz _) | (with_reducible apply ba) | (with_reducible apply Below.drew))) hb)); clear hb)
      | (go_at_call 27; refine (two_any _).mono ?_; rintro e wX ⟨rfl, hb⟩; replace x0 := cell_past hb (by repeat (first | (with_reducible exact x0) | (with_reducible apply keep_alloc) | (with_reducible apply keep_drew))); replace x1 := cell_past hb (by repeat (first | (with_reducible exact x1) | (with_reducible apply keep_alloc) | (with_reducible apply keep_drew))); replace x2 := cell_past hb (by repeat (first | (with_reducible exact x2) | (with_reducible apply keep_alloc) | (with_reducible apply keep_drew))); replace x3 := cell_past hb (by repeat (first | (with_reducible exact x3) | (with_reducible apply keep_alloc) | (with_reducible apply keep_drew))); replace x4 := cell_past hb (by repeat (first | (with_reducible exact x4) | (with_reducible apply keep_alloc) | (with_reducible apply keep_drew))); replace x5 := cell_past hb (by repeat (first | (with_reducible exact x5) | (with_reducible apply keep_alloc) | (with_reducible apply keep_drew))); replace x6 := cell_past hb (by repeat (first | (with_reducible exact x6) | (with_reducible apply keep_alloc) | (with_reducible apply keep_drew))); replace x7 := cell_past hb (by repeat (first | (with_reducible exact x7) | (with_reducible apply keep_alloc) | (with_reducible apply keep_drew))); replace x8 := cell_past hb (by repeat (first | (with_reducible exact x8) | (with_reducible apply keep_alloc) | (with_reducible apply keep_drew))); replace HR := Lib.hid ((HR.out.below (by repeat (first | (with_reducible exact bz _) | (with_reducible apply ba) | (with_reducible apply Below.drew)))).below hb); replace HW := Lib.hid (bt HW.out (bt (by repeat (first | (with_reducible exact bz _) | (with_reducible apply ba) | (with_reducible apply Below.drew))) hb)); clear hb)
      | (go_at_call 25; refine (enc_tw _).mono ?_; rintro e wX ⟨rfl, hb⟩; replace x0 := cell_past hb (by repeat (first | (with_reducible exact x0) | (with_reducible apply keep_alloc) | (with_reducible apply keep_drew))); replace x1 := cell_past hb (by repeat (first | (with_reducible exact x1) | (with_reducible apply keep_alloc) | (with_reducible apply keep_drew))); replace x2 := cell_past hb (by repeat (first | (with_reducible exact x2) | (with_reducible apply keep_alloc) | (with_reducible apply keep_drew))); replace x3 := cell_past hb (by repeat (first | (with_reducible exact x3) | (with_reducible apply keep_alloc) | (with_reducible apply keep_drew))); replace x4 := cell_past hb (by repeat (first | (with_reducible exact x4) | (with_reducible apply keep_alloc) | (with_reducible apply keep_drew))); replace x5 := cell_past hb (by repeat (first | (with_reducible exact x5) | (with_reducible apply keep_alloc) | (with_reducible apply keep_drew))); replace x6 := cell_past hb (by repeat (first | (with_reducible exact x6) | (with_reducible apply keep_alloc) | (with_reducible apply keep_drew))); replace x7 := cell_past hb (by repeat (first | (with_reducible exact x7) | (with_reducible apply keep_alloc) | (with_reducible apply keep_drew))); replace x8 := cell_past hb (by repeat (first | (with_reducible exact x8) | (with_reducible apply keep_alloc) | (with_reducible apply keep_drew))); replace HR := Lib.hid ((HR.out.below (by repeat (first | (with_reducible exact bz _) | (with_reducible apply ba) | (with_reducible apply Below.drew)))).below hb); replace HW := Lib.hid (bt HW.out (bt (by repeat (first | (with_reducible exact bz _) | (with_reducible apply ba) | (with_reducible apply Below.drew))) hb)); clear hb))
  all_goals go_wp2
  all_goals go_ret
  all_goals exact ⟨by simp, by first | exact HW.out | exact HW.out.drew⟩
end Go.Proofs.Ytoidbmgoofbcfaa
