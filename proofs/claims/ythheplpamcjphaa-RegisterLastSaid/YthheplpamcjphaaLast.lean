/- RegisterLast: what a Read answers is what was written last; for any operations (200 at most), from any state. No condition. -/
import Derived.Test.YthheplpamcjphaaRows
import Derived.Test.YthheplpamcjphaaRuns
namespace Go.Proofs.Ythheplpamcjphaa
open Go.RowKit Go.Um
set_option maxHeartbeats 1600000

theorem out_at (s : Int) (l : List Op5) (k : Nat) (x : Op5) (hx : l[k]? = some x) : ∀ m, m ≤ l.length → k < m → (outN s l m)[k]? = some ((stp (stN s l k) x.f x.a x.b).2.1, (stp (stN s l k) x.f x.a x.b).2.2.1)
  | 0, _, hk => absurd hk (Nat.not_lt_zero _)
  | m + 1, hm, hk => by
    have hy : l[m]? = some (l[m]'(by omega)) := List.getElem?_eq_getElem (by omega)
    have hlen := length_out s l m (by omega)
    simp only [outN, hy]
    by_cases e : k = m
    · subst e
      rw [hx] at hy
      obtain rfl := (Option.some.inj hy).symm
      rw [List.getElem?_append_right (by omega), hlen, Nat.sub_self]
      rfl
    · rw [List.getElem?_append_left (by omega)]
      exact out_at s l k x hx m (by omega) (by omega)

theorem known_at {l : List Op5} {k : Nat} {x : Op5} (hx : l[k]? = some x) (hk : k < stopAt l) : known x = true := by
  unfold stopAt at hk
  induction l generalizing k with
  | nil => simp at hx
  | cons y l ih =>
    by_cases hy : known y = true
    · cases k with
      | zero => simp at hx; subst hx; exact hy
      | succ k => rw [List.takeWhile_cons_of_pos hy] at hk; exact ih (k := k) (by simpa using hx) (by simpa using hk)
    · rw [List.takeWhile_cons_of_neg hy] at hk; simp at hk

/-- what the round leaves -/
def LastRel (s : Int) (l : List Op5) (w : World) (t8 t9 : Value) (wr : World) : Prop :=
  ∃ k : Nat, k ≤ stopAt l ∧ t9 = .int .i64 k ∧ t8 = .int .u16 (stN s l k) ∧ Below w.heap.size w wr

theorem last_law (s : Int) (l : List Op5) (ao : Option Addr) (cap b o : Nat) (w : World) (h : SlAt w 5 l.length (l.flatMap Op5.cells) ao cap b o) :
    Calls Try.prog 4 #[.int .u16 s, .slice ao l.length cap] w fun e w' => e = .returned (.bool true) ∧ Below w.heap.size w w' := by
  have hm : l.length ≤ 9223372036854775807 := by have := h.le; have := h.max; unfold maxLen at this; omega
  by_cases hlen : l.length ≤ 200
  · have hst := stopAt_le l
    have hneq := neq35
    have hidx := h.idx (P := Try.prog) (t := 23) Try.underlying23 size38 (by decide)
    have Hsl := Lib.hid h
    clear h
    have he : (errAt l == 0) = ((stopAt l : Int) == (l.length : Int)) := by
      unfold errAt
      by_cases e : stopAt l = l.length
      · rw [if_pos e, e]; simp
      · rw [if_neg e]
        have : ((stopAt l : Int) == (l.length : Int)) = false := by rw [beq_eq_false_iff_ne]; omega
        rw [this]; rfl
    have hd1 : decide ((200 : Int) < (l.length : Int)) = false := by rw [decide_eq_false_iff_not]; omega
    have hd2 : decide (l.length < stopAt l) = false := by rw [decide_eq_false_iff_not]; omega
    go_enter Try.func4, Try.ntmps4
    go_wp2_with fail
    refine (run_any s l ao cap b o _ Hsl.out hlen).mono ?_
    intro e w1 hr
    obtain ⟨ao1, cap1, b1, o1, rfl, hsl1, hb1⟩ := hr.two
    clear hr
    have hidx1 := hsl1.idx (P := Try.prog) (t := 26) Try.underlying26 size35 (by decide)
    have H1 := Lib.hid hsl1
    clear hsl1
    go_wp2_with fail
    go_loopw [8, 9] (fun t8 t9 wr => LastRel s l w1 t8 t9 wr) (fun _ t9 _ => stopAt l - (intOf t9).toNat)
    case atStart => exact ⟨0, Nat.zero_le _, rfl, rfl, Below.refl _ _⟩
    case round =>
      obtain ⟨k, hk, rfl, rfl, hbel⟩ := hrel
      by_cases hlt : k < stopAt l
      · obtain ⟨x, hx⟩ : ∃ x, l[k]? = some x := ⟨_, List.getElem?_eq_getElem (by omega)⟩
        have hkn := known_at hx hlt
        have hy := out_at s l k x hx (stopAt l) hst hlt
        have hnx : stN s l (k + 1) = (stp (stN s l k) x.f x.a x.b).1 := by simp [stN, hx]
        obtain ⟨st, hst'⟩ : ∃ st, st = stN s l k := ⟨_, rfl⟩
        rw [← hst'] at hy hnx ⊢
        have Hx := Lib.hid hx
        have Hy := Lib.hid hy
        have Hnx := Lib.hid hnx
        have Hst := Lib.hid hst'
        clear hx hy hnx hst'
        have i1 : (0 : Int) ≤ (k : Int) := by omega
        have i2 : (k : Int) < (l.length : Int) := by omega
        have i3 : (k : Int) < (stopAt l : Int) := by omega
        have Hw0 := Lib.hid ((Hsl.out.below hb1).below hbel)
        have Hw1 := Lib.hid (H1.out.below hbel)
        have hbw := Hw0.out.lt (by have := Hw0.out.len; omega)
        have hb1w := Hw1.out.lt (by have := Hw1.out.len; omega)
        have hcase : x.f = 1 ∨ x.f = 2 ∨ x.f = 3 := by simpa [known, or_assoc] using hkn
        clear hkn
        rcases hcase with hf | hf | hf
        · have f1 : (x.f == 1) = true := by rw [hf]; rfl
          have Hf := Lib.hid hf
          clear hf
          go_wp2_with fail
          refine (is_any 0 0 _).mono ?_
          rintro e w2 ⟨rfl, hb2⟩
          have hz2 := hb2.size
          have hz1 : w1.heap.size ≤ w2.heap.size := Nat.le_trans hbel.size hz2
          obtain ⟨g0, g1, g2, g3, g4⟩ := op_at (Hw0.out.below hb2) Hx.out
          have ho : b < w2.heap.size := Nat.lt_of_lt_of_le hbw hz2
          have ho1 : b1 < w2.heap.size := Nat.lt_of_lt_of_le hb1w hz2
          go_wp2_with fail
          refine (is_any 1 st _).mono ?_
          rintro e w3 ⟨rfl, hb3⟩
          have c0 := kc hb3 w2.heap.size 0 (.int .u8 0) (by simp [go_sem])
          have c1 := kc hb3 w2.heap.size 1 (.int .u16 0) (by simp [go_sem])
          have e0 := kf hb3 w2.heap.size 0 (by simp) (by simp [go_sem])
          have e1 := kf hb3 w2.heap.size 1 (by simp) (by simp [go_sem])
          have hz3 : w2.heap.size < w3.heap.size := by have := hb3.size; simp at this; omega
          obtain ⟨q0, q1⟩ := res_at ((Hw1.out.below hb2).below (bt (ba (bz _) _) hb3)) Hy.out
          have t1 : (!((stp st x.f x.a x.b).2.1 == 1 && (stp st x.f x.a x.b).2.2.1 == st)) = false := by rw [Hf.out]; simp [stp]
          go_wp2_with fail
          go_quiet (fail)
          go_wp2_with fail
          go_roundw
          case rel =>
            refine ⟨k + 1, by omega, by go_num, ?_, ?_⟩
            · rw [Hnx.out, Hf.out]; simp [stp]
            · exact below_drewN (bs (bs (bt (bt hbel hb2) (bt (ba (bz _) _) hb3)) hz1 _) hz1 _) _
          case measure => simp [intOf]; omega
        · have f1 : (x.f == 1) = false := by rw [hf]; rfl
          have f2 : (x.f == 2) = true := by rw [hf]; rfl
          have Hf := Lib.hid hf
          clear hf
          go_wp2_with fail
          refine (is_any 0 0 _).mono ?_
          rintro e w2 ⟨rfl, hb2⟩
          have hz2 := hb2.size
          have hz1 : w1.heap.size ≤ w2.heap.size := Nat.le_trans hbel.size hz2
          obtain ⟨g0, g1, g2, g3, g4⟩ := op_at (Hw0.out.below hb2) Hx.out
          have ho : b < w2.heap.size := Nat.lt_of_lt_of_le hbw hz2
          have ho1 : b1 < w2.heap.size := Nat.lt_of_lt_of_le hb1w hz2
          obtain ⟨q0, q1⟩ := res_at (Hw1.out.below hb2) Hy.out
          have t1 : (!((stp st x.f x.a x.b).2.1 == 0 && (stp st x.f x.a x.b).2.2.1 == 0)) = false := by rw [Hf.out]; simp [stp]
          go_wp2_with fail
          go_quiet (fail)
          go_wp2_with fail
          go_roundw
          case rel =>
            refine ⟨k + 1, by omega, by go_num, ?_, ?_⟩
            · rw [Hnx.out, Hf.out]; simp [stp]
            · exact below_drewN (ba (bt hbel hb2) _) _
          case measure => simp [intOf]; omega
        · have f1 : (x.f == 1) = false := by rw [hf]; rfl
          have f2 : (x.f == 2) = false := by rw [hf]; rfl
          have f3 : (x.f == 3) = true := by rw [hf]; rfl
          by_cases hsa : st = x.a
          · have f4 : (st == x.a) = true := by rw [← hsa]; simp
            have Hsa := Lib.hid hsa
            have Hf := Lib.hid hf
            clear hf hsa
            go_wp2_with fail
            refine (is_any 0 0 _).mono ?_
            rintro e w2 ⟨rfl, hb2⟩
            have hz2 := hb2.size
            have hz1 : w1.heap.size ≤ w2.heap.size := Nat.le_trans hbel.size hz2
            obtain ⟨g0, g1, g2, g3, g4⟩ := op_at (Hw0.out.below hb2) Hx.out
            have ho : b < w2.heap.size := Nat.lt_of_lt_of_le hbw hz2
            have ho1 : b1 < w2.heap.size := Nat.lt_of_lt_of_le hb1w hz2
            go_wp2_with fail
            refine (is_any 4 0 _).mono ?_
            rintro e w3 ⟨rfl, hb3⟩
            have c0 := kc hb3 w2.heap.size 0 (.int .u8 0) (by simp [go_sem])
            have c1 := kc hb3 w2.heap.size 1 (.int .u16 0) (by simp [go_sem])
            have e0 := kf hb3 w2.heap.size 0 (by simp) (by simp [go_sem])
            have e1 := kf hb3 w2.heap.size 1 (by simp) (by simp [go_sem])
            have hz3 : w2.heap.size < w3.heap.size := by have := hb3.size; simp at this; omega
            obtain ⟨p0, p1, p2, p3, p4⟩ := op_at ((Hw0.out.below hb2).below (bt (ba (bz _) _) hb3)) Hx.out
            go_wp2_with fail
            refine (is_any 3 0 _).mono ?_
            rintro e w4 ⟨rfl, hb4⟩
            have k0 := kc hb4 w2.heap.size 0 (.int .u8 4) (by simp [go_sem, c0, c1])
            have k1 := kc hb4 w2.heap.size 1 (.int .u16 0) (by simp [go_sem, c0, c1])
            have l0 := kf hb4 w2.heap.size 0 (by simp [hz3]) (by simp [go_sem, e0, e1])
            have l1 := kf hb4 w2.heap.size 1 (by simp [hz3]) (by simp [go_sem, e0, e1])
            have hB3 := bs (bs (bt hb2 (bt (ba (bz _) (Obj.cells #[Value.int IntKind.u8 0, Value.int IntKind.u16 0] 35)) hb3)) (p := ⟨w2.heap.size, 0, none⟩) hz2 (.int .u8 4)) (p := ⟨w2.heap.size, 1, none⟩) hz2 (.int .u16 0)
            obtain ⟨m0, m1, m2, m3, m4⟩ := op_at ((Hw0.out.below hB3).below hb4) Hx.out
            obtain ⟨q0, q1⟩ := res_at ((Hw1.out.below hB3).below hb4) Hy.out
            have t1 : (!((stp st x.f x.a x.b).2.1 == 3 && (stp st x.f x.a x.b).2.2.1 == 0)) = false := by rw [Hf.out, Hsa.out]; simp [stp]
            go_wp2_with fail
            go_quiet (fail)
            go_wp2_with fail
            go_roundw
            case rel =>
              refine ⟨k + 1, by omega, by go_num, ?_, ?_⟩
              · rw [Hnx.out, Hf.out, Hsa.out]; simp [stp]
              · exact below_drewN (bs (bs (bt (bt hbel hB3) hb4) hz1 _) hz1 _) _
            case measure => simp [intOf]; omega
          · have f4 : (st == x.a) = false := by rw [beq_eq_false_iff_ne]; exact hsa
            have Hsa := Lib.hid hsa
            have Hf := Lib.hid hf
            clear hf hsa
            go_wp2_with fail
            refine (is_any 0 0 _).mono ?_
            rintro e w2 ⟨rfl, hb2⟩
            have hz2 := hb2.size
            have hz1 : w1.heap.size ≤ w2.heap.size := Nat.le_trans hbel.size hz2
            obtain ⟨g0, g1, g2, g3, g4⟩ := op_at (Hw0.out.below hb2) Hx.out
            have ho : b < w2.heap.size := Nat.lt_of_lt_of_le hbw hz2
            have ho1 : b1 < w2.heap.size := Nat.lt_of_lt_of_le hb1w hz2
            go_wp2_with fail
            refine (is_any 4 0 _).mono ?_
            rintro e w3 ⟨rfl, hb3⟩
            have c0 := kc hb3 w2.heap.size 0 (.int .u8 0) (by simp [go_sem])
            have c1 := kc hb3 w2.heap.size 1 (.int .u16 0) (by simp [go_sem])
            have e0 := kf hb3 w2.heap.size 0 (by simp) (by simp [go_sem])
            have e1 := kf hb3 w2.heap.size 1 (by simp) (by simp [go_sem])
            have hz3 : w2.heap.size < w3.heap.size := by have := hb3.size; simp at this; omega
            obtain ⟨p0, p1, p2, p3, p4⟩ := op_at ((Hw0.out.below hb2).below (bt (ba (bz _) _) hb3)) Hx.out
            obtain ⟨q0, q1⟩ := res_at ((Hw1.out.below hb2).below (bt (ba (bz _) _) hb3)) Hy.out
            have t1 : (!((stp st x.f x.a x.b).2.1 == 4 && (stp st x.f x.a x.b).2.2.1 == 0)) = false := by rw [Hf.out]; simp [stp, Hsa.out]
            go_wp2_with fail
            go_quiet (fail)
            go_wp2_with fail
            go_roundw
            case rel =>
              refine ⟨k + 1, by omega, by go_num, ?_, ?_⟩
              · rw [Hnx.out, Hf.out]; simp [stp, Hsa.out]
              · exact below_drewN (bs (bs (bt (bt hbel hb2) (bt (ba (bz _) _) hb3)) hz1 _) hz1 _) _
            case measure => simp [intOf]; omega
      · have hk' : stopAt l = k := by omega
        have Hk := Lib.hid hk'
        clear hk'
        have hE : (stN s l (stopAt l) == stN s l k) = true := by rw [Hk.out]; simp
        by_cases hfin : stopAt l = l.length
        · have he2 : (errAt l != 0) = false := by unfold errAt; rw [if_pos hfin]; rfl
          have Hfin := Lib.hid hfin
          clear hfin
          go_wp2_with fail
          refine (awake_any _).mono ?_
          rintro e w2 ⟨rfl, hb2⟩
          go_wp2
          go_ret
          exact ⟨rfl, bt (bt hb1 hbel) hb2⟩
        · have he2 : (errAt l != 0) = true := by unfold errAt; rw [if_neg hfin]; rfl
          have he3 : (errAt l == 10) = true := by unfold errAt; rw [if_neg hfin]; rfl
          have hlt' : stopAt l < l.length := by omega
          obtain ⟨x, hx⟩ : ∃ x, l[stopAt l]? = some x := ⟨_, List.getElem?_eq_getElem hlt'⟩
          have hkn : known x = false := by
            cases hk2 : known x with
            | false => rfl
            | true => have := stopAt_lt hx (Nat.le_refl _) hk2; omega
          have hns : ¬ (x.f = 1 ∨ x.f = 2 ∨ x.f = 3) := fun h' => by
            have : known x = true := by simpa [known, or_assoc] using h'
            rw [this] at hkn; cases hkn
          have f1 : (x.f != 1) = true := by rw [bne_iff_ne]; exact fun h' => hns (Or.inl h')
          have f2 : (x.f != 2) = true := by rw [bne_iff_ne]; exact fun h' => hns (Or.inr (Or.inl h'))
          have f3 : (x.f != 3) = true := by rw [bne_iff_ne]; exact fun h' => hns (Or.inr (Or.inr h'))
          obtain ⟨g0, g1, g2, g3, g4⟩ := op_at ((Hsl.out.below hb1).below hbel) hx
          have i2 : (stopAt l : Int) < (l.length : Int) := by omega
          have Hx := Lib.hid hx
          clear hx hkn hns hfin
          go_wp2_with fail
          refine (awake_any _).mono ?_
          rintro e w2 ⟨rfl, hb2⟩
          go_wp2
          go_ret
          exact ⟨rfl, bt (bt hb1 hbel) hb2⟩
  · have h1 : (200 : Int) < (l.length : Int) := by omega
    go_enter Try.func4, Try.ntmps4
    go_wp2_with fail
    refine (awake_any _).mono ?_
    rintro e w1 ⟨rfl, hb1⟩
    go_wp2
    go_ret
    exact ⟨rfl, hb1⟩
end Go.Proofs.Ythheplpamcjphaa

namespace Go.Proofs.Ythheplpamcjphaa.lawLast
open Go.ChangeShapes Go.WideShapes Go.ChangeAt Go.RowKit Go.Um

theorem own : ownKnob Try.prog.godebug = none := by kernel_rfl

set_option maxRecDepth 100000 in
theorem lifted (os : Os) (started : os.Started) (H : Type) (enc : TypeId × Value → H) :
    ReturnsInHanded {} Try.checked os 4 .any (Rows.registerLastSpec.pre6 enc Try.prog Try.f4 Rows.registerLastRow.domain false) (Rows.registerLastSpec.post enc Try.prog Try.f4 false true false false) := by
  refine returnsInHanded_of_change (C := Try.checked) own started (by kernel_rfl) Try.func4
    (ChangeSpec.witness6 (enc := enc) (C := Try.checked) false ⟨#[], #[.int .u16 0, .slice none 0 0], []⟩ 8 (by kernel_rfl) (by kernel_rfl) (by kernel_rfl) (by kernel_rfl)) ?_
  intro W base args ds gs before hval0 hW hcnd _
  have hval : ∀ (j : Nat) t v, Try.f4.params[j]? = some t → args[j]? = some v → Value.okWide Try.prog W .any base t v := hval0
  have hWk := hW
  obtain ⟨p, q, hA0, hV, rfl, hfz, hnd⟩ := hW
  have hA : DataW.TrodAll enc Try.prog W 0 (fun _ => true) true Try.f4.params.toList args.toList ds p := hA0
  rw [Try.params4] at hA hval
  obtain ⟨v0, vs0, d0, ds0, p0, q0, hargs, rfl, rfl, h0, r0⟩ := trodAll_cons hA
  obtain ⟨v1, vs1, d1, ds1, p1, q1, rfl, rfl, rfl, h1, r1⟩ := trodAll_cons r0
  obtain ⟨rfl, rfl, rfl⟩ := trodAll_nil r1
  obtain rfl : args = #[v0, v1] := by cases args; simp_all
  obtain ⟨rfl, rfl⟩ := trodVars_none hV
  obtain ⟨s, rfl, rfl, rfl, w0⟩ := open_int Try.underlying22 (hval 0 22 v0 rfl rfl) h0
  obtain ⟨l, ao, cap, b, o, rfl, hsl, hok⟩ := open_ops Try.underlying23 Try.underlying38 (by kernel_rfl) (by kernel_rfl) rfl rfl rfl rfl rfl Try.underlying5 Try.underlying5 Try.underlying5 Try.underlying22 Try.underlying22 (hval 1 23 v1 rfl rfl) h1
  refine (last_law s l ao cap b o W hsl).mono fun e W' ⟨he, hb⟩ => ?_
  subst he
  exact ⟨_, rfl, law_post (by kernel_rfl) (by kernel_rfl) (by kernel_rfl) Try.underlying4 rfl rfl hWk hb⟩

theorem holds : Rows.RegisterLastSaid :=
  OpenClaim.holds_of_wide 4 Try.f4 rfl rfl rfl rfl rfl rfl rfl ⟨rfl, rfl, rfl, rfl, rfl⟩ rfl rfl rfl rfl rfl (by kernel_rfl) Try.func4 (by kernel_rfl)
    (of_decide_eq_true (by kernel_rfl)) (by unfold Func.isWrapper; first | (rw [if_pos (by decide +kernel)]; kernel_rfl) | (rw [if_neg (by decide +kernel)]; exact ⟨rfl, rfl⟩))
    (fun os started H enc _ => lifted os started H enc)
end Go.Proofs.Ythheplpamcjphaa.lawLast
