/- KvmapSteps: the step of any operation in any state that may be is the document's. Printed by gen_steps.py. -/
import Derived.Test.YtoidbmgoofbcfaaRefstep
import Derived.Test.YtoidbmgoofbcfaaAwake
import Derived.Deep.DeepCutAuto
namespace Go.Proofs.Ytoidbmgoofbcfaa
open Go.RowKit Go.Um
set_option linter.unusedSimpArgs false
set_option linter.unusedVariables false
set_option maxHeartbeats 4000000
set_option maxRecDepth 100000

theorem keep_set9 {w : World} {b o p : Nat} {v : Value} (h : w.cell? ⟨b, o, none⟩ = some v) (hne : b ≠ p) (t : KV) : ((((((((((w.setCell ⟨p, 0, none⟩ (.int .u8 t.h)).setCell ⟨p, 1, none⟩ (.int .u16 t.v0)).setCell ⟨p, 2, none⟩ (.int .u16 t.v1)).setCell ⟨p, 3, none⟩ (.int .u16 t.v2)).setCell ⟨p, 4, none⟩ (.int .u16 t.v3)).setCell ⟨p, 5, none⟩ (.int .u16 t.v4)).setCell ⟨p, 6, none⟩ (.int .u16 t.v5)).setCell ⟨p, 7, none⟩ (.int .u16 t.v6)).setCell ⟨p, 8, none⟩ (.int .u16 t.v7))).cell? ⟨b, o, none⟩ = some v :=
  (kept9 w p t).cell h hne
theorem kept_two (w : World) (p : Nat) (v v' : Value) : Kept (fun i => i = p) w ((w.setCell ⟨p, 0, none⟩ v).setCell ⟨p, 1, none⟩ v') :=
  Kept.setCell (S := fun i => i = p) (Kept.setCell (S := fun i => i = p) (Kept.refl _ _) (fun _ => rfl) _) (fun _ => rfl) _
theorem lay_fine {s : KV} (hs : s.ok) (hf : s.fine) (k : Nat) (hk : k < 8) (x : Int) : (s.lay k x).fine := fun j hj hn => by
  rw [KV.has_lay hs k j hk] at hn
  have : ¬ j = k := fun e => by simp [e] at hn
  rw [KV.get_lay _ _ _ _ hk, if_neg this]
  exact hf j hj (by simpa [this] using hn)
theorem del_fine {s : KV} (hs : s.ok) (hf : s.fine) (k : Nat) (hk : k < 8) : (s.del k).fine := fun j hj hn => by
  rw [KV.has_del hs k j hk] at hn
  rw [KV.get_del _ _ _ hk]
  split
  · rfl
  · next h => exact hf j hj (by simpa [h] using hn)
theorem stp_fine {s : KV} {x : Op5} (hs : s.ok) (hf : s.fine) (hx : x.ok) : (stp s x).1.fine := by
  have hk := hx.k
  unfold in8 at hk
  unfold stp
  split
  · exact hf
  · have h8 : x.k.toNat < 8 := by omega
    split
    · exact hf
    · split
      · exact lay_fine hs hf _ h8 _
      · split
        · exact del_fine hs hf _ h8
        · split
          · split
            · exact lay_fine hs hf _ h8 _
            · exact hf
          · exact hf
theorem check_fine {s : KV} (hf : s.fine) : checkV s = 0 := by unfold checkV; rw [if_pos ((fineB_iff _).2 hf)]
theorem check_whole (s : KV) : (checkV s == 0) = decide (s = s.whole) := by
  by_cases h : s.fine
  · rw [check_fine h, whole_of_fine h]; simp
  · have h1 : fineB s 8 = false := by
      cases hh : fineB s 8 with
      | false => rfl
      | true => exact absurd ((fineB_iff s).1 hh) h
    have h2 : ¬ s = s.whole := fun e => h (by rw [e]; exact whole_fine s)
    unfold checkV
    rw [h1]
    simp [h2]

theorem steps_any (s : KV) (x : Op5) (w : World) (hs : s.ok) (hx : x.ok) : Calls Try.prog 6 #[s.val, x.val] w fun e w' => e = .returned (.bool true) ∧ Below w.heap.size w w' := by
  have heq := eq25_kv
  have heql := eql39
  have HCS := Lib.hid (fun W => check_any s W hs)
  have HWH := Lib.hid (fun W => whole_any s W hs)
  have hcw := check_whole s
  have oS := whole_ok hs
  have fS := whole_fine s
  obtain ⟨S, hS⟩ : ∃ S, S = s.whole := ⟨_, rfl⟩
  rw [← hS] at HWH hcw oS fS
  have HCW := Lib.hid (fun W => check_any S W oS)
  rw [check_fine fS] at HCW
  have HST := Lib.hid (fun W => Step_any S x W oS hx)
  have oI := itN_ok oS 8 (by omega)
  have nI := itN_len S 8
  have hlaw := step_law oI hx
  rw [kv_items oS fS] at hlaw
  have HIT := Lib.hid (fun W => items_any S W oS)
  obtain ⟨T, hT⟩ : ∃ T, T = itN S 8 := ⟨_, rfl⟩
  rw [← hT] at oI nI hlaw HIT
  have nR := stepL_len (T := T) x
  have HRS := Lib.hid (fun ao cap b o W hW => refstep_any T T.length rfl ao cap b o x W hW oI (by omega))
  obtain ⟨R, hR⟩ : ∃ R, R = stepL T x := ⟨_, rfl⟩
  rw [← hR] at hlaw nR HRS
  obtain ⟨l1, l2, l3⟩ := hlaw
  have oA := stp_ok oS hx
  have fA := stp_fine oS fS hx
  obtain ⟨AA, hA⟩ : ∃ A, A = (stp S x).1 := ⟨_, rfl⟩
  rw [← hA] at l2 oA fA HST
  rw [← l3] at HST
  have HAL := Lib.hid (fun ao cap b o W hW => alike_any AA R.1 R.1.length rfl ao cap b o W hW (by omega) l1)
  rw [l2, show decide (AA = AA) = true from by simp] at HAL
  have HCA := Lib.hid (fun W => check_any AA W oA)
  rw [check_fine fA] at HCA
  obtain ⟨r1, hr1⟩ : ∃ r, r = R.2.1.1 := ⟨_, rfl⟩
  obtain ⟨r2, hr2⟩ : ∃ r, r = R.2.1.2 := ⟨_, rfl⟩
  obtain ⟨er, her⟩ : ∃ r, r = R.2.2 := ⟨_, rfl⟩
  unfold StepPost at HRS
  unfold OwnPost at HIT
  rw [← hr1, ← hr2, ← her] at HST HRS
  obtain ⟨RL, hRL⟩ : ∃ r, r = R.1 := ⟨_, rfl⟩
  rw [← hRL] at HRS HAL
  obtain ⟨CV, hCV⟩ : ∃ c, c = checkV s := ⟨_, rfl⟩
  rw [← hCV] at HCS hcw
  obtain ⟨Q, hQ⟩ : ∃ q, decide (s = S) = q := ⟨_, rfl⟩
  rw [hQ] at hcw
  have K0 := Lib.hid (KvAt.new w s)
  clear hS oI nI hT nR hR l1 l2 l3 oA fA hA hr1 hr2 her hRL hCV oS fS hs hx
  obtain ⟨xf, xo, xk, xa, xb⟩ := x
  unfold Go.Um.Op5.val at HST HRS ⊢
  unfold KV.val at HCS HWH HCW HST HIT HAL HCA ⊢
  go_enter Try.func6, Try.ntmps6
  go_wp2_with fail
  obtain ⟨Y, hY⟩ : ∃ Y, Y = (w.alloc (.cells #[.int .u8 s.h, .int .u16 s.v0, .int .u16 s.v1, .int .u16 s.v2, .int .u16 s.v3, .int .u16 s.v4, .int .u16 s.v5, .int .u16 s.v6, .int .u16 s.v7] 25)).alloc (.cells #[.int .u8 xf, .int .u8 xo, .int .u8 xk, .int .u16 xa, .int .u16 xb] 44) := ⟨_, rfl⟩
  have m0 : Y.cell? ⟨w.heap.size + 1, 0, none⟩ = some (.int .u8 xf) := by rw [hY]; simp [go_sem]
  have m1 : Y.cell? ⟨w.heap.size + 1, 1, none⟩ = some (.int .u8 xo) := by rw [hY]; simp [go_sem]
  have m2 : Y.cell? ⟨w.heap.size + 1, 2, none⟩ = some (.int .u8 xk) := by rw [hY]; simp [go_sem]
  have m3 : Y.cell? ⟨w.heap.size + 1, 3, none⟩ = some (.int .u16 xa) := by rw [hY]; simp [go_sem]
  have m4 : Y.cell? ⟨w.heap.size + 1, 4, none⟩ = some (.int .u16 xb) := by rw [hY]; simp [go_sem]
  have HW : Hid (Below w.heap.size w Y) := by rw [hY]; exact Lib.hid (ba (ba (bz w) _) _)
  have KS : Hid (KvAt Y w.heap.size s) := by rw [hY]; exact Lib.hid (K0.out.below (ba (bz _) _))
  rw [← hY]
  clear hY K0
  obtain ⟨c0, c1, c2, c3, c4, c5, c6, c7, c8, _, _, _, _, _, _, _, _, _⟩ := KS.out
  go_upto_region 1 with fail
  go_cut [24] (fun t24 wx => t24 = .bool false ∧ Below Y.heap.size Y wx)
  case first =>
    have HB : Hid (Below Y.heap.size Y Y) := Lib.hid (bz Y)
    cases Q
    · go_region_held3 (fun w' => w'.cell? ⟨w.heap.size, 0, none⟩ = some (.int .u8 s.h) ∧ w'.cell? ⟨w.heap.size, 1, none⟩ = some (.int .u16 s.v0) ∧ w'.cell? ⟨w.heap.size, 2, none⟩ = some (.int .u16 s.v1) ∧ w'.cell? ⟨w.heap.size, 3, none⟩ = some (.int .u16 s.v2) ∧ w'.cell? ⟨w.heap.size, 4, none⟩ = some (.int .u16 s.v3) ∧ w'.cell? ⟨w.heap.size, 5, none⟩ = some (.int .u16 s.v4) ∧ w'.cell? ⟨w.heap.size, 6, none⟩ = some (.int .u16 s.v5) ∧ w'.cell? ⟨w.heap.size, 7, none⟩ = some (.int .u16 s.v6) ∧ w'.cell? ⟨w.heap.size, 8, none⟩ = some (.int .u16 s.v7))
        (refine ⟨?_, ?_, ?_, ?_, ?_, ?_, ?_, ?_, ?_⟩ <;> (repeat (first | (with_reducible assumption) | (with_reducible apply keep_alloc) | (with_reducible apply keep_drewN) | (with_reducible apply keep_drew) | (with_reducible refine keep_set ?_ ?_) | (intro e; dsimp only at e; omega))))
        (first
          | (go_at_call 20; (first | (with_reducible refine (HCS.out _).mono ?_) | (with_reducible refine (HCW.out _).mono ?_)); rintro e wX ⟨rfl, hb⟩; replace c0 := cell_past hb (by repeat (first | (with_reducible exact c0) | (with_reducible apply keep_alloc) | (with_reducible apply keep_drewN) | (with_reducible apply keep_drew))); replace c1 := cell_past hb (by repeat (first | (with_reducible exact c1) | (with_reducible apply keep_alloc) | (with_reducible apply keep_drewN) | (with_reducible apply keep_drew))); replace c2 := cell_past hb (by repeat (first | (with_reducible exact c2) | (with_reducible apply keep_alloc) | (with_reducible apply keep_drewN) | (with_reducible apply keep_drew))); replace c3 := cell_past hb (by repeat (first | (with_reducible exact c3) | (with_reducible apply keep_alloc) | (with_reducible apply keep_drewN) | (with_reducible apply keep_drew))); replace c4 := cell_past hb (by repeat (first | (with_reducible exact c4) | (with_reducible apply keep_alloc) | (with_reducible apply keep_drewN) | (with_reducible apply keep_drew))); replace c5 := cell_past hb (by repeat (first | (with_reducible exact c5) | (with_reducible apply keep_alloc) | (with_reducible apply keep_drewN) | (with_reducible apply keep_drew))); replace c6 := cell_past hb (by repeat (first | (with_reducible exact c6) | (with_reducible apply keep_alloc) | (with_reducible apply keep_drewN) | (with_reducible apply keep_drew))); replace c7 := cell_past hb (by repeat (first | (with_reducible exact c7) | (with_reducible apply keep_alloc) | (with_reducible apply keep_drewN) | (with_reducible apply keep_drew))); replace c8 := cell_past hb (by repeat (first | (with_reducible exact c8) | (with_reducible apply keep_alloc) | (with_reducible apply keep_drewN) | (with_reducible apply keep_drew))); replace HB := Lib.hid (bt HB.out (bt (by repeat (first | (with_reducible exact bz _) | (with_reducible apply ba) | (with_reducible apply Below.drew) | (with_reducible exact below_dd _ _ _) | (with_reducible apply below_drewN))) hb)); clear hb)
          | (go_at_call 11; refine (HWH.out _).mono ?_; rintro e wX ⟨rfl, hb⟩; replace c0 := cell_past hb (by repeat (first | (with_reducible exact c0) | (with_reducible apply keep_alloc) | (with_reducible apply keep_drewN) | (with_reducible apply keep_drew))); replace c1 := cell_past hb (by repeat (first | (with_reducible exact c1) | (with_reducible apply keep_alloc) | (with_reducible apply keep_drewN) | (with_reducible apply keep_drew))); replace c2 := cell_past hb (by repeat (first | (with_reducible exact c2) | (with_reducible apply keep_alloc) | (with_reducible apply keep_drewN) | (with_reducible apply keep_drew))); replace c3 := cell_past hb (by repeat (first | (with_reducible exact c3) | (with_reducible apply keep_alloc) | (with_reducible apply keep_drewN) | (with_reducible apply keep_drew))); replace c4 := cell_past hb (by repeat (first | (with_reducible exact c4) | (with_reducible apply keep_alloc) | (with_reducible apply keep_drewN) | (with_reducible apply keep_drew))); replace c5 := cell_past hb (by repeat (first | (with_reducible exact c5) | (with_reducible apply keep_alloc) | (with_reducible apply keep_drewN) | (with_reducible apply keep_drew))); replace c6 := cell_past hb (by repeat (first | (with_reducible exact c6) | (with_reducible apply keep_alloc) | (with_reducible apply keep_drewN) | (with_reducible apply keep_drew))); replace c7 := cell_past hb (by repeat (first | (with_reducible exact c7) | (with_reducible apply keep_alloc) | (with_reducible apply keep_drewN) | (with_reducible apply keep_drew))); replace c8 := cell_past hb (by repeat (first | (with_reducible exact c8) | (with_reducible apply keep_alloc) | (with_reducible apply keep_drewN) | (with_reducible apply keep_drew))); replace HB := Lib.hid (bt HB.out (bt (by repeat (first | (with_reducible exact bz _) | (with_reducible apply ba) | (with_reducible apply Below.drew) | (with_reducible exact below_dd _ _ _) | (with_reducible apply below_drewN))) hb)); clear hb))
      all_goals (go_wp2_with fail; go_meet)
      all_goals exact ⟨by simp, by first | exact HB.out | exact HB.out.drew⟩
    · go_region_held3 (fun w' => w'.cell? ⟨w.heap.size, 0, none⟩ = some (.int .u8 s.h) ∧ w'.cell? ⟨w.heap.size, 1, none⟩ = some (.int .u16 s.v0) ∧ w'.cell? ⟨w.heap.size, 2, none⟩ = some (.int .u16 s.v1) ∧ w'.cell? ⟨w.heap.size, 3, none⟩ = some (.int .u16 s.v2) ∧ w'.cell? ⟨w.heap.size, 4, none⟩ = some (.int .u16 s.v3) ∧ w'.cell? ⟨w.heap.size, 5, none⟩ = some (.int .u16 s.v4) ∧ w'.cell? ⟨w.heap.size, 6, none⟩ = some (.int .u16 s.v5) ∧ w'.cell? ⟨w.heap.size, 7, none⟩ = some (.int .u16 s.v6) ∧ w'.cell? ⟨w.heap.size, 8, none⟩ = some (.int .u16 s.v7))
        (refine ⟨?_, ?_, ?_, ?_, ?_, ?_, ?_, ?_, ?_⟩ <;> (repeat (first | (with_reducible assumption) | (with_reducible apply keep_alloc) | (with_reducible apply keep_drewN) | (with_reducible apply keep_drew) | (with_reducible refine keep_set ?_ ?_) | (intro e; dsimp only at e; omega))))
        (first
          | (go_at_call 20; (first | (with_reducible refine (HCS.out _).mono ?_) | (with_reducible refine (HCW.out _).mono ?_)); rintro e wX ⟨rfl, hb⟩; replace c0 := cell_past hb (by repeat (first | (with_reducible exact c0) | (with_reducible apply keep_alloc) | (with_reducible apply keep_drewN) | (with_reducible apply keep_drew))); replace c1 := cell_past hb (by repeat (first | (with_reducible exact c1) | (with_reducible apply keep_alloc) | (with_reducible apply keep_drewN) | (with_reducible apply keep_drew))); replace c2 := cell_past hb (by repeat (first | (with_reducible exact c2) | (with_reducible apply keep_alloc) | (with_reducible apply keep_drewN) | (with_reducible apply keep_drew))); replace c3 := cell_past hb (by repeat (first | (with_reducible exact c3) | (with_reducible apply keep_alloc) | (with_reducible apply keep_drewN) | (with_reducible apply keep_drew))); replace c4 := cell_past hb (by repeat (first | (with_reducible exact c4) | (with_reducible apply keep_alloc) | (with_reducible apply keep_drewN) | (with_reducible apply keep_drew))); replace c5 := cell_past hb (by repeat (first | (with_reducible exact c5) | (with_reducible apply keep_alloc) | (with_reducible apply keep_drewN) | (with_reducible apply keep_drew))); replace c6 := cell_past hb (by repeat (first | (with_reducible exact c6) | (with_reducible apply keep_alloc) | (with_reducible apply keep_drewN) | (with_reducible apply keep_drew))); replace c7 := cell_past hb (by repeat (first | (with_reducible exact c7) | (with_reducible apply keep_alloc) | (with_reducible apply keep_drewN) | (with_reducible apply keep_drew))); replace c8 := cell_past hb (by repeat (first | (with_reducible exact c8) | (with_reducible apply keep_alloc) | (with_reducible apply keep_drewN) | (with_reducible apply keep_drew))); replace HB := Lib.hid (bt HB.out (bt (by repeat (first | (with_reducible exact bz _) | (with_reducible apply ba) | (with_reducible apply Below.drew) | (with_reducible exact below_dd _ _ _) | (with_reducible apply below_drewN))) hb)); clear hb)
          | (go_at_call 11; refine (HWH.out _).mono ?_; rintro e wX ⟨rfl, hb⟩; replace c0 := cell_past hb (by repeat (first | (with_reducible exact c0) | (with_reducible apply keep_alloc) | (with_reducible apply keep_drewN) | (with_reducible apply keep_drew))); replace c1 := cell_past hb (by repeat (first | (with_reducible exact c1) | (with_reducible apply keep_alloc) | (with_reducible apply keep_drewN) | (with_reducible apply keep_drew))); replace c2 := cell_past hb (by repeat (first | (with_reducible exact c2) | (with_reducible apply keep_alloc) | (with_reducible apply keep_drewN) | (with_reducible apply keep_drew))); replace c3 := cell_past hb (by repeat (first | (with_reducible exact c3) | (with_reducible apply keep_alloc) | (with_reducible apply keep_drewN) | (with_reducible apply keep_drew))); replace c4 := cell_past hb (by repeat (first | (with_reducible exact c4) | (with_reducible apply keep_alloc) | (with_reducible apply keep_drewN) | (with_reducible apply keep_drew))); replace c5 := cell_past hb (by repeat (first | (with_reducible exact c5) | (with_reducible apply keep_alloc) | (with_reducible apply keep_drewN) | (with_reducible apply keep_drew))); replace c6 := cell_past hb (by repeat (first | (with_reducible exact c6) | (with_reducible apply keep_alloc) | (with_reducible apply keep_drewN) | (with_reducible apply keep_drew))); replace c7 := cell_past hb (by repeat (first | (with_reducible exact c7) | (with_reducible apply keep_alloc) | (with_reducible apply keep_drewN) | (with_reducible apply keep_drew))); replace c8 := cell_past hb (by repeat (first | (with_reducible exact c8) | (with_reducible apply keep_alloc) | (with_reducible apply keep_drewN) | (with_reducible apply keep_drew))); replace HB := Lib.hid (bt HB.out (bt (by repeat (first | (with_reducible exact bz _) | (with_reducible apply ba) | (with_reducible apply Below.drew) | (with_reducible exact below_dd _ _ _) | (with_reducible apply below_drewN))) hb)); clear hb))
      all_goals (go_wp2_with fail; go_meet)
      all_goals exact ⟨by simp, by first | exact HB.out | exact HB.out.drew⟩
  case rest =>
    obtain ⟨rfl, hbx⟩ := hcut
    have HW1 := Lib.hid (HW.out.trans (hbx.mono HW.out.size))
    have KS1 := Lib.hid (KS.out.below hbx)
    replace m0 := cell_past hbx m0
    replace m1 := cell_past hbx m1
    replace m2 := cell_past hbx m2
    replace m3 := cell_past hbx m3
    replace m4 := cell_past hbx m4
    clear c0 c1 c2 c3 c4 c5 c6 c7 c8 hbx HCS HCW hcw hQ KS HW
    obtain ⟨c0, c1, c2, c3, c4, c5, c6, c7, c8, f0, f1, f2, f3, f4, f5, f6, f7, f8⟩ := KS1.out
    go_wp2_with fail
    refine (HWH.out _).mono ?_
    rintro e w1 ⟨rfl, hb⟩
    replace HW1 := Lib.hid (HW1.out.trans (hb.mono HW1.out.size))
    replace KS1 := Lib.hid (KS1.out.below hb)
    replace m0 := cell_past hb m0
    replace m1 := cell_past hb m1
    replace m2 := cell_past hb m2
    replace m3 := cell_past hb m3
    replace m4 := cell_past hb m4
    clear hb c0 c1 c2 c3 c4 c5 c6 c7 c8 f0 f1 f2 f3 f4 f5 f6 f7 f8
    obtain ⟨c0, c1, c2, c3, c4, c5, c6, c7, c8, f0, f1, f2, f3, f4, f5, f6, f7, f8⟩ := KS1.out
    go_wp2_with fail
    replace m0 := keep_set9 m0 (by show w.heap.size + 1 ≠ w.heap.size; omega) S
    replace m1 := keep_set9 m1 (by show w.heap.size + 1 ≠ w.heap.size; omega) S
    replace m2 := keep_set9 m2 (by show w.heap.size + 1 ≠ w.heap.size; omega) S
    replace m3 := keep_set9 m3 (by show w.heap.size + 1 ≠ w.heap.size; omega) S
    replace m4 := keep_set9 m4 (by show w.heap.size + 1 ≠ w.heap.size; omega) S
    have hsz1 := HW1.out.size
    replace HW1 := Lib.hid (HW1.out.trans ((kept9 w1 w.heap.size S).below (fun i hi _ e => by omega) hsz1))
    replace KS1 := Lib.hid (KvAt.set9 KS1.out S)
    obtain ⟨Y2, hY2⟩ : ∃ Y, Y = (((((((((w1.setCell ⟨w.heap.size, 0, none⟩ (.int .u8 S.h)).setCell ⟨w.heap.size, 1, none⟩ (.int .u16 S.v0)).setCell ⟨w.heap.size, 2, none⟩ (.int .u16 S.v1)).setCell ⟨w.heap.size, 3, none⟩ (.int .u16 S.v2)).setCell ⟨w.heap.size, 4, none⟩ (.int .u16 S.v3)).setCell ⟨w.heap.size, 5, none⟩ (.int .u16 S.v4)).setCell ⟨w.heap.size, 6, none⟩ (.int .u16 S.v5)).setCell ⟨w.heap.size, 7, none⟩ (.int .u16 S.v6)).setCell ⟨w.heap.size, 8, none⟩ (.int .u16 S.v7)) := ⟨_, rfl⟩
    rw [← hY2] at m0 m1 m2 m3 m4 HW1 KS1 ⊢
    clear hY2 hsz1 c0 c1 c2 c3 c4 c5 c6 c7 c8 f0 f1 f2 f3 f4 f5 f6 f7 f8
    refine (HST.out _).mono ?_
    rintro e w2 ⟨rfl, hb⟩
    replace HW1 := Lib.hid (HW1.out.trans (hb.mono HW1.out.size))
    replace KS1 := Lib.hid (KS1.out.below hb)
    replace m0 := cell_past hb m0
    replace m1 := cell_past hb m1
    replace m2 := cell_past hb m2
    replace m3 := cell_past hb m3
    replace m4 := cell_past hb m4
    clear hb HST HWH
    go_wp2_with fail
    have hx0' : w.heap.size + 1 < w2.heap.size := World.block_lt_of_cell? w2 _ m0
    have K5 := Lib.hid (KvAt.new w2 AA)
    obtain ⟨Y3, hY3⟩ : ∃ Y, Y = (w2.alloc (.cells #[.int .u8 AA.h, .int .u16 AA.v0, .int .u16 AA.v1, .int .u16 AA.v2, .int .u16 AA.v3, .int .u16 AA.v4, .int .u16 AA.v5, .int .u16 AA.v6, .int .u16 AA.v7] 25)).alloc (.cells #[.int .u8 r1, .int .u16 r2] 39) := ⟨_, rfl⟩
    have rr0 : Y3.cell? ⟨w2.heap.size + 1, 0, none⟩ = some (.int .u8 r1) := by rw [hY3]; simp [go_sem]
    have rr1 : Y3.cell? ⟨w2.heap.size + 1, 1, none⟩ = some (.int .u16 r2) := by rw [hY3]; simp [go_sem]
    have hy3 : Hid (Below w2.heap.size w2 Y3) := by rw [hY3]; exact Lib.hid (ba (ba (bz _) _) _)
    have K5' : Hid (KvAt Y3 w2.heap.size AA) := by rw [hY3]; exact Lib.hid (K5.out.below (ba (bz _) _))
    rw [← hY3]
    obtain ⟨P5, hP5⟩ : ∃ p, p = w2.heap.size := ⟨_, rfl⟩
    rw [← hP5] at K5' rr0 rr1 ⊢
    obtain ⟨P6, hP6⟩ : ∃ p, p = P5 + 1 := ⟨_, rfl⟩
    rw [← hP6] at rr0 rr1 ⊢
    replace m0 := cell_past hy3.out m0
    replace m1 := cell_past hy3.out m1
    replace m2 := cell_past hy3.out m2
    replace m3 := cell_past hy3.out m3
    replace m4 := cell_past hy3.out m4
    replace KS1 := Lib.hid (KS1.out.below hy3.out)
    replace HW1 := Lib.hid (HW1.out.trans (hy3.out.mono HW1.out.size))
    have hx0 : w.heap.size + 1 < Y3.heap.size := World.block_lt_of_cell? Y3 _ m0
    clear K5 hY3 hy3 hP5 hP6 hx0'
    obtain ⟨c0, c1, c2, c3, c4, c5, c6, c7, c8, _, _, _, _, _, _, _, _, _⟩ := KS1.out
    go_cut [8, 9, 10] (fun t8 t9 t10 wx => ∃ (ao : Option Addr) (cap b o g : Nat), t8 = .slice ao RL.length cap ∧ t9 = .pointer (some ⟨g, 0, none⟩) ∧ t10 = .int .i64 er ∧ SlAt wx 2 RL.length (RL.flatMap resC) ao cap b o ∧ wx.cell? ⟨g, 0, none⟩ = some (.int .u8 r1) ∧ wx.cell? ⟨g, 1, none⟩ = some (.int .u16 r2) ∧ Below Y3.heap.size Y3 wx)
    case first =>
      have HB : Hid (Below Y3.heap.size Y3 Y3) := Lib.hid (bz Y3)
      go_region_held3 (fun w' => w'.cell? ⟨w.heap.size, 0, none⟩ = some (.int .u8 S.h) ∧ w'.cell? ⟨w.heap.size, 1, none⟩ = some (.int .u16 S.v0) ∧ w'.cell? ⟨w.heap.size, 2, none⟩ = some (.int .u16 S.v1) ∧ w'.cell? ⟨w.heap.size, 3, none⟩ = some (.int .u16 S.v2) ∧ w'.cell? ⟨w.heap.size, 4, none⟩ = some (.int .u16 S.v3) ∧ w'.cell? ⟨w.heap.size, 5, none⟩ = some (.int .u16 S.v4) ∧ w'.cell? ⟨w.heap.size, 6, none⟩ = some (.int .u16 S.v5) ∧ w'.cell? ⟨w.heap.size, 7, none⟩ = some (.int .u16 S.v6) ∧ w'.cell? ⟨w.heap.size, 8, none⟩ = some (.int .u16 S.v7) ∧ w'.cell? ⟨w.heap.size + 1, 0, none⟩ = some (.int .u8 xf) ∧ w'.cell? ⟨w.heap.size + 1, 1, none⟩ = some (.int .u8 xo) ∧ w'.cell? ⟨w.heap.size + 1, 2, none⟩ = some (.int .u8 xk) ∧ w'.cell? ⟨w.heap.size + 1, 3, none⟩ = some (.int .u16 xa) ∧ w'.cell? ⟨w.heap.size + 1, 4, none⟩ = some (.int .u16 xb))
        (refine ⟨?_, ?_, ?_, ?_, ?_, ?_, ?_, ?_, ?_, ?_, ?_, ?_, ?_, ?_⟩ <;> (repeat (first | (with_reducible assumption) | (with_reducible apply keep_alloc) | (with_reducible apply keep_drewN) | (with_reducible apply keep_drew) | (with_reducible refine keep_set ?_ ?_) | (intro e; dsimp only at e; omega))))
        (first
          | (go_at_call 14; refine (HIT.out ((Y3.alloc (.cells #[.int .u8 0, .int .u16 0] 39)).drew)).mono ?_; rintro e wX ⟨vT, rfl, hownT, hb⟩; obtain ⟨aoT, capT, bT, oT, rfl, hsT, hnT⟩ := SlAt.owned hownT; have gz0 := kc hb Y3.heap.size 0 (.int .u8 0) (by simp [go_sem]); have gz1 := kc hb Y3.heap.size 1 (.int .u16 0) (by simp [go_sem]); have gf0 := kf hb Y3.heap.size 0 (by simp) (by simp [go_sem]); have gf1 := kf hb Y3.heap.size 1 (by simp) (by simp [go_sem]); have hbT : Hid (0 < (T.flatMap resC).length → bT ≠ Y3.heap.size) := (fun hp => by have := hnT hp; simp at this; omega); have HT := Lib.hid hsT; have hx1 : Y3.heap.size ≤ wX.heap.size := (by have := hb.size; simp at this; omega); clear hnT hownT hsT; replace c0 := cell_past hb (by repeat (first | (with_reducible exact c0) | (with_reducible apply keep_alloc) | (with_reducible apply keep_drewN) | (with_reducible apply keep_drew))); replace c1 := cell_past hb (by repeat (first | (with_reducible exact c1) | (with_reducible apply keep_alloc) | (with_reducible apply keep_drewN) | (with_reducible apply keep_drew))); replace c2 := cell_past hb (by repeat (first | (with_reducible exact c2) | (with_reducible apply keep_alloc) | (with_reducible apply keep_drewN) | (with_reducible apply keep_drew))); replace c3 := cell_past hb (by repeat (first | (with_reducible exact c3) | (with_reducible apply keep_alloc) | (with_reducible apply keep_drewN) | (with_reducible apply keep_drew))); replace c4 := cell_past hb (by repeat (first | (with_reducible exact c4) | (with_reducible apply keep_alloc) | (with_reducible apply keep_drewN) | (with_reducible apply keep_drew))); replace c5 := cell_past hb (by repeat (first | (with_reducible exact c5) | (with_reducible apply keep_alloc) | (with_reducible apply keep_drewN) | (with_reducible apply keep_drew))); replace c6 := cell_past hb (by repeat (first | (with_reducible exact c6) | (with_reducible apply keep_alloc) | (with_reducible apply keep_drewN) | (with_reducible apply keep_drew))); replace c7 := cell_past hb (by repeat (first | (with_reducible exact c7) | (with_reducible apply keep_alloc) | (with_reducible apply keep_drewN) | (with_reducible apply keep_drew))); replace c8 := cell_past hb (by repeat (first | (with_reducible exact c8) | (with_reducible apply keep_alloc) | (with_reducible apply keep_drewN) | (with_reducible apply keep_drew))); replace m0 := cell_past hb (by repeat (first | (with_reducible exact m0) | (with_reducible apply keep_alloc) | (with_reducible apply keep_drewN) | (with_reducible apply keep_drew))); replace m1 := cell_past hb (by repeat (first | (with_reducible exact m1) | (with_reducible apply keep_alloc) | (with_reducible apply keep_drewN) | (with_reducible apply keep_drew))); replace m2 := cell_past hb (by repeat (first | (with_reducible exact m2) | (with_reducible apply keep_alloc) | (with_reducible apply keep_drewN) | (with_reducible apply keep_drew))); replace m3 := cell_past hb (by repeat (first | (with_reducible exact m3) | (with_reducible apply keep_alloc) | (with_reducible apply keep_drewN) | (with_reducible apply keep_drew))); replace m4 := cell_past hb (by repeat (first | (with_reducible exact m4) | (with_reducible apply keep_alloc) | (with_reducible apply keep_drewN) | (with_reducible apply keep_drew))); replace HB := Lib.hid (bt HB.out (bt (by repeat (first | (with_reducible exact bz _) | (with_reducible apply ba) | (with_reducible apply Below.drew) | (with_reducible exact below_dd _ _ _) | (with_reducible apply below_drewN))) hb)); clear hb)
          | (go_at_call 14; refine (HIT.out _).mono ?_; rintro e wX ⟨vT, rfl, hownT, hb⟩; obtain ⟨aoT, capT, bT, oT, rfl, hsT, hnT⟩ := SlAt.owned hownT; have HT := Lib.hid hsT; have hx1 : Y3.heap.size ≤ wX.heap.size := (by have := hb.size; simp at this; omega); clear hnT hownT hsT; replace c0 := cell_past hb (by repeat (first | (with_reducible exact c0) | (with_reducible apply keep_alloc) | (with_reducible apply keep_drewN) | (with_reducible apply keep_drew))); replace c1 := cell_past hb (by repeat (first | (with_reducible exact c1) | (with_reducible apply keep_alloc) | (with_reducible apply keep_drewN) | (with_reducible apply keep_drew))); replace c2 := cell_past hb (by repeat (first | (with_reducible exact c2) | (with_reducible apply keep_alloc) | (with_reducible apply keep_drewN) | (with_reducible apply keep_drew))); replace c3 := cell_past hb (by repeat (first | (with_reducible exact c3) | (with_reducible apply keep_alloc) | (with_reducible apply keep_drewN) | (with_reducible apply keep_drew))); replace c4 := cell_past hb (by repeat (first | (with_reducible exact c4) | (with_reducible apply keep_alloc) | (with_reducible apply keep_drewN) | (with_reducible apply keep_drew))); replace c5 := cell_past hb (by repeat (first | (with_reducible exact c5) | (with_reducible apply keep_alloc) | (with_reducible apply keep_drewN) | (with_reducible apply keep_drew))); replace c6 := cell_past hb (by repeat (first | (with_reducible exact c6) | (with_reducible apply keep_alloc) | (with_reducible apply keep_drewN) | (with_reducible apply keep_drew))); replace c7 := cell_past hb (by repeat (first | (with_reducible exact c7) | (with_reducible apply keep_alloc) | (with_reducible apply keep_drewN) | (with_reducible apply keep_drew))); replace c8 := cell_past hb (by repeat (first | (with_reducible exact c8) | (with_reducible apply keep_alloc) | (with_reducible apply keep_drewN) | (with_reducible apply keep_drew))); replace m0 := cell_past hb (by repeat (first | (with_reducible exact m0) | (with_reducible apply keep_alloc) | (with_reducible apply keep_drewN) | (with_reducible apply keep_drew))); replace m1 := cell_past hb (by repeat (first | (with_reducible exact m1) | (with_reducible apply keep_alloc) | (with_reducible apply keep_drewN) | (with_reducible apply keep_drew))); replace m2 := cell_past hb (by repeat (first | (with_reducible exact m2) | (with_reducible apply keep_alloc) | (with_reducible apply keep_drewN) | (with_reducible apply keep_drew))); replace m3 := cell_past hb (by repeat (first | (with_reducible exact m3) | (with_reducible apply keep_alloc) | (with_reducible apply keep_drewN) | (with_reducible apply keep_drew))); replace m4 := cell_past hb (by repeat (first | (with_reducible exact m4) | (with_reducible apply keep_alloc) | (with_reducible apply keep_drewN) | (with_reducible apply keep_drew))); replace HB := Lib.hid (bt HB.out (bt (by repeat (first | (with_reducible exact bz _) | (with_reducible apply ba) | (with_reducible apply Below.drew) | (with_reducible exact below_dd _ _ _) | (with_reducible apply below_drewN))) hb)); clear hb)
          | (go_at_call 22; refine (HRS.out aoT capT bT oT (wX.alloc (.cells #[.int .u8 0, .int .u16 0] 39)) (HT.out.below (by repeat (first | (with_reducible exact bz _) | (with_reducible apply ba) | (with_reducible apply Below.drew) | (with_reducible exact below_dd _ _ _) | (with_reducible apply below_drewN))))).mono ?_; rintro e wZ ⟨aoR, capR, bR, oR, nR, hnR, rfl, hsR, hb, hwR⟩; subst hnR; have gz0 := kc hb wX.heap.size 0 (.int .u8 0) (by simp [go_sem]); have gz1 := kc hb wX.heap.size 1 (.int .u16 0) (by simp [go_sem]); have gf0 := kf hb wX.heap.size 0 (by simp) (by simp [go_sem]); have gf1 := kf hb wX.heap.size 1 (by simp) (by simp [go_sem]); have hgR : Hid (0 < (RL.flatMap resC).length → bR ≠ wX.heap.size) := (fun hp => by rcases hwR hp with ⟨e1, e2⟩ | e1; (· have := HT.out.lt (by rw [← e2]; exact hp); omega); (· simp at e1; omega)); have hgz : wX.heap.size < wZ.heap.size := (by have := hb.size; simp at this; omega); have HR := Lib.hid hsR; have hx2 : wX.heap.size ≤ wZ.heap.size := (by have := hb.size; first | omega | (simp at this; omega)); have HB9 := Lib.hid (bt HB.out (bt (by repeat (first | (with_reducible exact bz _) | (with_reducible apply ba) | (with_reducible apply Below.drew) | (with_reducible exact below_dd _ _ _) | (with_reducible apply below_drewN))) hb)); clear hsR hwR; replace c0 := cell_past hb (by repeat (first | (with_reducible exact c0) | (with_reducible apply keep_alloc) | (with_reducible apply keep_drewN) | (with_reducible apply keep_drew))); replace c1 := cell_past hb (by repeat (first | (with_reducible exact c1) | (with_reducible apply keep_alloc) | (with_reducible apply keep_drewN) | (with_reducible apply keep_drew))); replace c2 := cell_past hb (by repeat (first | (with_reducible exact c2) | (with_reducible apply keep_alloc) | (with_reducible apply keep_drewN) | (with_reducible apply keep_drew))); replace c3 := cell_past hb (by repeat (first | (with_reducible exact c3) | (with_reducible apply keep_alloc) | (with_reducible apply keep_drewN) | (with_reducible apply keep_drew))); replace c4 := cell_past hb (by repeat (first | (with_reducible exact c4) | (with_reducible apply keep_alloc) | (with_reducible apply keep_drewN) | (with_reducible apply keep_drew))); replace c5 := cell_past hb (by repeat (first | (with_reducible exact c5) | (with_reducible apply keep_alloc) | (with_reducible apply keep_drewN) | (with_reducible apply keep_drew))); replace c6 := cell_past hb (by repeat (first | (with_reducible exact c6) | (with_reducible apply keep_alloc) | (with_reducible apply keep_drewN) | (with_reducible apply keep_drew))); replace c7 := cell_past hb (by repeat (first | (with_reducible exact c7) | (with_reducible apply keep_alloc) | (with_reducible apply keep_drewN) | (with_reducible apply keep_drew))); replace c8 := cell_past hb (by repeat (first | (with_reducible exact c8) | (with_reducible apply keep_alloc) | (with_reducible apply keep_drewN) | (with_reducible apply keep_drew))); replace m0 := cell_past hb (by repeat (first | (with_reducible exact m0) | (with_reducible apply keep_alloc) | (with_reducible apply keep_drewN) | (with_reducible apply keep_drew))); replace m1 := cell_past hb (by repeat (first | (with_reducible exact m1) | (with_reducible apply keep_alloc) | (with_reducible apply keep_drewN) | (with_reducible apply keep_drew))); replace m2 := cell_past hb (by repeat (first | (with_reducible exact m2) | (with_reducible apply keep_alloc) | (with_reducible apply keep_drewN) | (with_reducible apply keep_drew))); replace m3 := cell_past hb (by repeat (first | (with_reducible exact m3) | (with_reducible apply keep_alloc) | (with_reducible apply keep_drewN) | (with_reducible apply keep_drew))); replace m4 := cell_past hb (by repeat (first | (with_reducible exact m4) | (with_reducible apply keep_alloc) | (with_reducible apply keep_drewN) | (with_reducible apply keep_drew))); clear hb)
          | (go_at_call 22; refine (HRS.out aoT capT bT oT _ (HT.out.below (by repeat (first | (with_reducible exact bz _) | (with_reducible apply ba) | (with_reducible apply Below.drew) | (with_reducible exact below_dd _ _ _) | (with_reducible apply below_drewN))))).mono ?_; rintro e wZ ⟨aoR, capR, bR, oR, nR, hnR, rfl, hsR, hb, hwR⟩; subst hnR; have hlt0 : Y3.heap.size < wX.heap.size := World.block_lt_of_cell? wX _ gz0; replace gz0 : wZ.cell? ⟨Y3.heap.size, 0, none⟩ = some (.int .u8 0) := cell_past hb gz0; replace gz1 : wZ.cell? ⟨Y3.heap.size, 1, none⟩ = some (.int .u16 0) := cell_past hb gz1; replace gf0 := kf hb Y3.heap.size 0 hlt0 gf0; replace gf1 := kf hb Y3.heap.size 1 hlt0 gf1; have hgR : Hid (0 < (RL.flatMap resC).length → bR ≠ Y3.heap.size) := (fun hp => by rcases hwR hp with ⟨e1, e2⟩ | e1; (· rw [e1]; exact hbT.out (by rw [← e2]; exact hp)); (· have := HB.out.size; omega)); have HR := Lib.hid hsR; have hx2 : wX.heap.size ≤ wZ.heap.size := (by have := hb.size; first | omega | (simp at this; omega)); have HB9 := Lib.hid (bt HB.out (bt (by repeat (first | (with_reducible exact bz _) | (with_reducible apply ba) | (with_reducible apply Below.drew) | (with_reducible exact below_dd _ _ _) | (with_reducible apply below_drewN))) hb)); clear hsR hwR; replace c0 := cell_past hb (by repeat (first | (with_reducible exact c0) | (with_reducible apply keep_alloc) | (with_reducible apply keep_drewN) | (with_reducible apply keep_drew))); replace c1 := cell_past hb (by repeat (first | (with_reducible exact c1) | (with_reducible apply keep_alloc) | (with_reducible apply keep_drewN) | (with_reducible apply keep_drew))); replace c2 := cell_past hb (by repeat (first | (with_reducible exact c2) | (with_reducible apply keep_alloc) | (with_reducible apply keep_drewN) | (with_reducible apply keep_drew))); replace c3 := cell_past hb (by repeat (first | (with_reducible exact c3) | (with_reducible apply keep_alloc) | (with_reducible apply keep_drewN) | (with_reducible apply keep_drew))); replace c4 := cell_past hb (by repeat (first | (with_reducible exact c4) | (with_reducible apply keep_alloc) | (with_reducible apply keep_drewN) | (with_reducible apply keep_drew))); replace c5 := cell_past hb (by repeat (first | (with_reducible exact c5) | (with_reducible apply keep_alloc) | (with_reducible apply keep_drewN) | (with_reducible apply keep_drew))); replace c6 := cell_past hb (by repeat (first | (with_reducible exact c6) | (with_reducible apply keep_alloc) | (with_reducible apply keep_drewN) | (with_reducible apply keep_drew))); replace c7 := cell_past hb (by repeat (first | (with_reducible exact c7) | (with_reducible apply keep_alloc) | (with_reducible apply keep_drewN) | (with_reducible apply keep_drew))); replace c8 := cell_past hb (by repeat (first | (with_reducible exact c8) | (with_reducible apply keep_alloc) | (with_reducible apply keep_drewN) | (with_reducible apply keep_drew))); replace m0 := cell_past hb (by repeat (first | (with_reducible exact m0) | (with_reducible apply keep_alloc) | (with_reducible apply keep_drewN) | (with_reducible apply keep_drew))); replace m1 := cell_past hb (by repeat (first | (with_reducible exact m1) | (with_reducible apply keep_alloc) | (with_reducible apply keep_drewN) | (with_reducible apply keep_drew))); replace m2 := cell_past hb (by repeat (first | (with_reducible exact m2) | (with_reducible apply keep_alloc) | (with_reducible apply keep_drewN) | (with_reducible apply keep_drew))); replace m3 := cell_past hb (by repeat (first | (with_reducible exact m3) | (with_reducible apply keep_alloc) | (with_reducible apply keep_drewN) | (with_reducible apply keep_drew))); replace m4 := cell_past hb (by repeat (first | (with_reducible exact m4) | (with_reducible apply keep_alloc) | (with_reducible apply keep_drewN) | (with_reducible apply keep_drew))); clear hb)
          | (go_at_call 22; refine (HRS.out aoT capT bT oT _ (HT.out.below (by repeat (first | (with_reducible exact bz _) | (with_reducible apply ba) | (with_reducible apply Below.drew) | (with_reducible exact below_dd _ _ _) | (with_reducible apply below_drewN))))).mono ?_; rintro e wZ ⟨aoR, capR, bR, oR, nR, hnR, rfl, hsR, hb, hwR⟩; subst hnR; have HR := Lib.hid hsR; have hx2 : wX.heap.size ≤ wZ.heap.size := (by have := hb.size; first | omega | (simp at this; omega)); have HB9 := Lib.hid (bt HB.out (bt (by repeat (first | (with_reducible exact bz _) | (with_reducible apply ba) | (with_reducible apply Below.drew) | (with_reducible exact below_dd _ _ _) | (with_reducible apply below_drewN))) hb)); clear hsR hwR; replace c0 := cell_past hb (by repeat (first | (with_reducible exact c0) | (with_reducible apply keep_alloc) | (with_reducible apply keep_drewN) | (with_reducible apply keep_drew))); replace c1 := cell_past hb (by repeat (first | (with_reducible exact c1) | (with_reducible apply keep_alloc) | (with_reducible apply keep_drewN) | (with_reducible apply keep_drew))); replace c2 := cell_past hb (by repeat (first | (with_reducible exact c2) | (with_reducible apply keep_alloc) | (with_reducible apply keep_drewN) | (with_reducible apply keep_drew))); replace c3 := cell_past hb (by repeat (first | (with_reducible exact c3) | (with_reducible apply keep_alloc) | (with_reducible apply keep_drewN) | (with_reducible apply keep_drew))); replace c4 := cell_past hb (by repeat (first | (with_reducible exact c4) | (with_reducible apply keep_alloc) | (with_reducible apply keep_drewN) | (with_reducible apply keep_drew))); replace c5 := cell_past hb (by repeat (first | (with_reducible exact c5) | (with_reducible apply keep_alloc) | (with_reducible apply keep_drewN) | (with_reducible apply keep_drew))); replace c6 := cell_past hb (by repeat (first | (with_reducible exact c6) | (with_reducible apply keep_alloc) | (with_reducible apply keep_drewN) | (with_reducible apply keep_drew))); replace c7 := cell_past hb (by repeat (first | (with_reducible exact c7) | (with_reducible apply keep_alloc) | (with_reducible apply keep_drewN) | (with_reducible apply keep_drew))); replace c8 := cell_past hb (by repeat (first | (with_reducible exact c8) | (with_reducible apply keep_alloc) | (with_reducible apply keep_drewN) | (with_reducible apply keep_drew))); replace m0 := cell_past hb (by repeat (first | (with_reducible exact m0) | (with_reducible apply keep_alloc) | (with_reducible apply keep_drewN) | (with_reducible apply keep_drew))); replace m1 := cell_past hb (by repeat (first | (with_reducible exact m1) | (with_reducible apply keep_alloc) | (with_reducible apply keep_drewN) | (with_reducible apply keep_drew))); replace m2 := cell_past hb (by repeat (first | (with_reducible exact m2) | (with_reducible apply keep_alloc) | (with_reducible apply keep_drewN) | (with_reducible apply keep_drew))); replace m3 := cell_past hb (by repeat (first | (with_reducible exact m3) | (with_reducible apply keep_alloc) | (with_reducible apply keep_drewN) | (with_reducible apply keep_drew))); replace m4 := cell_past hb (by repeat (first | (with_reducible exact m4) | (with_reducible apply keep_alloc) | (with_reducible apply keep_drewN) | (with_reducible apply keep_drew))); clear hb))
      all_goals (go_wp2_with fail; go_meet)
      all_goals refine ⟨aoR, capR, bR, oR, _, rfl, rfl, rfl, ?_, ?_, ?_, ?_⟩
      all_goals first
        | exact HR.out.below (ba (bz _) _)
        | exact slat_set2 HR.out _ hgR.out (kept_two _ _ _ _)
        | (simp [go_sem]; done)
        | (simp [go_sem, gz0, gz1]; done)
        | (have hbw := HB9.out; repeat (first | (with_reducible exact hbw) | (with_reducible refine bs ?_ (by first | (show Y3.heap.size ≤ Y3.heap.size; exact Nat.le_refl _) | (show Y3.heap.size ≤ wX.heap.size; exact hx1)) _) | (with_reducible refine ba ?_ _)))
    case rest =>
      obtain ⟨ao', cap', b', o', g, rfl, rfl, rfl, hsR, k0, k1, hbx⟩ := hcut
      have HW2 := Lib.hid (HW1.out.trans (hbx.mono HW1.out.size))
      have HR := Lib.hid hsR
      have KA := Lib.hid (K5'.out.below hbx)
      replace rr0 := cell_past hbx rr0
      replace rr1 := cell_past hbx rr1
      clear hsR hbx HW1 KS1 K5' c0 c1 c2 c3 c4 c5 c6 c7 c8 m0 m1 m2 m3 m4 HIT HRS hx0
      obtain ⟨c0, c1, c2, c3, c4, c5, c6, c7, c8, _, _, _, _, _, _, _, _, _⟩ := KA.out
      go_wp2_with fail
      refine (HAL.out _ _ _ _ _ HR.out).mono ?_
      rintro e w3 ⟨rfl, hb⟩
      replace HW2 := Lib.hid (HW2.out.trans (hb.mono HW2.out.size))
      replace rr0 := cell_past hb rr0
      replace rr1 := cell_past hb rr1
      replace k0 := cell_past hb k0
      replace k1 := cell_past hb k1
      replace KA := Lib.hid (KA.out.below hb)
      clear hb c0 c1 c2 c3 c4 c5 c6 c7 c8
      obtain ⟨c0, c1, c2, c3, c4, c5, c6, c7, c8, _, _, _, _, _, _, _, _, _⟩ := KA.out
      go_wp2_with fail
      refine (HCA.out _).mono ?_
      rintro e w4 ⟨rfl, hb⟩
      replace HW2 := Lib.hid (HW2.out.trans (hb.mono HW2.out.size))
      clear hb
      go_wp2_with fail
      refine (awake_any _).mono ?_
      rintro e w5 ⟨rfl, hb⟩
      replace HW2 := Lib.hid (HW2.out.trans (hb.mono HW2.out.size))
      clear hb
      go_wp2
      go_ret
      exact ⟨by simp, HW2.out⟩
end Go.Proofs.Ytoidbmgoofbcfaa
