/- QueueRuns: of any values and any operations, the state, the answers and the error behind Run are the document's. -/
import Derived.Test.YtfaoakahmllpjaaDoorSteps
namespace Go.Proofs.YtfaoakahmllpjaaDoor
open Go.RowKit Go.Um
set_option maxHeartbeats 1000000

theorem size31 : (Tryd.prog.info? 31).map (·.size) = some 2 := by kernel_rfl
theorem res_at {w : World} {l : List (Int × Int)} {ao : Option Addr} {n cap b o k : Nat} {x : Int × Int} (h : SlAt w 2 n (l.flatMap resC) ao cap b o) (hx : l[k]? = some x) :
    w.cell? ⟨b, o + k * 2, none⟩ = some (.int .u8 x.1) ∧ w.cell? ⟨b, o + k * 2 + 1, none⟩ = some (.int .u16 x.2) := by
  have g := fun j (hj : j < 2) u (hu : (resC x)[j]? = some u) => h.cell (k * 2 + j) u ((cell_of resC_two l k x hx j hj).trans hu)
  exact ⟨g 0 (by omega) _ rfl, g 1 (by omega) _ rfl⟩
theorem outN_len (s : List Int) (l : List Op5) (k : Nat) (hk : k ≤ l.length) : (outN s l k).length = k := by
  induction k with
  | zero => rfl
  | succ k ih => rw [outN_succ (List.getElem?_eq_getElem (by omega)), List.length_append, ih (by omega)]; rfl

theorem qruns_big (l : List Int) (v : Value) (ops : List Op5) (ao : Option Addr) (cap b o : Nat) (w : World) (hv : Lies w l v) (hbig : 200 < l.length ∨ 200 < ops.length) (hk : Kinds w) :
    Calls Tryd.prog 4 #[v, .slice ao ops.length cap] w fun e w' => e = .returned (.bool true) ∧ Below w.heap.size w w' := by
  obtain ⟨ao1, cap1, b1, o1, rfl, hs⟩ := hv
  clear hs
  by_cases h : 200 < l.length
  · have h2 : decide (200 < (l.length : Int)) = true := by simp; omega
    clear hbig
    go_enter Tryd.func4, Tryd.ntmps4
    go_wp2_with fail
    refine (works_any _ hk).mono ?_
    rintro e w1 ⟨rfl, hb1⟩
    go_wp2
    go_ret
    exact ⟨rfl, hb1⟩
  · have h2 : decide (200 < (l.length : Int)) = false := by simp; omega
    have h3 : decide (200 < (ops.length : Int)) = true := by simp; omega
    clear hbig
    go_enter Tryd.func4, Tryd.ntmps4
    go_wp2_with fail
    refine (works_any _ hk).mono ?_
    rintro e w1 ⟨rfl, hb1⟩
    go_wp2
    go_ret
    exact ⟨rfl, hb1⟩

theorem qruns_small (l : List Int) (v : Value) (ops : List Op5) (ao : Option Addr) (cap b o : Nat) (w : World) (hv : Lies w l v) (h : SlAt w 5 ops.length (ops.flatMap Op5.cells) ao cap b o) (hok : ∀ x ∈ ops, x.ok) (hl : l.length ≤ 200) (ho : ops.length ≤ 200) (hk : Kinds w) :
    Calls Tryd.prog 4 #[v, .slice ao ops.length cap] w fun e w' => e = .returned (.bool true) ∧ Below w.heap.size w w' := by
  have HV := Lib.hid hv
  obtain ⟨ao1, cap1, b1, o1, rfl, hs⟩ := hv
  have h2 : decide (200 < (l.length : Int)) = false := by simp; omega
  have h3 : decide (200 < (ops.length : Int)) = false := by simp; omega
  obtain ⟨q, hq⟩ : ∃ q, q = stN l ops (stopAt ops) := ⟨_, rfl⟩
  obtain ⟨er, her⟩ : ∃ er, er = errAt ops := ⟨_, rfl⟩
  have hql : q.length ≤ 100000 := by have := stN_len l ops (stopAt ops); have := stopAt_le ops; rw [hq]; omega
  obtain ⟨out, hout⟩ : ∃ out, out = outN l ops (stopAt ops) := ⟨_, rfl⟩
  have hol : stopAt ops = out.length := by rw [hout, outN_len _ _ _ (stopAt_le ops)]
  have hol2 : out.length ≤ 200 := by have := stopAt_le ops; omega
  have hp := fun S v' W (h1 : Far S W l v') hb hk => prun_any S l v' ops ao cap b o W h1 (h.below hb) hok ho hl hk
  have hr := fun S v' W (h1 : Far S W l v') hb => rrun_any S l v' ops ao cap b o W h1 (h.below hb) hok ho hl
  unfold RunPost at hp
  unfold RRunPost at hr
  rw [← hq, ← her, ← hout, hol] at hp hr
  have hneq := neq31
  have HP := Lib.hid hp
  clear hp
  have HR := Lib.hid hr
  clear hr
  have Hk := Lib.hid hk
  clear hk
  have Hql := Lib.hid hql
  clear hql
  have Hl := Lib.hid hl
  clear hl
  clear hs hq her hout hol h hok ho
  go_enter Tryd.func4, Tryd.ntmps4
  go_wp2_with fail
  refine (qof_any l _ _ HV.out (by have := Hl.out; omega)).mono ?_
  rintro e w1 ⟨s, rfl, hown1, hb1⟩
  have Hs1 := Lib.hid (Far.of_lies (Lies.own hown1))
  obtain ⟨ao2, cap2, b2, o2, rfl, _, _⟩ := SlAt.owned hown1
  have HB1 := Lib.hid hb1
  clear hb1
  clear hown1
  go_wp2_with fail
  refine (HP.out _ _ _ Hs1.out HB1.out (Hk.out.below HB1.out)).mono ?_
  rintro e w2 ⟨s2, r2, rfl, hf2, hown2, hb2⟩
  have hB2 := bt HB1.out hb2
  have Hf2 := Lib.hid hf2.lies
  obtain ⟨ao3, cap3, b3, o3, rfl, _, _⟩ := hf2
  obtain ⟨ao4, cap4, b4, o4, rfl, hs4, _⟩ := SlAt.owned hown2
  have HB2 := Lib.hid hB2
  clear hB2
  have Hs4 := Lib.hid hs4
  clear hs4
  clear hown2 hb2
  go_wp2_with fail
  refine (HR.out _ _ _ (Far.of_lies ((HV.out.below HB2.out).below (ba (bz w2) _))) (ba HB2.out _)).mono ?_
  rintro e w3 ⟨s3, r3, rfl, hf3, hown3, hb3⟩
  have c5 := kc hb3 w2.heap.size 0 (.slice ao3 q.length cap3) (by simp [go_sem])
  have hb3' := bt (ba (bz w2) _) hb3
  have hB3 := bt HB2.out hb3'
  obtain ⟨ao5, cap5, b5, o5, rfl, hs5, _⟩ := hf3
  obtain ⟨ao6, cap6, b6, o6, rfl, hs6, _⟩ := SlAt.owned hown3
  have Hf3 := Lib.hid (Hf2.out.below hb3')
  have Hs43 := Lib.hid (Hs4.out.below hb3')
  have HB3 := Lib.hid hB3
  clear hB3
  have Hs5 := Lib.hid hs5
  clear hs5
  have Hs6 := Lib.hid hs6
  clear hs6
  clear hown3 hb3 hb3'
  go_wp2_with fail
  refine (values_any q _ _ Hf3.out Hql.out).mono ?_
  rintro e w4 ⟨v4, rfl, hown4, hb4⟩
  obtain ⟨ao7, cap7, b7, o7, rfl, hs7, _⟩ := SlAt.owned hown4
  have HB4 := Lib.hid hb4
  clear hb4
  have Hs7 := Lib.hid hs7
  clear hs7
  clear hown4 c5
  go_wp2_with fail
  refine (rsame_any q q _ _ _ _ _ _ _ _ _ Hs7.out (Hs5.out.below HB4.out) Hql.out).mono ?_
  rintro e w5 ⟨rfl, hb5⟩
  rw [decide_eq_true (rfl : q = q)]
  have hB5 := bt HB4.out hb5
  have h45 := Hs43.out.below hB5
  have h65 := Hs6.out.below hB5
  have hidx := h45.idx (P := Tryd.prog) (t := 42) Tryd.underlying42 size31 (by decide)
  have hidx' := h65.idx (P := Tryd.prog) (t := 42) Tryd.underlying42 size31 (by decide)
  have HB5 := Lib.hid hB5
  clear hB5
  have H45 := Lib.hid h45
  clear h45
  have H65 := Lib.hid h65
  clear h65
  clear hb5
  go_wp2_with fail
  go_loopw [11] (fun t11 wr => ∃ k : Nat, k ≤ out.length ∧ t11 = .int .i64 k ∧ Below w5.heap.size w5 wr) (fun t11 _ => out.length - (intOf t11).toNat)
  case atStart => exact ⟨0, Nat.zero_le _, rfl, bz _⟩
  case round =>
    obtain ⟨k, hk, rfl, hbel⟩ := hrel
    by_cases hlt : k < out.length
    · obtain ⟨x, hx⟩ : ∃ x, out[k]? = some x := ⟨_, List.getElem?_eq_getElem hlt⟩
      obtain ⟨g0, g1⟩ := res_at (H45.out.below hbel) hx
      obtain ⟨k0, k1⟩ := res_at (H65.out.below hbel) hx
      have bb1 : (0 : Int) ≤ (k : Int) := by omega
      have bb2 : (k : Int) < (out.length : Int) := by omega
      clear hx
      go_wp2_with fail
      go_quiet (fail)
      go_wp2_with fail
      go_roundw
      case rel => exact ⟨k + 1, by omega, by go_num, below_drewN hbel _⟩
      case measure => simp [intOf]; omega
    · have hk' : out.length = k := by omega
      have HK' := Lib.hid hk'
      have HBE := Lib.hid hbel
      clear hbel
      clear hk'
      go_wp2_with fail
      refine (works_any _ (Hk.out.below (bt (bt HB3.out HB5.out) HBE.out))).mono ?_
      rintro e w6 ⟨rfl, hb6⟩
      go_wp2
      go_ret
      exact ⟨rfl, bt (bt (bt HB3.out HB5.out) HBE.out) hb6⟩

theorem qruns_any (l : List Int) (v : Value) (ops : List Op5) (ao : Option Addr) (cap b o : Nat) (w : World) (hv : Lies w l v) (h : SlAt w 5 ops.length (ops.flatMap Op5.cells) ao cap b o) (hok : ∀ x ∈ ops, x.ok) (hk : Kinds w) :
    Calls Tryd.prog 4 #[v, .slice ao ops.length cap] w fun e w' => e = .returned (.bool true) ∧ Below w.heap.size w w' := by
  by_cases hl : l.length ≤ 200
  · by_cases ho : ops.length ≤ 200
    · exact qruns_small l v ops ao cap b o w hv h hok hl ho hk
    · exact qruns_big l v ops ao cap b o w hv (.inr (by omega)) hk
  · exact qruns_big l v ops ao cap b o w hv (.inl (by omega)) hk
end Go.Proofs.YtfaoakahmllpjaaDoor
