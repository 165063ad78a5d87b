/- TablePlays: the walk. Printed by gen_tpc.py. -/
import Derived.Test.YtjmanajbdkbkdaaTpb
import Derived.Test.YtjmanajbdkbkdaaTi
import Derived.Deep.RegionHeld3
import Derived.Deep.Cut
import Derived.Deep.DeepCutAuto
import Derived.Deep.CutRange
namespace Go.Proofs.Ytjmanajbdkbkdaa
open Go.RowKit Go.Um
set_option linter.unusedSimpArgs false
set_option linter.unusedVariables false
set_option maxHeartbeats 40000000
set_option maxRecDepth 100000
theorem PT.bel {base : Nat} {w W : World} {p q : Nat} {v u : Value} {L M : List Rw} {nx mx : Int} {X : Nat → Prop} (h : PT base w p q v u L nx M mx X) (hK : Kept (OwnB p q v u) w W) : Below base w W :=
  hK.below (fun k hk _ ho => by have := h.ge ho; omega) h.wb
/-- the state at a round's head -/
structure PJ (w wr : World) (p q i : Nat) (L : List Rw) (nx : Int) : Prop where
  pt : ∃ v u, PT w.heap.size wr p q v u L nx L nx (fun _ => False)
  bel : Below w.heap.size w wr
  len : L.length ≤ i
  now : 0 ≤ nx
/-- the state behind the copy, or where none was asked for -/
structure PC (w wr : World) (p q pc : Nat) (x : Ac) (L : List Rw) (nx : Int) : Prop where
  pt : ∃ v u, PT w.heap.size wr p q v u L nx L nx (fun b => b = pc)
  act : ActC wr pc 0 x
  bel : Below w.heap.size w wr
/-- beside the copies an old table plays on -/
structure PO (w wr : World) (p q pc : Nat) (x : Ac) (L : List Rw) (nx : Int) (v u : Value) (p0 : Nat) (v0 : Value) (L0 : List Rw) (nx0 : Int) : Prop where
  pt : PT w.heap.size wr p q v u L nx L nx (fun b => b = pc ∨ Own p0 v0 b)
  act : ActC wr pc 0 x
  bel : Below w.heap.size w wr
  old : TabAt w.heap.size wr p0 v0 L0 nx0
  ob : w.heap.size ≤ p0
  npc : ¬ Own p0 v0 pc
theorem PO.step {w wr w' : World} {p q pc : Nat} {x : Ac} {L : List Rw} {nx : Int} {v u : Value} {p0 : Nat} {v0 : Value} {L0 L0' : List Rw} {nx0 nx0' E : Int} {e : Ending} (h : PO w wr p q pc x L nx v u p0 v0 L0 nx0) (ht : TPost w.heap.size p0 v0 E L0' nx0' wr e w') :
    e = .returned (.int .i64 E) ∧ ∃ v0', PO w w' p q pc x L nx v u p0 v0' L0' nx0' := by
  obtain ⟨rfl, v', hT', hK, hF⟩ := ht
  have hf := hF.fr
  have hpt := h.pt
  have hpc : pc < wr.heap.size := hpt.xl pc (.inl rfl)
  refine ⟨rfl, v', ⟨hpt.t.kept hK (fun b hb ho => (hpt.xa b (.inr ho)).1 hb), hpt.r.kept hK (fun b hb ho => (hpt.xa b (.inr ho)).2 hb), hpt.ap, ?_, ?_, hpt.pb, hpt.qb, Nat.le_trans hpt.wb hK.size⟩, h.act.kept hK h.npc, ?_, hT', h.ob, ?_⟩
  · rintro b (rfl | hb)
    · exact hpt.xa b (.inl rfl)
    · rcases hf.own hb with ho | ho
      · exact hpt.xa b (.inr ho)
      · exact ⟨fun hh => by have := hpt.lt (.inl hh); omega, fun hh => by have := hpt.lt (.inr hh); omega⟩
  · rintro b (rfl | hb)
    · exact Nat.lt_of_lt_of_le hpc hK.size
    · exact hT'.own_lt hb
  · exact h.bel.trans (hK.below (fun k hk _ ho => by have := own_of (w' := wr) h.old h.ob ho; omega) hpt.wb)
  · intro hb
    rcases hf.own hb with ho | ho
    · exact h.npc ho
    · omega
/-- the copies were laid -/
theorem PO.begin {w wc w2 w3 : World} {p q p1 q1 pc : Nat} {x : Ac} {L : List Rw} {nx : Int} {v u v1 u1 : Value} (hP : PT w.heap.size wc p q v u L nx L nx (fun b => b = pc)) (ha : ActC wc pc 0 x) (hb : Below w.heap.size w wc) (hb2 : Below wc.heap.size wc w2) (hb3 : Below w2.heap.size w2 w3)
    (h1 : wc.heap.size ≤ p1) (hT : TabAt wc.heap.size w2 p1 v1 L nx) (h2 : w2.heap.size ≤ q1) (hR : RTab w2.heap.size w3 q1 u1 L nx) : PO w w3 p1 q1 pc x L nx v1 u1 p v L nx := by
  have z1 := hb.size
  have z2 := hb2.size
  have z3 := hb3.size
  have hT3 := (hT.below hb3).base (base' := w.heap.size) hP.wb
  have hR3 := hR.base (base' := w.heap.size) (Nat.le_trans hP.wb z2)
  have hge : ∀ b, Own p1 v1 b → wc.heap.size ≤ b ∧ b < w2.heap.size := by
    rintro b ho
    refine ⟨?_, hT.own_lt ho⟩
    rcases ho with rfl | ho
    · exact h1
    · exact (own_lt hT.own ho).1
  have hge2 : ∀ b, Own q1 u1 b → w2.heap.size ≤ b := by
    rintro b (rfl | ho)
    · exact h2
    · exact (own_lt hR.own ho).1
  have hpc : pc < wc.heap.size := hP.xl pc rfl
  have hb23 := bt hb2 hb3
  refine ⟨⟨hT3, hR3, fun b ho hu => ?_, ?_, ?_, by have := hP.wb; omega, by have := hP.wb; omega, by have := hP.wb; omega⟩, ha.below hb23, hb.trans (hb23.mono hP.wb), hP.t.below hb23, hP.pb, fun ho => (hP.xa pc rfl).1 ho⟩
  · have := hge b ho; have := hge2 b hu; omega
  · rintro b (rfl | ho)
    · exact ⟨fun hh => by have := hge b hh; omega, fun hh => by have := hge2 b hh; omega⟩
    · have hl := hP.t.own_lt ho
      exact ⟨fun hh => by have := hge b hh; omega, fun hh => by have := hge2 b hh; omega⟩
  · rintro b (rfl | ho)
    · omega
    · have hl := hP.t.own_lt ho
      omega
theorem PO.pc {w wr : World} {p q pc : Nat} {x : Ac} {L : List Rw} {nx : Int} {v u : Value} {p0 : Nat} {v0 : Value} {L0 : List Rw} {nx0 : Int} (h : PO w wr p q pc x L nx v u p0 v0 L0 nx0) : PC w wr p q pc x L nx :=
  ⟨⟨v, u, h.pt.less (fun b hb => .inl hb)⟩, h.act, h.bel⟩
theorem filt_len (L : List Rw) (f : Rw → Bool) {n : Nat} (h : L.length ≤ n) : (L.filter f).length ≤ n := Nat.le_trans (List.length_filter_le _ _) h
theorem rrow_new (w : World) (x : Rw) : RowC (w.alloc (.cells #[.int .u8 x.cl, .int .u16 x.id, .int .u8 x.f, .int .u8 x.ob, .int .u8 x.ke, .int .u16 x.a, .int .u16 x.b, .int .u8 x.k, .int .u16 x.v, .int .u8 x.st, .int .i64 x.fr, .int .i64 x.to] 54)) w.heap.size 0 x := rrowc_new w x
theorem plays_any (l : List Ac) (ao : Option Addr) (cap b o : Nat) (w : World) (h : SlAt w 11 l.length (l.flatMap Ac.cells) ao cap b o) (hok : ∀ x ∈ l, x.ok) :
    Calls Try.prog 5 #[.slice ao l.length cap] w fun e w' => e = .returned (.bool true) ∧ Below w.heap.size w w' := by
  have hidx := h.idx (P := Try.prog) (t := 22) Try.underlying22 size33 (by decide)
  have HA := Lib.hid h
  have HOK := Lib.hid hok
  obtain ⟨n, hn⟩ : ∃ n, n = l.length := ⟨_, rfl⟩
  have HN := Lib.hid hn
  rw [← hn] at hidx ⊢
  have hmax : n ≤ maxLen := by rw [hn]; exact Nat.le_trans h.le h.max
  unfold maxLen at hmax
  clear h hok hn
  by_cases hbig : 60 < n
  · have d1 : decide ((60 : Int) < (n : Int)) = true := by simp; omega
    go_enter Try.func5, Try.ntmps5
    go_wp2_with fail
    refine (works_any _).mono ?_
    rintro e w4 ⟨rfl, hb4⟩
    go_wp2
    go_ret
    exact ⟨rfl, hb4⟩
  have d1 : decide ((60 : Int) < (n : Int)) = false := by simp; omega
  have hn60 : n ≤ 60 := by omega
  clear hbig
  go_enter Try.func5, Try.ntmps5
  go_wp2_with fail
  refine (new_any w.heap.size w (Nat.le_refl _)).mono ?_
  rintro e w1 ⟨rfl, hT, hb1, hz1⟩
  obtain ⟨p, hp⟩ : ∃ p, p = w.heap.size := ⟨_, rfl⟩
  have HT1 := Lib.hid (show TabAt w.heap.size w1 p (.slice none 0 0) [] 0 by rw [hp]; exact hT)
  rw [← hp]
  have HB1 := Lib.hid hb1
  have HP := Lib.hid hp
  have HZ1 := Lib.hid hz1
  clear hT hb1 hp hz1
  go_wp2_with fail
  refine (rnew_any w.heap.size w1 HB1.out.size).mono ?_
  rintro e w2 ⟨rfl, hR, hb2⟩
  obtain ⟨q, hq⟩ : ∃ q, q = w1.heap.size := ⟨_, rfl⟩
  have HR1 := Lib.hid (show RTab w.heap.size w2 q (.slice none 0 0) [] 0 by rw [hq]; exact hR)
  rw [← hq]
  have HJ : Hid (PJ w w2 p q 0 [] 0) := by
    have hT := HT1.out
    have hP := HP.out
    have hz := HZ1.out
    have hR := HR1.out
    refine Lib.hid ⟨⟨_, _, hT.below hb2, hR, ?_, fun b hb => hb.elim, fun b hb => hb.elim, by omega, by omega, by have := hb2.size; omega⟩, bt HB1.out hb2, Nat.le_refl _, Int.le_refl _⟩
    rintro b (rfl | hb) (hu | hu)
    · omega
    · simp [Value.ownBlock] at hu
    · simp [Value.ownBlock] at hb
    · simp [Value.ownBlock] at hb
  clear hR hb2 hq HR1 HT1 HB1 HP HZ1
  go_wp2_with fail
  go_loopw [3, 4, 5] (fun t3 t4 t5 wr => ∃ (i p q : Nat) (L : List Rw) (nx : Int), i ≤ n ∧ t5 = .int .i64 i ∧ t3 = .pointer (some ⟨p, 0, none⟩) ∧ t4 = .pointer (some ⟨q, 0, none⟩) ∧ Hid (PJ w wr p q i L nx)) (fun _ _ t5 _ => n - (intOf t5).toNat)
  case atStart => exact ⟨0, p, q, [], 0, Nat.zero_le _, rfl, rfl, rfl, HJ⟩
  case round =>
    clear HJ
    obtain ⟨i, p, q, L, nx, hi, rfl, rfl, rfl, HI⟩ := hrel
    by_cases hlt : i < n
    · have i1 : (0 : Int) ≤ (i : Int) := by omega
      have i2 : (i : Int) < (n : Int) := by omega
      have i3 : decide ((i : Int) < (n : Int)) = true := decide_eq_true i2
      obtain ⟨x, hx⟩ : ∃ x, l[i]? = some x := ⟨_, List.getElem?_eq_getElem (by rw [← HN.out]; exact hlt)⟩
      have hxo := HOK.out x (List.mem_of_getElem? hx)
      obtain ⟨g0, g1, g2, g3, g4, g5, g6, g7, g8, g9, g10⟩ := act_at (HA.out.below HI.out.bel) hx
      have hw8 := hxo.wh
      unfold in8 at hw8
      have HW8 := Lib.hid hw8
      obtain ⟨m9, hm9⟩ : ∃ m, m = x.wh.tmod 9 := ⟨_, rfl⟩
      have hm0 : 0 ≤ m9 ∧ m9 < 9 := by rw [hm9, Int.tmod_eq_emod_of_nonneg hw8.1]; omega
      have hm9' : x.wh.tmod 9 = m9 := hm9.symm
      have hwm : IntKind.u8.wrap m9 = m9 := by simp only [IntKind.wrap, IntKind.signed, IntKind.bits, Bool.false_and, Bool.false_eq_true, if_false]; omega
      have hlen : L.length ≤ 1000 := by have := HI.out.len; omega
      clear hx hxo hm9 hlt hw8
      obtain ⟨wo, hwo⟩ : ∃ x, x = wr := ⟨_, rfl⟩
      subst hwo
      obtain ⟨pc, hpc⟩ : ∃ p, p = wo.heap.size := ⟨_, rfl⟩
      have HPC := Lib.hid hpc
      obtain ⟨wa, hwc⟩ : ∃ wa, wa = wo.alloc (.cells #[.int .u8 x.wh, .int .u8 x.cl, .int .u16 x.id, .int .u8 x.f, .int .u8 x.ob, .int .u8 x.ke, .int .u16 x.a, .int .u16 x.b, .int .u8 x.k, .int .u16 x.v, .int .i64 x.t] 33) := ⟨_, rfl⟩
      have HWC := Lib.hid hwc
      have hbc : Below wo.heap.size wo wa := by rw [hwc]; exact ba (bz wo) _
      have HC0 : Hid (PC w wa p q pc x L nx) := by
        obtain ⟨v, u, hT⟩ := HI.out.pt
        exact Lib.hid ⟨⟨v, u, (hT.more (pc := pc) hbc (by omega) (by rw [hwc, hpc]; simp)).less (fun b hb => .inr hb)⟩, by rw [hwc]; exact ActC.new wo pc x hpc, HI.out.bel.trans (hbc.mono HI.out.bel.size)⟩
      have HNX := Lib.hid HI.out.now
      have HLE := Lib.hid HI.out.len
      clear hpc hwc hbc HI
      go_upto_if 35 with fail
      rw [← HWC.out, ← HPC.out]
      clear g0 g1 g2 g3 g4 g5 g6 g7 g8 g9 g10
      go_cut [3, 4] (fun t3 t4 wx => ∃ (p' q' : Nat), t3 = .pointer (some ⟨p', 0, none⟩) ∧ t4 = .pointer (some ⟨q', 0, none⟩) ∧ Hid (PC w wx p' q' pc x L nx))
      case first =>
        by_cases h8 : m9 = 8
        · have s8 : (m9 == 8) = true := by simpa using h8
          obtain ⟨v, u, hT⟩ := HC0.out.pt
          have HTT := Lib.hid hT
          clear hT
          go_wp2_with fail
          refine (copy_any HTT.out.t hlen).mono ?_
          rintro e w2 ⟨p1, v1, rfl, hp1, hT1, hb2⟩
          have H1 := Lib.hid hp1
          have H2 := Lib.hid hT1
          have H3 := Lib.hid hb2
          clear hp1 hT1 hb2
          go_wp2_with fail
          refine (rcopy_any (HTT.out.r.below H3.out) hlen).mono ?_
          rintro e w3 ⟨q1, u1, rfl, hq1, hR1, hb3⟩
          have HPO := Lib.hid (PO.begin HTT.out HC0.out.act HC0.out.bel H3.out hb3 H1.out H2.out hq1 hR1)
          clear hq1 hR1 hb3 H1 H2 H3 HTT HC0
          go_wp2_with fail
          refine (settle_any HPO.out.old hlen).mono ?_
          intro e w4 ht
          obtain ⟨E4, hE4⟩ : ∃ E4 : Int, E4 = (L.length : Int) - (L.filter (fun x => !(x.st == 1))).length := ⟨_, rfl⟩
          rw [← hE4] at ht
          clear hE4
          obtain ⟨rfl, v4, hPO⟩ := HPO.out.step ht.tpost
          have HL4 := Lib.hid (filt_len L (fun x => !(x.st == 1)) hlen)
          obtain ⟨L4, hL4⟩ : ∃ L4, L4 = L.filter (fun x => !(x.st == 1)) := ⟨_, rfl⟩
          rw [← hL4] at hPO HL4
          have HP4 := Lib.hid hPO
          clear hPO hL4 ht HPO
          obtain ⟨g0, g1, g2, g3, g4, g5, g6, g7, g8, g9, g10⟩ := HP4.out.act
          simp only [Nat.zero_add] at g0 g1 g2 g3 g4 g5 g6 g7 g8 g9 g10
          go_wp2_with fail
          refine (remove_any x.id HP4.out.old HL4.out).mono ?_
          intro e w5 ht
          obtain ⟨E5, hE5⟩ : ∃ E5 : Int, E5 = if (L4.filter (fun y => !(y.id == x.id))).length = L4.length then 7 else 0 := ⟨_, rfl⟩
          rw [← hE5] at ht
          clear hE5
          obtain ⟨rfl, v5, hPO⟩ := HP4.out.step ht.tpost
          have HL5 := Lib.hid (filt_len L4 (fun y => !(y.id == x.id)) HL4.out)
          obtain ⟨L5, hL5⟩ : ∃ L5, L5 = L4.filter (fun y => !(y.id == x.id)) := ⟨_, rfl⟩
          rw [← hL5] at hPO HL5
          have HP5 := Lib.hid hPO
          clear hPO hL5 ht HP4 g0 g1 g2 g3 g4 g5 g6 g7 g8 g9 g10
          obtain ⟨g0, g1, g2, g3, g4, g5, g6, g7, g8, g9, g10⟩ := HP5.out.act
          simp only [Nat.zero_add] at g0 g1 g2 g3 g4 g5 g6 g7 g8 g9 g10
          go_wp2_with fail
          refine (invoke_any 1 7777 x.f x.ob x.ke x.a x.b 1152921504606846976 HP5.out.old HL5.out HP5.out.pt.wb HNX.out).mono ?_
          intro e w6 ht
          obtain ⟨E6, hE6⟩ : ∃ E6 : Int, E6 = invE nx L5 7777 1152921504606846976 := ⟨_, rfl⟩
          rw [← hE6] at ht
          clear hE6
          obtain ⟨rfl, v6, hPO⟩ := HP5.out.step ht
          have HP6 := Lib.hid hPO.pc
          clear hPO ht HP5 g0 g1 g2 g3 g4 g5 g6 g7 g8 g9 g10
          go_wp2_with fail
          go_meet
          exact ⟨p1, q1, rfl, rfl, HP6⟩
        · have s8 : (m9 == 8) = false := by simpa using h8
          go_wp2_with fail
          go_meet
          exact ⟨p, q, rfl, rfl, HC0⟩
      case rest =>
        clear HC0
        obtain ⟨p2, q2, rfl, rfl, HPC2⟩ := hcut
        obtain ⟨v2, u2, hT⟩ := HPC2.out.pt
        have HO := Lib.hid (one_any x HW8.out hT HNX.out hlen)
        have HT0 := Lib.hid hT
        obtain ⟨g0, g1, g2, g3, g4, g5, g6, g7, g8, g9, g10⟩ := HPC2.out.act
        simp only [Nat.zero_add] at g0 g1 g2 g3 g4 g5 g6 g7 g8 g9 g10
        clear hT
        go_wp2_with fail
        refine HO.out.mono ?_
        intro e w2 ht
        obtain ⟨rfl, v3, u3, L2, nx2, hT2, hnx2, hlen2, hK2⟩ := ht
        have HT2 := Lib.hid hT2
        have HA2 := Lib.hid (HPC2.out.act.kept hK2 (fun ho => ho.elim (HT0.out.xa pc rfl).1 (HT0.out.xa pc rfl).2))
        have HB2 := Lib.hid (HPC2.out.bel.trans (HT0.out.bel hK2))
        have HNX2 := Lib.hid hnx2
        have HL2 := Lib.hid (show L2.length ≤ i + 1 by have := HLE.out; omega)
        have hl2 : L2.length ≤ 1000 := by have := HLE.out; omega
        clear hT2 hnx2 hlen2 hK2 HO g0 g1 g2 g3 g4 g5 g6 g7 g8 g9 g10 HPC2 HT0 hlen
        go_wp2_with fail
        refine (same_any HT2.out.t HT2.out.r hl2).mono ?_
        rintro e w3 ⟨rfl, hb3⟩
        have HT3 := Lib.hid (HT2.out.below hb3)
        have HA3 := Lib.hid (HA2.out.below hb3)
        have HB3 := Lib.hid (HB2.out.trans (hb3.mono HB2.out.size))
        clear hb3 HT2 HA2 HB2
        obtain ⟨g0, g1, g2, g3, g4, g5, g6, g7, g8, g9, g10⟩ := HA3.out
        simp only [Nat.zero_add] at g0 g1 g2 g3 g4 g5 g6 g7 g8 g9 g10
        obtain ⟨R0, hR0⟩ : ∃ R, R = findR L2 x.id := ⟨_, rfl⟩
        obtain ⟨th, hth⟩ : ∃ b, b = decide (0 ≤ ixF L2 x.id) := ⟨_, rfl⟩
        have hf := find_any x.id HT3.out.t hl2
        have hg := fun W (hb : Below w3.heap.size w3 W) => rfind_any x.id (HT3.out.r.below hb) hl2
        rw [← hR0, ← hth] at hf hg
        unfold Rw.val at hf hg
        have HF := Lib.hid hf
        have HG := Lib.hid hg
        clear hf hg hR0 hth
        go_wp2_with fail
        refine HF.out.mono ?_
        rintro e w4 ⟨rfl, hb4⟩
        obtain ⟨pw, hpw⟩ : ∃ p, p = w4.heap.size := ⟨_, rfl⟩
        have HPW := Lib.hid hpw
        obtain ⟨w5, hw5⟩ : ∃ w5, w5 = w4.alloc (.cells #[.int .u8 R0.cl, .int .u16 R0.id, .int .u8 R0.f, .int .u8 R0.ob, .int .u8 R0.ke, .int .u16 R0.a, .int .u16 R0.b, .int .u8 R0.k, .int .u16 R0.v, .int .u8 R0.st, .int .i64 R0.fr, .int .i64 R0.to] 41) := ⟨_, rfl⟩
        have HW5 := Lib.hid hw5
        have HR5 := Lib.hid (show RowC w5 pw 0 R0 by rw [hw5, hpw]; exact rowc_new w4 R0)
        have HA4 := Lib.hid (HA3.out.below hb4)
        have HB5 := Lib.hid (show Below w3.heap.size w3 w5 from bt hb4 (by rw [hw5]; exact ba (bz w4) _))
        clear hpw hw5 hb4 HF g0 g1 g2 g3 g4 g5 g6 g7 g8 g9 g10
        obtain ⟨g0, g1, g2, g3, g4, g5, g6, g7, g8, g9, g10⟩ := HA4.out
        simp only [Nat.zero_add] at g0 g1 g2 g3 g4 g5 g6 g7 g8 g9 g10
        have hpl4 : pc < w4.heap.size := World.block_lt_of_cell? _ _ g0
        have hpn4 : ¬ pc = w4.heap.size := by omega
        go_wp2_with fail
        rw [← HW5.out, ← HPW.out]
        refine (HG.out _ HB5.out).mono ?_
        rintro e w6 ⟨rfl, hb6⟩
        obtain ⟨qw, hqw⟩ : ∃ p, p = w6.heap.size := ⟨_, rfl⟩
        have HQW := Lib.hid hqw
        obtain ⟨wR, hwR⟩ : ∃ wR, wR = w6.alloc (.cells #[.int .u8 R0.cl, .int .u16 R0.id, .int .u8 R0.f, .int .u8 R0.ob, .int .u8 R0.ke, .int .u16 R0.a, .int .u16 R0.b, .int .u8 R0.k, .int .u16 R0.v, .int .u8 R0.st, .int .i64 R0.fr, .int .i64 R0.to] 54) := ⟨_, rfl⟩
        have HWR := Lib.hid hwR
        have hb7 : Below w5.heap.size w5 wR := bt hb6 (by rw [hwR]; exact ba (bz w6) _)
        have HRQ := Lib.hid (show RowC wR qw 0 R0 by rw [hwR, hqw]; exact rrow_new w6 R0)
        have HRP := Lib.hid (HR5.out.below hb7)
        have HB7 := Lib.hid (bt HB5.out hb7)
        have HA7 := Lib.hid (HA3.out.below HB7.out)
        have HT7 := Lib.hid (HT3.out.below HB7.out)
        clear hqw hwR hb6 hb7 g0 g1 g2 g3 g4 g5 g6 g7 g8 g9 g10 hpl4 hpn4 HG HA4 HR5 HB5
        have hc1 := fun W (hb : Below wR.heap.size wR W) => count_any x.wh (HT7.out.t.below hb) hl2
        have hc2 := fun W (hb : Below wR.heap.size wR W) => rcount_any x.wh (HT7.out.r.below hb) hl2
        have hc3 := fun W (hb : Below wR.heap.size wR W) => count_any 0 (HT7.out.t.below hb) hl2
        have hc4 := fun W (hb : Below wR.heap.size wR W) => rcount_any 0 (HT7.out.r.below hb) hl2
        obtain ⟨ca, hca⟩ : ∃ ca : Int, ca = (cntR L2 x.wh : Nat) := ⟨_, rfl⟩
        obtain ⟨cb, hcb⟩ : ∃ cb : Int, cb = (cntR L2 0 : Nat) := ⟨_, rfl⟩
        rw [← hca] at hc1 hc2
        rw [← hcb] at hc3 hc4
        have HC1 := Lib.hid hc1
        have HC2 := Lib.hid hc2
        have HC3 := Lib.hid hc3
        have HC4 := Lib.hid hc4
        have ea : (ca != ca) = false := by simp
        have eb : (cb != cb) = false := by simp
        have et : (th != th) = false := by simp
        have hne := fun W => ne54 R0 W
        unfold Rw.val at hne
        clear hc1 hc2 hc3 hc4 hca hcb
        go_upto_region 20 with fail
        rw [← HWR.out, ← HQW.out]
        obtain ⟨g0, _, _, _, _, _, _, _, _, _, _⟩ := HA7.out
        obtain ⟨k0, k1, k2, k3, k4, k5, k6, k7, k8, k9, k10, k11⟩ := HRP.out
        obtain ⟨y0, y1, y2, y3, y4, y5, y6, y7, y8, y9, y10, y11⟩ := HRQ.out
        simp only [Nat.zero_add] at g0 k0 k1 k2 k3 k4 k5 k6 k7 k8 k9 k10 k11 y0 y1 y2 y3 y4 y5 y6 y7 y8 y9 y10 y11
        have tok1 := True.intro
        have tok2 := True.intro
        have tok3 := True.intro
        go_cut [101] (fun t101 wx => t101 = .bool false ∧ Hid (Below wR.heap.size wR wx))
        case first =>
          go_region_held3 (fun W => W.cell? ⟨pc, 0, none⟩ = some (.int .u8 x.wh) ∧ W.cell? ⟨pw, 0, none⟩ = some (.int .u8 R0.cl) ∧ W.cell? ⟨pw, 1, none⟩ = some (.int .u16 R0.id) ∧ W.cell? ⟨pw, 2, none⟩ = some (.int .u8 R0.f) ∧ W.cell? ⟨pw, 3, none⟩ = some (.int .u8 R0.ob) ∧ W.cell? ⟨pw, 4, none⟩ = some (.int .u8 R0.ke) ∧ W.cell? ⟨pw, 5, none⟩ = some (.int .u16 R0.a) ∧ W.cell? ⟨pw, 6, none⟩ = some (.int .u16 R0.b) ∧ W.cell? ⟨pw, 7, none⟩ = some (.int .u8 R0.k) ∧ W.cell? ⟨pw, 8, none⟩ = some (.int .u16 R0.v) ∧ W.cell? ⟨pw, 9, none⟩ = some (.int .u8 R0.st) ∧ W.cell? ⟨pw, 10, none⟩ = some (.int .i64 R0.fr) ∧ W.cell? ⟨pw, 11, none⟩ = some (.int .i64 R0.to) ∧ W.cell? ⟨qw, 0, none⟩ = some (.int .u8 R0.cl) ∧ W.cell? ⟨qw, 1, none⟩ = some (.int .u16 R0.id) ∧ W.cell? ⟨qw, 2, none⟩ = some (.int .u8 R0.f) ∧ W.cell? ⟨qw, 3, none⟩ = some (.int .u8 R0.ob) ∧ W.cell? ⟨qw, 4, none⟩ = some (.int .u8 R0.ke) ∧ W.cell? ⟨qw, 5, none⟩ = some (.int .u16 R0.a) ∧ W.cell? ⟨qw, 6, none⟩ = some (.int .u16 R0.b) ∧ W.cell? ⟨qw, 7, none⟩ = some (.int .u8 R0.k) ∧ W.cell? ⟨qw, 8, none⟩ = some (.int .u16 R0.v) ∧ W.cell? ⟨qw, 9, none⟩ = some (.int .u8 R0.st) ∧ W.cell? ⟨qw, 10, none⟩ = some (.int .i64 R0.fr) ∧ W.cell? ⟨qw, 11, none⟩ = some (.int .i64 R0.to)) (exact ⟨g0, k0, k1, k2, k3, k4, k5, k6, k7, k8, k9, k10, k11, y0, y1, y2, y3, y4, y5, y6, y7, y8, y9, y10, y11⟩) (first
          | (go_at_call 15; have _t := tok1; refine (HC1.out _ (by repeat (first | (with_reducible exact bz _) | (with_reducible apply Below.drew)))).mono ?_; clear tok1; rintro e w7 ⟨rfl, hb7⟩; have HBa := Lib.hid (bt (show Below wR.heap.size wR _ by repeat (first | (with_reducible exact bz _) | (with_reducible apply Below.drew))) hb7); replace g0 := cell_past hb7 g0; replace k0 := cell_past hb7 k0; replace k1 := cell_past hb7 k1; replace k2 := cell_past hb7 k2; replace k3 := cell_past hb7 k3; replace k4 := cell_past hb7 k4; replace k5 := cell_past hb7 k5; replace k6 := cell_past hb7 k6; replace k7 := cell_past hb7 k7; replace k8 := cell_past hb7 k8; replace k9 := cell_past hb7 k9; replace k10 := cell_past hb7 k10; replace k11 := cell_past hb7 k11; replace y0 := cell_past hb7 y0; replace y1 := cell_past hb7 y1; replace y2 := cell_past hb7 y2; replace y3 := cell_past hb7 y3; replace y4 := cell_past hb7 y4; replace y5 := cell_past hb7 y5; replace y6 := cell_past hb7 y6; replace y7 := cell_past hb7 y7; replace y8 := cell_past hb7 y8; replace y9 := cell_past hb7 y9; replace y10 := cell_past hb7 y10; replace y11 := cell_past hb7 y11; clear hb7)
          | (go_at_call 24; have _t := tok2; refine (HC2.out _ HBa.out).mono ?_; clear tok2; rintro e w8 ⟨rfl, rfl⟩)
          | (go_at_call 15; have _t := tok3; refine (HC3.out _ HBa.out).mono ?_; clear tok3; rintro e w8 ⟨rfl, hb8⟩; have HB8 := Lib.hid (bt HBa.out hb8); replace g0 := cell_past hb8 g0; replace k0 := cell_past hb8 k0; replace k1 := cell_past hb8 k1; replace k2 := cell_past hb8 k2; replace k3 := cell_past hb8 k3; replace k4 := cell_past hb8 k4; replace k5 := cell_past hb8 k5; replace k6 := cell_past hb8 k6; replace k7 := cell_past hb8 k7; replace k8 := cell_past hb8 k8; replace k9 := cell_past hb8 k9; replace k10 := cell_past hb8 k10; replace k11 := cell_past hb8 k11; replace y0 := cell_past hb8 y0; replace y1 := cell_past hb8 y1; replace y2 := cell_past hb8 y2; replace y3 := cell_past hb8 y3; replace y4 := cell_past hb8 y4; replace y5 := cell_past hb8 y5; replace y6 := cell_past hb8 y6; replace y7 := cell_past hb8 y7; replace y8 := cell_past hb8 y8; replace y9 := cell_past hb8 y9; replace y10 := cell_past hb8 y10; replace y11 := cell_past hb8 y11; clear hb8)
          | (go_at_call 24; refine (HC4.out _ HB8.out).mono ?_; rintro e w9 ⟨rfl, rfl⟩))
          all_goals (go_wp2_with fail; go_meet)
          all_goals exact ⟨rfl, by first | exact HB8 | exact HB8.drew⟩
        case rest =>
          obtain ⟨rfl, HBF⟩ := hcut
          have HJ2 : Hid (PJ w wc p2 q2 (i + 1) L2 nx2) := Lib.hid ⟨⟨v3, u3, (HT7.out.below HBF.out).less (fun b h => h.elim)⟩, (HB3.out.trans (HB7.out.mono HB3.out.size)).trans (HBF.out.mono (Nat.le_trans HB3.out.size HB7.out.size)), HL2.out, HNX2.out⟩
          clear g0 k0 k1 k2 k3 k4 k5 k6 k7 k8 k9 k10 k11 y0 y1 y2 y3 y4 y5 y6 y7 y8 y9 y10 y11
          go_wp2_with fail
          go_roundw
          case rel => exact ⟨i + 1, p2, q2, L2, nx2, by omega, by go_num, rfl, rfl, HJ2⟩
          case measure => simp [intOf]; omega
    · have i2 : ¬ (i : Int) < (n : Int) := by omega
      have i3 : decide ((i : Int) < (n : Int)) = false := decide_eq_false i2
      obtain ⟨v, u, hT⟩ := HI.out.pt
      have hlen : L.length ≤ 1000 := by have := HI.out.len; omega
      have HT := Lib.hid hT
      have HBW := Lib.hid HI.out.bel
      have HRW := Lib.hid (rows_any hT.t hlen)
      clear hT HI i2 hi
      obtain ⟨w0, hw0⟩ : ∃ x, x = wr := ⟨_, rfl⟩
      subst hw0
      go_wp2_with fail
      refine HRW.out.mono ?_
      rintro e w1 ⟨v5, rfl, hown, hb1⟩
      obtain ⟨ao5, cap5, b5, o5, rfl, hs5, _⟩ := SlAt.owned hown
      have hidx5 := hs5.idx (P := Try.prog) (t := 38) (e := 41) (by kernel_rfl) size41 (by decide)
      have HOWN := Lib.hid hown
      have HB1 := Lib.hid hb1
      have HS5 := Lib.hid hs5
      obtain ⟨m, hm⟩ : ∃ m, m = L.length := ⟨_, rfl⟩
      rw [← hm] at hidx5 HOWN HS5 hlen ⊢
      have HM := Lib.hid hm
      clear hown hb1 hs5 hm HRW i3 hidx
      obtain ⟨ao6, cap6, b6, o6, rfl, hs6⟩ := HT.out.r.slat
      have HS6 := Lib.hid (hs6.below HB1.out)
      have hidx6 := hs6.idx (P := Try.prog) (t := 58) (e := 54) (by kernel_rfl) size54 (by decide)
      rw [← HM.out] at hidx6
      have c0 := cell_past HB1.out HT.out.r.c0
      rw [← HM.out] at c0
      clear hs6
      go_wp2_with fail
      go_loopw [13] (fun t13 wr => ∃ i : Nat, i ≤ m ∧ t13 = .int .i64 i ∧ Hid (Below w1.heap.size w1 wr)) (fun t13 _ => m - (intOf t13).toNat)
      case atStart => exact ⟨0, Nat.zero_le _, rfl, Lib.hid (bz _)⟩
      case round =>
        obtain ⟨i, hi, rfl, HB2⟩ := hrel
        have C0 := Lib.hid c0
        clear c0
        by_cases hlt : i < m
        · have i1 : (0 : Int) ≤ (i : Int) := by omega
          have i2 : (i : Int) < (m : Int) := by omega
          have i3 : decide ((i : Int) < (m : Int)) = true := decide_eq_true i2
          obtain ⟨x, hx⟩ : ∃ x, L[i]? = some x := ⟨_, List.getElem?_eq_getElem (by rw [← HM.out]; exact hlt)⟩
          have HX := Lib.hid hx
          clear hx
          go_wp2_with fail
          obtain ⟨wv, hwv⟩ : ∃ x, x = wr := ⟨_, rfl⟩
          subst hwv
          go_loopw [14] (fun t14 wr => ∃ k : Nat, k ≤ m ∧ t14 = .int .i64 k ∧ Hid (Below w1.heap.size w1 wr)) (fun t14 _ => m - (intOf t14).toNat)
          case atStart => exact ⟨0, Nat.zero_le _, rfl, HB2⟩
          case round =>
            obtain ⟨k, hk, rfl, HB3⟩ := hrel
            by_cases hkt : k < m
            · have k1' : (0 : Int) ≤ (k : Int) := by omega
              have k2' : (k : Int) < (m : Int) := by omega
              have k3' : decide ((k : Int) < (m : Int)) = true := decide_eq_true k2'
              obtain ⟨y, hy⟩ : ∃ y, L[k]? = some y := ⟨_, List.getElem?_eq_getElem (by rw [← HM.out]; exact hkt)⟩
              have c0 := cell_past HB3.out C0.out
              obtain ⟨g0, g1, g2, g3, g4, g5, g6, g7, g8, g9, g10, g11⟩ := row_at (HS5.out.below HB3.out) HX.out
              obtain ⟨h0, h1, h2, h3, h4, h5, h6, h7, h8, h9, h10, h11⟩ := row_at (HS5.out.below HB3.out) hy
              obtain ⟨k0, k1, k2, k3, k4, k5, k6, k7, k8, k9, k10, k11⟩ := row_at (HS6.out.below HB3.out) HX.out
              obtain ⟨y0, y1, y2, y3, y4, y5, y6, y7, y8, y9, y10, y11⟩ := row_at (HS6.out.below HB3.out) hy
              have hb1 := fun W => before_any x y W
              have hb2 := fun W => rbefore_any x y W
              obtain ⟨B, hB⟩ : ∃ B, B = bef x y := ⟨_, rfl⟩
              rw [← hB] at hb1 hb2
              unfold Rw.val at hb1 hb2
              have HC1 := Lib.hid hb1
              have HC2 := Lib.hid hb2
              have eB : (B != B) = false := by simp
              clear hb1 hb2 hB hy
              obtain ⟨wR, hwR⟩ : ∃ x, x = wr := ⟨_, rfl⟩
              subst hwR
              go_upto_region 29 with fail
              go_cut [140] (fun t140 wx => t140 = .bool false ∧ Hid (Below wR.heap.size wR wx))
              case first =>
                have HBa : Hid (Below wR.heap.size wR wR) := Lib.hid (bz wR)
                go_region_held3 (fun W => W.cell? ⟨q, 0, none⟩ = some (.slice ao6 m cap6) ∧ W.cell? ⟨b5, o5 + i * 12, none⟩ = some (.int .u8 x.cl) ∧ W.cell? ⟨b5, o5 + i * 12 + 1, none⟩ = some (.int .u16 x.id) ∧ W.cell? ⟨b5, o5 + i * 12 + 2, none⟩ = some (.int .u8 x.f) ∧ W.cell? ⟨b5, o5 + i * 12 + 3, none⟩ = some (.int .u8 x.ob) ∧ W.cell? ⟨b5, o5 + i * 12 + 4, none⟩ = some (.int .u8 x.ke) ∧ W.cell? ⟨b5, o5 + i * 12 + 5, none⟩ = some (.int .u16 x.a) ∧ W.cell? ⟨b5, o5 + i * 12 + 6, none⟩ = some (.int .u16 x.b) ∧ W.cell? ⟨b5, o5 + i * 12 + 7, none⟩ = some (.int .u8 x.k) ∧ W.cell? ⟨b5, o5 + i * 12 + 8, none⟩ = some (.int .u16 x.v) ∧ W.cell? ⟨b5, o5 + i * 12 + 9, none⟩ = some (.int .u8 x.st) ∧ W.cell? ⟨b5, o5 + i * 12 + 10, none⟩ = some (.int .i64 x.fr) ∧ W.cell? ⟨b5, o5 + i * 12 + 11, none⟩ = some (.int .i64 x.to) ∧ W.cell? ⟨b5, o5 + k * 12, none⟩ = some (.int .u8 y.cl) ∧ W.cell? ⟨b5, o5 + k * 12 + 1, none⟩ = some (.int .u16 y.id) ∧ W.cell? ⟨b5, o5 + k * 12 + 2, none⟩ = some (.int .u8 y.f) ∧ W.cell? ⟨b5, o5 + k * 12 + 3, none⟩ = some (.int .u8 y.ob) ∧ W.cell? ⟨b5, o5 + k * 12 + 4, none⟩ = some (.int .u8 y.ke) ∧ W.cell? ⟨b5, o5 + k * 12 + 5, none⟩ = some (.int .u16 y.a) ∧ W.cell? ⟨b5, o5 + k * 12 + 6, none⟩ = some (.int .u16 y.b) ∧ W.cell? ⟨b5, o5 + k * 12 + 7, none⟩ = some (.int .u8 y.k) ∧ W.cell? ⟨b5, o5 + k * 12 + 8, none⟩ = some (.int .u16 y.v) ∧ W.cell? ⟨b5, o5 + k * 12 + 9, none⟩ = some (.int .u8 y.st) ∧ W.cell? ⟨b5, o5 + k * 12 + 10, none⟩ = some (.int .i64 y.fr) ∧ W.cell? ⟨b5, o5 + k * 12 + 11, none⟩ = some (.int .i64 y.to) ∧ W.cell? ⟨b6, o6 + i * 12, none⟩ = some (.int .u8 x.cl) ∧ W.cell? ⟨b6, o6 + i * 12 + 1, none⟩ = some (.int .u16 x.id) ∧ W.cell? ⟨b6, o6 + i * 12 + 2, none⟩ = some (.int .u8 x.f) ∧ W.cell? ⟨b6, o6 + i * 12 + 3, none⟩ = some (.int .u8 x.ob) ∧ W.cell? ⟨b6, o6 + i * 12 + 4, none⟩ = some (.int .u8 x.ke) ∧ W.cell? ⟨b6, o6 + i * 12 + 5, none⟩ = some (.int .u16 x.a) ∧ W.cell? ⟨b6, o6 + i * 12 + 6, none⟩ = some (.int .u16 x.b) ∧ W.cell? ⟨b6, o6 + i * 12 + 7, none⟩ = some (.int .u8 x.k) ∧ W.cell? ⟨b6, o6 + i * 12 + 8, none⟩ = some (.int .u16 x.v) ∧ W.cell? ⟨b6, o6 + i * 12 + 9, none⟩ = some (.int .u8 x.st) ∧ W.cell? ⟨b6, o6 + i * 12 + 10, none⟩ = some (.int .i64 x.fr) ∧ W.cell? ⟨b6, o6 + i * 12 + 11, none⟩ = some (.int .i64 x.to) ∧ W.cell? ⟨b6, o6 + k * 12, none⟩ = some (.int .u8 y.cl) ∧ W.cell? ⟨b6, o6 + k * 12 + 1, none⟩ = some (.int .u16 y.id) ∧ W.cell? ⟨b6, o6 + k * 12 + 2, none⟩ = some (.int .u8 y.f) ∧ W.cell? ⟨b6, o6 + k * 12 + 3, none⟩ = some (.int .u8 y.ob) ∧ W.cell? ⟨b6, o6 + k * 12 + 4, none⟩ = some (.int .u8 y.ke) ∧ W.cell? ⟨b6, o6 + k * 12 + 5, none⟩ = some (.int .u16 y.a) ∧ W.cell? ⟨b6, o6 + k * 12 + 6, none⟩ = some (.int .u16 y.b) ∧ W.cell? ⟨b6, o6 + k * 12 + 7, none⟩ = some (.int .u8 y.k) ∧ W.cell? ⟨b6, o6 + k * 12 + 8, none⟩ = some (.int .u16 y.v) ∧ W.cell? ⟨b6, o6 + k * 12 + 9, none⟩ = some (.int .u8 y.st) ∧ W.cell? ⟨b6, o6 + k * 12 + 10, none⟩ = some (.int .i64 y.fr) ∧ W.cell? ⟨b6, o6 + k * 12 + 11, none⟩ = some (.int .i64 y.to)) (exact ⟨c0, g0, g1, g2, g3, g4, g5, g6, g7, g8, g9, g10, g11, h0, h1, h2, h3, h4, h5, h6, h7, h8, h9, h10, h11, k0, k1, k2, k3, k4, k5, k6, k7, k8, k9, k10, k11, y0, y1, y2, y3, y4, y5, y6, y7, y8, y9, y10, y11⟩) (first
                  | (go_at_call 13; refine (HC1.out _).mono ?_; rintro e w7 ⟨rfl, hb7⟩; have HBb := Lib.hid (bt (show Below wR.heap.size wR _ by repeat (first | (with_reducible exact bz _) | (with_reducible apply Below.drew))) hb7); replace c0 := cell_past hb7 c0; replace g0 := cell_past hb7 g0; replace g1 := cell_past hb7 g1; replace g2 := cell_past hb7 g2; replace g3 := cell_past hb7 g3; replace g4 := cell_past hb7 g4; replace g5 := cell_past hb7 g5; replace g6 := cell_past hb7 g6; replace g7 := cell_past hb7 g7; replace g8 := cell_past hb7 g8; replace g9 := cell_past hb7 g9; replace g10 := cell_past hb7 g10; replace g11 := cell_past hb7 g11; replace h0 := cell_past hb7 h0; replace h1 := cell_past hb7 h1; replace h2 := cell_past hb7 h2; replace h3 := cell_past hb7 h3; replace h4 := cell_past hb7 h4; replace h5 := cell_past hb7 h5; replace h6 := cell_past hb7 h6; replace h7 := cell_past hb7 h7; replace h8 := cell_past hb7 h8; replace h9 := cell_past hb7 h9; replace h10 := cell_past hb7 h10; replace h11 := cell_past hb7 h11; replace k0 := cell_past hb7 k0; replace k1 := cell_past hb7 k1; replace k2 := cell_past hb7 k2; replace k3 := cell_past hb7 k3; replace k4 := cell_past hb7 k4; replace k5 := cell_past hb7 k5; replace k6 := cell_past hb7 k6; replace k7 := cell_past hb7 k7; replace k8 := cell_past hb7 k8; replace k9 := cell_past hb7 k9; replace k10 := cell_past hb7 k10; replace k11 := cell_past hb7 k11; replace y0 := cell_past hb7 y0; replace y1 := cell_past hb7 y1; replace y2 := cell_past hb7 y2; replace y3 := cell_past hb7 y3; replace y4 := cell_past hb7 y4; replace y5 := cell_past hb7 y5; replace y6 := cell_past hb7 y6; replace y7 := cell_past hb7 y7; replace y8 := cell_past hb7 y8; replace y9 := cell_past hb7 y9; replace y10 := cell_past hb7 y10; replace y11 := cell_past hb7 y11; clear hb7)
                  | (go_at_call 25; refine (HC2.out _).mono ?_; rintro e w8 ⟨rfl, hb8⟩; replace HBb := Lib.hid (bt HBb.out hb8); replace c0 := cell_past hb8 c0; replace g0 := cell_past hb8 g0; replace g1 := cell_past hb8 g1; replace g2 := cell_past hb8 g2; replace g3 := cell_past hb8 g3; replace g4 := cell_past hb8 g4; replace g5 := cell_past hb8 g5; replace g6 := cell_past hb8 g6; replace g7 := cell_past hb8 g7; replace g8 := cell_past hb8 g8; replace g9 := cell_past hb8 g9; replace g10 := cell_past hb8 g10; replace g11 := cell_past hb8 g11; replace h0 := cell_past hb8 h0; replace h1 := cell_past hb8 h1; replace h2 := cell_past hb8 h2; replace h3 := cell_past hb8 h3; replace h4 := cell_past hb8 h4; replace h5 := cell_past hb8 h5; replace h6 := cell_past hb8 h6; replace h7 := cell_past hb8 h7; replace h8 := cell_past hb8 h8; replace h9 := cell_past hb8 h9; replace h10 := cell_past hb8 h10; replace h11 := cell_past hb8 h11; replace k0 := cell_past hb8 k0; replace k1 := cell_past hb8 k1; replace k2 := cell_past hb8 k2; replace k3 := cell_past hb8 k3; replace k4 := cell_past hb8 k4; replace k5 := cell_past hb8 k5; replace k6 := cell_past hb8 k6; replace k7 := cell_past hb8 k7; replace k8 := cell_past hb8 k8; replace k9 := cell_past hb8 k9; replace k10 := cell_past hb8 k10; replace k11 := cell_past hb8 k11; replace y0 := cell_past hb8 y0; replace y1 := cell_past hb8 y1; replace y2 := cell_past hb8 y2; replace y3 := cell_past hb8 y3; replace y4 := cell_past hb8 y4; replace y5 := cell_past hb8 y5; replace y6 := cell_past hb8 y6; replace y7 := cell_past hb8 y7; replace y8 := cell_past hb8 y8; replace y9 := cell_past hb8 y9; replace y10 := cell_past hb8 y10; replace y11 := cell_past hb8 y11; clear hb8))
                all_goals (go_wp2_with fail; go_meet)
                all_goals exact ⟨rfl, by first | exact HBb | exact HBb.drew⟩
              case rest =>
                obtain ⟨rfl, HBF⟩ := hcut
                clear c0 g0 g1 g2 g3 g4 g5 g6 g7 g8 g9 g10 g11 h0 h1 h2 h3 h4 h5 h6 h7 h8 h9 h10 h11 k0 k1 k2 k3 k4 k5 k6 k7 k8 k9 k10 k11 y0 y1 y2 y3 y4 y5 y6 y7 y8 y9 y10 y11
                go_wp2_with fail
                go_roundw
                case rel => exact ⟨k + 1, by omega, by go_num, Lib.hid (bt HB3.out HBF.out)⟩
                case measure => simp [intOf]; omega
            · have k2' : ¬ (k : Int) < (m : Int) := by omega
              have k3' : decide ((k : Int) < (m : Int)) = false := decide_eq_false k2'
              go_wp2_with fail
              go_roundw
              case rel => exact ⟨i + 1, by omega, by go_num, HB3⟩
              case measure => simp [intOf]; omega
        · have i2 : ¬ (i : Int) < (m : Int) := by omega
          have i3 : decide ((i : Int) < (m : Int)) = false := decide_eq_false i2
          go_wp2_with fail
          clear i2 i3
          go_loopw [15] (fun t15 wr => ∃ (k : Nat) (C : List Rw), k ≤ m ∧ t15 = .int .i64 k ∧ Hid (C.length = m) ∧ Hid (wr.ownsRow w0.heap.size 41 12 (.slice ao5 m cap5) m (C.flatMap Rw.cells)) ∧ Hid (Below w0.heap.size w0 wr)) (fun t15 _ => m - (intOf t15).toNat)
          case atStart => exact ⟨0, L, Nat.zero_le _, rfl, Lib.hid HM.out.symm, Lib.hid (own_past HOWN.out HB2.out), Lib.hid (bt HB1.out HB2.out)⟩
          case round =>
            obtain ⟨k, C, hk, rfl, HC, HO2, HB3⟩ := hrel
            by_cases hkt : k < m
            · have k1' : (0 : Int) ≤ (k : Int) := by omega
              have k2' : (k : Int) < (m : Int) := by omega
              have k3' : decide ((k : Int) < (m : Int)) = true := decide_eq_true k2'
              obtain ⟨g, ho⟩ : ∃ g, ao5 = some ⟨g, 0, none⟩ ∧ w0.heap.size ≤ g := by
                rcases HO2.out.2 with ⟨hv, h0⟩ | ⟨g, cap, cur, hv, hbg, hg, _⟩
                · omega
                · simp only [Value.slice.injEq] at hv
                  exact ⟨g, hv.1, hbg⟩
              obtain ⟨rfl, hgb⟩ := ho
              obtain ⟨y, hy⟩ : ∃ y, C[k]? = some y := ⟨_, List.getElem?_eq_getElem (by rw [HC.out]; exact hkt)⟩
              obtain ⟨ao7, cap7, b7, o7, hv7, hs7, _⟩ := SlAt.owned HO2.out
              simp only [Value.slice.injEq, true_and] at hv7
              obtain ⟨hv1, hv2⟩ := hv7
              subst hv1 hv2
              have hao := hs7.addr (by rw [rows_len, HC.out]; omega)
              simp only [Option.some.injEq, Addr.mk.injEq, and_true] at hao
              obtain ⟨rfl, rfl⟩ := hao
              have hao5 := HS5.out.addr (by rw [rows_len, ← HM.out]; omega)
              simp only [Option.some.injEq, Addr.mk.injEq, and_true] at hao5
              obtain ⟨rfl, rfl⟩ := hao5
              obtain ⟨g0, g1, g2, g3, g4, g5, g6, g7, g8, g9, g10, g11⟩ := row_at hs7 hy
              simp only [Nat.zero_add] at g0 g1 g2 g3 g4 g5 g6 g7 g8 g9 g10 g11
              have fz := HO2.out.frozenAt
              have fz0 := fz (k * 12)
              have fz1 := fz (k * 12 + 1)
              have fz2 := fz (k * 12 + 2)
              have fz3 := fz (k * 12 + 3)
              have fz4 := fz (k * 12 + 4)
              have fz5 := fz (k * 12 + 5)
              have fz6 := fz (k * 12 + 6)
              have fz7 := fz (k * 12 + 7)
              have fz8 := fz (k * 12 + 8)
              have fz9 := fz (k * 12 + 9)
              have fz10 := fz (k * 12 + 10)
              have fz11 := fz (k * 12 + 11)
              simp only [Nat.zero_add] at hidx5
              clear fz hs7 hy
              go_wp2_with fail
              go_roundw
              case rel =>
                have h9 := own_put (x := Rw.zero) HO2.out (by rw [HC.out]; exact hkt : k < C.length)
                exact ⟨k + 1, C.set k Rw.zero, by omega, by go_num, Lib.hid (by rw [List.length_set]; exact HC.out), Lib.hid h9.1, Lib.hid (HB3.out.grown h9.2 HB3.out.size (fun b e => by cases e; exact hgb))⟩
              case measure => simp [intOf]; omega
            · have k2' : ¬ (k : Int) < (m : Int) := by omega
              have k3' : decide ((k : Int) < (m : Int)) = false := decide_eq_false k2'
              have HT9 := Lib.hid (HT.out.below HB3.out)
              have hl9 : L.length ≤ 1000 := by rw [← HM.out]; exact hlen
              go_wp2_with fail
              refine (same_any HT9.out.t HT9.out.r hl9).mono ?_
              rintro e w8 ⟨rfl, hb8⟩
              have HB8 := Lib.hid (bt HB3.out hb8)
              clear hb8 HT9
              go_wp2_with fail
              refine (works_any _).mono ?_
              rintro e w9 ⟨rfl, hb9⟩
              go_wp2
              go_ret
              exact ⟨rfl, HBW.out.trans ((bt HB8.out hb9).mono HBW.out.size)⟩
end Go.Proofs.Ytjmanajbdkbkdaa
