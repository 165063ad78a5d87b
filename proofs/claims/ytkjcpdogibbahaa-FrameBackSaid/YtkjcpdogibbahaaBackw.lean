/- FrameBack: the frames of payloads are cut as these. -/
import Derived.Test.YtkjcpdogibbahaaBack
import Derived.Test.YtkjcpdogibbahaaCuts
namespace Go.Proofs.Ytkjcpdogibbahaa
open Go.RowKit Go.Um
set_option maxHeartbeats 1000000

theorem slat_kept {S : Nat → Prop} {w w' : World} {size n cap b o : Nat} {cs : List Value} {ao : Option Addr} (h : SlAt w size n cs ao cap b o) (hk : Kept S w w') (hS : 0 < cs.length → ¬ S b) : SlAt w' size n cs ao cap b o :=
  ⟨h.len, h.le, h.max, h.addr, fun hp => Nat.lt_of_lt_of_le (h.lt hp) hk.size, fun j u hu => by
    have hp : 0 < cs.length := by have := (List.getElem?_eq_some_iff.1 hu).1; omega
    exact hk.cell (h.cell j u hu) (hS hp)⟩
theorem size43 : (Try.prog.info? 43).map (·.size) = some 1 := by kernel_rfl
theorem size3 : (Try.prog.info? 3).map (·.size) = some 1 := by kernel_rfl
theorem info3 : (Try.prog.info? 3).map (fun i => (i.zero, i.size, i.bytes)) = some (some (.int .i64 0), 1, 8) := by kernel_rfl
def byt (l : List ByteArray) : List (List UInt8) := l.map fun s => s.data.toList
theorem byt_len (l : List ByteArray) : (byt l).length = l.length := by simp [byt]
theorem byt_get {l : List ByteArray} {k : Nat} {x : ByteArray} (h : l[k]? = some x) : (byt l)[k]? = some x.data.toList := by simp [byt, h]

theorem back_many (l : List ByteArray) (v : Value) (ao : Option Addr) (cap : Nat) (w : World) (hl : 20 < l.length) : Calls Try.prog 6 #[.slice ao l.length cap, v] w fun e w' => e = .returned (.bool true) ∧ Below w.heap.size w w' := by
  have t1 : decide (20 < (l.length : Int)) = true := by simp; omega
  clear hl
  go_enter Try.func6, Try.ntmps6
  go_wp2_with fail
  refine (works_any _).mono ?_
  rintro e w4 ⟨rfl, hb4⟩
  go_wp2
  go_ret
  exact ⟨rfl, hb4⟩

set_option maxRecDepth 100000 in
theorem back_main (l : List ByteArray) (ps : List Int) (ao ao2 : Option Addr) (cap b o cap2 b2 o2 : Nat) (w : World) (h1 : SlAt w 1 l.length (l.map Value.string) ao cap b o) (h2 : SlAt w 1 ps.length (ps.map (Value.int .u16)) ao2 cap2 b2 o2)
    (hr : ∀ n ∈ ps, 0 ≤ n ∧ n ≤ 65535) (hl : l.length ≤ 20) :
    Calls Try.prog 6 #[.slice ao l.length cap, .slice ao2 ps.length cap2] w fun e w' => e = .returned (.bool true) ∧ Below w.heap.size w w' := by
  have t1 : decide (20 < (l.length : Int)) = false := by simp; omega
  have hidx := h1.idx (P := Try.prog) (t := 22) Try.underlying22 size9 (by decide)
  have hidx2 := h2.idx (P := Try.prog) (t := 47) Try.underlying47 size43 (by decide)
  have hll : ps.length ≤ maxLen := Nat.le_trans h2.le h2.max
  unfold maxLen at hll
  have H1 := Lib.hid h1
  have H2 := Lib.hid h2
  have HR := Lib.hid hr
  clear hr h2 h1
  obtain ⟨i0, hi, hz0, hz1, hz2⟩ := info_parts info3
  go_enter Try.func6, Try.ntmps6
  go_wp2_with fail
  go_loopw [5, 6, 7] (fun t5 t6 t7 wr => ∃ (k : Nat) (A : ByteArray), k ≤ l.length ∧ t7 = .int .i64 k ∧ t5 = .string A ∧ Hid (A.data.toList = allF ((byt l).take k)) ∧ Hid (∀ p ∈ (byt l).take k, good p) ∧ A.size ≤ 606 * k ∧ wr.ownsRow w.heap.size 3 1 t6 k ((atsN (byt l) k).map (Value.int .i64)) ∧ Below w.heap.size w wr) (fun _ _ t7 _ => l.length - (intOf t7).toNat)
  case atStart => exact ⟨0, ⟨#[]⟩, Nat.zero_le _, rfl, rfl, rfl, fun p hp => by simp at hp, Nat.zero_le _, World.ownsRow_nil _ _ _ _, Below.refl _ _⟩
  case round =>
    obtain ⟨k, A, hk, rfl, rfl, hA, hG, hAs, hown, hbel⟩ := hrel
    by_cases hlt : k < l.length
    · obtain ⟨x, hx⟩ : ∃ x, l[k]? = some x := ⟨_, List.getElem?_eq_getElem hlt⟩
      have g := str_at (H1.out.below' hbel H1.out.lt) hx
      have k0 : (0 : Int) ≤ (k : Int) := by omega
      have k1 : (k : Int) < (l.length : Int) := by omega
      have p1 := fun W => put_any x.data.toList W
      rw [← strV_eq] at p1
      have hsz := hbel.size
      have hxl := len_data x
      have Hx := Lib.hid hx
      have Hxl := Lib.hid hxl
      have Hbel := Lib.hid hbel
      clear hx hxl hbel
      rcases putR_cases x.data.toList with ⟨hg, hp⟩ | ⟨hz, hp⟩ | ⟨hz, hp⟩
      · rw [hp] at p1
        obtain ⟨F, hF⟩ : ∃ F : ByteArray, F.data.toList = putF x.data.toList := ⟨⟨(putF x.data.toList).toArray⟩, rfl⟩
        have hFs : F.size ≤ 606 := by rw [← len_data, hF, putF_len]; have := hg.2; omega
        have p1' : ∀ W, Calls Try.prog 17 #[.string x] W fun e w' => e = .returned (.tuple #[.string F, .int .i64 0]) ∧ Below W.heap.size W w' := by
          intro W
          have h := p1 W
          rw [← hF, ← strV_eq] at h
          exact h
        have P1 := Lib.hid p1'
        have HF := Lib.hid hF
        have Hg := Lib.hid hg
        have u1 : (A.size : Int) ≤ 8388608 := by omega
        have u2 : (F.size : Int) ≤ 8388608 := by omega
        have u3 : (A.size : Int) + (F.size : Int) ≤ 8388608 := by omega
        clear p1 p1' hF hg hp
        go_wp2_with fail
        refine (P1.out _).mono ?_
        rintro e w1 ⟨rfl, hb1⟩
        have hown1 := own_past hown hb1
        have hbel1 := Hbel.out.trans (hb1.mono hsz)
        have hs1 : w.heap.size ≤ w1.heap.size := hbel1.size
        go_wp2_with (at_builtin; refine wpList_append_own _ rfl (.tmp 54) (.tmp 57) 48 rfl w.heap.size 3 i0 (.int .i64 0) 1 8 Try.underlying48 hi hz0 hz1 hz2 rfl (by decide) _ _ _ rfl (hown1.alloc _) ⟨w1.heap.size, 0, none⟩ 1 1 [.int .i64 A.size] rfl rfl (new_cells _ _ _ _ (by simp)) (by simp [Value.oneCell']) (by unfold maxLen; omega) (by omega) (by simp; omega) ?_)
        intro v' w2 hown2 hgrow2 _
        have hbel2 : Below w.heap.size w w2 := below_own (hbel1.alloc hs1 _) (hown1.alloc _) hgrow2 (Nat.le_refl _) (by simp; omega)
        go_wp2
        go_roundw
        case rel =>
          refine ⟨k + 1, A ++ F, by omega, by go_num, rfl, ?_, ?_, ?_, ?_, hbel2⟩
          · show (A ++ F).data.toList = _
            rw [app_data, HF.out, hA.out, allF_snoc _ _ _ (byt_get Hx.out)]
          · intro p hp
            rw [List.take_add_one, byt_get Hx.out] at hp
            rcases List.mem_append.1 hp with h | h
            · exact hG.out p h
            · have : p = x.data.toList := by simpa using h
              rw [this]; exact Hg.out
          · rw [ByteArray.size_append]; omega
          · rw [atsN_succ]
            have e : ((allF ((byt l).take k)).length : Int) = (A.size : Int) := by rw [← hA.out, len_data]
            simpa [e] using hown2
        case measure => simp [intOf]; omega
      all_goals
        rw [hp] at p1
        have P1 := Lib.hid p1
        clear p1 hp
      · have z1 : ((x.size : Int) == 0) = true := by have := Hxl.out; rw [beq_iff_eq]; omega
        clear hz
        go_wp2_with fail
        refine (P1.out _).mono ?_
        rintro e w1 ⟨rfl, hb1⟩
        have g' := kc hb1 _ _ _ g
        go_wp2_with fail
        refine (works_any _).mono ?_
        rintro e w4 ⟨rfl, hb4⟩
        go_wp2
        go_ret
        exact ⟨rfl, bt (Hbel.out.trans (hb1.mono hsz)) hb4⟩
      · have z1 : ((x.size : Int) == 0) = false := by have := Hxl.out; rw [beq_eq_false_iff_ne]; omega
        have z2 : decide (600 < (x.size : Int)) = true := by have := Hxl.out; simp; omega
        clear hz
        go_wp2_with fail
        refine (P1.out _).mono ?_
        rintro e w1 ⟨rfl, hb1⟩
        have g' := kc hb1 _ _ _ g
        go_wp2_with fail
        refine (works_any _).mono ?_
        rintro e w4 ⟨rfl, hb4⟩
        go_wp2
        go_ret
        exact ⟨rfl, bt (Hbel.out.trans (hb1.mono hsz)) hb4⟩
    · have hkl : k = l.length := by omega
      obtain ⟨n, hn⟩ : ∃ n, n = l.length := ⟨_, rfl⟩
      have hfull : (byt l).take k = byt l := List.take_of_length_le (by rw [byt_len]; omega)
      have HGA : Hid (∀ p ∈ byt l, good p) := by have := hG.out; rw [hfull] at this; exact this
      have HAA : Hid (A.data.toList = allF (byt l)) := by have := hA.out; rw [hfull] at this; exact this
      obtain ⟨ao3, cap3, b3, o3, hv6, hat, hb3⟩ := SlAt.owned hown
      rw [hv6]
      have hidx3 := hat.idx (P := Try.prog) (t := 48) Try.underlying48 size3 (by decide)
      have HAT := Lib.hid hat
      have HB := Lib.hid hbel
      have e : (l.length : Nat) = k := hkl.symm
      have hA20 : A.size ≤ 12120 := by omega
      have HKL := Lib.hid hkl
      have k1 : ¬ ((k : Int) < (l.length : Int)) := by omega
      clear hfull hG hA hown hv6 hat hbel hn e hkl hAs
      go_wp2_with fail
      refine (cut_new _).mono ?_
      rintro e w1 ⟨rfl, hc1, hb1, hz1⟩
      obtain ⟨p, hp⟩ : ∃ p, p = wr.heap.size := ⟨_, rfl⟩
      rw [← hp] at hc1 ⊢
      have hzz : w.heap.size ≤ p := by rw [hp]; exact HB.out.size
      have hb3p : 0 < ((atsN (byt l) k).map (Value.int .i64)).length → ¬ b3 = p := fun h e => by have := HAT.out.lt h; omega
      have HB1 := Lib.hid (HB.out.trans (hb1.mono HB.out.size))
      have HAT1 := Lib.hid (HAT.out.below hb1)
      have HC1 := Lib.hid hc1
      have HP := Lib.hid hp
      have HB3P := Lib.hid hb3p
      have hbp : 0 < l.length → ¬ b = p := fun h e => by have := H1.out.lt (by rw [List.length_map]; exact h); omega
      have HBP := Lib.hid hbp
      clear hbp
      clear hc1 hb1 hz1 hp hb3p
      go_wp2_with fail
      go_loopw [5, 11, 12] (fun t5 t11 t12 wz => ∃ (i k' : Nat) (R : ByteArray) (c : Cut), t5 = .string R ∧ t11 = .int .i64 k' ∧ t12 = .int .i64 i ∧ i + R.size ≤ 12120 ∧ Hid (Cutting (byt l) c k' R.data.toList) ∧ Hid (R.size = 0 → k' = l.length) ∧ Hid (c.At wz p) ∧ Hid (Kept (fun k => k = p) w1 wz)) (fun t5 _ t12 _ => 12120 - (intOf t12).toNat)
      case atStart =>
        refine ⟨0, 0, A, ⟨[], 0, false⟩, rfl, rfl, rfl, by omega, ?_, ?_, HC1.out, Kept.refl _ _⟩
        · show Cutting _ _ _ _
          rw [HAA.out]; exact Cutting.start _
        · intro h
          have h0 : Cutting (byt l) ⟨[], 0, false⟩ 0 [] := by
            have := Cutting.start (byt l)
            rw [← HAA.out, (List.eq_nil_of_length_eq_zero (by rw [len_data]; exact h) : A.data.toList = [])] at this
            exact this
          have := h0.loop HGA.out rfl
          rw [byt_len] at this; exact this
      case round =>
        obtain ⟨i, k', R, c, rfl, rfl, rfl, hiR, hcut, hend, hcat, hkept⟩ := hrel
        have hbd := hcut.out.bd HGA.out (by rw [byt_len]; exact hl)
        have hRl := len_data R
        by_cases hR0 : R.size = 0
        · have hk' : k' = l.length := hend.out hR0
          have R0 : ¬ (0 : Int) < (R.size : Int) := by omega
          have hRn : R.data.toList = [] := List.eq_nil_of_length_eq_zero (by omega)
          have hcut' : Cutting (byt l) c (byt l).length [] := by have := hcut.out; rw [hRn, hk', ← byt_len] at this; exact this
          obtain ⟨Z, hZ⟩ : ∃ Z, Z = c.pos + ((c.rest.length : Nat) : Int) := ⟨_, rfl⟩
          have hF := fun W h => cut_fed c p W h (by omega) (by omega)
          have hT := fun W h => tells_any c p [] Z 0 W h (by omega) (by omega)
          have hE := hcut'.ends
          rw [← hZ] at hF hE
          simp only [hE] at hT
          unfold strV at hT
          have HF := Lib.hid hF
          have HT := Lib.hid hT
          subst hk'
          clear hF hT hE hZ hcut' hRn hbd hRl hcut hend hR0
          go_wp2_with fail
          refine (HF.out _ hcat.out).mono ?_
          rintro e w2 ⟨rfl, hb2⟩
          have hc2 := hcat.out.below hb2
          go_wp2_with fail
          refine (HT.out _ hc2).mono ?_
          rintro e w3 ⟨rfl, hc3, k3⟩
          have hB3 := kept_new (bt (kept_new HB1.out hkept.out (fun i hi e => by omega)) hb2) k3 (fun i hi e => by omega)
          clear hc2 hb2 hc3 k3
          go_wp2_with fail
          refine (works_any _).mono ?_
          rintro e w4 ⟨rfl, hb4⟩
          go_wp2
          go_ret
          exact ⟨rfl, bt hB3 hb4⟩
        · have R1 : (0 : Int) < (R.size : Int) := by omega
          have R2 : (R.size : Int) ≤ 12120 := by omega
          have i0 : (0 : Int) ≤ (i : Int) := by omega
          have i1 : (i : Int) ≤ 12120 := by omega
          have hfd : ∀ K : Nat, Calls Try.prog 12 #[.pointer (some ⟨p, 0, none⟩), .string (R.extract 0 K)] _ fun e w' => e = .returned (.tuple #[]) ∧ (c.feed (R.extract 0 K).data.toList).At w' p ∧ Kept (fun k => k = p) _ w' :=
            fun K => cut_feed c (R.extract 0 K).data.toList p _ hcat.out (by omega) (by rw [ext2_data, List.length_take, List.length_drop]; omega)
          have hfr : Calls Try.prog 12 #[.pointer (some ⟨p, 0, none⟩), .string R] _ fun e w' => e = .returned (.tuple #[]) ∧ (c.feed R.data.toList).At w' p ∧ Kept (fun k => k = p) _ w' :=
            cut_feed c R.data.toList p _ hcat.out (by omega) (by omega)
          have HFD := Lib.hid hfd
          have HFR := Lib.hid hfr
          have HRL := Lib.hid hRl
          clear hfd hfr hbd hRl hend
          by_cases hps : 0 < ps.length
          · have hps' : (0 : Int) < (ps.length : Int) := by omega
            have m0 : (0 : Int) ≤ (i : Int) % (ps.length : Int) := Int.emod_nonneg _ (by omega)
            have m1 : (i : Int) % (ps.length : Int) < (ps.length : Int) := Int.emod_lt_of_pos _ hps'
            obtain ⟨jx, hjx⟩ : ∃ jx : Nat, (i : Int) % (ps.length : Int) = (jx : Int) := ⟨((i : Int) % (ps.length : Int)).toNat, by omega⟩
            have hjl : jx < ps.length := by omega
            obtain ⟨y, hy⟩ : ∃ y, ps[jx]? = some y := ⟨_, List.getElem?_eq_getElem hjl⟩
            have g2 := num_at ((H2.out.below' (kept_new HB1.out hkept.out (fun i hi e => by omega)) H2.out.lt)) hy
            obtain ⟨y0, y1⟩ := HR.out y (List.mem_of_getElem? hy)
            have hjt : ((i : Int) % (ps.length : Int)).toNat = jx := by omega
            have z1 : ((ps.length : Int) == 0) = false := by rw [beq_eq_false_iff_ne]; omega
            have HY := Lib.hid hy
            have HJX := Lib.hid hjx
            clear hy hjx
            have y2 : (0 : Int) ≤ y % 700 := Int.emod_nonneg _ (by omega)
            have y3 : y % 700 < 700 := Int.emod_lt_of_pos _ (by omega)
            by_cases hmin : (R.size : Int) ≤ 1 + y % 700
            · go_wp2_with fail
              refine (HFR.out).mono ?_
              rintro e w2 ⟨rfl, hc2, k2⟩
              have hcutY : Cutting (byt l) (c.feed R.data.toList) k' (⟨#[]⟩ : ByteArray).data.toList := by
                refine Cutting.feed ?_
                have h5 := hcut.out
                rw [show (⟨#[]⟩ : ByteArray).data.toList = [] from rfl, List.append_nil]; exact h5
              obtain ⟨c2, hce⟩ : ∃ c2, c2 = c.feed R.data.toList := ⟨_, rfl⟩
              rw [← hce] at hcutY hc2
              have hk2 := hkept.out.trans k2 (fun _ _ h => h)
              have hYs : i + 1 + (⟨#[]⟩ : ByteArray).size ≤ 12120 := by show i + 1 + 0 ≤ 12120; omega
              have HCY := Lib.hid hcutY
              have HC2 := Lib.hid hc2
              have HK2 := Lib.hid hk2
              have hkle := hcutY.le
              rw [byt_len] at hkle
              clear hcutY hc2 hk2 k2 hce hcut hcat hkept
              go_wp2_with fail
              go_loopw [11] (fun t11 wq => ∃ (kk : Nat) (d : Cut), t11 = .int .i64 kk ∧ kk ≤ l.length ∧ Hid (Cutting (byt l) d kk (⟨#[]⟩ : ByteArray).data.toList) ∧ Hid (d.At wq p) ∧ Hid (Kept (fun k => k = p) w1 wq)) (fun t11 _ => l.length - (intOf t11).toNat)
              case atStart => exact ⟨k', c2, rfl, hkle, HCY.out, HC2.out, HK2.out⟩
              case round =>
                obtain ⟨kk, d, rfl, hkl, hcutd, hdat, hkd⟩ := hrel
                by_cases hlt : kk < l.length
                · obtain ⟨x, hx⟩ : ∃ x, l[kk]? = some x := ⟨_, List.getElem?_eq_getElem hlt⟩
                  have gx := str_at (H1.out.below' (kept_new HB1.out hkd.out (fun i hi e => by omega)) H1.out.lt) hx
                  have ga := num_at (slat_kept HAT1.out hkd.out HB3P.out) (atsN_get (byt l) k kk (by have := HKL.out; omega))
                  have q0 : (0 : Int) ≤ (kk : Int) := by omega
                  have q1 : (kk : Int) < (l.length : Int) := by omega
                  have q2 : (kk : Int) < (k : Int) := by have := HKL.out; omega
                  have hbd := hcutd.out.bd HGA.out (by rw [byt_len]; exact hl)
                  have hN := cut_next d p _ hdat.out (by omega) (by omega)
                  have hpos := hcutd.out.pos
                  rcases hcutd.out.next HGA.out (byt_get hx) with ⟨ht, hcn, hne⟩ | ⟨ht, hcn⟩
                  · rw [ht] at hN
                    unfold strV at hN
                    have HN := Lib.hid hN
                    have HCN := Lib.hid hcn
                    have HNE := Lib.hid hne
                    clear hN hcn hne hpos ht hbd hx
                    go_wp2_with fail
                    refine HN.out.mono ?_
                    rintro e wn ⟨rfl, hcn, kn⟩
                    have HCA := Lib.hid hcn
                    have HKN := Lib.hid (hkd.out.trans kn (fun _ _ h => h))
                    clear hcn kn
                    go_wp2_with fail
                    go_roundw
                    case rel => exact ⟨i + 1, kk, ⟨#[]⟩, d.next, rfl, rfl, by go_num, hYs, HCN.out, fun h => absurd (by first | (refine List.eq_nil_of_length_eq_zero ?_; rw [len_data]; exact h) | rfl) HNE.out, HCA.out, HKN.out⟩
                    case measure => simp [intOf]; omega
                  · rw [ht, hpos] at hN
                    simp only [← strV_eq] at hN
                    obtain ⟨Z, hZ⟩ : ∃ Z : Int, Z = ((allF ((byt l).take kk)).length : Nat) := ⟨_, rfl⟩
                    rw [← hZ] at hN ga
                    have HN := Lib.hid hN
                    have HCN := Lib.hid hcn
                    clear hN hcn hpos ht hbd hx hZ
                    go_wp2_with fail
                    refine HN.out.mono ?_
                    rintro e wn ⟨rfl, hcn, kn⟩
                    have gx' := kn.cell gx (fun e => HBP.out (by omega) e)
                    have ga' := kn.cell ga (fun e => HB3P.out (by simp [atsN]; omega) e)
                    have HCA := Lib.hid hcn
                    have HKN := Lib.hid (hkd.out.trans kn (fun _ _ h => h))
                    clear hcn kn
                    go_wp2_with fail
                    go_roundw
                    case rel => exact ⟨kk + 1, d.next, by go_num, by omega, HCN.out, HCA.out, HKN.out⟩
                    case measure => simp [intOf]; omega
                · go_wp2_with fail
                  have hkk : kk = l.length := by omega
                  go_roundw
                  case rel => exact ⟨i + 1, kk, ⟨#[]⟩, d, rfl, rfl, by go_num, hYs, hcutd.out, fun _ => hkk, hdat.out, hkd.out⟩
                  case measure => simp [intOf]; omega
            · go_wp2_with fail
              refine (HFD.out _).mono ?_
              rintro e w2 ⟨rfl, hc2, k2⟩
              have hcutY : Cutting (byt l) (c.feed (R.extract 0 (1 + y % 700).toNat).data.toList) k' ((R.extract (1 + y % 700).toNat R.size) : ByteArray).data.toList := by
                refine Cutting.feed ?_
                have h5 := hcut.out
                rw [ext_data, ext2_data, List.drop_zero, Nat.sub_zero, List.take_append_drop]; exact h5
              obtain ⟨c2, hce⟩ : ∃ c2, c2 = c.feed (R.extract 0 (1 + y % 700).toNat).data.toList := ⟨_, rfl⟩
              rw [← hce] at hcutY hc2
              have hk2 := hkept.out.trans k2 (fun _ _ h => h)
              have hYs : i + 1 + ((R.extract (1 + y % 700).toNat R.size) : ByteArray).size ≤ 12120 := by rw [ext_size]; omega
              have HCY := Lib.hid hcutY
              have HC2 := Lib.hid hc2
              have HK2 := Lib.hid hk2
              have hkle := hcutY.le
              rw [byt_len] at hkle
              clear hcutY hc2 hk2 k2 hce hcut hcat hkept
              go_wp2_with fail
              go_loopw [11] (fun t11 wq => ∃ (kk : Nat) (d : Cut), t11 = .int .i64 kk ∧ kk ≤ l.length ∧ Hid (Cutting (byt l) d kk ((R.extract (1 + y % 700).toNat R.size) : ByteArray).data.toList) ∧ Hid (d.At wq p) ∧ Hid (Kept (fun k => k = p) w1 wq)) (fun t11 _ => l.length - (intOf t11).toNat)
              case atStart => exact ⟨k', c2, rfl, hkle, HCY.out, HC2.out, HK2.out⟩
              case round =>
                obtain ⟨kk, d, rfl, hkl, hcutd, hdat, hkd⟩ := hrel
                by_cases hlt : kk < l.length
                · obtain ⟨x, hx⟩ : ∃ x, l[kk]? = some x := ⟨_, List.getElem?_eq_getElem hlt⟩
                  have gx := str_at (H1.out.below' (kept_new HB1.out hkd.out (fun i hi e => by omega)) H1.out.lt) hx
                  have ga := num_at (slat_kept HAT1.out hkd.out HB3P.out) (atsN_get (byt l) k kk (by have := HKL.out; omega))
                  have q0 : (0 : Int) ≤ (kk : Int) := by omega
                  have q1 : (kk : Int) < (l.length : Int) := by omega
                  have q2 : (kk : Int) < (k : Int) := by have := HKL.out; omega
                  have hbd := hcutd.out.bd HGA.out (by rw [byt_len]; exact hl)
                  have hN := cut_next d p _ hdat.out (by omega) (by omega)
                  have hpos := hcutd.out.pos
                  rcases hcutd.out.next HGA.out (byt_get hx) with ⟨ht, hcn, hne⟩ | ⟨ht, hcn⟩
                  · rw [ht] at hN
                    unfold strV at hN
                    have HN := Lib.hid hN
                    have HCN := Lib.hid hcn
                    have HNE := Lib.hid hne
                    clear hN hcn hne hpos ht hbd hx
                    go_wp2_with fail
                    refine HN.out.mono ?_
                    rintro e wn ⟨rfl, hcn, kn⟩
                    have HCA := Lib.hid hcn
                    have HKN := Lib.hid (hkd.out.trans kn (fun _ _ h => h))
                    clear hcn kn
                    go_wp2_with fail
                    go_roundw
                    case rel => exact ⟨i + 1, kk, (R.extract (1 + y % 700).toNat R.size), d.next, rfl, rfl, by go_num, hYs, HCN.out, fun h => absurd (by first | (refine List.eq_nil_of_length_eq_zero ?_; rw [len_data]; exact h) | rfl) HNE.out, HCA.out, HKN.out⟩
                    case measure => simp [intOf]; omega
                  · rw [ht, hpos] at hN
                    simp only [← strV_eq] at hN
                    obtain ⟨Z, hZ⟩ : ∃ Z : Int, Z = ((allF ((byt l).take kk)).length : Nat) := ⟨_, rfl⟩
                    rw [← hZ] at hN ga
                    have HN := Lib.hid hN
                    have HCN := Lib.hid hcn
                    clear hN hcn hpos ht hbd hx hZ
                    go_wp2_with fail
                    refine HN.out.mono ?_
                    rintro e wn ⟨rfl, hcn, kn⟩
                    have gx' := kn.cell gx (fun e => HBP.out (by omega) e)
                    have ga' := kn.cell ga (fun e => HB3P.out (by simp [atsN]; omega) e)
                    have HCA := Lib.hid hcn
                    have HKN := Lib.hid (hkd.out.trans kn (fun _ _ h => h))
                    clear hcn kn
                    go_wp2_with fail
                    go_roundw
                    case rel => exact ⟨kk + 1, d.next, by go_num, by omega, HCN.out, HCA.out, HKN.out⟩
                    case measure => simp [intOf]; omega
                · go_wp2_with fail
                  have hkk : kk = l.length := by omega
                  go_roundw
                  case rel => exact ⟨i + 1, kk, (R.extract (1 + y % 700).toNat R.size), d, rfl, rfl, by go_num, hYs, hcutd.out, fun _ => hkk, hdat.out, hkd.out⟩
                  case measure => simp [intOf]; omega
          · have hps' : ¬ (0 : Int) < (ps.length : Int) := by omega
            go_wp2_with fail
            refine (HFR.out).mono ?_
            rintro e w2 ⟨rfl, hc2, k2⟩
            have hcutY : Cutting (byt l) (c.feed R.data.toList) k' (⟨#[]⟩ : ByteArray).data.toList := by
              refine Cutting.feed ?_
              have h5 := hcut.out
              rw [show (⟨#[]⟩ : ByteArray).data.toList = [] from rfl, List.append_nil]; exact h5
            obtain ⟨c2, hce⟩ : ∃ c2, c2 = c.feed R.data.toList := ⟨_, rfl⟩
            rw [← hce] at hcutY hc2
            have hk2 := hkept.out.trans k2 (fun _ _ h => h)
            have hYs : i + 1 + (⟨#[]⟩ : ByteArray).size ≤ 12120 := by show i + 1 + 0 ≤ 12120; omega
            have HCY := Lib.hid hcutY
            have HC2 := Lib.hid hc2
            have HK2 := Lib.hid hk2
            have hkle := hcutY.le
            rw [byt_len] at hkle
            clear hcutY hc2 hk2 k2 hce hcut hcat hkept
            go_wp2_with fail
            go_loopw [11] (fun t11 wq => ∃ (kk : Nat) (d : Cut), t11 = .int .i64 kk ∧ kk ≤ l.length ∧ Hid (Cutting (byt l) d kk (⟨#[]⟩ : ByteArray).data.toList) ∧ Hid (d.At wq p) ∧ Hid (Kept (fun k => k = p) w1 wq)) (fun t11 _ => l.length - (intOf t11).toNat)
            case atStart => exact ⟨k', c2, rfl, hkle, HCY.out, HC2.out, HK2.out⟩
            case round =>
              obtain ⟨kk, d, rfl, hkl, hcutd, hdat, hkd⟩ := hrel
              by_cases hlt : kk < l.length
              · obtain ⟨x, hx⟩ : ∃ x, l[kk]? = some x := ⟨_, List.getElem?_eq_getElem hlt⟩
                have gx := str_at (H1.out.below' (kept_new HB1.out hkd.out (fun i hi e => by omega)) H1.out.lt) hx
                have ga := num_at (slat_kept HAT1.out hkd.out HB3P.out) (atsN_get (byt l) k kk (by have := HKL.out; omega))
                have q0 : (0 : Int) ≤ (kk : Int) := by omega
                have q1 : (kk : Int) < (l.length : Int) := by omega
                have q2 : (kk : Int) < (k : Int) := by have := HKL.out; omega
                have hbd := hcutd.out.bd HGA.out (by rw [byt_len]; exact hl)
                have hN := cut_next d p _ hdat.out (by omega) (by omega)
                have hpos := hcutd.out.pos
                rcases hcutd.out.next HGA.out (byt_get hx) with ⟨ht, hcn, hne⟩ | ⟨ht, hcn⟩
                · rw [ht] at hN
                  unfold strV at hN
                  have HN := Lib.hid hN
                  have HCN := Lib.hid hcn
                  have HNE := Lib.hid hne
                  clear hN hcn hne hpos ht hbd hx
                  go_wp2_with fail
                  refine HN.out.mono ?_
                  rintro e wn ⟨rfl, hcn, kn⟩
                  have HCA := Lib.hid hcn
                  have HKN := Lib.hid (hkd.out.trans kn (fun _ _ h => h))
                  clear hcn kn
                  go_wp2_with fail
                  go_roundw
                  case rel => exact ⟨i + 1, kk, ⟨#[]⟩, d.next, rfl, rfl, by go_num, hYs, HCN.out, fun h => absurd (by first | (refine List.eq_nil_of_length_eq_zero ?_; rw [len_data]; exact h) | rfl) HNE.out, HCA.out, HKN.out⟩
                  case measure => simp [intOf]; omega
                · rw [ht, hpos] at hN
                  simp only [← strV_eq] at hN
                  obtain ⟨Z, hZ⟩ : ∃ Z : Int, Z = ((allF ((byt l).take kk)).length : Nat) := ⟨_, rfl⟩
                  rw [← hZ] at hN ga
                  have HN := Lib.hid hN
                  have HCN := Lib.hid hcn
                  clear hN hcn hpos ht hbd hx hZ
                  go_wp2_with fail
                  refine HN.out.mono ?_
                  rintro e wn ⟨rfl, hcn, kn⟩
                  have gx' := kn.cell gx (fun e => HBP.out (by omega) e)
                  have ga' := kn.cell ga (fun e => HB3P.out (by simp [atsN]; omega) e)
                  have HCA := Lib.hid hcn
                  have HKN := Lib.hid (hkd.out.trans kn (fun _ _ h => h))
                  clear hcn kn
                  go_wp2_with fail
                  go_roundw
                  case rel => exact ⟨kk + 1, d.next, by go_num, by omega, HCN.out, HCA.out, HKN.out⟩
                  case measure => simp [intOf]; omega
              · go_wp2_with fail
                have hkk : kk = l.length := by omega
                go_roundw
                case rel => exact ⟨i + 1, kk, ⟨#[]⟩, d, rfl, rfl, by go_num, hYs, hcutd.out, fun _ => hkk, hdat.out, hkd.out⟩
                case measure => simp [intOf]; omega

theorem back_any (l : List ByteArray) (ps : List Int) (ao ao2 : Option Addr) (cap b o cap2 b2 o2 : Nat) (w : World) (h1 : SlAt w 1 l.length (l.map Value.string) ao cap b o) (h2 : SlAt w 1 ps.length (ps.map (Value.int .u16)) ao2 cap2 b2 o2)
    (hr : ∀ n ∈ ps, 0 ≤ n ∧ n ≤ 65535) :
    Calls Try.prog 6 #[.slice ao l.length cap, .slice ao2 ps.length cap2] w fun e w' => e = .returned (.bool true) ∧ Below w.heap.size w w' := by
  by_cases hl : l.length ≤ 20
  · exact back_main l ps ao ao2 cap b o cap2 b2 o2 w h1 h2 hr hl
  · exact back_many l _ ao cap w (by omega)
end Go.Proofs.Ytkjcpdogibbahaa
