/- The document's queue: Run. -/
import Derived.Test.YtfaoakahmllpjaaDoorRunq
namespace Go.Proofs.YtfaoakahmllpjaaDoor
open Go.RowKit Go.Um
set_option maxHeartbeats 1000000

theorem rrun_any (S : Nat → Prop) (s : List Int) (v : Value) (l : List Op5) (ao : Option Addr) (cap b o : Nat) (w : World) (hv : Far S w s v) (h : SlAt w 5 l.length (l.flatMap Op5.cells) ao cap b o) (hok : ∀ x ∈ l, x.ok) (hlen : l.length ≤ 200) (hsl : s.length ≤ 200) :
    Calls Tryd.prog 18 #[v, .slice ao l.length cap] w (RRunPost S s l w) := by
  obtain ⟨i0, hi, hz0, hz1, hz2⟩ := info_parts info31
  have hidx := h.idx (P := Tryd.prog) (t := 41) Tryd.underlying41 size25 (by decide)
  have HV := Lib.hid hv
  have Hok := Lib.hid hok
  clear hv hok
  go_enter Tryd.func18, Tryd.ntmps18
  go_wp2
  go_loopw [0, 7, 8] (fun t0 t7 t8 wr => ∃ k : Nat, k ≤ l.length ∧ k ≤ stopAt l ∧ t8 = .int .i64 k ∧ RInv S w (stN s l k) k ((outN s l k).flatMap resC) t0 t7 wr)
    (fun _ _ t8 _ => l.length - (intOf t8).toNat)
  case atStart => exact ⟨0, Nat.zero_le _, Nat.zero_le _, rfl, RInv.start HV.out⟩
  case round =>
    obtain ⟨k, hk, hks, rfl, hinv⟩ := hrel
    have hbel := hinv.bel
    by_cases hlt : k < l.length
    · have hwr := h.below' hbel h.lt
      obtain ⟨x, hx⟩ : ∃ x, l[k]? = some x := ⟨_, List.getElem?_eq_getElem hlt⟩
      obtain ⟨g0, g1, g2, g3, g4⟩ := op_at hwr hx
      have hxo : x.ok := Hok.out x (List.mem_of_getElem? hx)
      have hql : (stN s l k).length ≤ 100000 := by have := stN_len s l k; omega
      obtain ⟨q, hq⟩ : ∃ q, q = stN s l k := ⟨_, rfl⟩
      rw [← hq] at hinv hql
      have Hq := Lib.hid hq
      have Hx := Lib.hid hx
      have Hi := Lib.hid hinv
      have hsz := hbel.size
      have hown := hinv.own
      have hlo := hown.lt
      have HR := fun W hb => rstep_any _ q u0 x hxo W (hinv.st.below hb) hql
      have HRR := Lib.hid HR
      unfold opV at HRR
      clear hq hx hinv HR hwr hql hxo
      by_cases hkn : good x = true
      · have he : errOf x = 0 := by simp [errOf, hkn]
        rw [he] at HRR
        have Hkn := Lib.hid hkn
        clear hkn he
        go_wp2_with fail
        refine (HRR.out _ (bz wr)).mono ?_
        rintro e w1 ⟨v1, rfl, hf1, hb1⟩
        have hown1 := own_past hown hb1
        have hbel1 := hbel.trans (hb1.mono hsz)
        have hs1 : w.heap.size ≤ w1.heap.size := hbel1.size
        have hs2 : wr.heap.size ≤ w1.heap.size := hb1.size
        have Hf1 := Lib.hid hf1
        have Hlo := Lib.hid hlo
        clear hf1 hlo
        go_wp2_with (at_builtin; refine wpList_append_lies _ rfl (.tmp 34) (.tmp 36) 42 rfl w.heap.size 31 i0 (.agg #[.int .u8 0, .int .u16 0]) 2 4 Tryd.underlying42 hi hz0 hz1 hz2 rfl (by decide) _ _ _ rfl ((hown1.alloc _).alloc _) ⟨w1.heap.size + 1, 0, none⟩ 1 1 [.int .u8 (ans q x).1, .int .u16 (ans q x).2] rfl rfl (new_cells _ _ _ _ (by simp)) (by simp [Value.oneCell']) (by decide) (by unfold maxLen; omega) (by omega) (by simp; omega) _ rfl ?_)
        intro g cap2 w2 hown2 hgrow2 hat hlt2
        have hI : RInv S w (nxt q x) (k + 1) (((outN s l k).flatMap resC) ++ [.int .u8 (ans q x).1, .int .u16 (ans q x).2]) v1 (.slice (some ⟨g, 0, none⟩) (k + 1) cap2) w2 := by
          refine RInv.put (t7 := u7) (w1 := _) ?_ (fun g hg => (Hlo.out g hg).1) (hbel1.alloc hs1 _ |>.alloc (by simp; omega) _) hgrow2 hown2 ?_
          · refine ((Hf1.out.mono (fun b _ hb => ?_)).alloc _).alloc _
            rcases hb with hb | hb
            · exact hb
            · refine ⟨.inr (by omega), fun e => ?_⟩
              have := (Hlo.out b e).2
              omega
          · rcases hat with h | h
            · left; rw [h]; rfl
            · right; intro g' e; obtain rfl : g = g' := by simpa [Value.ownBlock] using e
              simp at h ⊢; omega
        have HI := Lib.hid hI
        clear hI hown2 hgrow2 hat
        go_wp2
        go_roundw
        case rel =>
          refine ⟨k + 1, by omega, stopAt_lt Hx.out hks Hkn.out, by go_num, ?_⟩
          rw [stN_succ Hx.out, outN_succ Hx.out, ← Hq.out]
          simpa [resC] using HI.out
        case measure => simp [intOf]; omega
      · have hkn' : good x = false := by simpa using hkn
        have he : errOf x = 10 := by simp [errOf, hkn']
        rw [he, nxt_bad hkn'] at HRR
        have Hkn := Lib.hid hkn'
        clear hkn hkn' he
        go_wp2_with fail
        refine (HRR.out _ (bz wr)).mono ?_
        rintro e w1 ⟨v1, rfl, hf1, hb1⟩
        have hs2 : wr.heap.size ≤ w1.heap.size := hb1.size
        have Hb1 := Lib.hid hb1
        clear hf1 hb1
        go_wp2
        go_ret3
        have hst' : stopAt l = k := stopAt_eq Hx.out hks Hkn.out
        have hB := ba Hb1.out (.cells #[.int .u8 (ans q x).1, .int .u16 (ans q x).2] 31)
        refine ⟨u0, u7, ?_, ?_, ?_, hbel.trans (hB.mono hsz)⟩
        · have e0 : errAt l = 10 := by rw [errAt, hst', if_neg (by omega)]
          simp [e0]
        · rw [hst', ← Hq.out]; exact (Hi.out.st.below hB).mono (fun b _ hb => hb.1)
        · rw [hst']; exact own_past hown hB
    · have hk' : l.length = k := by omega
      have hst' : stopAt l = k := by have := stopAt_le l; omega
      have Hk := Lib.hid hk'
      have Hst := Lib.hid hst'
      have Hi := Lib.hid hinv
      clear hk' hst' hinv
      go_wp2
      go_ret3
      refine ⟨u0, u7, ?_, ?_, ?_, hbel⟩
      · have e0 : errAt l = 0 := by rw [errAt, Hst.out, if_pos Hk.out.symm]
        simp [e0]
      · rw [Hst.out]; exact Hi.out.st.mono (fun b _ hb => hb.1)
      · rw [Hst.out]; exact Hi.out.own
end Go.Proofs.YtfaoakahmllpjaaDoor
