/- FrameCuts: what is cut out of any stream, in any pieces. -/
import Derived.Test.YtkjcpdogibbahaaPut
import Derived.RegionTactic
namespace Go.Proofs.Ytkjcpdogibbahaa
open Go.RowKit Go.Um
set_option maxHeartbeats 1000000

def bsV (l : List ByteArray) : List Value := l.map Value.string
theorem size9 : (Try.prog.info? 9).map (·.size) = some 1 := by kernel_rfl
theorem size5 : (Try.prog.info? 5).map (·.size) = some 1 := by kernel_rfl
theorem str_at {w : World} {l : List ByteArray} {ao : Option Addr} {n cap b o k : Nat} {x : ByteArray} (h : SlAt w 1 n (l.map Value.string) ao cap b o) (hx : l[k]? = some x) :
    w.cell? ⟨b, o + k, none⟩ = some (.string x) := h.cell k _ (by simp [hx])
theorem num_at {w : World} {l : List Int} {q : IntKind} {ao : Option Addr} {n cap b o k : Nat} {x : Int} (h : SlAt w 1 n (l.map (Value.int q)) ao cap b o) (hx : l[k]? = some x) :
    w.cell? ⟨b, o + k, none⟩ = some (.int q x) := h.cell k _ (by simp [hx])

def FewPost (l : List ByteArray) (w : World) (e : Ending) (w' : World) : Prop := ∃ b, e = .returned (.bool b) ∧ (b = true → l.length ≤ 40 ∧ ∀ s ∈ l, s.size ≤ 2000) ∧ w = w'
theorem few_any (l : List ByteArray) (ao : Option Addr) (cap b o : Nat) (w : World) (h : SlAt w 1 l.length (l.map Value.string) ao cap b o) :
    Calls Try.prog 9 #[.slice ao l.length cap] w (FewPost l w) := by
  have hidx := h.idx (P := Try.prog) (t := 22) Try.underlying22 size9 (by decide)
  have hll : l.length ≤ maxLen := Nat.le_trans h.le h.max
  unfold maxLen at hll
  go_enter Try.func9, Try.ntmps9
  go_wp2
  go_loop [3] (fun t3 => ∃ k : Nat, k ≤ l.length ∧ k ≤ 50 ∧ t3 = .int .i64 k ∧ Hid (∀ s ∈ l.take k, s.size ≤ 2000)) (fun t3 => l.length - (intOf t3).toNat)
  case atStart => exact ⟨0, Nat.zero_le _, Nat.zero_le _, rfl, fun s hs => by simp at hs⟩
  case round =>
    obtain ⟨k, hk, hk5, rfl, ht⟩ := hrel
    by_cases hlt : k < l.length
    · have b1 : (0 : Int) ≤ (k : Int) := by omega
      have b2 : (k : Int) < (l.length : Int) := by omega
      by_cases h50 : k < 50
      · have t1 : decide ((k : Int) < 50) = true := by simp; omega
        obtain ⟨x, hx⟩ : ∃ x, l[k]? = some x := ⟨_, List.getElem?_eq_getElem hlt⟩
        have g := str_at h hx
        have Hx := Lib.hid hx
        clear hx
        by_cases hsz : 2000 < x.size
        · have t2 : decide (2000 < (x.size : Int)) = true := by simp; omega
          have HS := Lib.hid hsz
          clear hsz
          go_wp2
          go_ret
          exact ⟨false, rfl, (fun h => by cases h), rfl⟩
        · have t2 : decide (2000 < (x.size : Int)) = false := by simp; omega
          have HS := Lib.hid hsz
          clear hsz
          go_wp2
          go_round
          case rel =>
            refine ⟨k + 1, by omega, by omega, by go_num, ?_⟩
            intro s hs
            rw [List.take_add_one, Hx.out] at hs
            rcases List.mem_append.1 hs with h1 | h1
            · exact ht.out s h1
            · have : s = x := by simpa using h1
              have := HS.out
              subst s; omega
          case measure => simp [intOf]; omega
      · have t1 : decide ((k : Int) < 50) = false := by simp; omega
        have t3 : decide ((l.length : Int) ≤ 40) = false := by simp; omega
        go_wp2
        go_ret
        exact ⟨false, by simp [t3], (fun h => by cases h), rfl⟩
    · have hk' : l.length = k := by omega
      have HK := Lib.hid hk'
      have hb : ¬ ((k : Int) < (l.length : Int)) := by omega
      clear hk'
      go_wp2
      go_ret
      refine ⟨decide ((l.length : Int) ≤ 40), by simp, fun h => ?_, rfl⟩
      have h1 := ht.out
      rw [List.take_of_length_le (by have := HK.out; omega)] at h1
      exact ⟨by simp at h; omega, h1⟩

theorem rnext_goes (c : Cut) (p : Nat) (s : ByteArray) (k : Nat) (w : World) (h : RefAt w p s k) (hm : s.size ≤ 1000000) (hk : k ≤ 1000000) (hg : Goes c s.data.toList k) :
    Calls Try.prog 14 #[.pointer (some ⟨p, 0, none⟩)] w fun e w' => e = .returned (.tuple #[strV (payF c.rest), .int .i64 c.pos, .int .i64 (lookF c.rest).1]) ∧ RefAt w' p s (more c k : Nat) ∧ Kept (fun k => k = p) w w' := by
  have h1 := rnext_any p s k w h hm hk hg.fr
  rw [← hg.rest, ← hg.pos] at h1
  have e : rmore (lookF c.rest).1 k = (more c k : Nat) := by unfold rmore more; split <;> simp
  rw [e] at h1
  exact h1
theorem next_goes (c : Cut) (p : Nat) (s : ByteArray) (k : Nat) (w : World) (h : c.At w p) (hm : s.size ≤ 1000000) (hg : Goes c s.data.toList k) :
    Calls Try.prog 13 #[.pointer (some ⟨p, 0, none⟩)] w fun e w' => e = .returned (.tuple #[strV (payF c.rest), .int .i64 c.pos, .int .i64 (lookF c.rest).1]) ∧ c.next.At w' p ∧ Kept (fun k => k = p) w w' := by
  have hp := hg.posle
  rw [len_data] at hp
  have h1 := cut_next c p w h (by omega) (by omega)
  rw [hg.tell] at h1
  exact h1
theorem fed_goes (c : Cut) (p : Nat) (s : ByteArray) (k : Nat) (w : World) (h : c.At w p) (hm : s.size ≤ 1000000) (hg : Goes c s.data.toList k) :
    Calls Try.prog 15 #[.pointer (some ⟨p, 0, none⟩)] w fun e w' => e = .returned (.int .i64 s.size) ∧ ∃ n, w' = w.drewN n := by
  have hp := hg.posle
  rw [len_data] at hp
  have h1 := cut_fed_q c p w h (by omega) (by omega)
  have h2 := hg.fed
  rw [len_data] at h2
  rw [h2] at h1
  exact h1

/-- what stands at the head of a round: the two cutters side by side -/
structure Side (w : World) (p q : Nat) (s : ByteArray) (k : Nat) (wr : World) : Prop where
  two : ∃ c, Goes c s.data.toList k ∧ c.At wr p
  ref : RefAt wr q s k
  bel : Below w.heap.size w wr

theorem Side.get {w wr : World} {p q : Nat} {s : ByteArray} {k : Nat} (h : Side w p q s k wr) : ∃ c, Goes c s.data.toList k ∧ c.At wr p := h.two

/-- one Next of each -/
theorem Side.step {w wr w1 w2 w3 : World} {p q k : Nat} {s : ByteArray} {c : Cut} (h : Below w.heap.size w wr) (hp : w.heap.size ≤ p) (hq : w.heap.size ≤ q) (hpq : p ≠ q) (hg : Goes c s.data.toList k)
    (h1 : c.next.At w1 p) (k1 : Kept (fun k => k = p) wr w1) (h2 : RefAt w2 q s (more c k : Nat)) (k2 : Kept (fun k => k = q) w1 w2) (h3 : Below w2.heap.size w2 w3) : Side w p q s (more c k) w3 := by
  refine ⟨⟨c.next, hg.next, (h1.kept k2 (fun e => hpq e)).below h3⟩, h2.below h3, ?_⟩
  have a1 := kept_new h k1 (fun i hi e => by omega)
  exact bt (kept_new a1 k2 (fun i hi e => by omega)) h3
theorem more_le (c : Cut) (k : Nat) : more c k ≤ k + 1 := by unfold more; split <;> omega

set_option maxRecDepth 100000 in
theorem cuts_main (l : List ByteArray) (asks : List Int) (ao ao2 : Option Addr) (cap b o cap2 b2 o2 : Nat) (w : World) (h1 : SlAt w 1 l.length (l.map Value.string) ao cap b o) (h2 : SlAt w 1 asks.length (asks.map (Value.int .u8)) ao2 cap2 b2 o2)
    (hr : ∀ n ∈ asks, 0 ≤ n ∧ n ≤ 255) :
    Calls Try.prog 3 #[.slice ao l.length cap, .slice ao2 asks.length cap2] w fun e w' => e = .returned (.bool true) ∧ Below w.heap.size w w' := by
  have hidx := h1.idx (P := Try.prog) (t := 22) Try.underlying22 size9 (by decide)
  have hidx2 := h2.idx (P := Try.prog) (t := 23) Try.underlying23 size5 (by decide)
  have hll : asks.length ≤ maxLen := Nat.le_trans h2.le h2.max
  unfold maxLen at hll
  have H1 := Lib.hid h1
  have H2 := Lib.hid h2
  have HR := Lib.hid hr
  clear hr h2
  go_enter Try.func3, Try.ntmps3
  go_wp2_with fail
  refine (few_any l _ _ _ _ _ h1).mono ?_
  rintro e w1 ⟨b', rfl, hfew, rfl⟩
  clear h1
  cases b' with
  | false =>
    clear hfew
    go_wp2_with fail
    refine (works_any _).mono ?_
    rintro e w4 ⟨rfl, hb4⟩
    go_wp2
    go_ret
    exact ⟨rfl, hb4⟩
  | true =>
    obtain ⟨hl40, hsz⟩ := hfew rfl
    have HSZ := Lib.hid hsz
    clear hsz hfew
    by_cases ha : 40 < asks.length
    · have t1 : decide (40 < (asks.length : Int)) = true := by simp; omega
      clear ha
      go_wp2_with fail
      refine (works_any _).mono ?_
      rintro e w4 ⟨rfl, hb4⟩
      go_wp2
      go_ret
      exact ⟨rfl, hb4⟩
    · have t1 : decide (40 < (asks.length : Int)) = false := by simp; omega
      go_wp2_with fail
      refine (cut_new _).mono ?_
      rintro e w2 ⟨rfl, hc2, hb2, hz2⟩
      obtain ⟨p, hp⟩ : ∃ p, p = w.heap.size := ⟨_, rfl⟩
      rw [← hp] at hc2 ⊢
      obtain ⟨q, hq⟩ : ∃ q, q = w2.heap.size := ⟨_, rfl⟩
      have hpq : p < q := by omega
      have hpq2 : p ≠ q := by omega
      have hp0 : w.heap.size ≤ p := by omega
      have hq0 : w.heap.size ≤ q := by omega
      have Hc2 := Lib.hid hc2
      have Hb2 := Lib.hid hb2
      have Hq := Lib.hid hq
      clear hp hc2 hb2 hz2 hq ha
      go_wp2_with fail
      rw [← Hq.out]
      go_loopw [7] (fun t7 wr => ∃ (i k : Nat) (s : ByteArray), i ≤ l.length ∧ t7 = .int .i64 i ∧ s.size ≤ 2000 * i ∧ k ≤ 3 * i ∧ Side w p q s k wr) (fun t7 _ => l.length - (intOf t7).toNat)
      case atStart =>
        refine ⟨0, 0, ⟨#[]⟩, Nat.zero_le _, rfl, Nat.zero_le _, Nat.zero_le _, ⟨⟨_, Goes.start, Hc2.out.below (ba (bz _) _)⟩, ?_, ba Hb2.out _⟩⟩
        rw [Hq.out]
        exact ⟨by simp [go_sem], by simp [go_sem], by simp [go_sem], by simp [go_sem]⟩
      case round =>
        obtain ⟨i, k, s, hi, rfl, hs, hk, hside⟩ := hrel
        have hbel := hside.bel
        have Hbel := Lib.hid hbel
        have hl3 : (l.length : Int) ≤ 40 := by omega
        by_cases hlt : i < l.length
        · have b1 : (0 : Int) ≤ (i : Int) := by omega
          have b2' : (i : Int) < (l.length : Int) := by omega
          obtain ⟨x, hx⟩ : ∃ x, l[i]? = some x := ⟨_, List.getElem?_eq_getElem hlt⟩
          have hxs := HSZ.out x (List.mem_of_getElem? hx)
          have g0 := str_at (H1.out.below' hbel H1.out.lt) hx
          obtain ⟨c, hg, hc⟩ := hside.two
          have href := hside.ref
          have hpos := hg.posle
          rw [len_data] at hpos
          have hfeed := cut_feed c x.data.toList p wr hc (by omega) (by rw [len_data]; omega)
          rw [← strV_eq] at hfeed
          have hg' := hg.feed x.data.toList
          rw [← app_data] at hg'
          have HG := Lib.hid hg'
          have HF := Lib.hid hfeed
          have HRef := Lib.hid href
          have Hx := Lib.hid hx
          have hb' : b ≠ p := fun e => by
            have h3 := H1.out.lt (by simp; omega)
            omega
          have u1 : (s.size : Int) ≤ 8388608 := by omega
          have u2 : (x.size : Int) ≤ 8388608 := by omega
          have hss : (s ++ x).size ≤ 2000 * (i + 1) := by rw [ByteArray.size_append]; omega
          clear hg hc href hpos hfeed hg' hside hx hbel
          go_wp2_with fail
          refine HF.out.mono ?_
          rintro e w3 ⟨rfl, h3, k3⟩
          have hr3 := HRef.out.kept k3 (fun e => hpq2 e.symm)
          have d0 := hr3.c0
          have d1 := hr3.c1
          have e0 := hr3.f0
          have e1 := hr3.f1
          replace g0 := k3.cell g0 (fun e => hb' e)
          have H3 := Lib.hid h3
          have K3 := Lib.hid k3
          clear h3 k3 hr3
          go_wp2_with fail
          go_region
          have hS : Side w p q (s ++ x) k (w3.setCell ⟨q, 0, none⟩ (.string (s ++ x))).drew := by
            have kk := Kept.setCell (S := fun k => k = q) (Kept.refl _ w3) (p := ⟨q, 0, none⟩) (fun _ => rfl) (.string (s ++ x))
            refine ⟨⟨_, HG.out, (H3.out.kept kk hpq2).below (bz _).drew⟩, ⟨by simp [go_sem, d0], by simp [go_sem, d1], by simp [go_sem, e0], by simp [go_sem, e1]⟩, ?_⟩
            exact (kept_new (kept_new Hbel.out K3.out (fun i hi e => by omega)) kk (fun i hi e => by omega)).drew
          obtain ⟨wX, hwX⟩ : ∃ wX, wX = (w3.setCell ⟨q, 0, none⟩ (.string (s ++ x))).drew := ⟨_, rfl⟩
          rw [← hwX] at hS ⊢
          have HS := Lib.hid hS
          clear hS hwX d0 d1 e0 e1 g0 u1 u2
          by_cases hi2 : i < asks.length
          · have hi2' : (i : Int) < (asks.length : Int) := by omega
            obtain ⟨y, hy⟩ : ∃ y, asks[i]? = some y := ⟨_, List.getElem?_eq_getElem hi2⟩
            have g2 := num_at (H2.out.below' HS.out.bel H2.out.lt) hy
            obtain ⟨y0, y1⟩ := HR.out y (List.mem_of_getElem? hy)
            clear hy
            go_wp2_with fail
            obtain ⟨N, hN3⟩ : ∃ N : Nat, y % 4 = (N : Int) := ⟨(y % 4).toNat, by omega⟩
            rw [hN3]
            have hN4 : N ≤ 3 := by omega
            clear hN3
            go_loopw [9] (fun t9 wr2 => ∃ (j k2 : Nat), j ≤ N ∧ t9 = .int .i64 j ∧ k2 ≤ k + j ∧ Side w p q (s ++ x) k2 wr2) (fun t9 _ => N - (intOf t9).toNat)
            case atStart => exact ⟨0, k, Nat.zero_le _, rfl, by omega, HS.out⟩
            case round =>
              obtain ⟨j, k2, hj, rfl, hk2, hs2⟩ := hrel
              obtain ⟨c', hg', hc'⟩ := hs2.two
              have href' := hs2.ref
              have hbel' := hs2.bel
              by_cases hjt : j < N
              · have hjt' : (j : Int) < (N : Int) := by omega
                have hN := next_goes c' p (s ++ x) k2 _ hc' (by omega) hg'
                have hRN := fun W h => rnext_goes c' q (s ++ x) k2 W h (by omega) (by omega) hg'
                have hFD := fun W h => fed_goes c'.next p (s ++ x) (more c' k2) W h (by omega) hg'.next
                obtain ⟨A, hA'⟩ : ∃ A, A = payF c'.rest := ⟨_, rfl⟩
                obtain ⟨B, hB'⟩ : ∃ B, B = c'.pos := ⟨_, rfl⟩
                obtain ⟨D, hD'⟩ : ∃ D, D = (lookF c'.rest).1 := ⟨_, rfl⟩
                rw [← hA', ← hB', ← hD'] at hN hRN
                unfold strV at hN hRN
                have HN := Lib.hid hN
                have HRN := Lib.hid hRN
                have HFD := Lib.hid hFD
                have HREF := Lib.hid href'
                have HBEL := Lib.hid hbel'
                have HG2 := Lib.hid hg'
                clear hA' hB' hD' hN hRN hFD href' hbel' hs2 hc' hg'
                go_wp2_with fail
                refine HN.out.mono ?_
                rintro e wA ⟨rfl, hA, kA⟩
                have HA := Lib.hid hA
                have KA := Lib.hid kA
                clear hA kA
                go_wp2_with fail
                refine (HRN.out _ (HREF.out.kept KA.out (fun e => hpq2 e.symm))).mono ?_
                rintro e wB ⟨rfl, hRB, kB⟩
                have d0 := hRB.c0
                have hcB := HA.out.kept kB (fun e => hpq2 e)
                have hfq := fun n => HFD.out (wB.drewN n) (hcB.below (below_drewN (bz wB) n))
                have HFQ := Lib.hid hfq
                have HRB := Lib.hid hRB
                have KB := Lib.hid kB
                clear hcB hfq hRB kB
                go_wp2_with fail
                go_quiet ((go_at_call 15; exact Calls.quiet_of (HFQ.out _)))
                go_wp2_with fail
                go_roundw
                case rel => exact ⟨j + 1, more c' k2, by omega, by go_num, by have := more_le c' k2; omega, Side.step HBEL.out hp0 hq0 hpq2 HG2.out HA.out KA.out HRB.out KB.out (below_drewN (bz wB) _)⟩
                case measure => simp [intOf]; omega
              · have hjt' : decide ((j : Int) < (N : Int)) = false := by simp; omega
                have HS2 := Lib.hid hs2
                clear hs2 href' hbel' hc' hg'
                go_wp2_with fail
                go_roundw
                case rel => exact ⟨i + 1, k2, s ++ x, by omega, by go_num, hss, by omega, HS2.out⟩
                case measure => simp [intOf]; omega
          · have hi2' : decide ((i : Int) < (asks.length : Int)) = false := by simp; omega
            go_wp2_with fail
            go_loopw [9] (fun t9 wr2 => ∃ (j k2 : Nat), j ≤ 2 ∧ t9 = .int .i64 j ∧ k2 ≤ k + j ∧ Side w p q (s ++ x) k2 wr2) (fun t9 _ => 2 - (intOf t9).toNat)
            case atStart => exact ⟨0, k, Nat.zero_le _, rfl, by omega, HS.out⟩
            case round =>
              obtain ⟨j, k2, hj, rfl, hk2, hs2⟩ := hrel
              obtain ⟨c', hg', hc'⟩ := hs2.two
              have href' := hs2.ref
              have hbel' := hs2.bel
              by_cases hjt : j < 2
              · have hjt' : (j : Int) < 2 := by omega
                have hN := next_goes c' p (s ++ x) k2 _ hc' (by omega) hg'
                have hRN := fun W h => rnext_goes c' q (s ++ x) k2 W h (by omega) (by omega) hg'
                have hFD := fun W h => fed_goes c'.next p (s ++ x) (more c' k2) W h (by omega) hg'.next
                obtain ⟨A, hA'⟩ : ∃ A, A = payF c'.rest := ⟨_, rfl⟩
                obtain ⟨B, hB'⟩ : ∃ B, B = c'.pos := ⟨_, rfl⟩
                obtain ⟨D, hD'⟩ : ∃ D, D = (lookF c'.rest).1 := ⟨_, rfl⟩
                rw [← hA', ← hB', ← hD'] at hN hRN
                unfold strV at hN hRN
                have HN := Lib.hid hN
                have HRN := Lib.hid hRN
                have HFD := Lib.hid hFD
                have HREF := Lib.hid href'
                have HBEL := Lib.hid hbel'
                have HG2 := Lib.hid hg'
                clear hA' hB' hD' hN hRN hFD href' hbel' hs2 hc' hg'
                go_wp2_with fail
                refine HN.out.mono ?_
                rintro e wA ⟨rfl, hA, kA⟩
                have HA := Lib.hid hA
                have KA := Lib.hid kA
                clear hA kA
                go_wp2_with fail
                refine (HRN.out _ (HREF.out.kept KA.out (fun e => hpq2 e.symm))).mono ?_
                rintro e wB ⟨rfl, hRB, kB⟩
                have d0 := hRB.c0
                have hcB := HA.out.kept kB (fun e => hpq2 e)
                have hfq := fun n => HFD.out (wB.drewN n) (hcB.below (below_drewN (bz wB) n))
                have HFQ := Lib.hid hfq
                have HRB := Lib.hid hRB
                have KB := Lib.hid kB
                clear hcB hfq hRB kB
                go_wp2_with fail
                go_quiet ((go_at_call 15; exact Calls.quiet_of (HFQ.out _)))
                go_wp2_with fail
                go_roundw
                case rel => exact ⟨j + 1, more c' k2, by omega, by go_num, by have := more_le c' k2; omega, Side.step HBEL.out hp0 hq0 hpq2 HG2.out HA.out KA.out HRB.out KB.out (below_drewN (bz wB) _)⟩
                case measure => simp [intOf]; omega
              · have hjt' : decide ((j : Int) < 2) = false := by simp; omega
                have HS2 := Lib.hid hs2
                clear hs2 href' hbel' hc' hg'
                go_wp2_with fail
                go_roundw
                case rel => exact ⟨i + 1, k2, s ++ x, by omega, by go_num, hss, by omega, HS2.out⟩
                case measure => simp [intOf]; omega
        · have hil : ¬ ((i : Int) < (l.length : Int)) := by omega
          clear hside hbel
          go_wp2_with fail
          refine (works_any _).mono ?_
          rintro e w4 ⟨rfl, hb4⟩
          go_wp2
          go_ret
          exact ⟨rfl, bt Hbel.out hb4⟩
end Go.Proofs.Ytkjcpdogibbahaa
