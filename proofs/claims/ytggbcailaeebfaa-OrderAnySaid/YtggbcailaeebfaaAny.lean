/- OrderAny: if all reads are beginnings of one list, all are taken. -/
import Derived.Test.YtggbcailaeebfaaWorks
import Derived.Deep.AppendLies
namespace Go.Proofs.Ytggbcailaeebfaa
open Go.RowKit Go.Um
set_option maxHeartbeats 2000000

theorem size5 : (Try.prog.info? 5).map (·.size) = some 1 := by kernel_rfl
theorem u8_at {w : World} {l : List Int} {ao : Option Addr} {n cap b o k : Nat} {x : Int} (h : SlAt w 1 n (l.map (Value.int .u8)) ao cap b o) (hx : l[k]? = some x) :
    w.cell? ⟨b, o + k, none⟩ = some (.int .u8 x) := h.cell k _ (by simp [hx])
/-- the lists when one key alone has a list -/
def oneL (kk : Nat) (l : List Int) : Nat → List Int := fun j => if j = kk then l else []
theorem oneL_nil (kk : Nat) : oneL kk [] = fun _ => [] := by funext j; unfold oneL; split <;> rfl
theorem take_max (A : List Int) (kk n m : Nat) (hk : kk < 8) (hA : A.Nodup) (hl : A.length ≤ 32) (hn : n ≤ A.length) (hm : m ≤ A.length) :
    takeB (oneL kk (A.take m)) kk (A.take n) = true ∧ takeE kk (A.take n) = 0 ∧ takeL (oneL kk (A.take m)) kk (A.take n) = oneL kk (A.take (max m n)) := by
  have e : oneL kk (A.take m) kk = A.take m := if_pos rfl
  have hln : (A.take n).length = n := by rw [List.length_take]; omega
  have hlm : (A.take m).length = m := by rw [List.length_take]; omega
  have hd : (A.take n).Nodup := hA.sublist (List.take_sublist n A)
  have hB : takeB (oneL kk (A.take m)) kk (A.take n) = (bgn (A.take n) (A.take m) || bgn (A.take m) (A.take n)) := by
    unfold takeB
    rw [decide_eq_true hk, decide_eq_true (by omega : (A.take n).length ≤ 32), decide_eq_true hd, e]; simp
  have hE : takeE kk (A.take n) = 0 := by unfold takeE; rw [if_neg (by omega), if_neg (by omega)]
  by_cases hnm : n ≤ m
  · have h1 : bgn (A.take n) (A.take m) = true := decide_eq_true ((List.take_prefix_take_left hnm))
    refine ⟨by rw [hB, h1]; rfl, hE, ?_⟩
    unfold takeL
    rw [e, h1, if_neg (by simp), Nat.max_eq_left hnm]
  · have h1 : bgn (A.take m) (A.take n) = true := decide_eq_true ((List.take_prefix_take_left (by omega)))
    have h2 : bgn (A.take n) (A.take m) = false := bgn_long (by omega)
    refine ⟨by rw [hB, h1, h2]; rfl, hE, ?_⟩
    unfold takeL
    rw [hB, e, h1, h2, if_pos (by simp), Nat.max_eq_right (by omega)]
    funext j
    unfold setL oneL
    split <;> rfl
theorem keyL_one (kk : Nat) (l : List Int) (h : kk < 8) : keyL (oneL kk l) kk = l := by unfold keyL oneL; rw [if_pos h, if_pos rfl]

theorem oany_big (v0 v1 v2 : Value) (n m : Nat) (ao ao' : Option Addr) (cap cap' : Nat) (w : World) (e0 : v0 = .slice ao n cap) (e1 : v1 = .slice ao' m cap') (hbig : 100 < n ∨ 50 < m) :
    Calls Try.prog 5 #[v0, v1, v2] w fun e w' => e = .returned (.bool true) ∧ Below w.heap.size w w' := by
  subst e0 e1
  have hc : decide (100 < (n : Int)) = true ∨ (decide (100 < (n : Int)) = false ∧ decide (50 < (m : Int)) = true) := by simp; omega
  clear hbig
  rcases hc with t1 | ⟨t1, t2⟩
  all_goals
    go_enter Try.func5, Try.ntmps5
    go_wp2_with fail
    refine (works_any _).mono ?_
    rintro e w1 ⟨rfl, hb⟩
    go_wp2
    go_ret
    exact ⟨rfl, hb⟩

set_option maxRecDepth 100000 in
theorem oany_small (raw cuts : List Int) (K : Nat) (ao ao' : Option Addr) (cap b o cap' b' o' : Nat) (w : World) (h : SlAt w 1 raw.length (us raw) ao cap b o) (h' : SlAt w 1 cuts.length (cuts.map (Value.int .u8)) ao' cap' b' o')
    (hr : ∀ n ∈ cuts, 0 ≤ n ∧ n ≤ 255) (hK : K ≤ 255) (hl1 : raw.length ≤ 100) (hl2 : cuts.length ≤ 50) :
    Calls Try.prog 5 #[.slice ao raw.length cap, .slice ao' cuts.length cap', .int .u8 K] w fun e w' => e = .returned (.bool true) ∧ Below w.heap.size w w' := by
  obtain ⟨i0, hi, iz0, iz1, iz2⟩ := info_parts info37
  have t1 : decide (100 < (raw.length : Int)) = false := by simp; omega
  have t2 : decide (50 < (cuts.length : Int)) = false := by simp; omega
  have hidx := h.idx (P := Try.prog) (t := 22) Try.underlying22 size37 (by decide)
  have hidx' := h'.idx (P := Try.prog) (t := 36) Try.underlying36 size5 (by decide)
  obtain ⟨kk, hkk⟩ : ∃ kk : Nat, kk = K % 8 := ⟨_, rfl⟩
  have hkk8 : kk < 8 := by omega
  have hk8 : (K : Int) % 8 = (kk : Int) := by omega
  have H := Lib.hid h
  have H' := Lib.hid h'
  have HR := Lib.hid hr
  clear h h' hr hkk
  go_enter Try.func5, Try.ntmps5
  go_wp2_with fail
  go_loopw [7, 8] (fun t7 t8 wr => ∃ (k : Nat) (A : List Int), k ≤ raw.length ∧ t8 = .int .i64 k ∧ wr.ownsRow w.heap.size 37 1 t7 A.length (us A) ∧ Hid (A.Nodup) ∧ A.length ≤ 32 ∧ Below w.heap.size w wr) (fun _ t8 _ => raw.length - (intOf t8).toNat)
  case atStart => exact ⟨0, [], Nat.zero_le _, rfl, World.ownsRow_nil _ _ _ _, List.nodup_nil, by decide, bz w⟩
  case round =>
    obtain ⟨k, A, hk, rfl, hown, hnd, hA, hbel⟩ := hrel
    obtain ⟨aoA, capA, bA, oA, hvA, hsA, hbA⟩ := SlAt.owned hown
    have hsz := hbel.size
    by_cases hgo : k < raw.length ∧ A.length < 32
    · obtain ⟨hlt, hA32⟩ := hgo
      obtain ⟨x, hx⟩ : ∃ x, raw[k]? = some x := ⟨_, List.getElem?_eq_getElem hlt⟩
      have g0 := val_at (H.out.below' hbel H.out.lt) hx
      have hidxA := hsA.idx (P := Try.prog) (t := 22) Try.underlying22 size37 (by decide)
      rw [← hvA] at hidxA
      have k0 : (0 : Int) ≤ (k : Int) := by omega
      have k1 : (k : Int) < (raw.length : Int) := by omega
      have k2 : decide ((A.length : Int) < 32) = true := by simp; omega
      have hvl : u7 = .slice aoA A.length capA := hvA
      have HSA := Lib.hid hsA
      have HOWN := Lib.hid hown
      have HBEL := Lib.hid hbel
      have HVL := Lib.hid hvl
      have HX := Lib.hid hx
      rw [hvl]
      rw [hvl] at hidxA
      clear hvl hvA hsA hbA hown hbel hx
      go_wp2_with fail
      obtain ⟨w0, hw0⟩ : ∃ w0, w0 = wr := ⟨_, rfl⟩
      go_loopw [9, 10] (fun t9 t10 wq => ∃ j : Nat, j ≤ A.length ∧ t10 = .int .i64 j ∧ t9 = .bool (decide (x ∈ A.take j)) ∧ Hid (Qt w0 wq)) (fun _ t10 _ => A.length - (intOf t10).toNat)
      case atStart => exact ⟨0, Nat.zero_le _, rfl, by simp, by rw [hw0]; exact Qt.refl _⟩
      case round =>
        obtain ⟨j, hj, rfl, rfl, hq⟩ := hrel
        by_cases hjl : j < A.length
        · obtain ⟨y, hy⟩ : ∃ y, A[j]? = some y := ⟨_, List.getElem?_eq_getElem hjl⟩
          subst hw0
          have g1 := val_at (HSA.out.below hq.out.below) hy
          have g0' := cell_past hq.out.below g0
          have hsn : (x ∈ A.take (j + 1)) ↔ (x ∈ A.take j ∨ x = y) := by
            rw [List.take_add_one, hy]; simp
          have j0 : (0 : Int) ≤ (j : Int) := by omega
          have j1 : (j : Int) < (A.length : Int) := by omega
          have HSN := Lib.hid hsn
          clear hsn hy
          by_cases hm : x ∈ A.take j
          · have hd : decide (x ∈ A.take j) = true := decide_eq_true hm
            have hd2 : decide (x ∈ A.take (j + 1)) = true := decide_eq_true (HSN.out.2 (.inl hm))
            have HD2 := Lib.hid hd2
            rw [hd]
            clear hm hd hd2
            go_wp2_with fail
            go_quiet (fail)
            go_wp2_with fail
            go_roundw
            case rel => exact ⟨j + 1, by omega, by go_num, by rw [HD2.out], hq.out.drewN _⟩
            case measure => simp [intOf]; omega
          · have hd : decide (x ∈ A.take j) = false := decide_eq_false hm
            by_cases hxy : y = x
            · have hd2 : decide (x ∈ A.take (j + 1)) = true := decide_eq_true (HSN.out.2 (.inr hxy.symm))
              have t5 : (y == x) = true := by simp [hxy]
              have HD2 := Lib.hid hd2
              rw [hd]
              clear hm hd hd2 hxy
              go_wp2_with fail
              go_quiet (fail)
              go_wp2_with fail
              go_roundw
              case rel => exact ⟨j + 1, by omega, by go_num, by rw [HD2.out], hq.out.drewN _⟩
              case measure => simp [intOf]; omega
            · have hd2 : decide (x ∈ A.take (j + 1)) = false := decide_eq_false (fun h => (HSN.out.1 h).elim hm (fun e => hxy e.symm))
              have t5 : (y == x) = false := by simp [hxy]
              have HD2 := Lib.hid hd2
              rw [hd]
              clear hm hd hd2 hxy
              go_wp2_with fail
              go_quiet (fail)
              go_wp2_with fail
              go_roundw
              case rel => exact ⟨j + 1, by omega, by go_num, by rw [HD2.out], hq.out.drewN _⟩
              case measure => simp [intOf]; omega
        · have hjA : A.take j = A := List.take_of_length_le (by omega)
          rw [hjA]
          subst hw0
          have g0' := cell_past hq.out.below g0
          have hB := HBEL.out.trans (hq.out.below.mono hsz)
          have hown2 := own_past HOWN.out hq.out.below
          have hz2 := hB.size
          have HB := Lib.hid hB
          have nj : ¬ ((j : Int) < (A.length : Int)) := by omega
          clear hjA hB
          by_cases hm : x ∈ A
          · have hd : decide (x ∈ A) = true := decide_eq_true hm
            rw [hd]
            clear hm hd
            go_wp2_with fail
            rw [← HVL.out]
            go_roundw
            case rel => exact ⟨k + 1, A, by omega, by go_num, hown2, hnd, by omega, HB.out⟩
            case measure => simp [intOf]; omega
          · have hd : decide (x ∈ A) = false := decide_eq_false hm
            have HM := Lib.hid hm
            rw [hd]
            clear hm hd
            rw [HVL.out] at hown2
            go_wp2_with (at_builtin; refine wpList_append_own _ rfl (.tmp 57) (.tmp 62) 22 rfl w.heap.size 37 i0 (.int .u16 0) 1 2 Try.underlying22 hi iz0 iz1 iz2 rfl (by decide) _ _ _ rfl (hown2.alloc _) ⟨wr.heap.size, 0, none⟩ 1 1 [.int .u16 x] rfl rfl (new_cells _ _ _ _ (by simp)) (by simp [Value.oneCell']) (by unfold maxLen; omega) (by omega) (by simp; omega) ?_)
            intro v' w4 hown4 hgrow4 _
            have hb4 : Below w.heap.size w w4 := below_own (HB.out.alloc hz2 _) (hown2.alloc _) hgrow4 (Nat.le_refl _) (by simp; omega)
            go_wp2_with fail
            go_roundw
            case rel =>
              refine ⟨k + 1, A ++ [x], by omega, by go_num, by simpa [us] using hown4, ?_, by rw [List.length_append]; simp; omega, hb4⟩
              show (A ++ [x]).Nodup
              rw [List.nodup_append]
              refine ⟨hnd.out, by simp, fun a ha c hc e => ?_⟩
              obtain rfl : c = x := by simpa using hc
              subst e
              exact HM.out ha
            case measure => simp [intOf]; omega
    · have hex : (decide ((k : Int) < (raw.length : Int)) = true ∧ decide ((A.length : Int) < 32) = false ∧ decide (k < raw.length) = true) ∨ (decide ((k : Int) < (raw.length : Int)) = false ∧ ¬ ((k : Int) < (raw.length : Int)) ∧ decide (k < raw.length) = false) := by
        by_cases h1 : k < raw.length
        · left; simp; omega
        · right; simp; omega
      rw [hvA]
      obtain ⟨p, hp⟩ : ∃ p, p = wr.heap.size := ⟨_, rfl⟩
      have hwp : w.heap.size ≤ p := by omega
      have hAp : 0 < (us A).length → ¬ bA = p := fun hq e => by have := hsA.lt hq; omega
      have hcap := hsA.le
      have HSA := Lib.hid hsA
      have HBEL := Lib.hid hbel
      have HAP := Lib.hid hAp
      have HP := Lib.hid hp
      have HND := Lib.hid hnd.out
      clear hvA hsA hbel hAp hp hown hbA hgo hnd
      rcases hex with ⟨x1, x2, x3⟩ | ⟨x1, x2, x3⟩
      all_goals
        go_wp2_with fail
        refine (new_any _).mono ?_
        rintro e w1 ⟨rfl, ho1, hb1, hz1⟩
        rw [← HP.out] at ho1 ⊢
        have HSA1 := Lib.hid (HSA.out.below hb1)
        have HB1 := Lib.hid (HBEL.out.trans (hb1.mono hsz))
        have HO1 : Hid (OrdAt (fun _ => True) w1 p (oneL kk (A.take 0))) := Lib.hid (by rw [List.take_zero, oneL_nil]; exact ho1.mono (fun _ _ h => trivial))
        clear ho1 hb1 hz1
        go_wp2_with fail
        go_loopw [12, 13] (fun t12 t13 wz => ∃ i m : Nat, i ≤ cuts.length ∧ m ≤ A.length ∧ t13 = .int .i64 i ∧ t12 = .int .i64 m ∧ Hid (OrdAt (fun _ => True) wz p (oneL kk (A.take m))) ∧ Hid (Kept (fun b => b = p) w1 wz)) (fun _ t13 _ => cuts.length - (intOf t13).toNat)
        case atStart => exact ⟨0, 0, Nat.zero_le _, Nat.zero_le _, rfl, rfl, HO1.out, Kept.refl _ _⟩
        case round =>
          obtain ⟨i, m, hi', hm, rfl, rfl, hord, hkept⟩ := hrel
          have hB := kept_new HB1.out hkept.out (fun i hi e => by omega)
          by_cases hlt : i < cuts.length
          · obtain ⟨y, hy⟩ : ∃ y, cuts[i]? = some y := ⟨_, List.getElem?_eq_getElem hlt⟩
            have g0 := u8_at (H'.out.below' hB H'.out.lt) hy
            obtain ⟨y0, y1⟩ := HR.out y (List.mem_of_getElem? hy)
            obtain ⟨Y, hY⟩ : ∃ Y : Nat, y = (Y : Int) := ⟨y.toNat, by omega⟩
            subst hY
            obtain ⟨n, hn⟩ : ∃ n : Nat, n = Y % (A.length + 1) := ⟨_, rfl⟩
            have hnA : n ≤ A.length := by rw [hn]; have := Nat.mod_lt Y (show 0 < A.length + 1 by omega); omega
            have hn2 : (Y : Int) % ((A.length : Int) + 1) = (n : Int) := by rw [hn]; rfl
            have z1 : (((A.length : Int) + 1) == 0) = false := by rw [beq_eq_false_iff_ne]; omega
            have i0' : (0 : Int) ≤ (i : Int) := by omega
            have i1' : (i : Int) < (cuts.length : Int) := by omega
            have n0 : (0 : Int) ≤ (n : Int) := by omega
            have n1 : (n : Int) ≤ (capA : Int) := by have := HSA1.out.le; omega
            have htk := take_any (fun _ => True) p kk (oneL kk (A.take m)) (A.take n) aoA capA bA oA _ hord.out (slat_take (slat_kept HSA1.out hkept.out HAP.out) n hnA) (by rw [List.length_take]; omega) (by omega)
            obtain ⟨e1, e2, e3⟩ := take_max A kk n m hkk8 HND.out hA hnA hm
            unfold TakePost at htk
            rw [e1, e2, e3, show (A.take n).length = n from by rw [List.length_take]; omega] at htk
            have HTK := Lib.hid htk
            clear htk e1 e2 e3 hy hn
            have HKO := Lib.hid (show keyL (oneL kk (A.take (max m n))) kk = A.take (max m n) from keyL_one kk _ hkk8)
            have HKL := Lib.hid (show (A.take (max m n)).length = max m n from by rw [List.length_take]; omega)
            have hcase : (n ≤ m ∧ max m n = m) ∨ (¬ n ≤ m ∧ max m n = n) := by omega
            rcases hcase with ⟨hnm, hmx⟩ | ⟨hnm, hmx⟩
            all_goals
              rw [hmx] at HTK HKO HKL
              clear hmx
              go_wp2_with fail
              refine HTK.out.mono ?_
              rintro e w2 ⟨rfl, ho2, k2⟩
              have hof := of_any _ p kk _ w2 ho2 (by omega)
              rw [HKO.out] at hof
              unfold OwnPost at hof
              rw [HKL.out] at hof
              have HOF := Lib.hid hof
              have HO2 := Lib.hid ho2
              have HK2 := Lib.hid (hkept.out.trans k2 (fun _ _ h => h))
              clear hof ho2 k2
              go_wp2_with fail
              refine HOF.out.mono ?_
              rintro e w3 ⟨v3, rfl, hown3, hb3⟩
              obtain ⟨ao3, cap3, b3, o3, rfl, _, _⟩ := SlAt.owned hown3
              have HO3 := Lib.hid ((HO2.out.below hb3).mono (S' := fun _ => True) (fun _ _ _ => trivial))
              have HK3 := Lib.hid (HK2.out.trans (S' := fun b => b = p) ((Kept.of_below hb3).mono (fun i hi h => absurd h (by omega))) (fun _ _ h => h))
              clear hown3 hb3
              go_wp2_with fail
              go_roundw
              case rel => exact ⟨i + 1, _, by omega, by omega, by go_num, rfl, HO3.out, HK3.out⟩
              case measure => simp [intOf]; omega
          · have hin : ¬ ((i : Int) < (cuts.length : Int)) := by omega
            have hlm : (A.take m).length = m := by rw [List.length_take]; omega
            have hSM := slat_take (slat_kept HSA1.out hkept.out HAP.out) m hm
            have m0 : (0 : Int) ≤ (m : Int) := by omega
            have m1 : (m : Int) ≤ (capA : Int) := by have := HSA1.out.le; omega
            have HLM := Lib.hid hlm
            have HSM := Lib.hid hSM
            have HB := Lib.hid hB
            have HOF' : Hid (∀ W, Below wr.heap.size wr W → Calls Try.prog 14 #[.pointer (some ⟨p, 0, none⟩), .int .u8 kk] W (fun e w' => ∃ v, e = .returned v ∧ w'.ownsRow W.heap.size 37 1 v m (us (A.take m)) ∧ Below W.heap.size W w')) := fun W hb => by
              have h5 := of_any _ p kk _ W (hord.out.below hb) (by omega)
              rw [keyL_one kk _ hkk8] at h5
              unfold OwnPost at h5
              rwa [HLM.out] at h5
            have HSAME : Hid (∀ ao3 cap3 b3 o3 W, SlAt W 1 m (us (A.take m)) ao3 cap3 b3 o3 → Below wr.heap.size wr W → Calls Try.prog 16 #[.slice ao3 m cap3, .slice aoA m capA] W (fun e w' => e = .returned (.bool true) ∧ Qt W w')) := fun ao3 cap3 b3 o3 W h3 hb => by
              have h5 := same_any (A.take m) (A.take m) ao3 aoA cap3 b3 o3 capA bA oA W (by rw [HLM.out]; exact h3) (HSM.out.below hb) (by rw [HLM.out]; omega)
              unfold SamePost at h5
              rwa [HLM.out, decide_eq_true (rfl : A.take m = A.take m)] at h5
            clear hlm hSM hB
            go_wp2_with fail
            have hkt : (K : Int).tmod 8 = (kk : Int) := by rw [Int.tmod_eq_emod_of_nonneg (by omega)]; exact hk8
            go_region_held3 (fun _ => True) (trivial) (first
              | (go_at_call 14; refine (HOF'.out _ (by repeat (first | (with_reducible exact bz wr) | (with_reducible apply ba) | (with_reducible apply Below.drew) | (with_reducible apply below_drewN)))).mono ?_; rintro e w3 ⟨v3, rfl, hown3, hb3⟩; obtain ⟨ao3, cap3, b3, o3, rfl, hs3, _⟩ := SlAt.owned hown3; have HS3 := Lib.hid hs3; have HB3 : Hid (Below wr.heap.size wr w3) := bt (by repeat (first | (with_reducible exact bz wr) | (with_reducible apply ba) | (with_reducible apply Below.drew) | (with_reducible apply below_drewN))) hb3; clear hown3 hs3 hb3)
              | (go_at_call 16; refine (HSAME.out _ _ _ _ _ (HS3.out.below (by repeat (first | (with_reducible exact bz w3) | (with_reducible apply ba) | (with_reducible apply Below.drew) | (with_reducible apply below_drewN)))) (by repeat (first | (with_reducible exact HB3.out) | (with_reducible apply ba) | (with_reducible apply Below.drew) | (with_reducible apply below_drewN)))).mono ?_; rintro e w4 ⟨rfl, hq4⟩; have HB4 : Hid (Below w3.heap.size w3 w4) := bt (by repeat (first | (with_reducible exact bz w3) | (with_reducible apply ba) | (with_reducible apply Below.drew) | (with_reducible apply below_drewN))) hq4.below; clear hq4)
              | (go_at_call 9; refine (works_any _).mono ?_; rintro e w5 ⟨rfl, hb5⟩; have HB5 : Hid (Below w4.heap.size w4 w5) := bt (by repeat (first | (with_reducible exact bz w4) | (with_reducible apply ba) | (with_reducible apply Below.drew) | (with_reducible apply below_drewN))) hb5; clear hb5))
            all_goals go_wp2
            all_goals go_ret
            all_goals exact ⟨by simp, by first | (with_reducible exact bt (bt (bt HB.out HB3.out) HB4.out) HB5.out) | exact (bt (bt (bt HB.out HB3.out) HB4.out) HB5.out).drew⟩

theorem oany_any (raw cuts : List Int) (key : Int) (ao ao' : Option Addr) (cap b o cap' b' o' : Nat) (w : World) (h : SlAt w 1 raw.length (us raw) ao cap b o) (h' : SlAt w 1 cuts.length (cuts.map (Value.int .u8)) ao' cap' b' o')
    (hr : ∀ n ∈ cuts, 0 ≤ n ∧ n ≤ 255) (hK : 0 ≤ key ∧ key ≤ 255) :
    Calls Try.prog 5 #[.slice ao raw.length cap, .slice ao' cuts.length cap', .int .u8 key] w fun e w' => e = .returned (.bool true) ∧ Below w.heap.size w w' := by
  by_cases hbig : 100 < raw.length ∨ 50 < cuts.length
  · exact oany_big _ _ _ _ _ _ _ _ _ w rfl rfl hbig
  · obtain ⟨K, rfl⟩ := Int.eq_ofNat_of_zero_le hK.1
    exact oany_small raw cuts K ao ao' cap b o cap' b' o' w h h' hr (by omega) (by omega) (by omega)
end Go.Proofs.Ytggbcailaeebfaa
