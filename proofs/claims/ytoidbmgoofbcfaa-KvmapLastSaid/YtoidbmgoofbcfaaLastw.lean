/- KvmapLast: Get answers what was put last at its key. Printed by gen_last.py. -/
import Derived.Test.YtoidbmgoofbcfaaAwake
namespace Go.Proofs.Ytoidbmgoofbcfaa
open Go.RowKit Go.Um
set_option linter.unusedSimpArgs false
set_option linter.unusedVariables false
set_option maxHeartbeats 4000000
set_option maxRecDepth 100000

theorem length_out (s : KV) (l : List Op5) : ∀ k, k ≤ l.length → (outN s l k).length = k
  | 0, _ => rfl
  | k + 1, h => by
    rw [outN_succ (List.getElem?_eq_getElem (by omega)), List.length_append, length_out s l k (by omega)]; rfl
theorem out_at (s : KV) (l : List Op5) (k : Nat) (x : Op5) (hx : l[k]? = some x) : ∀ m, m ≤ l.length → k < m → (outN s l m)[k]? = some (stp (stN s l k) x).2.1
  | 0, _, hk => absurd hk (Nat.not_lt_zero _)
  | m + 1, hm, hk => by
    have hy : l[m]? = some (l[m]'(by omega)) := List.getElem?_eq_getElem (by omega)
    have hlen := length_out s l m (by omega)
    rw [outN_succ hy]
    by_cases e : k = m
    · subst e
      rw [hx] at hy
      obtain rfl := (Option.some.inj hy).symm
      rw [List.getElem?_append_right (by omega), hlen, Nat.sub_self]
      rfl
    · rw [List.getElem?_append_left (by omega)]
      exact out_at s l k x hx m (by omega) (by omega)
theorem known_at {l : List Op5} {k : Nat} {x : Op5} (hx : l[k]? = some x) (hk : k < stopAt l) : known x = true := by
  unfold stopAt at hk
  induction l generalizing k with
  | nil => simp at hx
  | cons y l ih =>
    by_cases hy : known y = true
    · cases k with
      | zero => simp at hx; subst hx; exact hy
      | succ k => rw [List.takeWhile_cons_of_pos hy] at hk; exact ih (k := k) (by simpa using hx) (by simpa using hk)
    · rw [List.takeWhile_cons_of_neg hy] at hk; simp at hk

/-- the two arrays at the head of a round -/
structure LInv (T V : Nat) (st : KV) (u : Nat → Int) (wr : World) : Prop where
  t : ∀ K, K < 8 → wr.cell? ⟨T, K, none⟩ = some (.bool (st.has K))
  tf : ∀ K, K < 8 → wr.frozen? ⟨T, K, none⟩ = false
  v : ∀ K, K < 8 → wr.cell? ⟨V, K, none⟩ = some (.int .u16 (u K))
  vf : ∀ K, K < 8 → wr.frozen? ⟨V, K, none⟩ = false
  e : ∀ K, K < 8 → st.has K = true → u K = st.get K
theorem LInv.tlt {T V : Nat} {st : KV} {u : Nat → Int} {wr : World} (h : LInv T V st u wr) : T < wr.heap.size := World.block_lt_of_cell? wr _ (h.t 0 (by omega))
theorem LInv.vlt {T V : Nat} {st : KV} {u : Nat → Int} {wr : World} (h : LInv T V st u wr) : V < wr.heap.size := World.block_lt_of_cell? wr _ (h.v 0 (by omega))
theorem LInv.below {T V : Nat} {st : KV} {u : Nat → Int} {wr w' : World} (h : LInv T V st u wr) (hb : Below wr.heap.size wr w') : LInv T V st u w' :=
  ⟨fun K hK => kc hb _ _ _ (h.t K hK), fun K hK => kf hb _ _ h.tlt (h.tf K hK), fun K hK => kc hb _ _ _ (h.v K hK), fun K hK => kf hb _ _ h.vlt (h.vf K hK), h.e⟩
structure LArr (T V : Nat) (t : Nat → Bool) (u : Nat → Int) (wr : World) : Prop where
  t : ∀ K, K < 8 → wr.cell? ⟨T, K, none⟩ = some (.bool (t K))
  tf : ∀ K, K < 8 → wr.frozen? ⟨T, K, none⟩ = false
  v : ∀ K, K < 8 → wr.cell? ⟨V, K, none⟩ = some (.int .u16 (u K))
  vf : ∀ K, K < 8 → wr.frozen? ⟨V, K, none⟩ = false
theorem LInv.arr {T V : Nat} {st : KV} {u : Nat → Int} {w : World} (h : LInv T V st u w) : LArr T V st.has u w := ⟨h.t, h.tf, h.v, h.vf⟩
theorem LArr.below {T V : Nat} {t : Nat → Bool} {u : Nat → Int} {wr w' : World} (h : LArr T V t u wr) (hb : Below wr.heap.size wr w') : LArr T V t u w' :=
  have h1 : T < wr.heap.size := World.block_lt_of_cell? wr _ (h.t 0 (by omega))
  have h2 : V < wr.heap.size := World.block_lt_of_cell? wr _ (h.v 0 (by omega))
  ⟨fun K hK => kc hb _ _ _ (h.t K hK), fun K hK => kf hb _ _ h1 (h.tf K hK), fun K hK => kc hb _ _ _ (h.v K hK), fun K hK => kf hb _ _ h2 (h.vf K hK)⟩
theorem LInv.of {T V : Nat} {t : Nat → Bool} {st : KV} {u : Nat → Int} {w : World} (h : LArr T V t u w) (ht : ∀ j, j < 8 → t j = st.has j) (he : ∀ j, j < 8 → st.has j = true → u j = st.get j) : LInv T V st u w :=
  ⟨fun j hj => by rw [← ht j hj]; exact h.t j hj, h.tf, h.v, h.vf, he⟩
theorem LArr.setT {T V : Nat} {t : Nat → Bool} {u : Nat → Int} {w : World} (h : LArr T V t u w) (hne : ¬ T = V) (K : Nat) (hK : K < 8) (q : Bool) : LArr T V (fun j => if j = K then q else t j) u (w.setCell ⟨T, K, none⟩ (.bool q)) := by
  refine ⟨fun j hj => ?_, fun j hj => by rw [World.frozen?_setCell]; exact h.tf j hj, fun j hj => ?_, fun j hj => by rw [World.frozen?_setCell]; exact h.vf j hj⟩
  · by_cases e : j = K
    · subst e; simp only [if_true]; exact World.cell?_setCell_same w _ _ (h.t j hj)
    · simp only [if_neg e]; rw [World.cell?_setCell_other _ _ _ _ (by intro e2; injection e2 with _ e3; omega)]; exact h.t j hj
  · rw [World.cell?_setCell_other _ _ _ _ (by intro e2; injection e2; omega)]; exact h.v j hj
theorem LArr.setV {T V : Nat} {t : Nat → Bool} {u : Nat → Int} {w : World} (h : LArr T V t u w) (hne : ¬ T = V) (K : Nat) (hK : K < 8) (x : Int) : LArr T V t (fun j => if j = K then x else u j) (w.setCell ⟨V, K, none⟩ (.int .u16 x)) := by
  refine ⟨fun j hj => ?_, fun j hj => by rw [World.frozen?_setCell]; exact h.tf j hj, fun j hj => ?_, fun j hj => by rw [World.frozen?_setCell]; exact h.vf j hj⟩
  · rw [World.cell?_setCell_other _ _ _ _ (by intro e2; injection e2; omega)]; exact h.t j hj
  · by_cases e : j = K
    · subst e; simp only [if_true]; exact World.cell?_setCell_same w _ _ (h.v j hj)
    · simp only [if_neg e]; rw [World.cell?_setCell_other _ _ _ _ (by intro e2; injection e2 with _ e3; omega)]; exact h.v j hj

theorem last_big (n : Nat) (ao : Option Addr) (cap : Nat) (w : World) (hn : 200 < n) : Calls Try.prog 4 #[.slice ao n cap] w fun e w' => e = .returned (.bool true) ∧ Below w.heap.size w w' := by
  have hd1 : decide ((200 : Int) < (n : Int)) = true := by simp; omega
  clear hn
  go_enter Try.func4, Try.ntmps4
  go_wp2_with fail
  refine (awake_any _).mono ?_
  rintro e w1 ⟨rfl, hb⟩
  go_wp2
  go_ret
  exact ⟨rfl, hb⟩

theorem last_small (l : List Op5) (ao : Option Addr) (cap b o : Nat) (w : World) (h : SlAt w 5 l.length (l.flatMap Op5.cells) ao cap b o) (hok : ∀ x ∈ l, x.ok) (hlen : l.length ≤ 200) :
    Calls Try.prog 4 #[.slice ao l.length cap] w fun e w' => e = .returned (.bool true) ∧ Below w.heap.size w w' := by
  have hst := stopAt_le l
  have hneq := neq39
  have hidx := h.idx (P := Try.prog) (t := 26) Try.underlying26 size44 (by decide)
  have Hok := Lib.hid hok
  have Hsl := Lib.hid h
  have hd1 : decide ((200 : Int) < (l.length : Int)) = false := by rw [decide_eq_false_iff_not]; omega
  have hd2 : decide ((l.length : Int) < (stopAt l : Int)) = false := by rw [decide_eq_false_iff_not]; omega
  have hd3 : decide (l.length < stopAt l) = false := by rw [decide_eq_false_iff_not]; omega
  clear h hok
  go_enter Try.func4, Try.ntmps4
  go_wp2_with fail
  refine (new0 _).mono ?_
  rintro e w1 ⟨rfl, hb1⟩
  have HW := Lib.hid hb1
  replace Hsl := Lib.hid (Hsl.out.below hb1)
  clear hb1
  go_wp2_with fail
  refine (run_any KV.zero l ao cap b o _ zero_ok Hsl.out Hok.out hlen).mono ?_
  rintro e w2 ⟨v2, rfl, hown, hb2⟩
  obtain ⟨ao1, cap1, b1, o1, rfl, hsl1, _⟩ := SlAt.owned hown
  have hidx1 := hsl1.idx (P := Try.prog) (t := 29) Try.underlying29 size39 (by decide)
  have H1 := Lib.hid hsl1
  replace HW := Lib.hid (bt HW.out hb2)
  replace Hsl := Lib.hid (Hsl.out.below hb2)
  obtain ⟨SE, hse⟩ : ∃ s, s = stN KV.zero l (stopAt l) := ⟨_, rfl⟩
  obtain ⟨ER, her⟩ : ∃ s, s = errAt l := ⟨_, rfl⟩
  rw [← hse, ← her]
  unfold KV.val
  clear hown hsl1 hb2 hse her
  go_wp2_with fail
  have hI0 : LInv (w2.heap.size + 1) (w2.heap.size + 1 + 1) KV.zero (fun _ => 0) (((w2.alloc (.cells #[.int .u8 SE.h, .int .u16 SE.v0, .int .u16 SE.v1, .int .u16 SE.v2, .int .u16 SE.v3, .int .u16 SE.v4, .int .u16 SE.v5, .int .u16 SE.v6, .int .u16 SE.v7] 25)).alloc (.cells #[.bool false, .bool false, .bool false, .bool false, .bool false, .bool false, .bool false, .bool false] 42)).alloc (.cells #[.int .u16 0, .int .u16 0, .int .u16 0, .int .u16 0, .int .u16 0, .int .u16 0, .int .u16 0, .int .u16 0] 23)) := by
    refine ⟨fun K hK => ?_, fun K hK => ?_, fun K hK => ?_, fun K hK => ?_, fun K hK h => ?_⟩
    · have : K = 0 ∨ K = 1 ∨ K = 2 ∨ K = 3 ∨ K = 4 ∨ K = 5 ∨ K = 6 ∨ K = 7 := by omega
      rcases this with rfl | rfl | rfl | rfl | rfl | rfl | rfl | rfl <;> simp [go_sem, KV.has, KV.zero, bit]
    · simp [go_sem]
    · have : K = 0 ∨ K = 1 ∨ K = 2 ∨ K = 3 ∨ K = 4 ∨ K = 5 ∨ K = 6 ∨ K = 7 := by omega
      rcases this with rfl | rfl | rfl | rfl | rfl | rfl | rfl | rfl <;> simp [go_sem]
    · simp [go_sem]
    · have : K = 0 ∨ K = 1 ∨ K = 2 ∨ K = 3 ∨ K = 4 ∨ K = 5 ∨ K = 6 ∨ K = 7 := by omega
      rcases this with rfl | rfl | rfl | rfl | rfl | rfl | rfl | rfl <;> rfl
  have HI0 := Lib.hid hI0
  have HTV : Hid (¬ w2.heap.size + 1 = w2.heap.size + 1 + 1 ∧ w2.heap.size ≤ w2.heap.size + 1 ∧ w2.heap.size ≤ w2.heap.size + 1 + 1) := Lib.hid ⟨by omega, by omega, by omega⟩
  have HB0 : Hid (Below w2.heap.size w2 (((w2.alloc (.cells #[.int .u8 SE.h, .int .u16 SE.v0, .int .u16 SE.v1, .int .u16 SE.v2, .int .u16 SE.v3, .int .u16 SE.v4, .int .u16 SE.v5, .int .u16 SE.v6, .int .u16 SE.v7] 25)).alloc (.cells #[.bool false, .bool false, .bool false, .bool false, .bool false, .bool false, .bool false, .bool false] 42)).alloc (.cells #[.int .u16 0, .int .u16 0, .int .u16 0, .int .u16 0, .int .u16 0, .int .u16 0, .int .u16 0, .int .u16 0] 23))) := Lib.hid (ba (ba (ba (bz w2) _) _) _)
  clear hI0
  obtain ⟨Y, hY⟩ : ∃ Y, Y = (((w2.alloc (.cells #[.int .u8 SE.h, .int .u16 SE.v0, .int .u16 SE.v1, .int .u16 SE.v2, .int .u16 SE.v3, .int .u16 SE.v4, .int .u16 SE.v5, .int .u16 SE.v6, .int .u16 SE.v7] 25)).alloc (.cells #[.bool false, .bool false, .bool false, .bool false, .bool false, .bool false, .bool false, .bool false] 42)).alloc (.cells #[.int .u16 0, .int .u16 0, .int .u16 0, .int .u16 0, .int .u16 0, .int .u16 0, .int .u16 0, .int .u16 0] 23)) := ⟨_, rfl⟩
  rw [← hY] at HI0 HB0 ⊢
  obtain ⟨V, hV⟩ : ∃ V, V = w2.heap.size + 1 + 1 := ⟨_, rfl⟩
  rw [← hV] at HI0 HTV ⊢
  obtain ⟨T, hT⟩ : ∃ T, T = w2.heap.size + 1 := ⟨_, rfl⟩
  rw [← hT] at HI0 HTV ⊢
  clear hY hV hT
  go_loopw [8] (fun t8 wr => ∃ (k : Nat) (u : Nat → Int), k ≤ stopAt l ∧ t8 = .int .i64 k ∧ LInv T V (stN KV.zero l k) u wr ∧ Below w2.heap.size w2 wr) (fun t8 _ => stopAt l - (intOf t8).toNat)
  case atStart => exact ⟨0, _, Nat.zero_le _, rfl, HI0.out, HB0.out⟩
  case round =>
    obtain ⟨k, u, hk, rfl, hinv, hb2⟩ := hrel
    have HB := Lib.hid hb2
    by_cases hlt : k < stopAt l
    · obtain ⟨x, hx⟩ : ∃ x, l[k]? = some x := ⟨_, List.getElem?_eq_getElem (by omega)⟩
      have hkn := known_at hx hlt
      have hy := out_at KV.zero l k x hx (stopAt l) hst hlt
      have hnx := stN_succ (s := KV.zero) hx
      have hxo : x.ok := Hok.out x (List.mem_of_getElem? hx)
      have hso := stN_ok zero_ok Hok.out k
      obtain ⟨st, hst'⟩ : ∃ st, st = stN KV.zero l k := ⟨_, rfl⟩
      rw [← hst'] at hy hnx hinv hso
      obtain ⟨g0, g1, g2, g3, g4⟩ := op_at (Hsl.out.below hb2) hx
      obtain ⟨q0, q1⟩ := res_at (H1.out.below hb2) hy
      have hbw : b < wr.heap.size := World.block_lt_of_cell? wr _ g0
      have hb1w : b1 < wr.heap.size := World.block_lt_of_cell? wr _ q0
      have hb1lt : b1 < w2.heap.size := World.block_lt_of_cell? w2 _ (res_at H1.out hy).1
      have hTw := hinv.tlt
      have hVw := hinv.vlt
      have nbT : ¬ b1 = T := by have := HTV.out.2.1; omega
      have nTb : ¬ T = b1 := by omega
      have nbV : ¬ b1 = V := by have := HTV.out.2.2; omega
      have nVb : ¬ V = b1 := by omega
      have nTV : ¬ T = V := HTV.out.1
      have nVT : ¬ V = T := by omega
      have nTr : ¬ T = wr.heap.size := by omega
      have nrT : ¬ wr.heap.size = T := by omega
      have nVr : ¬ V = wr.heap.size := by omega
      have nrV : ¬ wr.heap.size = V := by omega
      clear hst' hx hy hb1lt
      obtain ⟨f, o', kk, a, bb⟩ := x
      have hk0 : 0 ≤ kk := hxo.k.1
      simp only [known, Bool.and_eq_true, Bool.not_eq_true', decide_eq_false_iff_not, Bool.or_eq_true, beq_iff_eq] at hkn g0 g1 g2 g3 g4
      obtain ⟨K, rfl⟩ := Int.eq_ofNat_of_zero_le hk0
      obtain ⟨hk8', hff⟩ := hkn
      have hk8 : K < 8 := by omega
      have t0 := hinv.t K hk8
      have tf := hinv.tf K hk8
      have v0 := hinv.v K hk8
      have vf := hinv.vf K hk8
      have he := hinv.e K hk8
      have j1 : (0 : Int) ≤ (K : Int) := by omega
      have j2 : (K : Int) < 8 := by omega
      have j3 : decide ((7 : Int) < (K : Int)) = false := by simp; omega
      have i1 : (0 : Int) ≤ (k : Int) := by omega
      have i2 : (k : Int) < (l.length : Int) := by omega
      have i3 : (k : Int) < (stopAt l : Int) := by omega
      have HI := Lib.hid hinv
      have Hnx := Lib.hid hnx
      have HSO := Lib.hid hso
      have Hx8 := Lib.hid hk8
      clear hxo hinv hnx hb2 hso hk8' hk0 hk8
      rcases hff with ((rfl | rfl) | rfl) | rfl

      · have hs : stp st ⟨6, o', (K : Int), a, bb⟩ = (st, (if st.has K then (1, st.get K) else (2, 0)), 0) := by have := Hx8.out; simp [stp]; omega
        rw [hs] at q0 q1
        have HS := Lib.hid hs
        clear hs
        obtain ⟨q, hq⟩ : ∃ q, q = st.has K := ⟨_, rfl⟩
        rw [← hq] at t0 q0 q1 he
        have Hq := Lib.hid hq
        clear hq
        cases q
        · clear he
          go_wp2_with fail
          refine (is_any 0 0 _).mono ?_
          rintro e w3 ⟨rfl, hb⟩
          have zz : wr.heap.size < w3.heap.size := by have := hb.size; simp at this; omega
          have zT3 : T < w3.heap.size := by omega
          have nT3 : ¬ T = w3.heap.size := by omega
          have pT3 : ¬ w3.heap.size = T := by omega
          have zV3 : V < w3.heap.size := by omega
          have nV3 : ¬ V = w3.heap.size := by omega
          have pV3 : ¬ w3.heap.size = V := by omega
          have zb3 : b1 < w3.heap.size := by omega
          have nb3 : ¬ b1 = w3.heap.size := by omega
          have pb3 : ¬ w3.heap.size = b1 := by omega
          have zr3 : wr.heap.size < w3.heap.size := by omega
          have nr3 : ¬ wr.heap.size = w3.heap.size := by omega
          have pr3 : ¬ w3.heap.size = wr.heap.size := by omega
          replace t0 := kc hb T K (.bool false) (by simp [go_sem, hTw, hVw, hb1w, t0])
          replace tf := kf hb T K (by first | omega | (simp; omega)) (by simp [go_sem, hTw, hVw, hb1w, tf])
          replace v0 := kc hb V K (.int .u16 (u K)) (by simp [go_sem, hTw, hVw, hb1w, v0])
          replace vf := kf hb V K (by first | omega | (simp; omega)) (by simp [go_sem, hTw, hVw, hb1w, vf])
          replace q0 := kc hb b1 (o1 + k * 2) (.int .u8 2) (by simp [go_sem, hTw, hVw, hb1w, q0])
          replace q1 := kc hb b1 (o1 + k * 2 + 1) (.int .u16 0) (by simp [go_sem, hTw, hVw, hb1w, q1])
          have m0 := kc hb wr.heap.size 0 (.int .u8 6) (by simp [go_sem])
          have m2 := kc hb wr.heap.size 2 (.int .u8 (K : Int)) (by simp [go_sem])
          have m3 := kc hb wr.heap.size 3 (.int .u16 a) (by simp [go_sem])
          have m4 := kc hb wr.heap.size 4 (.int .u16 bb) (by simp [go_sem])
          have HBR : Hid (Below wr.heap.size wr w3) := Lib.hid (bt (by repeat (first | (with_reducible exact bz wr) | (with_reducible refine bs ?_ (by first | omega | (simp; omega)) _) | (with_reducible refine ba ?_ _) | (with_reducible apply Below.drew) | (with_reducible apply below_drewN))) hb)
          clear hb zz
          go_wp2_with fail
          refine (is_any 2 0 _).mono ?_
          rintro e w4 ⟨rfl, hb⟩
          have zz : w3.heap.size < w4.heap.size := by have := hb.size; simp at this; omega
          have zT4 : T < w4.heap.size := by omega
          have nT4 : ¬ T = w4.heap.size := by omega
          have pT4 : ¬ w4.heap.size = T := by omega
          have zV4 : V < w4.heap.size := by omega
          have nV4 : ¬ V = w4.heap.size := by omega
          have pV4 : ¬ w4.heap.size = V := by omega
          have zb4 : b1 < w4.heap.size := by omega
          have nb4 : ¬ b1 = w4.heap.size := by omega
          have pb4 : ¬ w4.heap.size = b1 := by omega
          have zr4 : wr.heap.size < w4.heap.size := by omega
          have nr4 : ¬ wr.heap.size = w4.heap.size := by omega
          have pr4 : ¬ w4.heap.size = wr.heap.size := by omega
          replace t0 := kc hb T K (.bool false) (by simp [go_sem, hTw, hVw, hb1w, zT3, zV3, zb3, zr3, nT3, nV3, nb3, nr3, pT3, pV3, pb3, pr3, t0])
          replace tf := kf hb T K (by first | omega | (simp; omega)) (by simp [go_sem, hTw, hVw, hb1w, zT3, zV3, zb3, zr3, nT3, nV3, nb3, nr3, pT3, pV3, pb3, pr3, tf])
          replace v0 := kc hb V K (.int .u16 (u K)) (by simp [go_sem, hTw, hVw, hb1w, zT3, zV3, zb3, zr3, nT3, nV3, nb3, nr3, pT3, pV3, pb3, pr3, v0])
          replace vf := kf hb V K (by first | omega | (simp; omega)) (by simp [go_sem, hTw, hVw, hb1w, zT3, zV3, zb3, zr3, nT3, nV3, nb3, nr3, pT3, pV3, pb3, pr3, vf])
          replace q0 := kc hb b1 (o1 + k * 2) (.int .u8 2) (by simp [go_sem, hTw, hVw, hb1w, zT3, zV3, zb3, zr3, nT3, nV3, nb3, nr3, pT3, pV3, pb3, pr3, q0])
          replace q1 := kc hb b1 (o1 + k * 2 + 1) (.int .u16 0) (by simp [go_sem, hTw, hVw, hb1w, zT3, zV3, zb3, zr3, nT3, nV3, nb3, nr3, pT3, pV3, pb3, pr3, q1])
          replace m0 := kc hb wr.heap.size 0 (.int .u8 6) (by simp [go_sem, hTw, hVw, hb1w, zT3, zV3, zb3, zr3, nT3, nV3, nb3, nr3, pT3, pV3, pb3, pr3, m0])
          replace m2 := kc hb wr.heap.size 2 (.int .u8 (K : Int)) (by simp [go_sem, hTw, hVw, hb1w, zT3, zV3, zb3, zr3, nT3, nV3, nb3, nr3, pT3, pV3, pb3, pr3, m2])
          replace m3 := kc hb wr.heap.size 3 (.int .u16 a) (by simp [go_sem, hTw, hVw, hb1w, zT3, zV3, zb3, zr3, nT3, nV3, nb3, nr3, pT3, pV3, pb3, pr3, m3])
          replace m4 := kc hb wr.heap.size 4 (.int .u16 bb) (by simp [go_sem, hTw, hVw, hb1w, zT3, zV3, zb3, zr3, nT3, nV3, nb3, nr3, pT3, pV3, pb3, pr3, m4])
          have zw4 : w3.heap.size < w4.heap.size := by omega
          have r0 := kc hb w3.heap.size 0 (.int .u8 0) (by simp [go_sem])
          have e0 := kf hb w3.heap.size 0 (by simp) (by simp [go_sem])
          have r1 := kc hb w3.heap.size 1 (.int .u16 0) (by simp [go_sem])
          have e1 := kf hb w3.heap.size 1 (by simp) (by simp [go_sem])
          replace HBR : Hid (Below wr.heap.size wr w4) := Lib.hid (bt (by repeat (first | (with_reducible exact HBR.out) | (with_reducible refine bs ?_ (by first | omega | (simp; omega)) _) | (with_reducible refine ba ?_ _) | (with_reducible apply Below.drew) | (with_reducible apply below_drewN))) hb)
          clear hb zz
          go_wp2_with fail
          go_quiet (fail)
          go_wp2_with fail
          go_roundw
          case rel =>
            refine ⟨k + 1, u, by omega, by go_num, ?_, ?_⟩
            · rw [Hnx.out, HS.out]
              exact HI.out.below (by repeat (first | (with_reducible exact HBR.out) | (with_reducible refine bs ?_ (by first | omega | (simp; omega)) _) | (with_reducible refine ba ?_ _) | (with_reducible apply Below.drew) | (with_reducible apply below_drewN)))
            · have HBA := bt HB.out HBR.out
              repeat (first | (with_reducible exact HBA) | (with_reducible refine bs ?_ (by first | exact HTV.out.2.1 | exact HTV.out.2.2 | (have := HB.out.size; first | omega | (simp; omega))) _) | (with_reducible refine ba ?_ _) | (with_reducible apply Below.drew) | (with_reducible apply below_drewN))
          case measure => simp [intOf]; omega
        · have he2 := he rfl
          simp only [if_true] at q0 q1
          rw [← he2] at q1
          clear he he2
          go_wp2_with fail
          refine (is_any 0 0 _).mono ?_
          rintro e w3 ⟨rfl, hb⟩
          have zz : wr.heap.size < w3.heap.size := by have := hb.size; simp at this; omega
          have zT3 : T < w3.heap.size := by omega
          have nT3 : ¬ T = w3.heap.size := by omega
          have pT3 : ¬ w3.heap.size = T := by omega
          have zV3 : V < w3.heap.size := by omega
          have nV3 : ¬ V = w3.heap.size := by omega
          have pV3 : ¬ w3.heap.size = V := by omega
          have zb3 : b1 < w3.heap.size := by omega
          have nb3 : ¬ b1 = w3.heap.size := by omega
          have pb3 : ¬ w3.heap.size = b1 := by omega
          have zr3 : wr.heap.size < w3.heap.size := by omega
          have nr3 : ¬ wr.heap.size = w3.heap.size := by omega
          have pr3 : ¬ w3.heap.size = wr.heap.size := by omega
          replace t0 := kc hb T K (.bool true) (by simp [go_sem, hTw, hVw, hb1w, t0])
          replace tf := kf hb T K (by first | omega | (simp; omega)) (by simp [go_sem, hTw, hVw, hb1w, tf])
          replace v0 := kc hb V K (.int .u16 (u K)) (by simp [go_sem, hTw, hVw, hb1w, v0])
          replace vf := kf hb V K (by first | omega | (simp; omega)) (by simp [go_sem, hTw, hVw, hb1w, vf])
          replace q0 := kc hb b1 (o1 + k * 2) (.int .u8 1) (by simp [go_sem, hTw, hVw, hb1w, q0])
          replace q1 := kc hb b1 (o1 + k * 2 + 1) (.int .u16 (u K)) (by simp [go_sem, hTw, hVw, hb1w, q1])
          have m0 := kc hb wr.heap.size 0 (.int .u8 6) (by simp [go_sem])
          have m2 := kc hb wr.heap.size 2 (.int .u8 (K : Int)) (by simp [go_sem])
          have m3 := kc hb wr.heap.size 3 (.int .u16 a) (by simp [go_sem])
          have m4 := kc hb wr.heap.size 4 (.int .u16 bb) (by simp [go_sem])
          have HBR : Hid (Below wr.heap.size wr w3) := Lib.hid (bt (by repeat (first | (with_reducible exact bz wr) | (with_reducible refine bs ?_ (by first | omega | (simp; omega)) _) | (with_reducible refine ba ?_ _) | (with_reducible apply Below.drew) | (with_reducible apply below_drewN))) hb)
          clear hb zz
          go_wp2_with fail
          refine (is_any 2 0 _).mono ?_
          rintro e w4 ⟨rfl, hb⟩
          have zz : w3.heap.size < w4.heap.size := by have := hb.size; simp at this; omega
          have zT4 : T < w4.heap.size := by omega
          have nT4 : ¬ T = w4.heap.size := by omega
          have pT4 : ¬ w4.heap.size = T := by omega
          have zV4 : V < w4.heap.size := by omega
          have nV4 : ¬ V = w4.heap.size := by omega
          have pV4 : ¬ w4.heap.size = V := by omega
          have zb4 : b1 < w4.heap.size := by omega
          have nb4 : ¬ b1 = w4.heap.size := by omega
          have pb4 : ¬ w4.heap.size = b1 := by omega
          have zr4 : wr.heap.size < w4.heap.size := by omega
          have nr4 : ¬ wr.heap.size = w4.heap.size := by omega
          have pr4 : ¬ w4.heap.size = wr.heap.size := by omega
          replace t0 := kc hb T K (.bool true) (by simp [go_sem, hTw, hVw, hb1w, zT3, zV3, zb3, zr3, nT3, nV3, nb3, nr3, pT3, pV3, pb3, pr3, t0])
          replace tf := kf hb T K (by first | omega | (simp; omega)) (by simp [go_sem, hTw, hVw, hb1w, zT3, zV3, zb3, zr3, nT3, nV3, nb3, nr3, pT3, pV3, pb3, pr3, tf])
          replace v0 := kc hb V K (.int .u16 (u K)) (by simp [go_sem, hTw, hVw, hb1w, zT3, zV3, zb3, zr3, nT3, nV3, nb3, nr3, pT3, pV3, pb3, pr3, v0])
          replace vf := kf hb V K (by first | omega | (simp; omega)) (by simp [go_sem, hTw, hVw, hb1w, zT3, zV3, zb3, zr3, nT3, nV3, nb3, nr3, pT3, pV3, pb3, pr3, vf])
          replace q0 := kc hb b1 (o1 + k * 2) (.int .u8 1) (by simp [go_sem, hTw, hVw, hb1w, zT3, zV3, zb3, zr3, nT3, nV3, nb3, nr3, pT3, pV3, pb3, pr3, q0])
          replace q1 := kc hb b1 (o1 + k * 2 + 1) (.int .u16 (u K)) (by simp [go_sem, hTw, hVw, hb1w, zT3, zV3, zb3, zr3, nT3, nV3, nb3, nr3, pT3, pV3, pb3, pr3, q1])
          replace m0 := kc hb wr.heap.size 0 (.int .u8 6) (by simp [go_sem, hTw, hVw, hb1w, zT3, zV3, zb3, zr3, nT3, nV3, nb3, nr3, pT3, pV3, pb3, pr3, m0])
          replace m2 := kc hb wr.heap.size 2 (.int .u8 (K : Int)) (by simp [go_sem, hTw, hVw, hb1w, zT3, zV3, zb3, zr3, nT3, nV3, nb3, nr3, pT3, pV3, pb3, pr3, m2])
          replace m3 := kc hb wr.heap.size 3 (.int .u16 a) (by simp [go_sem, hTw, hVw, hb1w, zT3, zV3, zb3, zr3, nT3, nV3, nb3, nr3, pT3, pV3, pb3, pr3, m3])
          replace m4 := kc hb wr.heap.size 4 (.int .u16 bb) (by simp [go_sem, hTw, hVw, hb1w, zT3, zV3, zb3, zr3, nT3, nV3, nb3, nr3, pT3, pV3, pb3, pr3, m4])
          have zw4 : w3.heap.size < w4.heap.size := by omega
          have r0 := kc hb w3.heap.size 0 (.int .u8 0) (by simp [go_sem])
          have e0 := kf hb w3.heap.size 0 (by simp) (by simp [go_sem])
          have r1 := kc hb w3.heap.size 1 (.int .u16 0) (by simp [go_sem])
          have e1 := kf hb w3.heap.size 1 (by simp) (by simp [go_sem])
          replace HBR : Hid (Below wr.heap.size wr w4) := Lib.hid (bt (by repeat (first | (with_reducible exact HBR.out) | (with_reducible refine bs ?_ (by first | omega | (simp; omega)) _) | (with_reducible refine ba ?_ _) | (with_reducible apply Below.drew) | (with_reducible apply below_drewN))) hb)
          clear hb zz
          go_wp2_with fail
          refine (is_any 1 (u K) _).mono ?_
          rintro e w5 ⟨rfl, hb⟩
          have zz : w4.heap.size ≤ w5.heap.size := by have := hb.size; simp at this; omega
          have zT5 : T < w5.heap.size := by omega
          have nT5 : ¬ T = w5.heap.size := by omega
          have pT5 : ¬ w5.heap.size = T := by omega
          have zV5 : V < w5.heap.size := by omega
          have nV5 : ¬ V = w5.heap.size := by omega
          have pV5 : ¬ w5.heap.size = V := by omega
          have zb5 : b1 < w5.heap.size := by omega
          have nb5 : ¬ b1 = w5.heap.size := by omega
          have pb5 : ¬ w5.heap.size = b1 := by omega
          have zr5 : wr.heap.size < w5.heap.size := by omega
          have nr5 : ¬ wr.heap.size = w5.heap.size := by omega
          have pr5 : ¬ w5.heap.size = wr.heap.size := by omega
          replace t0 := kc hb T K (.bool true) (by simp [go_sem, hTw, hVw, hb1w, zT3, zV3, zb3, zr3, nT3, nV3, nb3, nr3, pT3, pV3, pb3, pr3, zT4, zV4, zb4, zr4, nT4, nV4, nb4, nr4, pT4, pV4, pb4, pr4, zw4, t0])
          replace tf := kf hb T K (by first | omega | (simp; omega)) (by simp [go_sem, hTw, hVw, hb1w, zT3, zV3, zb3, zr3, nT3, nV3, nb3, nr3, pT3, pV3, pb3, pr3, zT4, zV4, zb4, zr4, nT4, nV4, nb4, nr4, pT4, pV4, pb4, pr4, zw4, tf])
          replace v0 := kc hb V K (.int .u16 (u K)) (by simp [go_sem, hTw, hVw, hb1w, zT3, zV3, zb3, zr3, nT3, nV3, nb3, nr3, pT3, pV3, pb3, pr3, zT4, zV4, zb4, zr4, nT4, nV4, nb4, nr4, pT4, pV4, pb4, pr4, zw4, v0])
          replace vf := kf hb V K (by first | omega | (simp; omega)) (by simp [go_sem, hTw, hVw, hb1w, zT3, zV3, zb3, zr3, nT3, nV3, nb3, nr3, pT3, pV3, pb3, pr3, zT4, zV4, zb4, zr4, nT4, nV4, nb4, nr4, pT4, pV4, pb4, pr4, zw4, vf])
          replace q0 := kc hb b1 (o1 + k * 2) (.int .u8 1) (by simp [go_sem, hTw, hVw, hb1w, zT3, zV3, zb3, zr3, nT3, nV3, nb3, nr3, pT3, pV3, pb3, pr3, zT4, zV4, zb4, zr4, nT4, nV4, nb4, nr4, pT4, pV4, pb4, pr4, zw4, q0])
          replace q1 := kc hb b1 (o1 + k * 2 + 1) (.int .u16 (u K)) (by simp [go_sem, hTw, hVw, hb1w, zT3, zV3, zb3, zr3, nT3, nV3, nb3, nr3, pT3, pV3, pb3, pr3, zT4, zV4, zb4, zr4, nT4, nV4, nb4, nr4, pT4, pV4, pb4, pr4, zw4, q1])
          replace m0 := kc hb wr.heap.size 0 (.int .u8 6) (by simp [go_sem, hTw, hVw, hb1w, zT3, zV3, zb3, zr3, nT3, nV3, nb3, nr3, pT3, pV3, pb3, pr3, zT4, zV4, zb4, zr4, nT4, nV4, nb4, nr4, pT4, pV4, pb4, pr4, zw4, m0])
          replace m2 := kc hb wr.heap.size 2 (.int .u8 (K : Int)) (by simp [go_sem, hTw, hVw, hb1w, zT3, zV3, zb3, zr3, nT3, nV3, nb3, nr3, pT3, pV3, pb3, pr3, zT4, zV4, zb4, zr4, nT4, nV4, nb4, nr4, pT4, pV4, pb4, pr4, zw4, m2])
          replace m3 := kc hb wr.heap.size 3 (.int .u16 a) (by simp [go_sem, hTw, hVw, hb1w, zT3, zV3, zb3, zr3, nT3, nV3, nb3, nr3, pT3, pV3, pb3, pr3, zT4, zV4, zb4, zr4, nT4, nV4, nb4, nr4, pT4, pV4, pb4, pr4, zw4, m3])
          replace m4 := kc hb wr.heap.size 4 (.int .u16 bb) (by simp [go_sem, hTw, hVw, hb1w, zT3, zV3, zb3, zr3, nT3, nV3, nb3, nr3, pT3, pV3, pb3, pr3, zT4, zV4, zb4, zr4, nT4, nV4, nb4, nr4, pT4, pV4, pb4, pr4, zw4, m4])
          have zw5 : w3.heap.size < w5.heap.size := by omega
          replace r0 := kc hb w3.heap.size 0 (.int .u8 2) (by simp [go_sem, hTw, hVw, hb1w, zT3, zV3, zb3, zr3, nT3, nV3, nb3, nr3, pT3, pV3, pb3, pr3, zT4, zV4, zb4, zr4, nT4, nV4, nb4, nr4, pT4, pV4, pb4, pr4, zw4, r0, e0])
          replace e0 := kf hb w3.heap.size 0 (by first | omega | (simp; omega)) (by simp [go_sem, hTw, hVw, hb1w, zT3, zV3, zb3, zr3, nT3, nV3, nb3, nr3, pT3, pV3, pb3, pr3, zT4, zV4, zb4, zr4, nT4, nV4, nb4, nr4, pT4, pV4, pb4, pr4, zw4, e0])
          replace r1 := kc hb w3.heap.size 1 (.int .u16 0) (by simp [go_sem, hTw, hVw, hb1w, zT3, zV3, zb3, zr3, nT3, nV3, nb3, nr3, pT3, pV3, pb3, pr3, zT4, zV4, zb4, zr4, nT4, nV4, nb4, nr4, pT4, pV4, pb4, pr4, zw4, r1, e1])
          replace e1 := kf hb w3.heap.size 1 (by first | omega | (simp; omega)) (by simp [go_sem, hTw, hVw, hb1w, zT3, zV3, zb3, zr3, nT3, nV3, nb3, nr3, pT3, pV3, pb3, pr3, zT4, zV4, zb4, zr4, nT4, nV4, nb4, nr4, pT4, pV4, pb4, pr4, zw4, e1])
          replace HBR : Hid (Below wr.heap.size wr w5) := Lib.hid (bt (by repeat (first | (with_reducible exact HBR.out) | (with_reducible refine bs ?_ (by first | omega | (simp; omega)) _) | (with_reducible refine ba ?_ _) | (with_reducible apply Below.drew) | (with_reducible apply below_drewN))) hb)
          clear hb zz
          go_wp2_with fail
          go_quiet (fail)
          go_wp2_with fail
          go_roundw
          case rel =>
            refine ⟨k + 1, u, by omega, by go_num, ?_, ?_⟩
            · rw [Hnx.out, HS.out]
              exact HI.out.below (by repeat (first | (with_reducible exact HBR.out) | (with_reducible refine bs ?_ (by first | omega | (simp; omega)) _) | (with_reducible refine ba ?_ _) | (with_reducible apply Below.drew) | (with_reducible apply below_drewN)))
            · have HBA := bt HB.out HBR.out
              repeat (first | (with_reducible exact HBA) | (with_reducible refine bs ?_ (by first | exact HTV.out.2.1 | exact HTV.out.2.2 | (have := HB.out.size; first | omega | (simp; omega))) _) | (with_reducible refine ba ?_ _) | (with_reducible apply Below.drew) | (with_reducible apply below_drewN))
          case measure => simp [intOf]; omega
      · have hs : stp st ⟨7, o', (K : Int), a, bb⟩ = (st.lay K a, (0, 0), 0) := by have := Hx8.out; simp [stp]; omega
        rw [hs] at q0 q1
        have HS := Lib.hid hs
        clear hs
        obtain ⟨q, hq⟩ : ∃ q, q = st.has K := ⟨_, rfl⟩
        rw [← hq] at t0 he
        have Hq := Lib.hid hq
        clear hq
        clear he
        go_wp2_with fail
        refine (is_any 0 0 _).mono ?_
        rintro e w3 ⟨rfl, hb⟩
        have zz : wr.heap.size < w3.heap.size := by have := hb.size; simp at this; omega
        have zT3 : T < w3.heap.size := by omega
        have nT3 : ¬ T = w3.heap.size := by omega
        have pT3 : ¬ w3.heap.size = T := by omega
        have zV3 : V < w3.heap.size := by omega
        have nV3 : ¬ V = w3.heap.size := by omega
        have pV3 : ¬ w3.heap.size = V := by omega
        have zb3 : b1 < w3.heap.size := by omega
        have nb3 : ¬ b1 = w3.heap.size := by omega
        have pb3 : ¬ w3.heap.size = b1 := by omega
        have zr3 : wr.heap.size < w3.heap.size := by omega
        have nr3 : ¬ wr.heap.size = w3.heap.size := by omega
        have pr3 : ¬ w3.heap.size = wr.heap.size := by omega
        replace t0 := kc hb T K (.bool q) (by simp [go_sem, hTw, hVw, hb1w, t0])
        replace tf := kf hb T K (by first | omega | (simp; omega)) (by simp [go_sem, hTw, hVw, hb1w, tf])
        replace v0 := kc hb V K (.int .u16 (u K)) (by simp [go_sem, hTw, hVw, hb1w, v0])
        replace vf := kf hb V K (by first | omega | (simp; omega)) (by simp [go_sem, hTw, hVw, hb1w, vf])
        replace q0 := kc hb b1 (o1 + k * 2) (.int .u8 0) (by simp [go_sem, hTw, hVw, hb1w, q0])
        replace q1 := kc hb b1 (o1 + k * 2 + 1) (.int .u16 0) (by simp [go_sem, hTw, hVw, hb1w, q1])
        have m0 := kc hb wr.heap.size 0 (.int .u8 7) (by simp [go_sem])
        have m2 := kc hb wr.heap.size 2 (.int .u8 (K : Int)) (by simp [go_sem])
        have m3 := kc hb wr.heap.size 3 (.int .u16 a) (by simp [go_sem])
        have m4 := kc hb wr.heap.size 4 (.int .u16 bb) (by simp [go_sem])
        have HBR : Hid (Below wr.heap.size wr w3) := Lib.hid (bt (by repeat (first | (with_reducible exact bz wr) | (with_reducible refine bs ?_ (by first | omega | (simp; omega)) _) | (with_reducible refine ba ?_ _) | (with_reducible apply Below.drew) | (with_reducible apply below_drewN))) hb)
        clear hb zz
        go_wp2_with fail
        go_quiet (fail)
        go_wp2_with fail
        go_roundw
        case rel =>
          refine ⟨k + 1, (fun j => if j = K then a else u j), by omega, by go_num, ?_, ?_⟩
          · rw [Hnx.out, HS.out]
            refine LInv.of (t := (fun j => if j = K then true else st.has j)) (LArr.below (((LInv.arr (HI.out.below ?_)).setT HTV.out.1 K Hx8.out true).setV HTV.out.1 K Hx8.out a) (by repeat (first | (with_reducible exact bz _) | (with_reducible refine ba ?_ _) | (with_reducible apply below_drewN) | (with_reducible apply Below.drew)))) ?_ ?_
            · repeat (first | (with_reducible exact HBR.out) | (with_reducible refine bs ?_ (by first | (simp; done) | (simp; omega) | omega) _) | (with_reducible refine ba ?_ _))
            · intro j hj; dsimp only; rw [KV.has_lay HSO.out K j Hx8.out]; by_cases e : j = K <;> simp [e]
            · intro j hj hh; dsimp only at hh ⊢; rw [KV.get_lay _ _ _ _ Hx8.out]
              by_cases e : j = K
              · simp [e]
              · simp only [if_neg e]; rw [KV.has_lay HSO.out K j Hx8.out] at hh; exact HI.out.e j hj (by simpa [e] using hh)
          · have HBA := bt HB.out HBR.out
            repeat (first | (with_reducible exact HBA) | (with_reducible refine bs ?_ (by first | exact HTV.out.2.1 | exact HTV.out.2.2 | (have := HB.out.size; first | omega | (simp; omega))) _) | (with_reducible refine ba ?_ _) | (with_reducible apply Below.drew) | (with_reducible apply below_drewN))
        case measure => simp [intOf]; omega
      · have hs : stp st ⟨8, o', (K : Int), a, bb⟩ = (st.del K, (if st.has K then (3, 0) else (4, 0)), 0) := by have := Hx8.out; simp [stp]; omega
        rw [hs] at q0 q1
        have HS := Lib.hid hs
        clear hs
        obtain ⟨q, hq⟩ : ∃ q, q = st.has K := ⟨_, rfl⟩
        rw [← hq] at t0 q0 q1 he
        have Hq := Lib.hid hq
        clear hq
        cases q
        · clear he
          go_wp2_with fail
          refine (is_any 0 0 _).mono ?_
          rintro e w3 ⟨rfl, hb⟩
          have zz : wr.heap.size < w3.heap.size := by have := hb.size; simp at this; omega
          have zT3 : T < w3.heap.size := by omega
          have nT3 : ¬ T = w3.heap.size := by omega
          have pT3 : ¬ w3.heap.size = T := by omega
          have zV3 : V < w3.heap.size := by omega
          have nV3 : ¬ V = w3.heap.size := by omega
          have pV3 : ¬ w3.heap.size = V := by omega
          have zb3 : b1 < w3.heap.size := by omega
          have nb3 : ¬ b1 = w3.heap.size := by omega
          have pb3 : ¬ w3.heap.size = b1 := by omega
          have zr3 : wr.heap.size < w3.heap.size := by omega
          have nr3 : ¬ wr.heap.size = w3.heap.size := by omega
          have pr3 : ¬ w3.heap.size = wr.heap.size := by omega
          replace t0 := kc hb T K (.bool false) (by simp [go_sem, hTw, hVw, hb1w, t0])
          replace tf := kf hb T K (by first | omega | (simp; omega)) (by simp [go_sem, hTw, hVw, hb1w, tf])
          replace v0 := kc hb V K (.int .u16 (u K)) (by simp [go_sem, hTw, hVw, hb1w, v0])
          replace vf := kf hb V K (by first | omega | (simp; omega)) (by simp [go_sem, hTw, hVw, hb1w, vf])
          replace q0 := kc hb b1 (o1 + k * 2) (.int .u8 4) (by simp [go_sem, hTw, hVw, hb1w, q0])
          replace q1 := kc hb b1 (o1 + k * 2 + 1) (.int .u16 0) (by simp [go_sem, hTw, hVw, hb1w, q1])
          have m0 := kc hb wr.heap.size 0 (.int .u8 8) (by simp [go_sem])
          have m2 := kc hb wr.heap.size 2 (.int .u8 (K : Int)) (by simp [go_sem])
          have m3 := kc hb wr.heap.size 3 (.int .u16 a) (by simp [go_sem])
          have m4 := kc hb wr.heap.size 4 (.int .u16 bb) (by simp [go_sem])
          have HBR : Hid (Below wr.heap.size wr w3) := Lib.hid (bt (by repeat (first | (with_reducible exact bz wr) | (with_reducible refine bs ?_ (by first | omega | (simp; omega)) _) | (with_reducible refine ba ?_ _) | (with_reducible apply Below.drew) | (with_reducible apply below_drewN))) hb)
          clear hb zz
          go_wp2_with fail
          refine (is_any 4 0 _).mono ?_
          rintro e w4 ⟨rfl, hb⟩
          have zz : w3.heap.size < w4.heap.size := by have := hb.size; simp at this; omega
          have zT4 : T < w4.heap.size := by omega
          have nT4 : ¬ T = w4.heap.size := by omega
          have pT4 : ¬ w4.heap.size = T := by omega
          have zV4 : V < w4.heap.size := by omega
          have nV4 : ¬ V = w4.heap.size := by omega
          have pV4 : ¬ w4.heap.size = V := by omega
          have zb4 : b1 < w4.heap.size := by omega
          have nb4 : ¬ b1 = w4.heap.size := by omega
          have pb4 : ¬ w4.heap.size = b1 := by omega
          have zr4 : wr.heap.size < w4.heap.size := by omega
          have nr4 : ¬ wr.heap.size = w4.heap.size := by omega
          have pr4 : ¬ w4.heap.size = wr.heap.size := by omega
          replace t0 := kc hb T K (.bool false) (by simp [go_sem, hTw, hVw, hb1w, zT3, zV3, zb3, zr3, nT3, nV3, nb3, nr3, pT3, pV3, pb3, pr3, t0])
          replace tf := kf hb T K (by first | omega | (simp; omega)) (by simp [go_sem, hTw, hVw, hb1w, zT3, zV3, zb3, zr3, nT3, nV3, nb3, nr3, pT3, pV3, pb3, pr3, tf])
          replace v0 := kc hb V K (.int .u16 (u K)) (by simp [go_sem, hTw, hVw, hb1w, zT3, zV3, zb3, zr3, nT3, nV3, nb3, nr3, pT3, pV3, pb3, pr3, v0])
          replace vf := kf hb V K (by first | omega | (simp; omega)) (by simp [go_sem, hTw, hVw, hb1w, zT3, zV3, zb3, zr3, nT3, nV3, nb3, nr3, pT3, pV3, pb3, pr3, vf])
          replace q0 := kc hb b1 (o1 + k * 2) (.int .u8 4) (by simp [go_sem, hTw, hVw, hb1w, zT3, zV3, zb3, zr3, nT3, nV3, nb3, nr3, pT3, pV3, pb3, pr3, q0])
          replace q1 := kc hb b1 (o1 + k * 2 + 1) (.int .u16 0) (by simp [go_sem, hTw, hVw, hb1w, zT3, zV3, zb3, zr3, nT3, nV3, nb3, nr3, pT3, pV3, pb3, pr3, q1])
          replace m0 := kc hb wr.heap.size 0 (.int .u8 8) (by simp [go_sem, hTw, hVw, hb1w, zT3, zV3, zb3, zr3, nT3, nV3, nb3, nr3, pT3, pV3, pb3, pr3, m0])
          replace m2 := kc hb wr.heap.size 2 (.int .u8 (K : Int)) (by simp [go_sem, hTw, hVw, hb1w, zT3, zV3, zb3, zr3, nT3, nV3, nb3, nr3, pT3, pV3, pb3, pr3, m2])
          replace m3 := kc hb wr.heap.size 3 (.int .u16 a) (by simp [go_sem, hTw, hVw, hb1w, zT3, zV3, zb3, zr3, nT3, nV3, nb3, nr3, pT3, pV3, pb3, pr3, m3])
          replace m4 := kc hb wr.heap.size 4 (.int .u16 bb) (by simp [go_sem, hTw, hVw, hb1w, zT3, zV3, zb3, zr3, nT3, nV3, nb3, nr3, pT3, pV3, pb3, pr3, m4])
          have zw4 : w3.heap.size < w4.heap.size := by omega
          have r0 := kc hb w3.heap.size 0 (.int .u8 0) (by simp [go_sem])
          have e0 := kf hb w3.heap.size 0 (by simp) (by simp [go_sem])
          have r1 := kc hb w3.heap.size 1 (.int .u16 0) (by simp [go_sem])
          have e1 := kf hb w3.heap.size 1 (by simp) (by simp [go_sem])
          replace HBR : Hid (Below wr.heap.size wr w4) := Lib.hid (bt (by repeat (first | (with_reducible exact HBR.out) | (with_reducible refine bs ?_ (by first | omega | (simp; omega)) _) | (with_reducible refine ba ?_ _) | (with_reducible apply Below.drew) | (with_reducible apply below_drewN))) hb)
          clear hb zz
          go_wp2_with fail
          go_quiet (fail)
          go_wp2_with fail
          go_roundw
          case rel =>
            refine ⟨k + 1, u, by omega, by go_num, ?_, ?_⟩
            · rw [Hnx.out, HS.out]
              refine LInv.of (t := (fun j => if j = K then false else st.has j)) (LArr.below ((LInv.arr (HI.out.below ?_)).setT HTV.out.1 K Hx8.out false) (by repeat (first | (with_reducible exact bz _) | (with_reducible refine ba ?_ _) | (with_reducible apply below_drewN) | (with_reducible apply Below.drew)))) ?_ ?_
              · repeat (first | (with_reducible exact HBR.out) | (with_reducible refine bs ?_ (by first | (simp; done) | (simp; omega) | omega) _) | (with_reducible refine ba ?_ _))
              · intro j hj; dsimp only; rw [KV.has_del HSO.out K j Hx8.out]; by_cases e : j = K <;> simp [e]
              · intro j hj hh; dsimp only at hh ⊢; rw [KV.get_del _ _ _ Hx8.out]; rw [KV.has_del HSO.out K j Hx8.out] at hh
                by_cases e : j = K
                · simp [e] at hh
                · simp only [if_neg e]; exact HI.out.e j hj (by simpa [e] using hh)
            · have HBA := bt HB.out HBR.out
              repeat (first | (with_reducible exact HBA) | (with_reducible refine bs ?_ (by first | exact HTV.out.2.1 | exact HTV.out.2.2 | (have := HB.out.size; first | omega | (simp; omega))) _) | (with_reducible refine ba ?_ _) | (with_reducible apply Below.drew) | (with_reducible apply below_drewN))
          case measure => simp [intOf]; omega
        · clear he
          go_wp2_with fail
          refine (is_any 0 0 _).mono ?_
          rintro e w3 ⟨rfl, hb⟩
          have zz : wr.heap.size < w3.heap.size := by have := hb.size; simp at this; omega
          have zT3 : T < w3.heap.size := by omega
          have nT3 : ¬ T = w3.heap.size := by omega
          have pT3 : ¬ w3.heap.size = T := by omega
          have zV3 : V < w3.heap.size := by omega
          have nV3 : ¬ V = w3.heap.size := by omega
          have pV3 : ¬ w3.heap.size = V := by omega
          have zb3 : b1 < w3.heap.size := by omega
          have nb3 : ¬ b1 = w3.heap.size := by omega
          have pb3 : ¬ w3.heap.size = b1 := by omega
          have zr3 : wr.heap.size < w3.heap.size := by omega
          have nr3 : ¬ wr.heap.size = w3.heap.size := by omega
          have pr3 : ¬ w3.heap.size = wr.heap.size := by omega
          replace t0 := kc hb T K (.bool true) (by simp [go_sem, hTw, hVw, hb1w, t0])
          replace tf := kf hb T K (by first | omega | (simp; omega)) (by simp [go_sem, hTw, hVw, hb1w, tf])
          replace v0 := kc hb V K (.int .u16 (u K)) (by simp [go_sem, hTw, hVw, hb1w, v0])
          replace vf := kf hb V K (by first | omega | (simp; omega)) (by simp [go_sem, hTw, hVw, hb1w, vf])
          replace q0 := kc hb b1 (o1 + k * 2) (.int .u8 3) (by simp [go_sem, hTw, hVw, hb1w, q0])
          replace q1 := kc hb b1 (o1 + k * 2 + 1) (.int .u16 0) (by simp [go_sem, hTw, hVw, hb1w, q1])
          have m0 := kc hb wr.heap.size 0 (.int .u8 8) (by simp [go_sem])
          have m2 := kc hb wr.heap.size 2 (.int .u8 (K : Int)) (by simp [go_sem])
          have m3 := kc hb wr.heap.size 3 (.int .u16 a) (by simp [go_sem])
          have m4 := kc hb wr.heap.size 4 (.int .u16 bb) (by simp [go_sem])
          have HBR : Hid (Below wr.heap.size wr w3) := Lib.hid (bt (by repeat (first | (with_reducible exact bz wr) | (with_reducible refine bs ?_ (by first | omega | (simp; omega)) _) | (with_reducible refine ba ?_ _) | (with_reducible apply Below.drew) | (with_reducible apply below_drewN))) hb)
          clear hb zz
          go_wp2_with fail
          refine (is_any 4 0 _).mono ?_
          rintro e w4 ⟨rfl, hb⟩
          have zz : w3.heap.size < w4.heap.size := by have := hb.size; simp at this; omega
          have zT4 : T < w4.heap.size := by omega
          have nT4 : ¬ T = w4.heap.size := by omega
          have pT4 : ¬ w4.heap.size = T := by omega
          have zV4 : V < w4.heap.size := by omega
          have nV4 : ¬ V = w4.heap.size := by omega
          have pV4 : ¬ w4.heap.size = V := by omega
          have zb4 : b1 < w4.heap.size := by omega
          have nb4 : ¬ b1 = w4.heap.size := by omega
          have pb4 : ¬ w4.heap.size = b1 := by omega
          have zr4 : wr.heap.size < w4.heap.size := by omega
          have nr4 : ¬ wr.heap.size = w4.heap.size := by omega
          have pr4 : ¬ w4.heap.size = wr.heap.size := by omega
          replace t0 := kc hb T K (.bool true) (by simp [go_sem, hTw, hVw, hb1w, zT3, zV3, zb3, zr3, nT3, nV3, nb3, nr3, pT3, pV3, pb3, pr3, t0])
          replace tf := kf hb T K (by first | omega | (simp; omega)) (by simp [go_sem, hTw, hVw, hb1w, zT3, zV3, zb3, zr3, nT3, nV3, nb3, nr3, pT3, pV3, pb3, pr3, tf])
          replace v0 := kc hb V K (.int .u16 (u K)) (by simp [go_sem, hTw, hVw, hb1w, zT3, zV3, zb3, zr3, nT3, nV3, nb3, nr3, pT3, pV3, pb3, pr3, v0])
          replace vf := kf hb V K (by first | omega | (simp; omega)) (by simp [go_sem, hTw, hVw, hb1w, zT3, zV3, zb3, zr3, nT3, nV3, nb3, nr3, pT3, pV3, pb3, pr3, vf])
          replace q0 := kc hb b1 (o1 + k * 2) (.int .u8 3) (by simp [go_sem, hTw, hVw, hb1w, zT3, zV3, zb3, zr3, nT3, nV3, nb3, nr3, pT3, pV3, pb3, pr3, q0])
          replace q1 := kc hb b1 (o1 + k * 2 + 1) (.int .u16 0) (by simp [go_sem, hTw, hVw, hb1w, zT3, zV3, zb3, zr3, nT3, nV3, nb3, nr3, pT3, pV3, pb3, pr3, q1])
          replace m0 := kc hb wr.heap.size 0 (.int .u8 8) (by simp [go_sem, hTw, hVw, hb1w, zT3, zV3, zb3, zr3, nT3, nV3, nb3, nr3, pT3, pV3, pb3, pr3, m0])
          replace m2 := kc hb wr.heap.size 2 (.int .u8 (K : Int)) (by simp [go_sem, hTw, hVw, hb1w, zT3, zV3, zb3, zr3, nT3, nV3, nb3, nr3, pT3, pV3, pb3, pr3, m2])
          replace m3 := kc hb wr.heap.size 3 (.int .u16 a) (by simp [go_sem, hTw, hVw, hb1w, zT3, zV3, zb3, zr3, nT3, nV3, nb3, nr3, pT3, pV3, pb3, pr3, m3])
          replace m4 := kc hb wr.heap.size 4 (.int .u16 bb) (by simp [go_sem, hTw, hVw, hb1w, zT3, zV3, zb3, zr3, nT3, nV3, nb3, nr3, pT3, pV3, pb3, pr3, m4])
          have zw4 : w3.heap.size < w4.heap.size := by omega
          have r0 := kc hb w3.heap.size 0 (.int .u8 0) (by simp [go_sem])
          have e0 := kf hb w3.heap.size 0 (by simp) (by simp [go_sem])
          have r1 := kc hb w3.heap.size 1 (.int .u16 0) (by simp [go_sem])
          have e1 := kf hb w3.heap.size 1 (by simp) (by simp [go_sem])
          replace HBR : Hid (Below wr.heap.size wr w4) := Lib.hid (bt (by repeat (first | (with_reducible exact HBR.out) | (with_reducible refine bs ?_ (by first | omega | (simp; omega)) _) | (with_reducible refine ba ?_ _) | (with_reducible apply Below.drew) | (with_reducible apply below_drewN))) hb)
          clear hb zz
          go_wp2_with fail
          refine (is_any 3 0 _).mono ?_
          rintro e w5 ⟨rfl, hb⟩
          have zz : w4.heap.size ≤ w5.heap.size := by have := hb.size; simp at this; omega
          have zT5 : T < w5.heap.size := by omega
          have nT5 : ¬ T = w5.heap.size := by omega
          have pT5 : ¬ w5.heap.size = T := by omega
          have zV5 : V < w5.heap.size := by omega
          have nV5 : ¬ V = w5.heap.size := by omega
          have pV5 : ¬ w5.heap.size = V := by omega
          have zb5 : b1 < w5.heap.size := by omega
          have nb5 : ¬ b1 = w5.heap.size := by omega
          have pb5 : ¬ w5.heap.size = b1 := by omega
          have zr5 : wr.heap.size < w5.heap.size := by omega
          have nr5 : ¬ wr.heap.size = w5.heap.size := by omega
          have pr5 : ¬ w5.heap.size = wr.heap.size := by omega
          replace t0 := kc hb T K (.bool true) (by simp [go_sem, hTw, hVw, hb1w, zT3, zV3, zb3, zr3, nT3, nV3, nb3, nr3, pT3, pV3, pb3, pr3, zT4, zV4, zb4, zr4, nT4, nV4, nb4, nr4, pT4, pV4, pb4, pr4, zw4, t0])
          replace tf := kf hb T K (by first | omega | (simp; omega)) (by simp [go_sem, hTw, hVw, hb1w, zT3, zV3, zb3, zr3, nT3, nV3, nb3, nr3, pT3, pV3, pb3, pr3, zT4, zV4, zb4, zr4, nT4, nV4, nb4, nr4, pT4, pV4, pb4, pr4, zw4, tf])
          replace v0 := kc hb V K (.int .u16 (u K)) (by simp [go_sem, hTw, hVw, hb1w, zT3, zV3, zb3, zr3, nT3, nV3, nb3, nr3, pT3, pV3, pb3, pr3, zT4, zV4, zb4, zr4, nT4, nV4, nb4, nr4, pT4, pV4, pb4, pr4, zw4, v0])
          replace vf := kf hb V K (by first | omega | (simp; omega)) (by simp [go_sem, hTw, hVw, hb1w, zT3, zV3, zb3, zr3, nT3, nV3, nb3, nr3, pT3, pV3, pb3, pr3, zT4, zV4, zb4, zr4, nT4, nV4, nb4, nr4, pT4, pV4, pb4, pr4, zw4, vf])
          replace q0 := kc hb b1 (o1 + k * 2) (.int .u8 3) (by simp [go_sem, hTw, hVw, hb1w, zT3, zV3, zb3, zr3, nT3, nV3, nb3, nr3, pT3, pV3, pb3, pr3, zT4, zV4, zb4, zr4, nT4, nV4, nb4, nr4, pT4, pV4, pb4, pr4, zw4, q0])
          replace q1 := kc hb b1 (o1 + k * 2 + 1) (.int .u16 0) (by simp [go_sem, hTw, hVw, hb1w, zT3, zV3, zb3, zr3, nT3, nV3, nb3, nr3, pT3, pV3, pb3, pr3, zT4, zV4, zb4, zr4, nT4, nV4, nb4, nr4, pT4, pV4, pb4, pr4, zw4, q1])
          replace m0 := kc hb wr.heap.size 0 (.int .u8 8) (by simp [go_sem, hTw, hVw, hb1w, zT3, zV3, zb3, zr3, nT3, nV3, nb3, nr3, pT3, pV3, pb3, pr3, zT4, zV4, zb4, zr4, nT4, nV4, nb4, nr4, pT4, pV4, pb4, pr4, zw4, m0])
          replace m2 := kc hb wr.heap.size 2 (.int .u8 (K : Int)) (by simp [go_sem, hTw, hVw, hb1w, zT3, zV3, zb3, zr3, nT3, nV3, nb3, nr3, pT3, pV3, pb3, pr3, zT4, zV4, zb4, zr4, nT4, nV4, nb4, nr4, pT4, pV4, pb4, pr4, zw4, m2])
          replace m3 := kc hb wr.heap.size 3 (.int .u16 a) (by simp [go_sem, hTw, hVw, hb1w, zT3, zV3, zb3, zr3, nT3, nV3, nb3, nr3, pT3, pV3, pb3, pr3, zT4, zV4, zb4, zr4, nT4, nV4, nb4, nr4, pT4, pV4, pb4, pr4, zw4, m3])
          replace m4 := kc hb wr.heap.size 4 (.int .u16 bb) (by simp [go_sem, hTw, hVw, hb1w, zT3, zV3, zb3, zr3, nT3, nV3, nb3, nr3, pT3, pV3, pb3, pr3, zT4, zV4, zb4, zr4, nT4, nV4, nb4, nr4, pT4, pV4, pb4, pr4, zw4, m4])
          have zw5 : w3.heap.size < w5.heap.size := by omega
          replace r0 := kc hb w3.heap.size 0 (.int .u8 4) (by simp [go_sem, hTw, hVw, hb1w, zT3, zV3, zb3, zr3, nT3, nV3, nb3, nr3, pT3, pV3, pb3, pr3, zT4, zV4, zb4, zr4, nT4, nV4, nb4, nr4, pT4, pV4, pb4, pr4, zw4, r0, e0])
          replace e0 := kf hb w3.heap.size 0 (by first | omega | (simp; omega)) (by simp [go_sem, hTw, hVw, hb1w, zT3, zV3, zb3, zr3, nT3, nV3, nb3, nr3, pT3, pV3, pb3, pr3, zT4, zV4, zb4, zr4, nT4, nV4, nb4, nr4, pT4, pV4, pb4, pr4, zw4, e0])
          replace r1 := kc hb w3.heap.size 1 (.int .u16 0) (by simp [go_sem, hTw, hVw, hb1w, zT3, zV3, zb3, zr3, nT3, nV3, nb3, nr3, pT3, pV3, pb3, pr3, zT4, zV4, zb4, zr4, nT4, nV4, nb4, nr4, pT4, pV4, pb4, pr4, zw4, r1, e1])
          replace e1 := kf hb w3.heap.size 1 (by first | omega | (simp; omega)) (by simp [go_sem, hTw, hVw, hb1w, zT3, zV3, zb3, zr3, nT3, nV3, nb3, nr3, pT3, pV3, pb3, pr3, zT4, zV4, zb4, zr4, nT4, nV4, nb4, nr4, pT4, pV4, pb4, pr4, zw4, e1])
          replace HBR : Hid (Below wr.heap.size wr w5) := Lib.hid (bt (by repeat (first | (with_reducible exact HBR.out) | (with_reducible refine bs ?_ (by first | omega | (simp; omega)) _) | (with_reducible refine ba ?_ _) | (with_reducible apply Below.drew) | (with_reducible apply below_drewN))) hb)
          clear hb zz
          go_wp2_with fail
          go_quiet (fail)
          go_wp2_with fail
          go_roundw
          case rel =>
            refine ⟨k + 1, u, by omega, by go_num, ?_, ?_⟩
            · rw [Hnx.out, HS.out]
              refine LInv.of (t := (fun j => if j = K then false else st.has j)) (LArr.below ((LInv.arr (HI.out.below ?_)).setT HTV.out.1 K Hx8.out false) (by repeat (first | (with_reducible exact bz _) | (with_reducible refine ba ?_ _) | (with_reducible apply below_drewN) | (with_reducible apply Below.drew)))) ?_ ?_
              · repeat (first | (with_reducible exact HBR.out) | (with_reducible refine bs ?_ (by first | (simp; done) | (simp; omega) | omega) _) | (with_reducible refine ba ?_ _))
              · intro j hj; dsimp only; rw [KV.has_del HSO.out K j Hx8.out]; by_cases e : j = K <;> simp [e]
              · intro j hj hh; dsimp only at hh ⊢; rw [KV.get_del _ _ _ Hx8.out]; rw [KV.has_del HSO.out K j Hx8.out] at hh
                by_cases e : j = K
                · simp [e] at hh
                · simp only [if_neg e]; exact HI.out.e j hj (by simpa [e] using hh)
            · have HBA := bt HB.out HBR.out
              repeat (first | (with_reducible exact HBA) | (with_reducible refine bs ?_ (by first | exact HTV.out.2.1 | exact HTV.out.2.2 | (have := HB.out.size; first | omega | (simp; omega))) _) | (with_reducible refine ba ?_ _) | (with_reducible apply Below.drew) | (with_reducible apply below_drewN))
          case measure => simp [intOf]; omega
      · have hs : stp st ⟨9, o', (K : Int), a, bb⟩ = (if st.has K && st.get K == a then (st.lay K bb, (3, 0), 0) else (st, (4, 0), 0)) := by have h8 : ¬ (8 : Int) ≤ (K : Int) := (by have := Hx8.out; omega); simp [stp, h8]
        rw [hs] at q0 q1
        have HS := Lib.hid hs
        clear hs
        obtain ⟨q, hq⟩ : ∃ q, q = st.has K := ⟨_, rfl⟩
        rw [← hq] at t0 q0 q1 he
        have Hq := Lib.hid hq
        clear hq
        rw [← Hq.out] at HS
        cases q
        · clear he
          simp only [Bool.false_and, Bool.false_eq_true, if_false] at HS q0 q1
          go_wp2_with fail
          refine (is_any 0 0 _).mono ?_
          rintro e w3 ⟨rfl, hb⟩
          have zz : wr.heap.size < w3.heap.size := by have := hb.size; simp at this; omega
          have zT3 : T < w3.heap.size := by omega
          have nT3 : ¬ T = w3.heap.size := by omega
          have pT3 : ¬ w3.heap.size = T := by omega
          have zV3 : V < w3.heap.size := by omega
          have nV3 : ¬ V = w3.heap.size := by omega
          have pV3 : ¬ w3.heap.size = V := by omega
          have zb3 : b1 < w3.heap.size := by omega
          have nb3 : ¬ b1 = w3.heap.size := by omega
          have pb3 : ¬ w3.heap.size = b1 := by omega
          have zr3 : wr.heap.size < w3.heap.size := by omega
          have nr3 : ¬ wr.heap.size = w3.heap.size := by omega
          have pr3 : ¬ w3.heap.size = wr.heap.size := by omega
          replace t0 := kc hb T K (.bool false) (by simp [go_sem, hTw, hVw, hb1w, t0])
          replace tf := kf hb T K (by first | omega | (simp; omega)) (by simp [go_sem, hTw, hVw, hb1w, tf])
          replace v0 := kc hb V K (.int .u16 (u K)) (by simp [go_sem, hTw, hVw, hb1w, v0])
          replace vf := kf hb V K (by first | omega | (simp; omega)) (by simp [go_sem, hTw, hVw, hb1w, vf])
          replace q0 := kc hb b1 (o1 + k * 2) (.int .u8 4) (by simp [go_sem, hTw, hVw, hb1w, q0])
          replace q1 := kc hb b1 (o1 + k * 2 + 1) (.int .u16 0) (by simp [go_sem, hTw, hVw, hb1w, q1])
          have m0 := kc hb wr.heap.size 0 (.int .u8 9) (by simp [go_sem])
          have m2 := kc hb wr.heap.size 2 (.int .u8 (K : Int)) (by simp [go_sem])
          have m3 := kc hb wr.heap.size 3 (.int .u16 a) (by simp [go_sem])
          have m4 := kc hb wr.heap.size 4 (.int .u16 bb) (by simp [go_sem])
          have HBR : Hid (Below wr.heap.size wr w3) := Lib.hid (bt (by repeat (first | (with_reducible exact bz wr) | (with_reducible refine bs ?_ (by first | omega | (simp; omega)) _) | (with_reducible refine ba ?_ _) | (with_reducible apply Below.drew) | (with_reducible apply below_drewN))) hb)
          clear hb zz
          go_wp2_with fail
          refine (is_any 4 0 _).mono ?_
          rintro e w4 ⟨rfl, hb⟩
          have zz : w3.heap.size < w4.heap.size := by have := hb.size; simp at this; omega
          have zT4 : T < w4.heap.size := by omega
          have nT4 : ¬ T = w4.heap.size := by omega
          have pT4 : ¬ w4.heap.size = T := by omega
          have zV4 : V < w4.heap.size := by omega
          have nV4 : ¬ V = w4.heap.size := by omega
          have pV4 : ¬ w4.heap.size = V := by omega
          have zb4 : b1 < w4.heap.size := by omega
          have nb4 : ¬ b1 = w4.heap.size := by omega
          have pb4 : ¬ w4.heap.size = b1 := by omega
          have zr4 : wr.heap.size < w4.heap.size := by omega
          have nr4 : ¬ wr.heap.size = w4.heap.size := by omega
          have pr4 : ¬ w4.heap.size = wr.heap.size := by omega
          replace t0 := kc hb T K (.bool false) (by simp [go_sem, hTw, hVw, hb1w, zT3, zV3, zb3, zr3, nT3, nV3, nb3, nr3, pT3, pV3, pb3, pr3, t0])
          replace tf := kf hb T K (by first | omega | (simp; omega)) (by simp [go_sem, hTw, hVw, hb1w, zT3, zV3, zb3, zr3, nT3, nV3, nb3, nr3, pT3, pV3, pb3, pr3, tf])
          replace v0 := kc hb V K (.int .u16 (u K)) (by simp [go_sem, hTw, hVw, hb1w, zT3, zV3, zb3, zr3, nT3, nV3, nb3, nr3, pT3, pV3, pb3, pr3, v0])
          replace vf := kf hb V K (by first | omega | (simp; omega)) (by simp [go_sem, hTw, hVw, hb1w, zT3, zV3, zb3, zr3, nT3, nV3, nb3, nr3, pT3, pV3, pb3, pr3, vf])
          replace q0 := kc hb b1 (o1 + k * 2) (.int .u8 4) (by simp [go_sem, hTw, hVw, hb1w, zT3, zV3, zb3, zr3, nT3, nV3, nb3, nr3, pT3, pV3, pb3, pr3, q0])
          replace q1 := kc hb b1 (o1 + k * 2 + 1) (.int .u16 0) (by simp [go_sem, hTw, hVw, hb1w, zT3, zV3, zb3, zr3, nT3, nV3, nb3, nr3, pT3, pV3, pb3, pr3, q1])
          replace m0 := kc hb wr.heap.size 0 (.int .u8 9) (by simp [go_sem, hTw, hVw, hb1w, zT3, zV3, zb3, zr3, nT3, nV3, nb3, nr3, pT3, pV3, pb3, pr3, m0])
          replace m2 := kc hb wr.heap.size 2 (.int .u8 (K : Int)) (by simp [go_sem, hTw, hVw, hb1w, zT3, zV3, zb3, zr3, nT3, nV3, nb3, nr3, pT3, pV3, pb3, pr3, m2])
          replace m3 := kc hb wr.heap.size 3 (.int .u16 a) (by simp [go_sem, hTw, hVw, hb1w, zT3, zV3, zb3, zr3, nT3, nV3, nb3, nr3, pT3, pV3, pb3, pr3, m3])
          replace m4 := kc hb wr.heap.size 4 (.int .u16 bb) (by simp [go_sem, hTw, hVw, hb1w, zT3, zV3, zb3, zr3, nT3, nV3, nb3, nr3, pT3, pV3, pb3, pr3, m4])
          have zw4 : w3.heap.size < w4.heap.size := by omega
          have r0 := kc hb w3.heap.size 0 (.int .u8 0) (by simp [go_sem])
          have e0 := kf hb w3.heap.size 0 (by simp) (by simp [go_sem])
          have r1 := kc hb w3.heap.size 1 (.int .u16 0) (by simp [go_sem])
          have e1 := kf hb w3.heap.size 1 (by simp) (by simp [go_sem])
          replace HBR : Hid (Below wr.heap.size wr w4) := Lib.hid (bt (by repeat (first | (with_reducible exact HBR.out) | (with_reducible refine bs ?_ (by first | omega | (simp; omega)) _) | (with_reducible refine ba ?_ _) | (with_reducible apply Below.drew) | (with_reducible apply below_drewN))) hb)
          clear hb zz
          go_wp2_with fail
          go_quiet (fail)
          go_wp2_with fail
          go_quiet (fail)
          go_wp2_with fail
          go_roundw
          case rel =>
            refine ⟨k + 1, u, by omega, by go_num, ?_, ?_⟩
            · rw [Hnx.out, HS.out]
              exact HI.out.below (by repeat (first | (with_reducible exact HBR.out) | (with_reducible refine bs ?_ (by first | omega | (simp; omega)) _) | (with_reducible refine ba ?_ _) | (with_reducible apply Below.drew) | (with_reducible apply below_drewN)))
            · have HBA := bt HB.out HBR.out
              repeat (first | (with_reducible exact HBA) | (with_reducible refine bs ?_ (by first | exact HTV.out.2.1 | exact HTV.out.2.2 | (have := HB.out.size; first | omega | (simp; omega))) _) | (with_reducible refine ba ?_ _) | (with_reducible apply Below.drew) | (with_reducible apply below_drewN))
          case measure => simp [intOf]; omega
        · have he2 := he rfl
          obtain ⟨y, hy⟩ : ∃ y, y = (u K == a) := ⟨_, rfl⟩
          rw [← he2, ← hy] at HS q0 q1
          replace hy := hy.symm
          have HE2 := Lib.hid he2
          clear he he2
          cases y
          · simp only [Bool.true_and, Bool.false_eq_true, if_false] at HS q0 q1
            go_wp2_with fail
            refine (is_any 0 0 _).mono ?_
            rintro e w3 ⟨rfl, hb⟩
            have zz : wr.heap.size < w3.heap.size := by have := hb.size; simp at this; omega
            have zT3 : T < w3.heap.size := by omega
            have nT3 : ¬ T = w3.heap.size := by omega
            have pT3 : ¬ w3.heap.size = T := by omega
            have zV3 : V < w3.heap.size := by omega
            have nV3 : ¬ V = w3.heap.size := by omega
            have pV3 : ¬ w3.heap.size = V := by omega
            have zb3 : b1 < w3.heap.size := by omega
            have nb3 : ¬ b1 = w3.heap.size := by omega
            have pb3 : ¬ w3.heap.size = b1 := by omega
            have zr3 : wr.heap.size < w3.heap.size := by omega
            have nr3 : ¬ wr.heap.size = w3.heap.size := by omega
            have pr3 : ¬ w3.heap.size = wr.heap.size := by omega
            replace t0 := kc hb T K (.bool true) (by simp [go_sem, hTw, hVw, hb1w, t0])
            replace tf := kf hb T K (by first | omega | (simp; omega)) (by simp [go_sem, hTw, hVw, hb1w, tf])
            replace v0 := kc hb V K (.int .u16 (u K)) (by simp [go_sem, hTw, hVw, hb1w, v0])
            replace vf := kf hb V K (by first | omega | (simp; omega)) (by simp [go_sem, hTw, hVw, hb1w, vf])
            replace q0 := kc hb b1 (o1 + k * 2) (.int .u8 4) (by simp [go_sem, hTw, hVw, hb1w, q0])
            replace q1 := kc hb b1 (o1 + k * 2 + 1) (.int .u16 0) (by simp [go_sem, hTw, hVw, hb1w, q1])
            have m0 := kc hb wr.heap.size 0 (.int .u8 9) (by simp [go_sem])
            have m2 := kc hb wr.heap.size 2 (.int .u8 (K : Int)) (by simp [go_sem])
            have m3 := kc hb wr.heap.size 3 (.int .u16 a) (by simp [go_sem])
            have m4 := kc hb wr.heap.size 4 (.int .u16 bb) (by simp [go_sem])
            have HBR : Hid (Below wr.heap.size wr w3) := Lib.hid (bt (by repeat (first | (with_reducible exact bz wr) | (with_reducible refine bs ?_ (by first | omega | (simp; omega)) _) | (with_reducible refine ba ?_ _) | (with_reducible apply Below.drew) | (with_reducible apply below_drewN))) hb)
            clear hb zz
            go_wp2_with fail
            refine (is_any 4 0 _).mono ?_
            rintro e w4 ⟨rfl, hb⟩
            have zz : w3.heap.size < w4.heap.size := by have := hb.size; simp at this; omega
            have zT4 : T < w4.heap.size := by omega
            have nT4 : ¬ T = w4.heap.size := by omega
            have pT4 : ¬ w4.heap.size = T := by omega
            have zV4 : V < w4.heap.size := by omega
            have nV4 : ¬ V = w4.heap.size := by omega
            have pV4 : ¬ w4.heap.size = V := by omega
            have zb4 : b1 < w4.heap.size := by omega
            have nb4 : ¬ b1 = w4.heap.size := by omega
            have pb4 : ¬ w4.heap.size = b1 := by omega
            have zr4 : wr.heap.size < w4.heap.size := by omega
            have nr4 : ¬ wr.heap.size = w4.heap.size := by omega
            have pr4 : ¬ w4.heap.size = wr.heap.size := by omega
            replace t0 := kc hb T K (.bool true) (by simp [go_sem, hTw, hVw, hb1w, zT3, zV3, zb3, zr3, nT3, nV3, nb3, nr3, pT3, pV3, pb3, pr3, t0])
            replace tf := kf hb T K (by first | omega | (simp; omega)) (by simp [go_sem, hTw, hVw, hb1w, zT3, zV3, zb3, zr3, nT3, nV3, nb3, nr3, pT3, pV3, pb3, pr3, tf])
            replace v0 := kc hb V K (.int .u16 (u K)) (by simp [go_sem, hTw, hVw, hb1w, zT3, zV3, zb3, zr3, nT3, nV3, nb3, nr3, pT3, pV3, pb3, pr3, v0])
            replace vf := kf hb V K (by first | omega | (simp; omega)) (by simp [go_sem, hTw, hVw, hb1w, zT3, zV3, zb3, zr3, nT3, nV3, nb3, nr3, pT3, pV3, pb3, pr3, vf])
            replace q0 := kc hb b1 (o1 + k * 2) (.int .u8 4) (by simp [go_sem, hTw, hVw, hb1w, zT3, zV3, zb3, zr3, nT3, nV3, nb3, nr3, pT3, pV3, pb3, pr3, q0])
            replace q1 := kc hb b1 (o1 + k * 2 + 1) (.int .u16 0) (by simp [go_sem, hTw, hVw, hb1w, zT3, zV3, zb3, zr3, nT3, nV3, nb3, nr3, pT3, pV3, pb3, pr3, q1])
            replace m0 := kc hb wr.heap.size 0 (.int .u8 9) (by simp [go_sem, hTw, hVw, hb1w, zT3, zV3, zb3, zr3, nT3, nV3, nb3, nr3, pT3, pV3, pb3, pr3, m0])
            replace m2 := kc hb wr.heap.size 2 (.int .u8 (K : Int)) (by simp [go_sem, hTw, hVw, hb1w, zT3, zV3, zb3, zr3, nT3, nV3, nb3, nr3, pT3, pV3, pb3, pr3, m2])
            replace m3 := kc hb wr.heap.size 3 (.int .u16 a) (by simp [go_sem, hTw, hVw, hb1w, zT3, zV3, zb3, zr3, nT3, nV3, nb3, nr3, pT3, pV3, pb3, pr3, m3])
            replace m4 := kc hb wr.heap.size 4 (.int .u16 bb) (by simp [go_sem, hTw, hVw, hb1w, zT3, zV3, zb3, zr3, nT3, nV3, nb3, nr3, pT3, pV3, pb3, pr3, m4])
            have zw4 : w3.heap.size < w4.heap.size := by omega
            have r0 := kc hb w3.heap.size 0 (.int .u8 0) (by simp [go_sem])
            have e0 := kf hb w3.heap.size 0 (by simp) (by simp [go_sem])
            have r1 := kc hb w3.heap.size 1 (.int .u16 0) (by simp [go_sem])
            have e1 := kf hb w3.heap.size 1 (by simp) (by simp [go_sem])
            replace HBR : Hid (Below wr.heap.size wr w4) := Lib.hid (bt (by repeat (first | (with_reducible exact HBR.out) | (with_reducible refine bs ?_ (by first | omega | (simp; omega)) _) | (with_reducible refine ba ?_ _) | (with_reducible apply Below.drew) | (with_reducible apply below_drewN))) hb)
            clear hb zz
            go_wp2_with fail
            go_quiet (fail)
            go_wp2_with fail
            go_quiet (fail)
            go_wp2_with fail
            go_roundw
            case rel =>
              refine ⟨k + 1, u, by omega, by go_num, ?_, ?_⟩
              · rw [Hnx.out, HS.out]
                exact HI.out.below (by repeat (first | (with_reducible exact HBR.out) | (with_reducible refine bs ?_ (by first | omega | (simp; omega)) _) | (with_reducible refine ba ?_ _) | (with_reducible apply Below.drew) | (with_reducible apply below_drewN)))
              · have HBA := bt HB.out HBR.out
                repeat (first | (with_reducible exact HBA) | (with_reducible refine bs ?_ (by first | exact HTV.out.2.1 | exact HTV.out.2.2 | (have := HB.out.size; first | omega | (simp; omega))) _) | (with_reducible refine ba ?_ _) | (with_reducible apply Below.drew) | (with_reducible apply below_drewN))
            case measure => simp [intOf]; omega
          · simp only [Bool.true_and, if_true] at HS q0 q1
            go_wp2_with fail
            refine (is_any 0 0 _).mono ?_
            rintro e w3 ⟨rfl, hb⟩
            have zz : wr.heap.size < w3.heap.size := by have := hb.size; simp at this; omega
            have zT3 : T < w3.heap.size := by omega
            have nT3 : ¬ T = w3.heap.size := by omega
            have pT3 : ¬ w3.heap.size = T := by omega
            have zV3 : V < w3.heap.size := by omega
            have nV3 : ¬ V = w3.heap.size := by omega
            have pV3 : ¬ w3.heap.size = V := by omega
            have zb3 : b1 < w3.heap.size := by omega
            have nb3 : ¬ b1 = w3.heap.size := by omega
            have pb3 : ¬ w3.heap.size = b1 := by omega
            have zr3 : wr.heap.size < w3.heap.size := by omega
            have nr3 : ¬ wr.heap.size = w3.heap.size := by omega
            have pr3 : ¬ w3.heap.size = wr.heap.size := by omega
            replace t0 := kc hb T K (.bool true) (by simp [go_sem, hTw, hVw, hb1w, t0])
            replace tf := kf hb T K (by first | omega | (simp; omega)) (by simp [go_sem, hTw, hVw, hb1w, tf])
            replace v0 := kc hb V K (.int .u16 (u K)) (by simp [go_sem, hTw, hVw, hb1w, v0])
            replace vf := kf hb V K (by first | omega | (simp; omega)) (by simp [go_sem, hTw, hVw, hb1w, vf])
            replace q0 := kc hb b1 (o1 + k * 2) (.int .u8 3) (by simp [go_sem, hTw, hVw, hb1w, q0])
            replace q1 := kc hb b1 (o1 + k * 2 + 1) (.int .u16 0) (by simp [go_sem, hTw, hVw, hb1w, q1])
            have m0 := kc hb wr.heap.size 0 (.int .u8 9) (by simp [go_sem])
            have m2 := kc hb wr.heap.size 2 (.int .u8 (K : Int)) (by simp [go_sem])
            have m3 := kc hb wr.heap.size 3 (.int .u16 a) (by simp [go_sem])
            have m4 := kc hb wr.heap.size 4 (.int .u16 bb) (by simp [go_sem])
            have HBR : Hid (Below wr.heap.size wr w3) := Lib.hid (bt (by repeat (first | (with_reducible exact bz wr) | (with_reducible refine bs ?_ (by first | omega | (simp; omega)) _) | (with_reducible refine ba ?_ _) | (with_reducible apply Below.drew) | (with_reducible apply below_drewN))) hb)
            clear hb zz
            go_wp2_with fail
            refine (is_any 4 0 _).mono ?_
            rintro e w4 ⟨rfl, hb⟩
            have zz : w3.heap.size < w4.heap.size := by have := hb.size; simp at this; omega
            have zT4 : T < w4.heap.size := by omega
            have nT4 : ¬ T = w4.heap.size := by omega
            have pT4 : ¬ w4.heap.size = T := by omega
            have zV4 : V < w4.heap.size := by omega
            have nV4 : ¬ V = w4.heap.size := by omega
            have pV4 : ¬ w4.heap.size = V := by omega
            have zb4 : b1 < w4.heap.size := by omega
            have nb4 : ¬ b1 = w4.heap.size := by omega
            have pb4 : ¬ w4.heap.size = b1 := by omega
            have zr4 : wr.heap.size < w4.heap.size := by omega
            have nr4 : ¬ wr.heap.size = w4.heap.size := by omega
            have pr4 : ¬ w4.heap.size = wr.heap.size := by omega
            replace t0 := kc hb T K (.bool true) (by simp [go_sem, hTw, hVw, hb1w, zT3, zV3, zb3, zr3, nT3, nV3, nb3, nr3, pT3, pV3, pb3, pr3, t0])
            replace tf := kf hb T K (by first | omega | (simp; omega)) (by simp [go_sem, hTw, hVw, hb1w, zT3, zV3, zb3, zr3, nT3, nV3, nb3, nr3, pT3, pV3, pb3, pr3, tf])
            replace v0 := kc hb V K (.int .u16 (u K)) (by simp [go_sem, hTw, hVw, hb1w, zT3, zV3, zb3, zr3, nT3, nV3, nb3, nr3, pT3, pV3, pb3, pr3, v0])
            replace vf := kf hb V K (by first | omega | (simp; omega)) (by simp [go_sem, hTw, hVw, hb1w, zT3, zV3, zb3, zr3, nT3, nV3, nb3, nr3, pT3, pV3, pb3, pr3, vf])
            replace q0 := kc hb b1 (o1 + k * 2) (.int .u8 3) (by simp [go_sem, hTw, hVw, hb1w, zT3, zV3, zb3, zr3, nT3, nV3, nb3, nr3, pT3, pV3, pb3, pr3, q0])
            replace q1 := kc hb b1 (o1 + k * 2 + 1) (.int .u16 0) (by simp [go_sem, hTw, hVw, hb1w, zT3, zV3, zb3, zr3, nT3, nV3, nb3, nr3, pT3, pV3, pb3, pr3, q1])
            replace m0 := kc hb wr.heap.size 0 (.int .u8 9) (by simp [go_sem, hTw, hVw, hb1w, zT3, zV3, zb3, zr3, nT3, nV3, nb3, nr3, pT3, pV3, pb3, pr3, m0])
            replace m2 := kc hb wr.heap.size 2 (.int .u8 (K : Int)) (by simp [go_sem, hTw, hVw, hb1w, zT3, zV3, zb3, zr3, nT3, nV3, nb3, nr3, pT3, pV3, pb3, pr3, m2])
            replace m3 := kc hb wr.heap.size 3 (.int .u16 a) (by simp [go_sem, hTw, hVw, hb1w, zT3, zV3, zb3, zr3, nT3, nV3, nb3, nr3, pT3, pV3, pb3, pr3, m3])
            replace m4 := kc hb wr.heap.size 4 (.int .u16 bb) (by simp [go_sem, hTw, hVw, hb1w, zT3, zV3, zb3, zr3, nT3, nV3, nb3, nr3, pT3, pV3, pb3, pr3, m4])
            have zw4 : w3.heap.size < w4.heap.size := by omega
            have r0 := kc hb w3.heap.size 0 (.int .u8 0) (by simp [go_sem])
            have e0 := kf hb w3.heap.size 0 (by simp) (by simp [go_sem])
            have r1 := kc hb w3.heap.size 1 (.int .u16 0) (by simp [go_sem])
            have e1 := kf hb w3.heap.size 1 (by simp) (by simp [go_sem])
            replace HBR : Hid (Below wr.heap.size wr w4) := Lib.hid (bt (by repeat (first | (with_reducible exact HBR.out) | (with_reducible refine bs ?_ (by first | omega | (simp; omega)) _) | (with_reducible refine ba ?_ _) | (with_reducible apply Below.drew) | (with_reducible apply below_drewN))) hb)
            clear hb zz
            go_wp2_with fail
            go_quiet (fail)
            go_wp2_with fail
            refine (is_any 3 0 _).mono ?_
            rintro e w5 ⟨rfl, hb⟩
            have zz : w4.heap.size ≤ w5.heap.size := by have := hb.size; simp at this; omega
            have zT5 : T < w5.heap.size := by omega
            have nT5 : ¬ T = w5.heap.size := by omega
            have pT5 : ¬ w5.heap.size = T := by omega
            have zV5 : V < w5.heap.size := by omega
            have nV5 : ¬ V = w5.heap.size := by omega
            have pV5 : ¬ w5.heap.size = V := by omega
            have zb5 : b1 < w5.heap.size := by omega
            have nb5 : ¬ b1 = w5.heap.size := by omega
            have pb5 : ¬ w5.heap.size = b1 := by omega
            have zr5 : wr.heap.size < w5.heap.size := by omega
            have nr5 : ¬ wr.heap.size = w5.heap.size := by omega
            have pr5 : ¬ w5.heap.size = wr.heap.size := by omega
            replace t0 := kc hb T K (.bool true) (by simp [go_sem, hTw, hVw, hb1w, zT3, zV3, zb3, zr3, nT3, nV3, nb3, nr3, pT3, pV3, pb3, pr3, zT4, zV4, zb4, zr4, nT4, nV4, nb4, nr4, pT4, pV4, pb4, pr4, zw4, t0])
            replace tf := kf hb T K (by first | omega | (simp; omega)) (by simp [go_sem, hTw, hVw, hb1w, zT3, zV3, zb3, zr3, nT3, nV3, nb3, nr3, pT3, pV3, pb3, pr3, zT4, zV4, zb4, zr4, nT4, nV4, nb4, nr4, pT4, pV4, pb4, pr4, zw4, tf])
            replace v0 := kc hb V K (.int .u16 (u K)) (by simp [go_sem, hTw, hVw, hb1w, zT3, zV3, zb3, zr3, nT3, nV3, nb3, nr3, pT3, pV3, pb3, pr3, zT4, zV4, zb4, zr4, nT4, nV4, nb4, nr4, pT4, pV4, pb4, pr4, zw4, v0])
            replace vf := kf hb V K (by first | omega | (simp; omega)) (by simp [go_sem, hTw, hVw, hb1w, zT3, zV3, zb3, zr3, nT3, nV3, nb3, nr3, pT3, pV3, pb3, pr3, zT4, zV4, zb4, zr4, nT4, nV4, nb4, nr4, pT4, pV4, pb4, pr4, zw4, vf])
            replace q0 := kc hb b1 (o1 + k * 2) (.int .u8 3) (by simp [go_sem, hTw, hVw, hb1w, zT3, zV3, zb3, zr3, nT3, nV3, nb3, nr3, pT3, pV3, pb3, pr3, zT4, zV4, zb4, zr4, nT4, nV4, nb4, nr4, pT4, pV4, pb4, pr4, zw4, q0])
            replace q1 := kc hb b1 (o1 + k * 2 + 1) (.int .u16 0) (by simp [go_sem, hTw, hVw, hb1w, zT3, zV3, zb3, zr3, nT3, nV3, nb3, nr3, pT3, pV3, pb3, pr3, zT4, zV4, zb4, zr4, nT4, nV4, nb4, nr4, pT4, pV4, pb4, pr4, zw4, q1])
            replace m0 := kc hb wr.heap.size 0 (.int .u8 9) (by simp [go_sem, hTw, hVw, hb1w, zT3, zV3, zb3, zr3, nT3, nV3, nb3, nr3, pT3, pV3, pb3, pr3, zT4, zV4, zb4, zr4, nT4, nV4, nb4, nr4, pT4, pV4, pb4, pr4, zw4, m0])
            replace m2 := kc hb wr.heap.size 2 (.int .u8 (K : Int)) (by simp [go_sem, hTw, hVw, hb1w, zT3, zV3, zb3, zr3, nT3, nV3, nb3, nr3, pT3, pV3, pb3, pr3, zT4, zV4, zb4, zr4, nT4, nV4, nb4, nr4, pT4, pV4, pb4, pr4, zw4, m2])
            replace m3 := kc hb wr.heap.size 3 (.int .u16 a) (by simp [go_sem, hTw, hVw, hb1w, zT3, zV3, zb3, zr3, nT3, nV3, nb3, nr3, pT3, pV3, pb3, pr3, zT4, zV4, zb4, zr4, nT4, nV4, nb4, nr4, pT4, pV4, pb4, pr4, zw4, m3])
            replace m4 := kc hb wr.heap.size 4 (.int .u16 bb) (by simp [go_sem, hTw, hVw, hb1w, zT3, zV3, zb3, zr3, nT3, nV3, nb3, nr3, pT3, pV3, pb3, pr3, zT4, zV4, zb4, zr4, nT4, nV4, nb4, nr4, pT4, pV4, pb4, pr4, zw4, m4])
            have zw5 : w3.heap.size < w5.heap.size := by omega
            replace r0 := kc hb w3.heap.size 0 (.int .u8 4) (by simp [go_sem, hTw, hVw, hb1w, zT3, zV3, zb3, zr3, nT3, nV3, nb3, nr3, pT3, pV3, pb3, pr3, zT4, zV4, zb4, zr4, nT4, nV4, nb4, nr4, pT4, pV4, pb4, pr4, zw4, r0, e0])
            replace e0 := kf hb w3.heap.size 0 (by first | omega | (simp; omega)) (by simp [go_sem, hTw, hVw, hb1w, zT3, zV3, zb3, zr3, nT3, nV3, nb3, nr3, pT3, pV3, pb3, pr3, zT4, zV4, zb4, zr4, nT4, nV4, nb4, nr4, pT4, pV4, pb4, pr4, zw4, e0])
            replace r1 := kc hb w3.heap.size 1 (.int .u16 0) (by simp [go_sem, hTw, hVw, hb1w, zT3, zV3, zb3, zr3, nT3, nV3, nb3, nr3, pT3, pV3, pb3, pr3, zT4, zV4, zb4, zr4, nT4, nV4, nb4, nr4, pT4, pV4, pb4, pr4, zw4, r1, e1])
            replace e1 := kf hb w3.heap.size 1 (by first | omega | (simp; omega)) (by simp [go_sem, hTw, hVw, hb1w, zT3, zV3, zb3, zr3, nT3, nV3, nb3, nr3, pT3, pV3, pb3, pr3, zT4, zV4, zb4, zr4, nT4, nV4, nb4, nr4, pT4, pV4, pb4, pr4, zw4, e1])
            replace HBR : Hid (Below wr.heap.size wr w5) := Lib.hid (bt (by repeat (first | (with_reducible exact HBR.out) | (with_reducible refine bs ?_ (by first | omega | (simp; omega)) _) | (with_reducible refine ba ?_ _) | (with_reducible apply Below.drew) | (with_reducible apply below_drewN))) hb)
            clear hb zz
            go_wp2_with fail
            go_quiet (fail)
            go_wp2_with fail
            go_roundw
            case rel =>
              refine ⟨k + 1, (fun j => if j = K then bb else u j), by omega, by go_num, ?_, ?_⟩
              · rw [Hnx.out, HS.out]
                refine LInv.of (t := st.has) (LArr.below ((LInv.arr (HI.out.below ?_)).setV HTV.out.1 K Hx8.out bb) (by repeat (first | (with_reducible exact bz _) | (with_reducible refine ba ?_ _) | (with_reducible apply below_drewN) | (with_reducible apply Below.drew)))) ?_ ?_
                · repeat (first | (with_reducible exact HBR.out) | (with_reducible refine bs ?_ (by first | (simp; done) | (simp; omega) | omega) _) | (with_reducible refine ba ?_ _))
                · intro j hj; dsimp only; rw [KV.has_lay HSO.out K j Hx8.out]; by_cases e : j = K
                  · subst e; simp [← Hq.out]
                  · simp [e]
                · intro j hj hh; dsimp only at hh ⊢; rw [KV.get_lay _ _ _ _ Hx8.out]
                  by_cases e : j = K
                  · simp [e]
                  · simp only [if_neg e]; rw [KV.has_lay HSO.out K j Hx8.out] at hh; exact HI.out.e j hj (by simpa [e] using hh)
              · have HBA := bt HB.out HBR.out
                repeat (first | (with_reducible exact HBA) | (with_reducible refine bs ?_ (by first | exact HTV.out.2.1 | exact HTV.out.2.2 | (have := HB.out.size; first | omega | (simp; omega))) _) | (with_reducible refine ba ?_ _) | (with_reducible apply Below.drew) | (with_reducible apply below_drewN))
            case measure => simp [intOf]; omega
    · have hk' : k = stopAt l := by omega
      have i3 : decide ((k : Int) < (stopAt l : Int)) = false := by simp; omega
      have i4 : decide (k < stopAt l) = false := by simp; omega
      clear hk' hlt hinv hb2
      go_wp2_with fail
      refine (awake_any _).mono ?_
      rintro e w9 ⟨rfl, hb⟩
      go_wp2
      go_ret
      exact ⟨rfl, bt HW.out (bt HB.out hb)⟩

theorem last_any (l : List Op5) (ao : Option Addr) (cap b o : Nat) (w : World) (h : SlAt w 5 l.length (l.flatMap Op5.cells) ao cap b o) (hok : ∀ x ∈ l, x.ok) :
    Calls Try.prog 4 #[.slice ao l.length cap] w fun e w' => e = .returned (.bool true) ∧ Below w.heap.size w w' := by
  by_cases hl : 200 < l.length
  · exact last_big l.length ao cap w hl
  · exact last_small l ao cap b o w h hok (by omega)
end Go.Proofs.Ytoidbmgoofbcfaa
