/- The document's step. Printed by gen_refstep.py. -/
import Derived.Test.YtoidbmgoofbcfaaItemsw
import Derived.Test.YtoidbmgoofbcfaaRun
namespace Go.Proofs.Ytoidbmgoofbcfaa
open Go.RowKit Go.Um
set_option linter.unusedSimpArgs false
set_option linter.unusedVariables false
set_option maxHeartbeats 4000000
set_option maxRecDepth 100000

theorem slat_set2 {w w' : World} {size n cap b o : Nat} {cs : List Value} {ao : Option Addr} (h : SlAt w size n cs ao cap b o) (p : Nat) (hp : 0 < cs.length → b ≠ p) (hk : Kept (fun i => i = p) w w') : SlAt w' size n cs ao cap b o :=
  ⟨h.len, h.le, h.max, h.addr, fun hq => Nat.lt_of_lt_of_le (h.lt hq) hk.size, fun j u hu => hk.cell (h.cell j u hu) (hp (by have := (List.getElem?_eq_some_iff.1 hu).1; omega))⟩
theorem keep_drewN {w : World} {a : Addr} {v : Value} {n : Nat} (h : w.cell? a = some v) : (w.drewN n).cell? a = some v := h
theorem below_dd (X : World) (n m : Nat) : Below (X.drewN n).heap.size (X.drewN n) (X.drewN m) := ⟨rfl, rfl, rfl, Nat.le_refl _, fun _ _ => rfl⟩
theorem news2 {w : World} {B : Nat} {x y : Value} (z0 : w.cell? ⟨B, 0, none⟩ = some x) (z1 : w.cell? ⟨B, 1, none⟩ = some y) : ∀ j u, [x, y][j]? = some u → w.cell? ((⟨B, 0, none⟩ : Addr).add j) = some u := by
  intro j u hu
  rw [Addr.add_lit, Nat.zero_add]
  rcases j with _ | _ | j
  · simp at hu; rw [← hu]; exact z0
  · simp at hu; rw [← hu]; exact z1
  · simp at hu
def StepPost (bT : Nat) (T : List (Int × Int)) (R : List (Int × Int) × (Int × Int) × Int) (w : World) (e : Ending) (w' : World) : Prop :=
  ∃ ao cap b o n, n = R.1.length ∧ e = .returned (.tuple #[.slice ao n cap, .agg #[.int .u8 R.2.1.1, .int .u16 R.2.1.2], .int .i64 R.2.2]) ∧ SlAt w' 2 n (R.1.flatMap resC) ao cap b o ∧ Below w.heap.size w w' ∧ (0 < (R.1.flatMap resC).length → (b = bT ∧ R.1 = T) ∨ w.heap.size ≤ b)

theorem rs_key (T : List (Int × Int)) (n : Nat) (hn : n = T.length) (ao : Option Addr) (cap b o : Nat) (o' k a bb : Int) (w : World) (h : SlAt w 2 n (T.flatMap resC) ao cap b o) (hT : ItOk T) (hlen : n ≤ 999) (f : Int) (hk : 8 ≤ k) : Calls Try.prog 22 #[.slice ao n cap, .agg #[.int .u8 f, .int .u8 o', .int .u8 k, .int .u16 a, .int .u16 bb]] w (StepPost b T (stepL T ⟨f, o', k, a, bb⟩) w) := by
  have t1 : decide ((7 : Int) < k) = true := by simp; omega
  have hs : stepL T ⟨f, o', k, a, bb⟩ = (T, (0, 0), 10) := by unfold stepL; rw [if_pos (.inl hk)]
  rw [hs]
  clear hs hk 
  have HS := Lib.hid h
  have HN := Lib.hid hn
  clear h hn hT
  go_enter Try.func22, Try.ntmps22
  go_wp2
  refine bodyPost_ret (v := .tuple #[.slice ao n cap, .agg #[.int .u8 0, .int .u16 0], .int .i64 10]) (by simp [results, Try.results22, go_sem]) rfl ⟨ao, cap, b, o, n, HN.out, rfl, ?_, ?_, fun _ => .inl ⟨rfl, rfl⟩⟩
  · exact HS.out.below (by repeat (first | (with_reducible exact bz _) | (with_reducible refine bs ?_ (by first | (simp; done) | (simp; omega)) _) | (with_reducible apply ba) | (with_reducible apply Below.drew) | (with_reducible exact below_dd _ _ _) | (with_reducible apply below_drewN)))
  · exact (by repeat (first | (with_reducible exact bz _) | (with_reducible refine bs ?_ (by first | (simp; done) | (simp; omega)) _) | (with_reducible apply ba) | (with_reducible apply Below.drew) | (with_reducible exact below_dd _ _ _) | (with_reducible apply below_drewN)))

theorem rs_low (T : List (Int × Int)) (n : Nat) (hn : n = T.length) (ao : Option Addr) (cap b o : Nat) (o' k a bb : Int) (w : World) (h : SlAt w 2 n (T.flatMap resC) ao cap b o) (hT : ItOk T) (hlen : n ≤ 999) (f : Int) (hk : k < 8) (hf : f < 6) : Calls Try.prog 22 #[.slice ao n cap, .agg #[.int .u8 f, .int .u8 o', .int .u8 k, .int .u16 a, .int .u16 bb]] w (StepPost b T (stepL T ⟨f, o', k, a, bb⟩) w) := by
  have t1 : decide ((7 : Int) < k) = false := by simp; omega
  have t2 : decide (f < (6 : Int)) = true := by simp; omega
  have hs : stepL T ⟨f, o', k, a, bb⟩ = (T, (0, 0), 10) := by unfold stepL; rw [if_pos (.inr (.inl hf))]
  rw [hs]
  clear hs hk hf
  have HS := Lib.hid h
  have HN := Lib.hid hn
  clear h hn hT
  go_enter Try.func22, Try.ntmps22
  go_wp2
  refine bodyPost_ret (v := .tuple #[.slice ao n cap, .agg #[.int .u8 0, .int .u16 0], .int .i64 10]) (by simp [results, Try.results22, go_sem]) rfl ⟨ao, cap, b, o, n, HN.out, rfl, ?_, ?_, fun _ => .inl ⟨rfl, rfl⟩⟩
  · exact HS.out.below (by repeat (first | (with_reducible exact bz _) | (with_reducible refine bs ?_ (by first | (simp; done) | (simp; omega)) _) | (with_reducible apply ba) | (with_reducible apply Below.drew) | (with_reducible exact below_dd _ _ _) | (with_reducible apply below_drewN)))
  · exact (by repeat (first | (with_reducible exact bz _) | (with_reducible refine bs ?_ (by first | (simp; done) | (simp; omega)) _) | (with_reducible apply ba) | (with_reducible apply Below.drew) | (with_reducible exact below_dd _ _ _) | (with_reducible apply below_drewN)))

theorem rs_high (T : List (Int × Int)) (n : Nat) (hn : n = T.length) (ao : Option Addr) (cap b o : Nat) (o' k a bb : Int) (w : World) (h : SlAt w 2 n (T.flatMap resC) ao cap b o) (hT : ItOk T) (hlen : n ≤ 999) (f : Int) (hk : k < 8) (hf : 9 < f) : Calls Try.prog 22 #[.slice ao n cap, .agg #[.int .u8 f, .int .u8 o', .int .u8 k, .int .u16 a, .int .u16 bb]] w (StepPost b T (stepL T ⟨f, o', k, a, bb⟩) w) := by
  have t1 : decide ((7 : Int) < k) = false := by simp; omega
  have t2 : decide (f < (6 : Int)) = false := by simp; omega
  have t3 : decide ((9 : Int) < f) = true := by simp; omega
  have hs : stepL T ⟨f, o', k, a, bb⟩ = (T, (0, 0), 10) := by unfold stepL; rw [if_pos (.inr (.inr hf))]
  rw [hs]
  clear hs hk hf
  have HS := Lib.hid h
  have HN := Lib.hid hn
  clear h hn hT
  go_enter Try.func22, Try.ntmps22
  go_wp2
  refine bodyPost_ret (v := .tuple #[.slice ao n cap, .agg #[.int .u8 0, .int .u16 0], .int .i64 10]) (by simp [results, Try.results22, go_sem]) rfl ⟨ao, cap, b, o, n, HN.out, rfl, ?_, ?_, fun _ => .inl ⟨rfl, rfl⟩⟩
  · exact HS.out.below (by repeat (first | (with_reducible exact bz _) | (with_reducible refine bs ?_ (by first | (simp; done) | (simp; omega)) _) | (with_reducible apply ba) | (with_reducible apply Below.drew) | (with_reducible exact below_dd _ _ _) | (with_reducible apply below_drewN)))
  · exact (by repeat (first | (with_reducible exact bz _) | (with_reducible refine bs ?_ (by first | (simp; done) | (simp; omega)) _) | (with_reducible apply ba) | (with_reducible apply Below.drew) | (with_reducible exact below_dd _ _ _) | (with_reducible apply below_drewN)))

theorem rs_6_none (T : List (Int × Int)) (n : Nat) (hn : n = T.length) (ao : Option Addr) (cap b o : Nat) (o' k a bb : Int) (w : World) (h : SlAt w 2 n (T.flatMap resC) ao cap b o) (hT : ItOk T) (hlen : n ≤ 999) (hk : k < 8) (hl : look T k = none) : Calls Try.prog 22 #[.slice ao n cap, .agg #[.int .u8 6, .int .u8 o', .int .u8 k, .int .u16 a, .int .u16 bb]] w (StepPost b T (stepL T ⟨6, o', k, a, bb⟩) w) := by
  have hs : stepL T ⟨6, o', k, a, bb⟩ = (T, (2, 0), 0) := by
    unfold stepL
    rw [if_neg (by dsimp only; omega)]
    simp [hl]
  rw [hs]
  clear hs
  have t1 : decide ((7 : Int) < k) = false := by simp; omega
  have hat : atI T k = -1 := by
    rcases at_ways T k with ⟨h1, _⟩ | ⟨i, x, h1, h2, _⟩
    · exact h1
    · rw [look_some hT.d (List.mem_of_getElem? h1) h2] at hl; cases hl
  have HAT := Lib.hid (fun W hW => at_any T n hn ao cap b o k W hW (by omega))
  rw [hat] at HAT
  have HS := Lib.hid h
  have HN := Lib.hid hn
  clear h hn hT hk hl hat
  go_enter Try.func22, Try.ntmps22
  go_wp2_with fail
  refine (HAT.out _ (HS.out.below (by repeat (first | (with_reducible exact bz _) | (with_reducible refine bs ?_ (by first | (simp; done) | (simp; omega)) _) | (with_reducible apply ba) | (with_reducible apply Below.drew) | (with_reducible exact below_dd _ _ _) | (with_reducible apply below_drewN))))).mono ?_
  rintro e w1 ⟨rfl, rfl⟩
  go_wp2
  refine bodyPost_ret (v := .tuple #[.slice ao n cap, .agg #[.int .u8 2, .int .u16 0], .int .i64 0]) (by simp [results, Try.results22, go_sem]) rfl ⟨ao, cap, b, o, n, HN.out, rfl, ?_, ?_, fun _ => .inl ⟨rfl, rfl⟩⟩
  · exact HS.out.below (by repeat (first | (with_reducible exact bz _) | (with_reducible refine bs ?_ (by first | (simp; done) | (simp; omega)) _) | (with_reducible apply ba) | (with_reducible apply Below.drew) | (with_reducible exact below_dd _ _ _) | (with_reducible apply below_drewN)))
  · exact (by repeat (first | (with_reducible exact bz _) | (with_reducible refine bs ?_ (by first | (simp; done) | (simp; omega)) _) | (with_reducible apply ba) | (with_reducible apply Below.drew) | (with_reducible exact below_dd _ _ _) | (with_reducible apply below_drewN)))

theorem rs_6_some (T : List (Int × Int)) (n : Nat) (hn : n = T.length) (ao : Option Addr) (cap b o : Nat) (o' k a bb : Int) (w : World) (h : SlAt w 2 n (T.flatMap resC) ao cap b o) (hT : ItOk T) (hlen : n ≤ 999) (hk : k < 8) (v : Int) (hl : look T k = some v) : Calls Try.prog 22 #[.slice ao n cap, .agg #[.int .u8 6, .int .u8 o', .int .u8 k, .int .u16 a, .int .u16 bb]] w (StepPost b T (stepL T ⟨6, o', k, a, bb⟩) w) := by
  have hs : stepL T ⟨6, o', k, a, bb⟩ = (T, (1, v), 0) := by
    unfold stepL
    rw [if_neg (by dsimp only; omega)]
    simp [hl]
  rw [hs]
  clear hs
  have t1 : decide ((7 : Int) < k) = false := by simp; omega
  obtain ⟨i, x, hix, hxk, hat⟩ : ∃ (i : Nat) (x : Int × Int), T[i]? = some x ∧ x.1 = k ∧ atI T k = i := by
    rcases at_ways T k with ⟨_, h1⟩ | h1
    · rw [look_none h1] at hl; cases hl
    · exact h1
  have hxv : x.2 = v := by rw [look_some hT.d (List.mem_of_getElem? hix) hxk] at hl; exact Option.some.inj hl
  have HAT := Lib.hid (fun W hW => at_any T n hn ao cap b o k W hW (by omega))
  rw [hat] at HAT
  have hin : i < n := by have := (List.getElem?_eq_some_iff.1 hix).1; omega
  obtain ⟨g0, g1⟩ := res_at h hix
  rw [hxv] at g1
  have hidx := h.idx (P := Try.prog) (t := 33) Try.underlying33 size61 (by decide)
  have hbw : b < w.heap.size := World.block_lt_of_cell? w _ g0
  have t3 : decide ((i : Int) < 0) = false := by simp
  have i1 : (0 : Int) ≤ (i : Int) := by omega
  have i2 : (i : Int) < (n : Int) := by omega
  have HS := Lib.hid h
  have HN := Lib.hid hn
  clear h hn hT hk hl hat hix hxk hxv hin
  go_enter Try.func22, Try.ntmps22
  go_wp2_with fail
  refine (HAT.out _ (HS.out.below (by repeat (first | (with_reducible exact bz _) | (with_reducible refine bs ?_ (by first | (simp; done) | (simp; omega)) _) | (with_reducible apply ba) | (with_reducible apply Below.drew) | (with_reducible exact below_dd _ _ _) | (with_reducible apply below_drewN))))).mono ?_
  rintro e w1 ⟨rfl, rfl⟩
  go_wp2_with fail
  go_region
  all_goals go_wp2
  refine bodyPost_ret (v := .tuple #[.slice ao n cap, .agg #[.int .u8 1, .int .u16 v], .int .i64 0]) (by simp [results, Try.results22, go_sem]) rfl ⟨ao, cap, b, o, n, HN.out, rfl, ?_, ?_, fun _ => .inl ⟨rfl, rfl⟩⟩
  · exact HS.out.below (by repeat (first | (with_reducible exact bz _) | (with_reducible refine bs ?_ (by first | (simp; done) | (simp; omega)) _) | (with_reducible apply ba) | (with_reducible apply Below.drew) | (with_reducible exact below_dd _ _ _) | (with_reducible apply below_drewN)))
  · exact (by repeat (first | (with_reducible exact bz _) | (with_reducible refine bs ?_ (by first | (simp; done) | (simp; omega)) _) | (with_reducible apply ba) | (with_reducible apply Below.drew) | (with_reducible exact below_dd _ _ _) | (with_reducible apply below_drewN)))

theorem rs_8_none (T : List (Int × Int)) (n : Nat) (hn : n = T.length) (ao : Option Addr) (cap b o : Nat) (o' k a bb : Int) (w : World) (h : SlAt w 2 n (T.flatMap resC) ao cap b o) (hT : ItOk T) (hlen : n ≤ 999) (hk : k < 8) (hl : look T k = none) : Calls Try.prog 22 #[.slice ao n cap, .agg #[.int .u8 8, .int .u8 o', .int .u8 k, .int .u16 a, .int .u16 bb]] w (StepPost b T (stepL T ⟨8, o', k, a, bb⟩) w) := by
  have hs : stepL T ⟨8, o', k, a, bb⟩ = (T, (4, 0), 0) := by
    unfold stepL
    rw [if_neg (by dsimp only; omega)]
    simp [hl]
  rw [hs]
  clear hs
  have t1 : decide ((7 : Int) < k) = false := by simp; omega
  have hat : atI T k = -1 := by
    rcases at_ways T k with ⟨h1, _⟩ | ⟨i, x, h1, h2, _⟩
    · exact h1
    · rw [look_some hT.d (List.mem_of_getElem? h1) h2] at hl; cases hl
  have HAT := Lib.hid (fun W hW => at_any T n hn ao cap b o k W hW (by omega))
  rw [hat] at HAT
  have HS := Lib.hid h
  have HN := Lib.hid hn
  clear h hn hT hk hl hat
  go_enter Try.func22, Try.ntmps22
  go_wp2_with fail
  refine (HAT.out _ (HS.out.below (by repeat (first | (with_reducible exact bz _) | (with_reducible refine bs ?_ (by first | (simp; done) | (simp; omega)) _) | (with_reducible apply ba) | (with_reducible apply Below.drew) | (with_reducible exact below_dd _ _ _) | (with_reducible apply below_drewN))))).mono ?_
  rintro e w1 ⟨rfl, rfl⟩
  go_wp2
  refine bodyPost_ret (v := .tuple #[.slice ao n cap, .agg #[.int .u8 4, .int .u16 0], .int .i64 0]) (by simp [results, Try.results22, go_sem]) rfl ⟨ao, cap, b, o, n, HN.out, rfl, ?_, ?_, fun _ => .inl ⟨rfl, rfl⟩⟩
  · exact HS.out.below (by repeat (first | (with_reducible exact bz _) | (with_reducible refine bs ?_ (by first | (simp; done) | (simp; omega)) _) | (with_reducible apply ba) | (with_reducible apply Below.drew) | (with_reducible exact below_dd _ _ _) | (with_reducible apply below_drewN)))
  · exact (by repeat (first | (with_reducible exact bz _) | (with_reducible refine bs ?_ (by first | (simp; done) | (simp; omega)) _) | (with_reducible apply ba) | (with_reducible apply Below.drew) | (with_reducible exact below_dd _ _ _) | (with_reducible apply below_drewN)))

theorem drop_any (T : List (Int × Int)) (n : Nat) (hn : n = T.length) (ao : Option Addr) (cap b o : Nat) (k : Int) (w : World) (h : SlAt w 2 n (T.flatMap resC) ao cap b o) (hT : ItOk T) (hlen : n ≤ 1000) :
    Calls Try.prog 34 #[.slice ao n cap, .int .i64 (atI T k)] w (OwnPost (drop1 T k) (drop1 T k).length w) := by
  have := without_any T n hn ao cap b o (atI T k) w h hlen
  rw [hn, wiN_all hT.d k] at this
  rw [hn]; exact this

theorem rs_8_some (T : List (Int × Int)) (n : Nat) (hn : n = T.length) (ao : Option Addr) (cap b o : Nat) (o' k a bb : Int) (w : World) (h : SlAt w 2 n (T.flatMap resC) ao cap b o) (hT : ItOk T) (hlen : n ≤ 999) (hk : k < 8) (v : Int) (hl : look T k = some v) : Calls Try.prog 22 #[.slice ao n cap, .agg #[.int .u8 8, .int .u8 o', .int .u8 k, .int .u16 a, .int .u16 bb]] w (StepPost b T (stepL T ⟨8, o', k, a, bb⟩) w) := by
  have hs : stepL T ⟨8, o', k, a, bb⟩ = (drop1 T k, (3, 0), 0) := by
    unfold stepL
    rw [if_neg (by dsimp only; omega)]
    simp [hl]
  rw [hs]
  clear hs
  have HDR := Lib.hid (fun W hW => drop_any T n hn ao cap b o k W hW hT (by omega))
  have t1 : decide ((7 : Int) < k) = false := by simp; omega
  obtain ⟨i, x, hix, hxk, hat⟩ : ∃ (i : Nat) (x : Int × Int), T[i]? = some x ∧ x.1 = k ∧ atI T k = i := by
    rcases at_ways T k with ⟨_, h1⟩ | h1
    · rw [look_none h1] at hl; cases hl
    · exact h1
  have hxv : x.2 = v := by rw [look_some hT.d (List.mem_of_getElem? hix) hxk] at hl; exact Option.some.inj hl
  have HAT := Lib.hid (fun W hW => at_any T n hn ao cap b o k W hW (by omega))
  rw [hat] at HAT
  have hin : i < n := by have := (List.getElem?_eq_some_iff.1 hix).1; omega
  obtain ⟨g0, g1⟩ := res_at h hix
  rw [hxv] at g1
  have hidx := h.idx (P := Try.prog) (t := 33) Try.underlying33 size61 (by decide)
  have hbw : b < w.heap.size := World.block_lt_of_cell? w _ g0
  have t3 : decide ((i : Int) < 0) = false := by simp
  have i1 : (0 : Int) ≤ (i : Int) := by omega
  have i2 : (i : Int) < (n : Int) := by omega
  have HS := Lib.hid h
  have HN := Lib.hid hn
  rw [hat] at HDR
  obtain ⟨M, hM⟩ : ∃ M, M = drop1 T k := ⟨_, rfl⟩
  rw [← hM] at HDR ⊢
  clear h hn hT hk hl hat hix hxk hxv hin hM g0 g1 hidx hbw
  go_enter Try.func22, Try.ntmps22
  go_wp2_with fail
  refine (HAT.out _ (HS.out.below (by repeat (first | (with_reducible exact bz _) | (with_reducible refine bs ?_ (by first | (simp; done) | (simp; omega)) _) | (with_reducible apply ba) | (with_reducible apply Below.drew) | (with_reducible exact below_dd _ _ _) | (with_reducible apply below_drewN))))).mono ?_
  rintro e w1 ⟨rfl, rfl⟩
  go_wp2_with fail
  refine (HDR.out _ (HS.out.below (by repeat (first | (with_reducible exact bz _) | (with_reducible refine bs ?_ (by first | (simp; done) | (simp; omega)) _) | (with_reducible apply ba) | (with_reducible apply Below.drew) | (with_reducible exact below_dd _ _ _) | (with_reducible apply below_drewN))))).mono ?_
  rintro e w2 ⟨v2, rfl, hown, hb2⟩
  obtain ⟨ao2, cap2, b2, o2, rfl, hs2, hnew⟩ := SlAt.owned hown
  have HNW : Hid (0 < (M.flatMap resC).length → w.heap.size ≤ b2) := fun hp => (by have := hnew hp; simp at this; omega)
  clear hnew
  have r0 := kc hb2 (w.heap.size + 1) 0 (.int .u8 0) (by simp [go_sem])
  have r1 := kc hb2 (w.heap.size + 1) 1 (.int .u16 0) (by simp [go_sem])
  have q0 := kf hb2 (w.heap.size + 1) 0 (by simp) (by simp [go_sem])
  have q1 := kf hb2 (w.heap.size + 1) 1 (by simp) (by simp [go_sem])
  have hz : w.heap.size + 1 < w2.heap.size := by have := hb2.size; simp at this; omega
  have hlo := hown.lt
  have HB2 := Lib.hid (bt (ba (ba (bz w) (.cells #[.int .u8 8, .int .u8 o', .int .u8 k, .int .u16 a, .int .u16 bb] 44)) (.cells #[.int .u8 0, .int .u16 0] 39)) hb2)
  have H2 := Lib.hid hs2
  have hne : 0 < (M.flatMap resC).length → b2 ≠ w.heap.size + 1 := fun hp => by
    have ha := hs2.addr hp
    have hl := hlo b2 (by rw [ha]; rfl)
    simp at hl
    omega
  have HNE := Lib.hid hne
  clear hown hs2 hb2 hlo hne
  go_wp2
  refine bodyPost_ret (v := .tuple #[.slice ao2 M.length cap2, .agg #[.int .u8 3, .int .u16 0], .int .i64 0]) (by simp [results, Try.results22, go_sem, r0, r1, hz]) rfl ⟨ao2, cap2, b2, o2, M.length, rfl, rfl, ?_, ?_, fun hp => .inr (HNW.out hp)⟩
  · refine slat_set2 H2.out (w.heap.size + 1) HNE.out ?_
    repeat (first | (with_reducible exact Kept.refl _ _) | (with_reducible refine Kept.setCell (S := fun i => i = w.heap.size + 1) ?_ (fun _ => rfl) _))
  · have hbw := HB2.out
    repeat (first | (with_reducible exact hbw) | (with_reducible refine bs ?_ (by first | (simp; done) | (simp; omega)) _))

theorem rs_7 (T : List (Int × Int)) (n : Nat) (hn : n = T.length) (ao : Option Addr) (cap b o : Nat) (o' k a bb : Int) (w : World) (h : SlAt w 2 n (T.flatMap resC) ao cap b o) (hT : ItOk T) (hlen : n ≤ 999) (hk : k < 8) : Calls Try.prog 22 #[.slice ao n cap, .agg #[.int .u8 7, .int .u8 o', .int .u8 k, .int .u16 a, .int .u16 bb]] w (StepPost b T (stepL T ⟨7, o', k, a, bb⟩) w) := by
  have hs : stepL T ⟨7, o', k, a, bb⟩ = (drop1 T k ++ [(k, a)], (0, 0), 0) := by
    unfold stepL
    rw [if_neg (by dsimp only; omega)]
    simp
  rw [hs]
  clear hs
  obtain ⟨i6, hi, iz0, iz1, iz2⟩ := info_parts info61
  have HDR := Lib.hid (fun W hW => drop_any T n hn ao cap b o k W hW hT (by omega))
  have t1 : decide ((7 : Int) < k) = false := by simp; omega
  have HAT := Lib.hid (fun W hW => at_any T n hn ao cap b o k W hW (by omega))
  obtain ⟨I, hI⟩ : ∃ I, I = atI T k := ⟨_, rfl⟩
  rw [← hI] at HAT HDR
  have HS := Lib.hid h
  have HN := Lib.hid hn
  have hml : (drop1 T k).length ≤ 999 := by have : (drop1 T k).length ≤ T.length := (List.filter_sublist).length_le; omega
  obtain ⟨M, hM⟩ : ∃ M, M = drop1 T k := ⟨_, rfl⟩
  rw [← hM] at HDR hml ⊢
  clear h hn hT hk  hI hM
  go_enter Try.func22, Try.ntmps22
  go_wp2_with fail
  refine (HAT.out _ (HS.out.below (by repeat (first | (with_reducible exact bz _) | (with_reducible refine bs ?_ (by first | (simp; done) | (simp; omega)) _) | (with_reducible apply ba) | (with_reducible apply Below.drew) | (with_reducible exact below_dd _ _ _) | (with_reducible apply below_drewN))))).mono ?_
  rintro e w1 ⟨rfl, rfl⟩
  go_wp2_with fail
  have qq2 : ((w.alloc (.cells #[.int .u8 7, .int .u8 o', .int .u8 k, .int .u16 a, .int .u16 bb] 44)).alloc (.cells #[.int .u8 0, .int .u16 0] 39)).cell? ⟨w.heap.size, 2, none⟩ = some (.int .u8 k) := by simp [go_sem]
  have qq3 : ((w.alloc (.cells #[.int .u8 7, .int .u8 o', .int .u8 k, .int .u16 a, .int .u16 bb] 44)).alloc (.cells #[.int .u8 0, .int .u16 0] 39)).cell? ⟨w.heap.size, 3, none⟩ = some (.int .u16 a) := by simp [go_sem]
  have HBW : Hid (Below w.heap.size w ((w.alloc (.cells #[.int .u8 7, .int .u8 o', .int .u8 k, .int .u16 a, .int .u16 bb] 44)).alloc (.cells #[.int .u8 0, .int .u16 0] 39))) := Lib.hid (by repeat (first | (with_reducible exact bz _) | (with_reducible refine bs ?_ (by first | (simp; done) | (simp; omega)) _) | (with_reducible apply ba) | (with_reducible apply Below.drew) | (with_reducible exact below_dd _ _ _) | (with_reducible apply below_drewN)))
  go_region_held3 (fun w' => w'.cell? ⟨w.heap.size, 2, none⟩ = some (.int .u8 k) ∧ w'.cell? ⟨w.heap.size, 3, none⟩ = some (.int .u16 a))
    (refine ⟨?_, ?_⟩ <;> (repeat (first | (with_reducible assumption) | ((with_reducible refine new_at ?_ ?_); (focus (first | rfl | (simp; done))); (focus rfl)) | (with_reducible apply keep_alloc) | (with_reducible apply keep_drewN) | (with_reducible apply keep_drew) | (with_reducible refine keep_set ?_ ?_) | (intro e; dsimp only at e; omega))))
    (first
      | (go_at_call 34; refine (HDR.out (((((w.alloc (.cells #[.int .u8 7, .int .u8 o', .int .u8 k, .int .u16 a, .int .u16 bb] 44)).alloc (.cells #[.int .u8 0, .int .u16 0] 39))).alloc (.cells #[.int .u8 k, .int .u16 a] 61)).drew) (HS.out.below (by repeat (first | (with_reducible exact bz _) | (with_reducible refine bs ?_ (by first | (simp; done) | (simp; omega)) _) | (with_reducible apply ba) | (with_reducible apply Below.drew) | (with_reducible exact below_dd _ _ _) | (with_reducible apply below_drewN))))).mono ?_; rintro e wX ⟨vX, rfl, hown, hb⟩; have hlo := hown.lt; replace qq2 : wX.cell? ⟨w.heap.size, 2, none⟩ = some (.int .u8 k) := cell_past hb (by (repeat (first | (with_reducible assumption) | ((with_reducible refine new_at ?_ ?_); (focus (first | rfl | (simp; done))); (focus rfl)) | (with_reducible apply keep_alloc) | (with_reducible apply keep_drewN) | (with_reducible apply keep_drew) | (with_reducible refine keep_set ?_ ?_) | (intro e; dsimp only at e; omega)))); replace qq3 : wX.cell? ⟨w.heap.size, 3, none⟩ = some (.int .u16 a) := cell_past hb (by (repeat (first | (with_reducible assumption) | ((with_reducible refine new_at ?_ ?_); (focus (first | rfl | (simp; done))); (focus rfl)) | (with_reducible apply keep_alloc) | (with_reducible apply keep_drewN) | (with_reducible apply keep_drew) | (with_reducible refine keep_set ?_ ?_) | (intro e; dsimp only at e; omega)))); have r0 := kc hb (w.heap.size + 1) 0 (.int .u8 0) (by simp [go_sem]); have r1 := kc hb (w.heap.size + 1) 1 (.int .u16 0) (by simp [go_sem]); have q0 := kf hb (w.heap.size + 1) 0 (by simp) (by simp [go_sem]); have q1 := kf hb (w.heap.size + 1) 1 (by simp) (by simp [go_sem]); have hz : w.heap.size + 1 < wX.heap.size := (by have := hb.size; simp at this; omega); have hn0 : some w.heap.size ≠ vX.ownBlock := (fun e => by have := (hlo _ e.symm).1; simp at this; omega); have hn1 : some (w.heap.size + 1) ≠ vX.ownBlock := (fun e => by have := (hlo _ e.symm).1; simp at this; omega); have HBX := Lib.hid (bt HBW.out (bt (by repeat (first | (with_reducible exact bz _) | (with_reducible refine bs ?_ (by first | (simp; done) | (simp; omega)) _) | (with_reducible apply ba) | (with_reducible apply Below.drew) | (with_reducible exact below_dd _ _ _) | (with_reducible apply below_drewN))) hb)); have HBS := Lib.hid (World.ownsRow.lt hown); have hzb : w.heap.size + 1 + 1 + 1 ≤ wX.heap.size := (by have := hb.size; simp at this; omega); have z0 := kc hb (w.heap.size + 1 + 1) 0 (.int .u8 k) (by simp [go_sem]); have z1 := kc hb (w.heap.size + 1 + 1) 1 (.int .u16 a) (by simp [go_sem]); clear hb hlo)
      | (go_at_call 34; refine (HDR.out _ (HS.out.below (by repeat (first | (with_reducible exact bz _) | (with_reducible refine bs ?_ (by first | (simp; done) | (simp; omega)) _) | (with_reducible apply ba) | (with_reducible apply Below.drew) | (with_reducible exact below_dd _ _ _) | (with_reducible apply below_drewN))))).mono ?_; rintro e wX ⟨vX, rfl, hown, hb⟩; have hlo := hown.lt; replace qq2 : wX.cell? ⟨w.heap.size, 2, none⟩ = some (.int .u8 k) := cell_past hb (by (repeat (first | (with_reducible assumption) | ((with_reducible refine new_at ?_ ?_); (focus (first | rfl | (simp; done))); (focus rfl)) | (with_reducible apply keep_alloc) | (with_reducible apply keep_drewN) | (with_reducible apply keep_drew) | (with_reducible refine keep_set ?_ ?_) | (intro e; dsimp only at e; omega)))); replace qq3 : wX.cell? ⟨w.heap.size, 3, none⟩ = some (.int .u16 a) := cell_past hb (by (repeat (first | (with_reducible assumption) | ((with_reducible refine new_at ?_ ?_); (focus (first | rfl | (simp; done))); (focus rfl)) | (with_reducible apply keep_alloc) | (with_reducible apply keep_drewN) | (with_reducible apply keep_drew) | (with_reducible refine keep_set ?_ ?_) | (intro e; dsimp only at e; omega)))); have r0 := kc hb (w.heap.size + 1) 0 (.int .u8 0) (by simp [go_sem]); have r1 := kc hb (w.heap.size + 1) 1 (.int .u16 0) (by simp [go_sem]); have q0 := kf hb (w.heap.size + 1) 0 (by simp) (by simp [go_sem]); have q1 := kf hb (w.heap.size + 1) 1 (by simp) (by simp [go_sem]); have hz : w.heap.size + 1 < wX.heap.size := (by have := hb.size; simp at this; omega); have hn0 : some w.heap.size ≠ vX.ownBlock := (fun e => by have := (hlo _ e.symm).1; simp at this; omega); have hn1 : some (w.heap.size + 1) ≠ vX.ownBlock := (fun e => by have := (hlo _ e.symm).1; simp at this; omega); have HBX := Lib.hid (bt HBW.out (bt (by repeat (first | (with_reducible exact bz _) | (with_reducible refine bs ?_ (by first | (simp; done) | (simp; omega)) _) | (with_reducible apply ba) | (with_reducible apply Below.drew) | (with_reducible exact below_dd _ _ _) | (with_reducible apply below_drewN))) hb)); have HBS := Lib.hid (World.ownsRow.lt hown); clear hb hlo)
      | (refine step_append_lies _ rfl (.tmp 46) (.tmp 52) 33 rfl _ 61 i6 (.agg #[.int .u8 0, .int .u16 0]) 2 4 Try.underlying33 hi iz0 iz1 iz2 rfl (by decide) vX M.length (M.flatMap resC) (by simp [Act.eval, Act.put]) (by repeat (first | (with_reducible exact hown) | (with_reducible apply World.ownsRow.alloc) | (with_reducible apply World.ownsRow.drew))) ⟨wX.heap.size, 0, none⟩ 1 1 [.int .u8 k, .int .u16 a] (by simp [Act.eval, Act.put]) rfl (new_cells _ _ _ _ (by simp)) (by simp [Value.oneCell']) (by decide) (by unfold maxLen; omega) (by omega) (by simp; omega) (wX.heap.size + 1) (by simp) ?_; intro g cap3 w3 hown3 hgrow3 hat3 hlt3; replace qq2 : w3.cell? ⟨w.heap.size, 2, none⟩ = some (.int .u8 k) := hgrow3.cell (a := ⟨w.heap.size, 2, none⟩) (by (repeat (first | (with_reducible assumption) | ((with_reducible refine new_at ?_ ?_); (focus (first | rfl | (simp; done))); (focus rfl)) | (with_reducible apply keep_alloc) | (with_reducible apply keep_drewN) | (with_reducible apply keep_drew) | (with_reducible refine keep_set ?_ ?_) | (intro e; dsimp only at e; omega)))) hn0; replace qq3 : w3.cell? ⟨w.heap.size, 3, none⟩ = some (.int .u16 a) := hgrow3.cell (a := ⟨w.heap.size, 3, none⟩) (by (repeat (first | (with_reducible assumption) | ((with_reducible refine new_at ?_ ?_); (focus (first | rfl | (simp; done))); (focus rfl)) | (with_reducible apply keep_alloc) | (with_reducible apply keep_drewN) | (with_reducible apply keep_drew) | (with_reducible refine keep_set ?_ ?_) | (intro e; dsimp only at e; omega)))) hn0; replace r0 : w3.cell? ⟨w.heap.size + 1, 0, none⟩ = some (.int .u8 0) := hgrow3.cell (a := ⟨w.heap.size + 1, 0, none⟩) (by (repeat (first | (with_reducible assumption) | ((with_reducible refine new_at ?_ ?_); (focus (first | rfl | (simp; done))); (focus rfl)) | (with_reducible apply keep_alloc) | (with_reducible apply keep_drewN) | (with_reducible apply keep_drew) | (with_reducible refine keep_set ?_ ?_) | (intro e; dsimp only at e; omega)))) hn1; replace r1 : w3.cell? ⟨w.heap.size + 1, 1, none⟩ = some (.int .u16 0) := hgrow3.cell (a := ⟨w.heap.size + 1, 1, none⟩) (by (repeat (first | (with_reducible assumption) | ((with_reducible refine new_at ?_ ?_); (focus (first | rfl | (simp; done))); (focus rfl)) | (with_reducible apply keep_alloc) | (with_reducible apply keep_drewN) | (with_reducible apply keep_drew) | (with_reducible refine keep_set ?_ ?_) | (intro e; dsimp only at e; omega)))) hn1; replace q0 : w3.frozen? ⟨w.heap.size + 1, 0, none⟩ = false := (hgrow3.frozen_far ⟨w.heap.size + 1, 0, none⟩ (by first | omega | (simp; omega)) hn1).trans (by simp [go_sem, hz, q0]); replace q1 : w3.frozen? ⟨w.heap.size + 1, 1, none⟩ = false := (hgrow3.frozen_far ⟨w.heap.size + 1, 1, none⟩ (by first | omega | (simp; omega)) hn1).trans (by simp [go_sem, hz, q1]); have hz3 : w.heap.size + 1 < w3.heap.size := (by have := hgrow3.size; first | omega | (simp at this; omega)); have HG := Lib.hid hgrow3; have HO := Lib.hid hown3; have HA3 := Lib.hid hat3; clear hgrow3 hown3 hat3)
      | (refine step_append_lies _ rfl (.tmp 46) (.tmp 52) 33 rfl _ 61 i6 (.agg #[.int .u8 0, .int .u16 0]) 2 4 Try.underlying33 hi iz0 iz1 iz2 rfl (by decide) vX M.length (M.flatMap resC) (by simp [Act.eval, Act.put]) (by repeat (first | (with_reducible exact hown) | (with_reducible apply World.ownsRow.alloc) | (with_reducible apply World.ownsRow.drew))) ⟨w.heap.size + 1 + 1, 0, none⟩ 1 1 [.int .u8 k, .int .u16 a] (by simp [Act.eval, Act.put]) rfl (news2 z0 z1) (by simp [Value.oneCell']) (by decide) (by unfold maxLen; omega) (by omega) (by simp; omega) wX.heap.size rfl ?_; intro g cap3 w3 hown3 hgrow3 hat3 hlt3; replace qq2 : w3.cell? ⟨w.heap.size, 2, none⟩ = some (.int .u8 k) := hgrow3.cell (a := ⟨w.heap.size, 2, none⟩) (by (repeat (first | (with_reducible assumption) | ((with_reducible refine new_at ?_ ?_); (focus (first | rfl | (simp; done))); (focus rfl)) | (with_reducible apply keep_alloc) | (with_reducible apply keep_drewN) | (with_reducible apply keep_drew) | (with_reducible refine keep_set ?_ ?_) | (intro e; dsimp only at e; omega)))) hn0; replace qq3 : w3.cell? ⟨w.heap.size, 3, none⟩ = some (.int .u16 a) := hgrow3.cell (a := ⟨w.heap.size, 3, none⟩) (by (repeat (first | (with_reducible assumption) | ((with_reducible refine new_at ?_ ?_); (focus (first | rfl | (simp; done))); (focus rfl)) | (with_reducible apply keep_alloc) | (with_reducible apply keep_drewN) | (with_reducible apply keep_drew) | (with_reducible refine keep_set ?_ ?_) | (intro e; dsimp only at e; omega)))) hn0; replace r0 : w3.cell? ⟨w.heap.size + 1, 0, none⟩ = some (.int .u8 0) := hgrow3.cell (a := ⟨w.heap.size + 1, 0, none⟩) (by (repeat (first | (with_reducible assumption) | ((with_reducible refine new_at ?_ ?_); (focus (first | rfl | (simp; done))); (focus rfl)) | (with_reducible apply keep_alloc) | (with_reducible apply keep_drewN) | (with_reducible apply keep_drew) | (with_reducible refine keep_set ?_ ?_) | (intro e; dsimp only at e; omega)))) hn1; replace r1 : w3.cell? ⟨w.heap.size + 1, 1, none⟩ = some (.int .u16 0) := hgrow3.cell (a := ⟨w.heap.size + 1, 1, none⟩) (by (repeat (first | (with_reducible assumption) | ((with_reducible refine new_at ?_ ?_); (focus (first | rfl | (simp; done))); (focus rfl)) | (with_reducible apply keep_alloc) | (with_reducible apply keep_drewN) | (with_reducible apply keep_drew) | (with_reducible refine keep_set ?_ ?_) | (intro e; dsimp only at e; omega)))) hn1; replace q0 : w3.frozen? ⟨w.heap.size + 1, 0, none⟩ = false := (hgrow3.frozen_far ⟨w.heap.size + 1, 0, none⟩ (by first | omega | (simp; omega)) hn1).trans (by simp [go_sem, hz, q0]); replace q1 : w3.frozen? ⟨w.heap.size + 1, 1, none⟩ = false := (hgrow3.frozen_far ⟨w.heap.size + 1, 1, none⟩ (by first | omega | (simp; omega)) hn1).trans (by simp [go_sem, hz, q1]); have hz3 : w.heap.size + 1 < w3.heap.size := (by have := hgrow3.size; first | omega | (simp at this; omega)); have HG := Lib.hid hgrow3; have HO := Lib.hid hown3; have HA3 := Lib.hid hat3; clear hgrow3 hown3 hat3))
  all_goals go_wp2_with fail
  all_goals
    have hgp : g ≠ w.heap.size + 1 := (by rcases HA3.out with e | e; (· intro e2; exact hn1 (by rw [e, e2])); (· omega))
    have HBW3 : Hid (Below w.heap.size w w3) := Lib.hid (Below.grown (B := w.heap.size) (by first | (with_reducible exact HBX.out) | (exact ba HBX.out _)) HG.out (by first | (have := HBX.out.size; omega) | (have := HBX.out.size; simp; omega)) (fun j hj => by have := (HBS.out j hj).1; simp at this; omega))
    obtain ⟨ao9, cap9, b9, o9, hv9, hs9, hnw⟩ := SlAt.owned HO.out
    have hnw2 : w.heap.size ≤ b9 := (by have := hnw (by simp [resC]); simp at this; omega)
    cases hv9
    refine bodyPost_ret (v := .tuple #[.slice (some ⟨g, 0, none⟩) (M.length + 1) cap3, .agg #[.int .u8 0, .int .u16 0], .int .i64 0]) (by simp [results, Try.results22, go_sem, r0, r1, hz3]) rfl ⟨_, _, b9, o9, M.length + 1, by simp, rfl, ?_, ?_, fun _ => .inr hnw2⟩
    · rw [List.flatMap_append]
      refine slat_set2 hs9 (w.heap.size + 1) (fun hp => ?_) ?_
      · have ha := hs9.addr hp
        simp only [Option.some.injEq, Addr.mk.injEq] at ha
        omega
      · repeat (first | (with_reducible exact Kept.refl _ _) | (with_reducible refine Kept.setCell (S := fun i => i = w.heap.size + 1) ?_ (fun _ => rfl) _))
    · have hbw := HBW3.out
      repeat (first | (with_reducible exact hbw) | (with_reducible refine bs ?_ (by first | (simp; done) | (simp; omega)) _))

theorem rs_9_none (T : List (Int × Int)) (n : Nat) (hn : n = T.length) (ao : Option Addr) (cap b o : Nat) (o' k a bb : Int) (w : World) (h : SlAt w 2 n (T.flatMap resC) ao cap b o) (hT : ItOk T) (hlen : n ≤ 999) (hk : k < 8) (hl : look T k = none) : Calls Try.prog 22 #[.slice ao n cap, .agg #[.int .u8 9, .int .u8 o', .int .u8 k, .int .u16 a, .int .u16 bb]] w (StepPost b T (stepL T ⟨9, o', k, a, bb⟩) w) := by
  have hs : stepL T ⟨9, o', k, a, bb⟩ = (T, (4, 0), 0) := by
    unfold stepL
    rw [if_neg (by dsimp only; omega)]
    simp [hl]
  rw [hs]
  clear hs
  have t1 : decide ((7 : Int) < k) = false := by simp; omega
  have hat : atI T k = -1 := by
    rcases at_ways T k with ⟨h1, _⟩ | ⟨i, x, h1, h2, _⟩
    · exact h1
    · rw [look_some hT.d (List.mem_of_getElem? h1) h2] at hl; cases hl
  have HAT := Lib.hid (fun W hW => at_any T n hn ao cap b o k W hW (by omega))
  rw [hat] at HAT
  have HS := Lib.hid h
  have HN := Lib.hid hn
  clear h hn hT hk hl hat
  go_enter Try.func22, Try.ntmps22
  go_wp2_with fail
  refine (HAT.out _ (HS.out.below (by repeat (first | (with_reducible exact bz _) | (with_reducible refine bs ?_ (by first | (simp; done) | (simp; omega)) _) | (with_reducible apply ba) | (with_reducible apply Below.drew) | (with_reducible exact below_dd _ _ _) | (with_reducible apply below_drewN))))).mono ?_
  rintro e w1 ⟨rfl, rfl⟩
  go_wp2_with fail
  go_quiet (fail)
  go_wp2
  refine bodyPost_ret (v := .tuple #[.slice ao n cap, .agg #[.int .u8 4, .int .u16 0], .int .i64 0]) (by simp [results, Try.results22, go_sem]) rfl ⟨ao, cap, b, o, n, HN.out, rfl, ?_, ?_, fun _ => .inl ⟨rfl, rfl⟩⟩
  · exact HS.out.below (by repeat (first | (with_reducible exact bz _) | (with_reducible refine bs ?_ (by first | (simp; done) | (simp; omega)) _) | (with_reducible apply ba) | (with_reducible apply Below.drew) | (with_reducible exact below_dd _ _ _) | (with_reducible apply below_drewN)))
  · exact (by repeat (first | (with_reducible exact bz _) | (with_reducible refine bs ?_ (by first | (simp; done) | (simp; omega)) _) | (with_reducible apply ba) | (with_reducible apply Below.drew) | (with_reducible exact below_dd _ _ _) | (with_reducible apply below_drewN)))

theorem rs_9_some (T : List (Int × Int)) (n : Nat) (hn : n = T.length) (ao : Option Addr) (cap b o : Nat) (o' k a bb : Int) (w : World) (h : SlAt w 2 n (T.flatMap resC) ao cap b o) (hT : ItOk T) (hlen : n ≤ 999) (hk : k < 8) (v : Int) (hl : look T k = some v) (hva : ¬ v = a) : Calls Try.prog 22 #[.slice ao n cap, .agg #[.int .u8 9, .int .u8 o', .int .u8 k, .int .u16 a, .int .u16 bb]] w (StepPost b T (stepL T ⟨9, o', k, a, bb⟩) w) := by
  have hs : stepL T ⟨9, o', k, a, bb⟩ = (T, (4, 0), 0) := by
    unfold stepL
    rw [if_neg (by dsimp only; omega)]
    simp [hl, hva]
  rw [hs]
  clear hs
  have t4 : (v != a) = true := by simpa using hva
  have t1 : decide ((7 : Int) < k) = false := by simp; omega
  obtain ⟨i, x, hix, hxk, hat⟩ : ∃ (i : Nat) (x : Int × Int), T[i]? = some x ∧ x.1 = k ∧ atI T k = i := by
    rcases at_ways T k with ⟨_, h1⟩ | h1
    · rw [look_none h1] at hl; cases hl
    · exact h1
  have hxv : x.2 = v := by rw [look_some hT.d (List.mem_of_getElem? hix) hxk] at hl; exact Option.some.inj hl
  have HAT := Lib.hid (fun W hW => at_any T n hn ao cap b o k W hW (by omega))
  rw [hat] at HAT
  have hin : i < n := by have := (List.getElem?_eq_some_iff.1 hix).1; omega
  obtain ⟨g0, g1⟩ := res_at h hix
  rw [hxv] at g1
  have hidx := h.idx (P := Try.prog) (t := 33) Try.underlying33 size61 (by decide)
  have hbw : b < w.heap.size := World.block_lt_of_cell? w _ g0
  have t3 : decide ((i : Int) < 0) = false := by simp
  have i1 : (0 : Int) ≤ (i : Int) := by omega
  have i2 : (i : Int) < (n : Int) := by omega
  have HS := Lib.hid h
  have HN := Lib.hid hn
  clear h hn hT hk hl hat hix hxk hxv hin hva
  go_enter Try.func22, Try.ntmps22
  go_wp2_with fail
  refine (HAT.out _ (HS.out.below (by repeat (first | (with_reducible exact bz _) | (with_reducible refine bs ?_ (by first | (simp; done) | (simp; omega)) _) | (with_reducible apply ba) | (with_reducible apply Below.drew) | (with_reducible exact below_dd _ _ _) | (with_reducible apply below_drewN))))).mono ?_
  rintro e w1 ⟨rfl, rfl⟩
  go_wp2_with fail
  go_quiet (fail)
  go_wp2
  refine bodyPost_ret (v := .tuple #[.slice ao n cap, .agg #[.int .u8 4, .int .u16 0], .int .i64 0]) (by simp [results, Try.results22, go_sem]) rfl ⟨ao, cap, b, o, n, HN.out, rfl, ?_, ?_, fun _ => .inl ⟨rfl, rfl⟩⟩
  · exact HS.out.below (by repeat (first | (with_reducible exact bz _) | (with_reducible refine bs ?_ (by first | (simp; done) | (simp; omega)) _) | (with_reducible apply ba) | (with_reducible apply Below.drew) | (with_reducible exact below_dd _ _ _) | (with_reducible apply below_drewN)))
  · exact (by repeat (first | (with_reducible exact bz _) | (with_reducible refine bs ?_ (by first | (simp; done) | (simp; omega)) _) | (with_reducible apply ba) | (with_reducible apply Below.drew) | (with_reducible exact below_dd _ _ _) | (with_reducible apply below_drewN)))

theorem rs_9_eq (T : List (Int × Int)) (n : Nat) (hn : n = T.length) (ao : Option Addr) (cap b o : Nat) (o' k a bb : Int) (w : World) (h : SlAt w 2 n (T.flatMap resC) ao cap b o) (hT : ItOk T) (hlen : n ≤ 999) (hk : k < 8) (hl : look T k = some a) : Calls Try.prog 22 #[.slice ao n cap, .agg #[.int .u8 9, .int .u8 o', .int .u8 k, .int .u16 a, .int .u16 bb]] w (StepPost b T (stepL T ⟨9, o', k, a, bb⟩) w) := by
  have hs : stepL T ⟨9, o', k, a, bb⟩ = (drop1 T k ++ [(k, bb)], (3, 0), 0) := by
    unfold stepL
    rw [if_neg (by dsimp only; omega)]
    simp [hl]
  rw [hs]
  clear hs
  obtain ⟨i6, hi, iz0, iz1, iz2⟩ := info_parts info61
  have HDR := Lib.hid (fun W hW => drop_any T n hn ao cap b o k W hW hT (by omega))
  have t1 : decide ((7 : Int) < k) = false := by simp; omega
  obtain ⟨i, x, hix, hxk, hat⟩ : ∃ (i : Nat) (x : Int × Int), T[i]? = some x ∧ x.1 = k ∧ atI T k = i := by
    rcases at_ways T k with ⟨_, h1⟩ | h1
    · rw [look_none h1] at hl; cases hl
    · exact h1
  have hxv : x.2 = a := by rw [look_some hT.d (List.mem_of_getElem? hix) hxk] at hl; exact Option.some.inj hl
  have HAT := Lib.hid (fun W hW => at_any T n hn ao cap b o k W hW (by omega))
  rw [hat] at HAT
  have hin : i < n := by have := (List.getElem?_eq_some_iff.1 hix).1; omega
  obtain ⟨g0, g1⟩ := res_at h hix
  rw [hxv] at g1
  have hidx := h.idx (P := Try.prog) (t := 33) Try.underlying33 size61 (by decide)
  have hbw : b < w.heap.size := World.block_lt_of_cell? w _ g0
  have t3 : decide ((i : Int) < 0) = false := by simp
  have i1 : (0 : Int) ≤ (i : Int) := by omega
  have i2 : (i : Int) < (n : Int) := by omega
  have HS := Lib.hid h
  have HN := Lib.hid hn
  rw [hat] at HDR
  have hml : (drop1 T k).length ≤ 999 := by have : (drop1 T k).length ≤ T.length := (List.filter_sublist).length_le; omega
  obtain ⟨M, hM⟩ : ∃ M, M = drop1 T k := ⟨_, rfl⟩
  rw [← hM] at HDR hml ⊢
  clear h hn hT hk hl hat hix hxk hxv hin hM
  go_enter Try.func22, Try.ntmps22
  go_wp2_with fail
  refine (HAT.out _ (HS.out.below (by repeat (first | (with_reducible exact bz _) | (with_reducible refine bs ?_ (by first | (simp; done) | (simp; omega)) _) | (with_reducible apply ba) | (with_reducible apply Below.drew) | (with_reducible exact below_dd _ _ _) | (with_reducible apply below_drewN))))).mono ?_
  rintro e w1 ⟨rfl, rfl⟩
  have t4 : (a != a) = false := by simp
  go_wp2_with fail
  go_quiet (fail)
  go_wp2_with fail
  have qq2 : (((w.alloc (.cells #[.int .u8 9, .int .u8 o', .int .u8 k, .int .u16 a, .int .u16 bb] 44)).alloc (.cells #[.int .u8 0, .int .u16 0] 39)).drewN nq).cell? ⟨w.heap.size, 2, none⟩ = some (.int .u8 k) := by simp [go_sem]
  have qq3 : (((w.alloc (.cells #[.int .u8 9, .int .u8 o', .int .u8 k, .int .u16 a, .int .u16 bb] 44)).alloc (.cells #[.int .u8 0, .int .u16 0] 39)).drewN nq).cell? ⟨w.heap.size, 4, none⟩ = some (.int .u16 bb) := by simp [go_sem]
  have HBW : Hid (Below w.heap.size w (((w.alloc (.cells #[.int .u8 9, .int .u8 o', .int .u8 k, .int .u16 a, .int .u16 bb] 44)).alloc (.cells #[.int .u8 0, .int .u16 0] 39)).drewN nq)) := Lib.hid (by repeat (first | (with_reducible exact bz _) | (with_reducible refine bs ?_ (by first | (simp; done) | (simp; omega)) _) | (with_reducible apply ba) | (with_reducible apply Below.drew) | (with_reducible exact below_dd _ _ _) | (with_reducible apply below_drewN)))
  go_region_held3 (fun w' => w'.cell? ⟨w.heap.size, 2, none⟩ = some (.int .u8 k) ∧ w'.cell? ⟨w.heap.size, 4, none⟩ = some (.int .u16 bb))
    (refine ⟨?_, ?_⟩ <;> (repeat (first | (with_reducible assumption) | ((with_reducible refine new_at ?_ ?_); (focus (first | rfl | (simp; done))); (focus rfl)) | (with_reducible apply keep_alloc) | (with_reducible apply keep_drewN) | (with_reducible apply keep_drew) | (with_reducible refine keep_set ?_ ?_) | (intro e; dsimp only at e; omega))))
    (first
      | (go_at_call 34; refine (HDR.out ((((((w.alloc (.cells #[.int .u8 9, .int .u8 o', .int .u8 k, .int .u16 a, .int .u16 bb] 44)).alloc (.cells #[.int .u8 0, .int .u16 0] 39)).drewN nq)).alloc (.cells #[.int .u8 k, .int .u16 bb] 61)).drew) (HS.out.below (by repeat (first | (with_reducible exact bz _) | (with_reducible refine bs ?_ (by first | (simp; done) | (simp; omega)) _) | (with_reducible apply ba) | (with_reducible apply Below.drew) | (with_reducible exact below_dd _ _ _) | (with_reducible apply below_drewN))))).mono ?_; rintro e wX ⟨vX, rfl, hown, hb⟩; have hlo := hown.lt; replace qq2 : wX.cell? ⟨w.heap.size, 2, none⟩ = some (.int .u8 k) := cell_past hb (by (repeat (first | (with_reducible assumption) | ((with_reducible refine new_at ?_ ?_); (focus (first | rfl | (simp; done))); (focus rfl)) | (with_reducible apply keep_alloc) | (with_reducible apply keep_drewN) | (with_reducible apply keep_drew) | (with_reducible refine keep_set ?_ ?_) | (intro e; dsimp only at e; omega)))); replace qq3 : wX.cell? ⟨w.heap.size, 4, none⟩ = some (.int .u16 bb) := cell_past hb (by (repeat (first | (with_reducible assumption) | ((with_reducible refine new_at ?_ ?_); (focus (first | rfl | (simp; done))); (focus rfl)) | (with_reducible apply keep_alloc) | (with_reducible apply keep_drewN) | (with_reducible apply keep_drew) | (with_reducible refine keep_set ?_ ?_) | (intro e; dsimp only at e; omega)))); have r0 := kc hb (w.heap.size + 1) 0 (.int .u8 0) (by simp [go_sem]); have r1 := kc hb (w.heap.size + 1) 1 (.int .u16 0) (by simp [go_sem]); have q0 := kf hb (w.heap.size + 1) 0 (by simp) (by simp [go_sem]); have q1 := kf hb (w.heap.size + 1) 1 (by simp) (by simp [go_sem]); have hz : w.heap.size + 1 < wX.heap.size := (by have := hb.size; simp at this; omega); have hn0 : some w.heap.size ≠ vX.ownBlock := (fun e => by have := (hlo _ e.symm).1; simp at this; omega); have hn1 : some (w.heap.size + 1) ≠ vX.ownBlock := (fun e => by have := (hlo _ e.symm).1; simp at this; omega); have HBX := Lib.hid (bt HBW.out (bt (by repeat (first | (with_reducible exact bz _) | (with_reducible refine bs ?_ (by first | (simp; done) | (simp; omega)) _) | (with_reducible apply ba) | (with_reducible apply Below.drew) | (with_reducible exact below_dd _ _ _) | (with_reducible apply below_drewN))) hb)); have HBS := Lib.hid (World.ownsRow.lt hown); have hzb : w.heap.size + 1 + 1 + 1 ≤ wX.heap.size := (by have := hb.size; simp at this; omega); have z0 := kc hb (w.heap.size + 1 + 1) 0 (.int .u8 k) (by simp [go_sem]); have z1 := kc hb (w.heap.size + 1 + 1) 1 (.int .u16 bb) (by simp [go_sem]); clear hb hlo)
      | (go_at_call 34; refine (HDR.out _ (HS.out.below (by repeat (first | (with_reducible exact bz _) | (with_reducible refine bs ?_ (by first | (simp; done) | (simp; omega)) _) | (with_reducible apply ba) | (with_reducible apply Below.drew) | (with_reducible exact below_dd _ _ _) | (with_reducible apply below_drewN))))).mono ?_; rintro e wX ⟨vX, rfl, hown, hb⟩; have hlo := hown.lt; replace qq2 : wX.cell? ⟨w.heap.size, 2, none⟩ = some (.int .u8 k) := cell_past hb (by (repeat (first | (with_reducible assumption) | ((with_reducible refine new_at ?_ ?_); (focus (first | rfl | (simp; done))); (focus rfl)) | (with_reducible apply keep_alloc) | (with_reducible apply keep_drewN) | (with_reducible apply keep_drew) | (with_reducible refine keep_set ?_ ?_) | (intro e; dsimp only at e; omega)))); replace qq3 : wX.cell? ⟨w.heap.size, 4, none⟩ = some (.int .u16 bb) := cell_past hb (by (repeat (first | (with_reducible assumption) | ((with_reducible refine new_at ?_ ?_); (focus (first | rfl | (simp; done))); (focus rfl)) | (with_reducible apply keep_alloc) | (with_reducible apply keep_drewN) | (with_reducible apply keep_drew) | (with_reducible refine keep_set ?_ ?_) | (intro e; dsimp only at e; omega)))); have r0 := kc hb (w.heap.size + 1) 0 (.int .u8 0) (by simp [go_sem]); have r1 := kc hb (w.heap.size + 1) 1 (.int .u16 0) (by simp [go_sem]); have q0 := kf hb (w.heap.size + 1) 0 (by simp) (by simp [go_sem]); have q1 := kf hb (w.heap.size + 1) 1 (by simp) (by simp [go_sem]); have hz : w.heap.size + 1 < wX.heap.size := (by have := hb.size; simp at this; omega); have hn0 : some w.heap.size ≠ vX.ownBlock := (fun e => by have := (hlo _ e.symm).1; simp at this; omega); have hn1 : some (w.heap.size + 1) ≠ vX.ownBlock := (fun e => by have := (hlo _ e.symm).1; simp at this; omega); have HBX := Lib.hid (bt HBW.out (bt (by repeat (first | (with_reducible exact bz _) | (with_reducible refine bs ?_ (by first | (simp; done) | (simp; omega)) _) | (with_reducible apply ba) | (with_reducible apply Below.drew) | (with_reducible exact below_dd _ _ _) | (with_reducible apply below_drewN))) hb)); have HBS := Lib.hid (World.ownsRow.lt hown); clear hb hlo)
      | (refine step_append_lies _ rfl (.tmp 81) (.tmp 87) 33 rfl _ 61 i6 (.agg #[.int .u8 0, .int .u16 0]) 2 4 Try.underlying33 hi iz0 iz1 iz2 rfl (by decide) vX M.length (M.flatMap resC) (by simp [Act.eval, Act.put]) (by repeat (first | (with_reducible exact hown) | (with_reducible apply World.ownsRow.alloc) | (with_reducible apply World.ownsRow.drew))) ⟨wX.heap.size, 0, none⟩ 1 1 [.int .u8 k, .int .u16 bb] (by simp [Act.eval, Act.put]) rfl (new_cells _ _ _ _ (by simp)) (by simp [Value.oneCell']) (by decide) (by unfold maxLen; omega) (by omega) (by simp; omega) (wX.heap.size + 1) (by simp) ?_; intro g cap3 w3 hown3 hgrow3 hat3 hlt3; replace qq2 : w3.cell? ⟨w.heap.size, 2, none⟩ = some (.int .u8 k) := hgrow3.cell (a := ⟨w.heap.size, 2, none⟩) (by (repeat (first | (with_reducible assumption) | ((with_reducible refine new_at ?_ ?_); (focus (first | rfl | (simp; done))); (focus rfl)) | (with_reducible apply keep_alloc) | (with_reducible apply keep_drewN) | (with_reducible apply keep_drew) | (with_reducible refine keep_set ?_ ?_) | (intro e; dsimp only at e; omega)))) hn0; replace qq3 : w3.cell? ⟨w.heap.size, 4, none⟩ = some (.int .u16 bb) := hgrow3.cell (a := ⟨w.heap.size, 4, none⟩) (by (repeat (first | (with_reducible assumption) | ((with_reducible refine new_at ?_ ?_); (focus (first | rfl | (simp; done))); (focus rfl)) | (with_reducible apply keep_alloc) | (with_reducible apply keep_drewN) | (with_reducible apply keep_drew) | (with_reducible refine keep_set ?_ ?_) | (intro e; dsimp only at e; omega)))) hn0; replace r0 : w3.cell? ⟨w.heap.size + 1, 0, none⟩ = some (.int .u8 0) := hgrow3.cell (a := ⟨w.heap.size + 1, 0, none⟩) (by (repeat (first | (with_reducible assumption) | ((with_reducible refine new_at ?_ ?_); (focus (first | rfl | (simp; done))); (focus rfl)) | (with_reducible apply keep_alloc) | (with_reducible apply keep_drewN) | (with_reducible apply keep_drew) | (with_reducible refine keep_set ?_ ?_) | (intro e; dsimp only at e; omega)))) hn1; replace r1 : w3.cell? ⟨w.heap.size + 1, 1, none⟩ = some (.int .u16 0) := hgrow3.cell (a := ⟨w.heap.size + 1, 1, none⟩) (by (repeat (first | (with_reducible assumption) | ((with_reducible refine new_at ?_ ?_); (focus (first | rfl | (simp; done))); (focus rfl)) | (with_reducible apply keep_alloc) | (with_reducible apply keep_drewN) | (with_reducible apply keep_drew) | (with_reducible refine keep_set ?_ ?_) | (intro e; dsimp only at e; omega)))) hn1; replace q0 : w3.frozen? ⟨w.heap.size + 1, 0, none⟩ = false := (hgrow3.frozen_far ⟨w.heap.size + 1, 0, none⟩ (by first | omega | (simp; omega)) hn1).trans (by simp [go_sem, hz, q0]); replace q1 : w3.frozen? ⟨w.heap.size + 1, 1, none⟩ = false := (hgrow3.frozen_far ⟨w.heap.size + 1, 1, none⟩ (by first | omega | (simp; omega)) hn1).trans (by simp [go_sem, hz, q1]); have hz3 : w.heap.size + 1 < w3.heap.size := (by have := hgrow3.size; first | omega | (simp at this; omega)); have HG := Lib.hid hgrow3; have HO := Lib.hid hown3; have HA3 := Lib.hid hat3; clear hgrow3 hown3 hat3)
      | (refine step_append_lies _ rfl (.tmp 81) (.tmp 87) 33 rfl _ 61 i6 (.agg #[.int .u8 0, .int .u16 0]) 2 4 Try.underlying33 hi iz0 iz1 iz2 rfl (by decide) vX M.length (M.flatMap resC) (by simp [Act.eval, Act.put]) (by repeat (first | (with_reducible exact hown) | (with_reducible apply World.ownsRow.alloc) | (with_reducible apply World.ownsRow.drew))) ⟨w.heap.size + 1 + 1, 0, none⟩ 1 1 [.int .u8 k, .int .u16 bb] (by simp [Act.eval, Act.put]) rfl (news2 z0 z1) (by simp [Value.oneCell']) (by decide) (by unfold maxLen; omega) (by omega) (by simp; omega) wX.heap.size rfl ?_; intro g cap3 w3 hown3 hgrow3 hat3 hlt3; replace qq2 : w3.cell? ⟨w.heap.size, 2, none⟩ = some (.int .u8 k) := hgrow3.cell (a := ⟨w.heap.size, 2, none⟩) (by (repeat (first | (with_reducible assumption) | ((with_reducible refine new_at ?_ ?_); (focus (first | rfl | (simp; done))); (focus rfl)) | (with_reducible apply keep_alloc) | (with_reducible apply keep_drewN) | (with_reducible apply keep_drew) | (with_reducible refine keep_set ?_ ?_) | (intro e; dsimp only at e; omega)))) hn0; replace qq3 : w3.cell? ⟨w.heap.size, 4, none⟩ = some (.int .u16 bb) := hgrow3.cell (a := ⟨w.heap.size, 4, none⟩) (by (repeat (first | (with_reducible assumption) | ((with_reducible refine new_at ?_ ?_); (focus (first | rfl | (simp; done))); (focus rfl)) | (with_reducible apply keep_alloc) | (with_reducible apply keep_drewN) | (with_reducible apply keep_drew) | (with_reducible refine keep_set ?_ ?_) | (intro e; dsimp only at e; omega)))) hn0; replace r0 : w3.cell? ⟨w.heap.size + 1, 0, none⟩ = some (.int .u8 0) := hgrow3.cell (a := ⟨w.heap.size + 1, 0, none⟩) (by (repeat (first | (with_reducible assumption) | ((with_reducible refine new_at ?_ ?_); (focus (first | rfl | (simp; done))); (focus rfl)) | (with_reducible apply keep_alloc) | (with_reducible apply keep_drewN) | (with_reducible apply keep_drew) | (with_reducible refine keep_set ?_ ?_) | (intro e; dsimp only at e; omega)))) hn1; replace r1 : w3.cell? ⟨w.heap.size + 1, 1, none⟩ = some (.int .u16 0) := hgrow3.cell (a := ⟨w.heap.size + 1, 1, none⟩) (by (repeat (first | (with_reducible assumption) | ((with_reducible refine new_at ?_ ?_); (focus (first | rfl | (simp; done))); (focus rfl)) | (with_reducible apply keep_alloc) | (with_reducible apply keep_drewN) | (with_reducible apply keep_drew) | (with_reducible refine keep_set ?_ ?_) | (intro e; dsimp only at e; omega)))) hn1; replace q0 : w3.frozen? ⟨w.heap.size + 1, 0, none⟩ = false := (hgrow3.frozen_far ⟨w.heap.size + 1, 0, none⟩ (by first | omega | (simp; omega)) hn1).trans (by simp [go_sem, hz, q0]); replace q1 : w3.frozen? ⟨w.heap.size + 1, 1, none⟩ = false := (hgrow3.frozen_far ⟨w.heap.size + 1, 1, none⟩ (by first | omega | (simp; omega)) hn1).trans (by simp [go_sem, hz, q1]); have hz3 : w.heap.size + 1 < w3.heap.size := (by have := hgrow3.size; first | omega | (simp at this; omega)); have HG := Lib.hid hgrow3; have HO := Lib.hid hown3; have HA3 := Lib.hid hat3; clear hgrow3 hown3 hat3))
  all_goals go_wp2_with fail
  all_goals
    have hgp : g ≠ w.heap.size + 1 := (by rcases HA3.out with e | e; (· intro e2; exact hn1 (by rw [e, e2])); (· omega))
    have HBW3 : Hid (Below w.heap.size w w3) := Lib.hid (Below.grown (B := w.heap.size) (by first | (with_reducible exact HBX.out) | (exact ba HBX.out _)) HG.out (by first | (have := HBX.out.size; omega) | (have := HBX.out.size; simp; omega)) (fun j hj => by have := (HBS.out j hj).1; simp at this; omega))
    obtain ⟨ao9, cap9, b9, o9, hv9, hs9, hnw⟩ := SlAt.owned HO.out
    have hnw2 : w.heap.size ≤ b9 := (by have := hnw (by simp [resC]); simp at this; omega)
    cases hv9
    refine bodyPost_ret (v := .tuple #[.slice (some ⟨g, 0, none⟩) (M.length + 1) cap3, .agg #[.int .u8 3, .int .u16 0], .int .i64 0]) (by simp [results, Try.results22, go_sem, r0, r1, hz3]) rfl ⟨_, _, b9, o9, M.length + 1, by simp, rfl, ?_, ?_, fun _ => .inr hnw2⟩
    · rw [List.flatMap_append]
      refine slat_set2 hs9 (w.heap.size + 1) (fun hp => ?_) ?_
      · have ha := hs9.addr hp
        simp only [Option.some.injEq, Addr.mk.injEq] at ha
        omega
      · repeat (first | (with_reducible exact Kept.refl _ _) | (with_reducible refine Kept.setCell (S := fun i => i = w.heap.size + 1) ?_ (fun _ => rfl) _))
    · have hbw := HBW3.out
      repeat (first | (with_reducible exact hbw) | (with_reducible refine bs ?_ (by first | (simp; done) | (simp; omega)) _))

theorem refstep_any (T : List (Int × Int)) (n : Nat) (hn : n = T.length) (ao : Option Addr) (cap b o : Nat) (x : Op5) (w : World) (h : SlAt w 2 n (T.flatMap resC) ao cap b o) (hT : ItOk T) (hlen : n ≤ 999) :
    Calls Try.prog 22 #[.slice ao n cap, x.val] w (StepPost b T (stepL T x) w) := by
  obtain ⟨f, o', k, a, bb⟩ := x
  unfold Go.Um.Op5.val
  by_cases hk : 8 ≤ k
  · exact rs_key T n hn ao cap b o o' k a bb w h hT hlen f hk
  have hk' : k < 8 := by omega
  by_cases hf : f < 6
  · exact rs_low T n hn ao cap b o o' k a bb w h hT hlen f hk' hf
  by_cases hf2 : 9 < f
  · exact rs_high T n hn ao cap b o o' k a bb w h hT hlen f hk' hf2
  have : f = 6 ∨ f = 7 ∨ f = 8 ∨ f = 9 := by omega
  rcases this with rfl | rfl | rfl | rfl
  · cases hl : look T k with
    | none => exact rs_6_none T n hn ao cap b o o' k a bb w h hT hlen hk' hl
    | some v => exact rs_6_some T n hn ao cap b o o' k a bb w h hT hlen hk' v hl
  · exact rs_7 T n hn ao cap b o o' k a bb w h hT hlen hk'
  · cases hl : look T k with
    | none => exact rs_8_none T n hn ao cap b o o' k a bb w h hT hlen hk' hl
    | some v => exact rs_8_some T n hn ao cap b o o' k a bb w h hT hlen hk' v hl
  · cases hl : look T k with
    | none => exact rs_9_none T n hn ao cap b o o' k a bb w h hT hlen hk' hl
    | some v =>
      by_cases e : v = a
      · subst e; exact rs_9_eq T n hn ao cap b o o' k v bb w h hT hlen hk' hl
      · exact rs_9_some T n hn ao cap b o o' k a bb w h hT hlen hk' v hl e

end Go.Proofs.Ytoidbmgoofbcfaa
