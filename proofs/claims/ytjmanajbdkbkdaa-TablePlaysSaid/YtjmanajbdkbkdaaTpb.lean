/- TablePlays: one call of both. Printed by gen_tpb.py. -/
import Derived.Test.YtjmanajbdkbkdaaTpa
namespace Go.Proofs.Ytjmanajbdkbkdaa
open Go.RowKit Go.Um
set_option linter.unusedSimpArgs false
set_option linter.unusedVariables false
set_option maxHeartbeats 40000000
set_option maxRecDepth 100000
theorem inv_len (nx : Int) (L : List Rw) (x : Rw) : (invL nx L x).length ≤ L.length + 1 := by unfold invL; split <;> simp
theorem end_len (nx : Int) (L : List Rw) (id a : Int) (how : Rw → Rw) : (endL nx L id a how).length ≤ L.length + 1 := by
  unfold endL
  split
  · split <;> simp
  · omega
theorem inv_now {nx : Int} (L : List Rw) (x : Rw) (h : 0 ≤ nx) : 0 ≤ invN nx L x := by
  unfold invN
  split
  · rename_i he
    unfold invE at he
    rcases moE_cases nx x.fr with hm | ⟨_, hm, _⟩
    · rw [hm] at he; simp at he
    · omega
  · exact h
theorem end_now {nx : Int} (L : List Rw) (id a : Int) (h : 0 ≤ nx) : 0 ≤ endN nx L id a := by
  unfold endN
  split
  · rename_i he
    unfold endE at he
    rcases moE_cases nx a with hm | ⟨_, hm, _⟩
    · rw [hm] at he; simp at he
    · omega
  · exact h
theorem one_any {base : Nat} {w : World} {p q : Nat} {v u : Value} {L : List Rw} {nx : Int} {X : Nat → Prop} (x : Ac) (hx : 0 ≤ x.wh ∧ x.wh ≤ 255) (h : PT base w p q v u L nx L nx X) (hnx : 0 ≤ nx) (hlen : L.length ≤ 1000) :
    Calls Try.prog 21 #[.pointer (some ⟨p, 0, none⟩), .pointer (some ⟨q, 0, none⟩), .agg #[.int .u8 x.wh, .int .u8 x.cl, .int .u16 x.id, .int .u8 x.f, .int .u8 x.ob, .int .u8 x.ke, .int .u16 x.a, .int .u16 x.b, .int .u8 x.k, .int .u16 x.v, .int .i64 x.t]] w (OnePost base p q v u L.length X w) := by
  obtain ⟨n, hn⟩ : ∃ n, n = L.length := ⟨_, rfl⟩
  have HN := Lib.hid hn
  obtain ⟨m9, hm9⟩ : ∃ m, m = x.wh.tmod 9 := ⟨_, rfl⟩
  have hm0 : 0 ≤ m9 ∧ m9 < 9 := by rw [hm9, Int.tmod_eq_emod_of_nonneg hx.1]; omega
  have hm9' : x.wh.tmod 9 = m9 := hm9.symm
  have hwm : IntKind.u8.wrap m9 = m9 := by simp only [IntKind.wrap, IntKind.signed, IntKind.bits, Bool.false_and, Bool.false_eq_true, if_false]; omega
  rw [← hn]
  clear hn hm9
  obtain ⟨pc, hpc⟩ : ∃ p, p = w.heap.size := ⟨_, rfl⟩
  have HPC := Lib.hid hpc
  obtain ⟨wc, hwc⟩ : ∃ wc, wc = w.alloc (.cells #[.int .u8 x.wh, .int .u8 x.cl, .int .u16 x.id, .int .u8 x.f, .int .u8 x.ob, .int .u8 x.ke, .int .u16 x.a, .int .u16 x.b, .int .u8 x.k, .int .u16 x.v, .int .i64 x.t] 33) := ⟨_, rfl⟩
  have HWC := Lib.hid hwc
  have hbc : Below w.heap.size w wc := by rw [hwc]; exact ba (bz w) _
  have HBC := Lib.hid hbc
  have HT := Lib.hid (h.more (pc := pc) hbc (by omega) (by rw [hwc, hpc]; simp))
  have HAC := Lib.hid (show ActC wc pc 0 x by rw [hwc]; exact ActC.new w pc x hpc)
  clear hpc hwc hbc h hx
  rcases (by omega : m9 = 0 ∨ m9 = 1 ∨ m9 = 2 ∨ m9 = 3 ∨ m9 = 4 ∨ m9 = 5 ∨ m9 = 6 ∨ m9 = 7 ∨ m9 = 8) with rfl | rfl | rfl | rfl | rfl | rfl | rfl | rfl | rfl
  · obtain ⟨E, hE⟩ : ∃ E : Int, E = (invE nx L x.id x.t) := ⟨_, rfl⟩
    obtain ⟨L', hL⟩ : ∃ L', L' = (invL nx L (newR x.cl x.id x.f x.ob x.ke x.a x.b x.t)) := ⟨_, rfl⟩
    obtain ⟨nx', hN⟩ : ∃ y : Int, y = (invN nx L (newR x.cl x.id x.f x.ob x.ke x.a x.b x.t)) := ⟨_, rfl⟩
    have HLL := Lib.hid (show L'.length ≤ n + 1 by rw [hL, HN.out]; exact inv_len _ _ _)
    have HNN := Lib.hid (show 0 ≤ nx' by rw [hN]; exact inv_now _ _ hnx)
    have h1 := invoke_any x.cl x.id x.f x.ob x.ke x.a x.b x.t HT.out.t hlen HT.out.wb hnx
    have h2 := fun (W : World) (u2 : Value) (H2 : Hid (RTab base W q u2 L nx)) (hwb : base ≤ W.heap.size) => rinvoke_any x.cl x.id x.f x.ob x.ke x.a x.b x.t H2.out hlen hwb hnx
    rw [← hE, ← hL, ← hN] at h1 h2
    have H1 := Lib.hid h1
    have HH2 := Lib.hid h2
    have HEQ : (E == E) = true := by simp
    clear hE hL hN h1 h2
    go_enter Try.func21, Try.ntmps21
    go_wp2_with fail
    rw [← HWC.out, ← HPC.out]
    refine H1.out.mono ?_
    intro e w2 ht
    obtain ⟨rfl, v2, hT2, hK2, hF2⟩ := HT.out.left ht
    have HT2 := Lib.hid hT2
    have HK2 := Lib.hid hK2
    have HF2 := Lib.hid hF2
    have HA2 := Lib.hid (HAC.out.kept hK2 (fun ho => ho.elim (HT.out.xa pc (.inr rfl)).1 (HT.out.xa pc (.inr rfl)).2))
    clear ht hT2 hK2 hF2
    obtain ⟨g0, g1, g2, g3, g4, g5, g6, g7, g8, g9, g10⟩ := HA2.out
    simp only [Nat.zero_add] at g0 g1 g2 g3 g4 g5 g6 g7 g8 g9 g10
    go_wp2_with fail
    refine (HH2.out _ _ (Lib.hid HT2.out.r) HT2.out.wb).mono ?_
    intro e w3 ht
    obtain ⟨rfl, u3, hT3, hK3, hF3⟩ := HT2.out.right ht
    have HT3 := Lib.hid hT3
    have HK3 := Lib.hid hK3
    clear ht hT3 hK3 hF3 g0 g1 g2 g3 g4 g5 g6 g7 g8 g9 g10
    go_wp2
    go_ret
    exact HT3.out.done HBC.out HK2.out HF2.out HK3.out HNN.out HLL.out
  · obtain ⟨E, hE⟩ : ∃ E : Int, E = (invE nx L x.id x.t) := ⟨_, rfl⟩
    obtain ⟨L', hL⟩ : ∃ L', L' = (invL nx L (newR x.cl x.id x.f x.ob x.ke x.a x.b x.t)) := ⟨_, rfl⟩
    obtain ⟨nx', hN⟩ : ∃ y : Int, y = (invN nx L (newR x.cl x.id x.f x.ob x.ke x.a x.b x.t)) := ⟨_, rfl⟩
    have HLL := Lib.hid (show L'.length ≤ n + 1 by rw [hL, HN.out]; exact inv_len _ _ _)
    have HNN := Lib.hid (show 0 ≤ nx' by rw [hN]; exact inv_now _ _ hnx)
    have h1 := invoke_any x.cl x.id x.f x.ob x.ke x.a x.b x.t HT.out.t hlen HT.out.wb hnx
    have h2 := fun (W : World) (u2 : Value) (H2 : Hid (RTab base W q u2 L nx)) (hwb : base ≤ W.heap.size) => rinvoke_any x.cl x.id x.f x.ob x.ke x.a x.b x.t H2.out hlen hwb hnx
    rw [← hE, ← hL, ← hN] at h1 h2
    have H1 := Lib.hid h1
    have HH2 := Lib.hid h2
    have HEQ : (E == E) = true := by simp
    clear hE hL hN h1 h2
    go_enter Try.func21, Try.ntmps21
    go_wp2_with fail
    rw [← HWC.out, ← HPC.out]
    refine H1.out.mono ?_
    intro e w2 ht
    obtain ⟨rfl, v2, hT2, hK2, hF2⟩ := HT.out.left ht
    have HT2 := Lib.hid hT2
    have HK2 := Lib.hid hK2
    have HF2 := Lib.hid hF2
    have HA2 := Lib.hid (HAC.out.kept hK2 (fun ho => ho.elim (HT.out.xa pc (.inr rfl)).1 (HT.out.xa pc (.inr rfl)).2))
    clear ht hT2 hK2 hF2
    obtain ⟨g0, g1, g2, g3, g4, g5, g6, g7, g8, g9, g10⟩ := HA2.out
    simp only [Nat.zero_add] at g0 g1 g2 g3 g4 g5 g6 g7 g8 g9 g10
    go_wp2_with fail
    refine (HH2.out _ _ (Lib.hid HT2.out.r) HT2.out.wb).mono ?_
    intro e w3 ht
    obtain ⟨rfl, u3, hT3, hK3, hF3⟩ := HT2.out.right ht
    have HT3 := Lib.hid hT3
    have HK3 := Lib.hid hK3
    clear ht hT3 hK3 hF3 g0 g1 g2 g3 g4 g5 g6 g7 g8 g9 g10
    go_wp2
    go_ret
    exact HT3.out.done HBC.out HK2.out HF2.out HK3.out HNN.out HLL.out
  · obtain ⟨E, hE⟩ : ∃ E : Int, E = (invE nx L x.id x.t) := ⟨_, rfl⟩
    obtain ⟨L', hL⟩ : ∃ L', L' = (invL nx L (newR x.cl x.id x.f x.ob x.ke x.a x.b x.t)) := ⟨_, rfl⟩
    obtain ⟨nx', hN⟩ : ∃ y : Int, y = (invN nx L (newR x.cl x.id x.f x.ob x.ke x.a x.b x.t)) := ⟨_, rfl⟩
    have HLL := Lib.hid (show L'.length ≤ n + 1 by rw [hL, HN.out]; exact inv_len _ _ _)
    have HNN := Lib.hid (show 0 ≤ nx' by rw [hN]; exact inv_now _ _ hnx)
    have h1 := invoke_any x.cl x.id x.f x.ob x.ke x.a x.b x.t HT.out.t hlen HT.out.wb hnx
    have h2 := fun (W : World) (u2 : Value) (H2 : Hid (RTab base W q u2 L nx)) (hwb : base ≤ W.heap.size) => rinvoke_any x.cl x.id x.f x.ob x.ke x.a x.b x.t H2.out hlen hwb hnx
    rw [← hE, ← hL, ← hN] at h1 h2
    have H1 := Lib.hid h1
    have HH2 := Lib.hid h2
    have HEQ : (E == E) = true := by simp
    clear hE hL hN h1 h2
    go_enter Try.func21, Try.ntmps21
    go_wp2_with fail
    rw [← HWC.out, ← HPC.out]
    refine H1.out.mono ?_
    intro e w2 ht
    obtain ⟨rfl, v2, hT2, hK2, hF2⟩ := HT.out.left ht
    have HT2 := Lib.hid hT2
    have HK2 := Lib.hid hK2
    have HF2 := Lib.hid hF2
    have HA2 := Lib.hid (HAC.out.kept hK2 (fun ho => ho.elim (HT.out.xa pc (.inr rfl)).1 (HT.out.xa pc (.inr rfl)).2))
    clear ht hT2 hK2 hF2
    obtain ⟨g0, g1, g2, g3, g4, g5, g6, g7, g8, g9, g10⟩ := HA2.out
    simp only [Nat.zero_add] at g0 g1 g2 g3 g4 g5 g6 g7 g8 g9 g10
    go_wp2_with fail
    refine (HH2.out _ _ (Lib.hid HT2.out.r) HT2.out.wb).mono ?_
    intro e w3 ht
    obtain ⟨rfl, u3, hT3, hK3, hF3⟩ := HT2.out.right ht
    have HT3 := Lib.hid hT3
    have HK3 := Lib.hid hK3
    clear ht hT3 hK3 hF3 g0 g1 g2 g3 g4 g5 g6 g7 g8 g9 g10
    go_wp2
    go_ret
    exact HT3.out.done HBC.out HK2.out HF2.out HK3.out HNN.out HLL.out
  · obtain ⟨E, hE⟩ : ∃ E : Int, E = (endE nx L x.id x.t) := ⟨_, rfl⟩
    obtain ⟨L', hL⟩ : ∃ L', L' = (endL nx L x.id x.t (fun y => retR y x.k x.v x.t)) := ⟨_, rfl⟩
    obtain ⟨nx', hN⟩ : ∃ y : Int, y = (endN nx L x.id x.t) := ⟨_, rfl⟩
    have HLL := Lib.hid (show L'.length ≤ n + 1 by rw [hL, HN.out]; exact end_len _ _ _ _ _)
    have HNN := Lib.hid (show 0 ≤ nx' by rw [hN]; exact end_now _ _ _ hnx)
    have h1 := return_any x.id x.k x.v x.t HT.out.t hlen hnx
    have h2 := fun (W : World) (u2 : Value) (H2 : Hid (RTab base W q u2 L nx)) (hwb : base ≤ W.heap.size) => rend_ret x.id x.k x.v x.t H2.out hlen hnx
    rw [← hE, ← hL, ← hN] at h1 h2
    have H1 := Lib.hid h1
    have HH2 := Lib.hid h2
    have HEQ : (E == E) = true := by simp
    clear hE hL hN h1 h2
    go_enter Try.func21, Try.ntmps21
    go_wp2_with fail
    rw [← HWC.out, ← HPC.out]
    refine H1.out.mono ?_
    intro e w2 ht
    obtain ⟨rfl, v2, hT2, hK2, hF2⟩ := HT.out.left ht
    have HT2 := Lib.hid hT2
    have HK2 := Lib.hid hK2
    have HF2 := Lib.hid hF2
    have HA2 := Lib.hid (HAC.out.kept hK2 (fun ho => ho.elim (HT.out.xa pc (.inr rfl)).1 (HT.out.xa pc (.inr rfl)).2))
    clear ht hT2 hK2 hF2
    obtain ⟨g0, g1, g2, g3, g4, g5, g6, g7, g8, g9, g10⟩ := HA2.out
    simp only [Nat.zero_add] at g0 g1 g2 g3 g4 g5 g6 g7 g8 g9 g10
    go_wp2_with fail
    refine (HH2.out _ _ (Lib.hid HT2.out.r) HT2.out.wb).mono ?_
    intro e w3 ht
    obtain ⟨rfl, u3, hT3, hK3, hF3⟩ := HT2.out.right ht
    have HT3 := Lib.hid hT3
    have HK3 := Lib.hid hK3
    clear ht hT3 hK3 hF3 g0 g1 g2 g3 g4 g5 g6 g7 g8 g9 g10
    go_wp2
    go_ret
    exact HT3.out.done HBC.out HK2.out HF2.out HK3.out HNN.out HLL.out
  · obtain ⟨E, hE⟩ : ∃ E : Int, E = (endE nx L x.id x.t) := ⟨_, rfl⟩
    obtain ⟨L', hL⟩ : ∃ L', L' = (endL nx L x.id x.t (fun y => retR y x.k x.v x.t)) := ⟨_, rfl⟩
    obtain ⟨nx', hN⟩ : ∃ y : Int, y = (endN nx L x.id x.t) := ⟨_, rfl⟩
    have HLL := Lib.hid (show L'.length ≤ n + 1 by rw [hL, HN.out]; exact end_len _ _ _ _ _)
    have HNN := Lib.hid (show 0 ≤ nx' by rw [hN]; exact end_now _ _ _ hnx)
    have h1 := return_any x.id x.k x.v x.t HT.out.t hlen hnx
    have h2 := fun (W : World) (u2 : Value) (H2 : Hid (RTab base W q u2 L nx)) (hwb : base ≤ W.heap.size) => rend_ret x.id x.k x.v x.t H2.out hlen hnx
    rw [← hE, ← hL, ← hN] at h1 h2
    have H1 := Lib.hid h1
    have HH2 := Lib.hid h2
    have HEQ : (E == E) = true := by simp
    clear hE hL hN h1 h2
    go_enter Try.func21, Try.ntmps21
    go_wp2_with fail
    rw [← HWC.out, ← HPC.out]
    refine H1.out.mono ?_
    intro e w2 ht
    obtain ⟨rfl, v2, hT2, hK2, hF2⟩ := HT.out.left ht
    have HT2 := Lib.hid hT2
    have HK2 := Lib.hid hK2
    have HF2 := Lib.hid hF2
    have HA2 := Lib.hid (HAC.out.kept hK2 (fun ho => ho.elim (HT.out.xa pc (.inr rfl)).1 (HT.out.xa pc (.inr rfl)).2))
    clear ht hT2 hK2 hF2
    obtain ⟨g0, g1, g2, g3, g4, g5, g6, g7, g8, g9, g10⟩ := HA2.out
    simp only [Nat.zero_add] at g0 g1 g2 g3 g4 g5 g6 g7 g8 g9 g10
    go_wp2_with fail
    refine (HH2.out _ _ (Lib.hid HT2.out.r) HT2.out.wb).mono ?_
    intro e w3 ht
    obtain ⟨rfl, u3, hT3, hK3, hF3⟩ := HT2.out.right ht
    have HT3 := Lib.hid hT3
    have HK3 := Lib.hid hK3
    clear ht hT3 hK3 hF3 g0 g1 g2 g3 g4 g5 g6 g7 g8 g9 g10
    go_wp2
    go_ret
    exact HT3.out.done HBC.out HK2.out HF2.out HK3.out HNN.out HLL.out
  · obtain ⟨E, hE⟩ : ∃ E : Int, E = (endE nx L x.id x.t) := ⟨_, rfl⟩
    obtain ⟨L', hL⟩ : ∃ L', L' = (endL nx L x.id x.t lostR) := ⟨_, rfl⟩
    obtain ⟨nx', hN⟩ : ∃ y : Int, y = (endN nx L x.id x.t) := ⟨_, rfl⟩
    have HLL := Lib.hid (show L'.length ≤ n + 1 by rw [hL, HN.out]; exact end_len _ _ _ _ _)
    have HNN := Lib.hid (show 0 ≤ nx' by rw [hN]; exact end_now _ _ _ hnx)
    have h1 := info_any x.id x.t HT.out.t hlen hnx
    have h2 := fun (W : World) (u2 : Value) (H2 : Hid (RTab base W q u2 L nx)) (hwb : base ≤ W.heap.size) => rend_info x.id x.k x.v x.t H2.out hlen hnx
    rw [← hE, ← hL, ← hN] at h1 h2
    have H1 := Lib.hid h1
    have HH2 := Lib.hid h2
    have HEQ : (E == E) = true := by simp
    clear hE hL hN h1 h2
    go_enter Try.func21, Try.ntmps21
    go_wp2_with fail
    rw [← HWC.out, ← HPC.out]
    refine H1.out.mono ?_
    intro e w2 ht
    obtain ⟨rfl, v2, hT2, hK2, hF2⟩ := HT.out.left ht
    have HT2 := Lib.hid hT2
    have HK2 := Lib.hid hK2
    have HF2 := Lib.hid hF2
    have HA2 := Lib.hid (HAC.out.kept hK2 (fun ho => ho.elim (HT.out.xa pc (.inr rfl)).1 (HT.out.xa pc (.inr rfl)).2))
    clear ht hT2 hK2 hF2
    obtain ⟨g0, g1, g2, g3, g4, g5, g6, g7, g8, g9, g10⟩ := HA2.out
    simp only [Nat.zero_add] at g0 g1 g2 g3 g4 g5 g6 g7 g8 g9 g10
    go_wp2_with fail
    refine (HH2.out _ _ (Lib.hid HT2.out.r) HT2.out.wb).mono ?_
    intro e w3 ht
    obtain ⟨rfl, u3, hT3, hK3, hF3⟩ := HT2.out.right ht
    have HT3 := Lib.hid hT3
    have HK3 := Lib.hid hK3
    clear ht hT3 hK3 hF3 g0 g1 g2 g3 g4 g5 g6 g7 g8 g9 g10
    go_wp2
    go_ret
    exact HT3.out.done HBC.out HK2.out HF2.out HK3.out HNN.out HLL.out
  · obtain ⟨E, hE⟩ : ∃ E : Int, E = (if (L.filter (fun y => !(y.id == x.id))).length = L.length then (7 : Int) else 0) := ⟨_, rfl⟩
    obtain ⟨L', hL⟩ : ∃ L', L' = (L.filter (fun y => !(y.id == x.id))) := ⟨_, rfl⟩
    obtain ⟨nx', hN⟩ : ∃ y : Int, y = nx := ⟨_, rfl⟩
    have HLL := Lib.hid (show L'.length ≤ n + 1 by rw [hL, HN.out]; exact Nat.le_succ_of_le (List.length_filter_le _ _))
    have HNN := Lib.hid (show 0 ≤ nx' by rw [hN]; exact hnx)
    have h1 := remove_any x.id HT.out.t hlen
    have h2 := fun (W : World) (u2 : Value) (H2 : Hid (RTab base W q u2 L nx)) (hwb : base ≤ W.heap.size) => rremove_any x.id H2.out hlen hwb
    rw [← hE, ← hL] at h1 h2
    have H1 := Lib.hid h1
    have HH2 := Lib.hid h2
    have HEQ : (E == E) = true := by simp
    clear hE hL hN h1 h2
    go_enter Try.func21, Try.ntmps21
    go_wp2_with fail
    rw [← HWC.out, ← HPC.out]
    refine H1.out.mono ?_
    intro e w2 ht
    obtain ⟨rfl, v2, hT2, hK2, hF2⟩ := HT.out.left ht.tpost
    have HT2 := Lib.hid hT2
    have HK2 := Lib.hid hK2
    have HF2 := Lib.hid hF2
    have HA2 := Lib.hid (HAC.out.kept hK2 (fun ho => ho.elim (HT.out.xa pc (.inr rfl)).1 (HT.out.xa pc (.inr rfl)).2))
    clear ht hT2 hK2 hF2
    obtain ⟨g0, g1, g2, g3, g4, g5, g6, g7, g8, g9, g10⟩ := HA2.out
    simp only [Nat.zero_add] at g0 g1 g2 g3 g4 g5 g6 g7 g8 g9 g10
    go_wp2_with fail
    refine (HH2.out _ _ (Lib.hid HT2.out.r) HT2.out.wb).mono ?_
    intro e w3 ht
    obtain ⟨rfl, u3, hT3, hK3, hF3⟩ := HT2.out.right ht
    have HT3 := Lib.hid hT3
    have HK3 := Lib.hid hK3
    clear ht hT3 hK3 hF3 g0 g1 g2 g3 g4 g5 g6 g7 g8 g9 g10
    go_wp2
    go_ret
    exact HT3.out.done HBC.out HK2.out HF2.out HK3.out hnx HLL.out
  · obtain ⟨E, hE⟩ : ∃ E : Int, E = ((L.length : Int) - (L.filter (fun y => !(y.st == 1))).length) := ⟨_, rfl⟩
    obtain ⟨L', hL⟩ : ∃ L', L' = (L.filter (fun y => !(y.st == 1))) := ⟨_, rfl⟩
    obtain ⟨nx', hN⟩ : ∃ y : Int, y = nx := ⟨_, rfl⟩
    have HLL := Lib.hid (show L'.length ≤ n + 1 by rw [hL, HN.out]; exact Nat.le_succ_of_le (List.length_filter_le _ _))
    have HNN := Lib.hid (show 0 ≤ nx' by rw [hN]; exact hnx)
    have h1 := settle_any HT.out.t hlen
    have h2 := fun (W : World) (u2 : Value) (H2 : Hid (RTab base W q u2 L nx)) (hwb : base ≤ W.heap.size) => rsettle_any H2.out hlen hwb
    rw [← hE, ← hL] at h1 h2
    have H1 := Lib.hid h1
    have HH2 := Lib.hid h2
    have HEQ : (E == E) = true := by simp
    clear hE hL hN h1 h2
    go_enter Try.func21, Try.ntmps21
    go_wp2_with fail
    rw [← HWC.out, ← HPC.out]
    refine H1.out.mono ?_
    intro e w2 ht
    obtain ⟨rfl, v2, hT2, hK2, hF2⟩ := HT.out.left ht.tpost
    have HT2 := Lib.hid hT2
    have HK2 := Lib.hid hK2
    have HF2 := Lib.hid hF2
    have HA2 := Lib.hid (HAC.out.kept hK2 (fun ho => ho.elim (HT.out.xa pc (.inr rfl)).1 (HT.out.xa pc (.inr rfl)).2))
    clear ht hT2 hK2 hF2
    obtain ⟨g0, g1, g2, g3, g4, g5, g6, g7, g8, g9, g10⟩ := HA2.out
    simp only [Nat.zero_add] at g0 g1 g2 g3 g4 g5 g6 g7 g8 g9 g10
    go_wp2_with fail
    refine (HH2.out _ _ (Lib.hid HT2.out.r) HT2.out.wb).mono ?_
    intro e w3 ht
    obtain ⟨rfl, u3, hT3, hK3, hF3⟩ := HT2.out.right ht
    have HT3 := Lib.hid hT3
    have HK3 := Lib.hid hK3
    clear ht hT3 hK3 hF3 g0 g1 g2 g3 g4 g5 g6 g7 g8 g9 g10
    go_wp2
    go_ret
    exact HT3.out.done HBC.out HK2.out HF2.out HK3.out hnx HLL.out
  · go_enter Try.func21, Try.ntmps21
    go_wp2
    go_ret
    rw [← HWC.out]
    exact ⟨rfl, v, u, L, nx, HT.out.less (fun b hb => .inl hb), hnx, by rw [HN.out]; omega, Kept.below' HBC.out⟩
end Go.Proofs.Ytjmanajbdkbkdaa
