/- The table: DeleteFunc at rows. Printed by gen_tv.py. -/
import Derived.Test.YtjmanajbdkbkdaaTu
import Derived.Test.YtjmanajbdkbkdaaTi
namespace Go.Proofs.Ytjmanajbdkbkdaa
open Go.RowKit Go.Um
set_option linter.unusedSimpArgs false
set_option linter.unusedVariables false
set_option maxHeartbeats 4000000
set_option maxRecDepth 100000
/-- where the first row stands of which something is so, or below 0 -/
def ixP (q : Rw → Bool) (L : List Rw) : Int := match L.findIdx? q with | some i => (i : Int) | none => -1
theorem ixP_hit {q : Rw → Bool} {L : List Rw} {i : Nat} {x : Rw} (hx : L[i]? = some x) (he : q x = true) (hn : ∀ y ∈ L.take i, q y = false) : ixP q L = (i : Int) := by
  have : L.findIdx? q = some i := by
    obtain ⟨hi, e⟩ := List.getElem?_eq_some_iff.1 hx
    rw [List.findIdx?_eq_some_iff_getElem]
    refine ⟨hi, by rw [e]; exact he, fun j hj => ?_⟩
    have hm : L[j] ∈ L.take i := by
      rw [List.mem_iff_getElem]
      exact ⟨j, by rw [List.length_take]; omega, by rw [List.getElem_take]⟩
    rw [hn _ hm]; simp
  unfold ixP
  rw [this]
theorem ixP_none {q : Rw → Bool} {L : List Rw} (hn : ∀ y ∈ L, q y = false) : ixP q L = -1 := by
  have : L.findIdx? q = none := by
    rw [List.findIdx?_eq_none_iff]
    exact hn
  unfold ixP
  rw [this]
theorem ixP_cases (q : Rw → Bool) (L : List Rw) : (ixP q L = -1 ∧ L.filter (fun x => !q x) = L) ∨ ∃ (i : Nat) (x : Rw), ixP q L = (i : Int) ∧ L[i]? = some x ∧ q x = true ∧ (L.take (i + 1)).filter (fun x => !q x) = L.take i := by
  unfold ixP
  split
  · rename_i i h
    rw [List.findIdx?_eq_some_iff_getElem] at h
    obtain ⟨hi, h1, h2⟩ := h
    refine .inr ⟨i, L[i], rfl, List.getElem?_eq_getElem hi, h1, ?_⟩
    rw [take_snoc (List.getElem?_eq_getElem hi), List.filter_append]
    have e1 : (L.take i).filter (fun x => !q x) = L.take i := by
      rw [List.filter_eq_self]
      intro y hy
      obtain ⟨j, hj, rfl⟩ := List.mem_iff_getElem.1 hy
      rw [List.length_take] at hj
      rw [List.getElem_take]
      have := h2 j (by omega)
      simpa using this
    rw [e1]
    simp [h1]
  · rename_i h
    rw [List.findIdx?_eq_none_iff] at h
    refine .inl ⟨rfl, ?_⟩
    rw [List.filter_eq_self]
    intro y hy
    simp [h y hy]
theorem done_any (x : Rw) (w : World) : Calls Try.prog 36 #[x.val] w fun e w' => e = .returned (.bool (x.st == 1)) ∧ Below w.heap.size w w' := by
  unfold Rw.val
  go_enter Try.func36, Try.ntmps36
  go_wp2
  go_ret
  exact ⟨rfl, ba (bz w) _⟩
theorem named_any (id : Int) (x : Rw) (w : World) : Calls Try.prog 37 #[.int .u16 id, x.val] w fun e w' => e = .returned (.bool (x.id == id)) ∧ Below w.heap.size w w' := by
  unfold Rw.val
  go_enter Try.func37, Try.ntmps37
  go_wp2
  go_ret
  exact ⟨rfl, ba (bz w) _⟩
def DPost (base : Nat) (v : Value) (L : List Rw) (w : World) (e : Ending) (w' : World) : Prop :=
  ∃ v', e = .returned v' ∧ w'.ownsRow base 41 12 v' L.length (L.flatMap Rw.cells) ∧ v'.ownBlock = v.ownBlock ∧ Kept (fun b => v.ownBlock = some b) w w'
theorem own_rows0 {w : World} {base : Nat} {v : Value} {L : List Rw} (h : w.ownsRow base 41 12 v L.length (L.flatMap Rw.cells)) (hn : 0 < L.length) :
    ∃ g cap, v = .slice (some ⟨g, 0, none⟩) L.length cap ∧ SlAt w 12 L.length (L.flatMap Rw.cells) (some ⟨g, 0, none⟩) cap g 0 ∧ base ≤ g := by
  obtain ⟨g, cap, hv, hb, hl⟩ := h.form hn
  subst hv
  obtain ⟨ao', cap', b, o, hv, hs, _⟩ := SlAt.owned h
  simp only [Value.slice.injEq, true_and] at hv
  obtain ⟨hv1, hv2⟩ := hv
  subst hv1 hv2
  have hao := hs.addr (by rw [length_flat Rw.twelve]; omega)
  simp only [Option.some.injEq, Addr.mk.injEq, and_true] at hao
  obtain ⟨rfl, rfl⟩ := hao
  exact ⟨g, cap, rfl, hs, hb⟩
theorem rowc_new (w : World) (x : Rw) : RowC (w.alloc (.cells #[.int .u8 x.cl, .int .u16 x.id, .int .u8 x.f, .int .u8 x.ob, .int .u8 x.ke, .int .u16 x.a, .int .u16 x.b, .int .u8 x.k, .int .u16 x.v, .int .u8 x.st, .int .i64 x.fr, .int .i64 x.to] 41)) w.heap.size 0 x :=
  ⟨by simp [go_sem], by simp [go_sem], by simp [go_sem], by simp [go_sem], by simp [go_sem], by simp [go_sem], by simp [go_sem], by simp [go_sem], by simp [go_sem], by simp [go_sem], by simp [go_sem], by simp [go_sem]⟩
theorem index_done (L : List Rw) (ao : Option Addr) (cap b o : Nat) (w : World) (hs : SlAt w 12 L.length (L.flatMap Rw.cells) ao cap b o) (hlen : L.length ≤ 100000) :
    Calls Try.prog 43 #[.slice ao L.length cap, .func (.func 36) #[] #[]] w fun e w' => e = .returned (.int .i64 (ixP (fun x : Rw => x.st == 1) L)) ∧ Below w.heap.size w w' := by
  have hidx := hs.idx (P := Try.prog) (t := 38) (e := 41) (by kernel_rfl) size41 (by decide)
  obtain ⟨n, hn⟩ : ∃ n, n = L.length := ⟨_, rfl⟩
  rw [← hn] at hidx hlen ⊢
  have HS := Lib.hid hs
  have HN := Lib.hid hn
  obtain ⟨R, hR⟩ : ∃ R, R = ixP (fun x : Rw => x.st == 1) L := ⟨_, rfl⟩
  rw [← hR]
  have HR := Lib.hid hR
  clear hs hn hR
  go_enter Try.func43, Try.ntmps43
  go_wp2_with fail
  go_loopw [8] (fun t8 wr => ∃ i : Nat, i ≤ n ∧ t8 = .int .i64 i ∧ Hid (∀ y ∈ L.take i, (fun x : Rw => x.st == 1) y = false) ∧ Hid (Below w.heap.size w wr)) (fun t8 _ => n - (intOf t8).toNat)
  case atStart => exact ⟨0, Nat.zero_le _, rfl, Lib.hid (by simp), Lib.hid (bz w)⟩
  case round =>
    obtain ⟨i, hi, rfl, hno, hbel⟩ := hrel
    by_cases hlt : i < n
    · have i1 : (0 : Int) ≤ (i : Int) := by omega
      have i2 : (i : Int) < (n : Int) := by omega
      have i3 : decide ((i : Int) < (n : Int)) = true := decide_eq_true i2
      obtain ⟨x, hx⟩ : ∃ x, L[i]? = some x := ⟨_, List.getElem?_eq_getElem (by rw [← HN.out]; exact hlt)⟩
      obtain ⟨g0, g1, g2, g3, g4, g5, g6, g7, g8, g9, g10, g11⟩ := row_at (HS.out.below hbel.out) hx
      have HX := Lib.hid hx
      have HC := Lib.hid (done_any x wr)
      unfold Rw.val at HC
      obtain ⟨B, hB⟩ : ∃ B : Bool, B = (fun x : Rw => x.st == 1) x := ⟨_, rfl⟩
      have hB' : (x.st == 1) = B := hB.symm
      rw [hB'] at HC
      have HBB := Lib.hid hB
      clear hx hB hB'
      go_wp2_with fail
      refine HC.out.mono ?_
      rintro e w2 ⟨rfl, hb2⟩
      have HB2 := Lib.hid (hbel.out.trans (hb2.mono hbel.out.size))
      clear hb2 HC
      cases B with
      | true =>
        go_wp2
        go_ret
        exact ⟨by rw [HR.out, ixP_hit HX.out HBB.out.symm hno.out]; rfl, HB2.out⟩
      | false =>
        go_wp2_with fail
        go_roundw
        case rel =>
          refine ⟨i + 1, by omega, by go_num, Lib.hid ?_, HB2⟩
          rw [take_snoc HX.out]
          intro y hy
          rcases List.mem_append.1 hy with hy | hy
          · exact hno.out y hy
          · rw [List.mem_singleton.1 hy]; exact HBB.out.symm
        case measure => simp [intOf]; omega
    · have i2 : ¬ (i : Int) < (n : Int) := by omega
      have i3 : decide ((i : Int) < (n : Int)) = false := decide_eq_false i2
      have HI := Lib.hid (show i = n by omega)
      go_wp2
      go_ret
      have h1 := hno.out
      rw [HI.out, HN.out, List.take_length] at h1
      exact ⟨by rw [HR.out, ixP_none h1]; rfl, hbel.out⟩
theorem delete_done (base : Nat) (v : Value) (L : List Rw) (w : World) (h : w.ownsRow base 41 12 v L.length (L.flatMap Rw.cells)) (hlen : L.length ≤ 1000) :
    Calls Try.prog 45 #[v, .func (.func 36) #[] #[]] w (DPost base v (L.filter (fun x => !(fun x : Rw => x.st == 1) x)) w) := by
  obtain ⟨ao, cap, b, o, rfl, hs, _⟩ := SlAt.owned h
  have HIX := Lib.hid (index_done L ao cap b o w hs (by omega))
  have HH := Lib.hid h
  rcases ixP_cases (fun x : Rw => x.st == 1) L with ⟨hi, hf⟩ | ⟨i0, x0, hi, hx0, hq0, hf⟩
  · rw [hi] at HIX
    rw [hf]
    clear hi hf h hs
    go_enter Try.func45, Try.ntmps45
    go_wp2_with fail
    refine HIX.out.mono ?_
    rintro e w1 ⟨rfl, hb1⟩
    have HB1 := Lib.hid hb1
    clear hb1
    go_wp2
    go_ret
    exact ⟨_, rfl, own_past HH.out HB1.out, rfl, (Kept.of_below HB1.out).mono (fun i hi h => absurd h (by omega))⟩
  · rw [hi] at HIX
    have hil := (List.getElem?_eq_some_iff.1 hx0).1
    obtain ⟨g, cp, hv, hs2, hbg⟩ := own_rows0 h (by omega)
    simp only [Value.slice.injEq, true_and] at hv
    obtain ⟨rfl, rfl⟩ := hv
    have hidx := hs2.idx (P := Try.prog) (t := 38) (e := 41) (by kernel_rfl) size41 (by decide)
    simp only [Nat.zero_add] at hidx
    obtain ⟨n, hn⟩ : ∃ n, n = L.length := ⟨_, rfl⟩
    have HN := Lib.hid hn
    obtain ⟨F, hF⟩ : ∃ F, F = L.filter (fun x => !(fun x : Rw => x.st == 1) x) := ⟨_, rfl⟩
    rw [← hF]
    have HFF := Lib.hid hF
    rw [← hn] at hidx hlen hil HIX HH ⊢
    have HF0 := Lib.hid hf
    have hi0 : ((i0 : Int) == -1) = false := by first | (simp; done) | (simp; omega)
    have hw0 : IntKind.i64.wrap ((i0 : Int) + 1) = (i0 : Int) + 1 := IntWalk.i64_in _ (by omega)
    have hgw : g < w.heap.size := (own_lt HH.out rfl).2
    clear h hs hi hx0 hq0 hf hs2 hn hF
    go_enter Try.func45, Try.ntmps45
    go_wp2_with fail
    refine HIX.out.mono ?_
    rintro e w1 ⟨rfl, hb1⟩
    have HO1 := Lib.hid (own_past HH.out hb1)
    have HK1 := Lib.hid ((Kept.of_below hb1).mono (S' := fun b => b = g) (fun i hi h => absurd h (by omega)))
    clear hb1 HIX
    go_wp2_with fail
    go_loopw [5, 6] (fun t5 t6 wr => ∃ (i j : Nat) (C : List Rw), i < j ∧ j ≤ n ∧ t5 = .int .i64 i ∧ t6 = .int .i64 j ∧ Hid (C.length = n ∧ C.take i = (L.take j).filter (fun x => !(fun x : Rw => x.st == 1) x) ∧ C.drop j = L.drop j) ∧ Hid (wr.ownsRow base 41 12 (.slice (some ⟨g, 0, none⟩) n cap) n (C.flatMap Rw.cells)) ∧ Hid (Kept (fun b => b = g) w wr)) (fun _ t6 _ => n - (intOf t6).toNat)
    case atStart => exact ⟨i0, i0 + 1, L, by omega, by omega, rfl, by go_num, Lib.hid ⟨HN.out.symm, HF0.out.symm, rfl⟩, HO1, HK1⟩
    case round =>
      clear HO1 HK1
      obtain ⟨i, j, C, hij, hj, rfl, rfl, hC, hown, hkw⟩ := hrel
      by_cases hlt : j < n
      · have i1 : (0 : Int) ≤ (i : Int) := by omega
        have i2 : (i : Int) < (n : Int) := by omega
        have j1 : (0 : Int) ≤ (j : Int) := by omega
        have j2 : (j : Int) < (n : Int) := by omega
        have j3 : decide ((j : Int) < (n : Int)) = true := decide_eq_true j2
        obtain ⟨x, hx⟩ : ∃ x, L[j]? = some x := ⟨_, List.getElem?_eq_getElem (by rw [← HN.out]; exact hlt)⟩
        have hcx : C[j]? = some x := by
          have h1 := congrArg (fun l => l[0]?) hC.out.2.2
          simp only [List.getElem?_drop, Nat.add_zero] at h1
          rw [h1]; exact hx
        obtain ⟨y, hcy⟩ : ∃ y, C[i]? = some y := ⟨_, List.getElem?_eq_getElem (by rw [hC.out.1]; omega)⟩
        obtain ⟨gg, cc, hv', hsr, _⟩ := own_rows0 (by rw [hC.out.1]; exact hown.out) (by rw [hC.out.1]; omega)
        simp only [Value.slice.injEq, Option.some.injEq, Addr.mk.injEq, and_true, true_and] at hv'
        obtain ⟨e1, e0, e2⟩ := hv'
        subst e1 e2
        clear e0
        have RX := row_at hsr hcx
        have RY := row_at hsr hcy
        rw [Nat.zero_add] at RX RY
        obtain ⟨g0, g1, g2, g3, g4, g5, g6, g7, g8, g9, g10, g11⟩ := RX
        have RY := Lib.hid RY
        have HX := Lib.hid hx
        obtain ⟨pc, hpc⟩ : ∃ p, p = wr.heap.size := ⟨_, rfl⟩
        have HPC := Lib.hid hpc
        obtain ⟨B, hB⟩ : ∃ B : Bool, B = (fun x : Rw => x.st == 1) x := ⟨_, rfl⟩
        have hB' : (x.st == 1) = B := hB.symm
        have HBB := Lib.hid hB
        obtain ⟨wo, hwo⟩ : ∃ x, x = wr := ⟨_, rfl⟩
        subst hwo
        have HC := Lib.hid (fun W => done_any x W)
        unfold Rw.val at HC
        rw [hB'] at HC
        have hgwr : g < wo.heap.size := (own_lt hown.out rfl).2
        clear hx hcx hcy hB hB' hpc hsr
        go_wp2_with fail
        refine (HC.out _).mono ?_
        rintro e w2 ⟨rfl, hb2⟩
        have hbw : Below wo.heap.size wo w2 := bt (ba (bz wo) _) hb2
        have HO2 := Lib.hid (own_past hown.out hbw)
        have HK2 := Lib.hid (hkw.out.trans ((Kept.of_below hbw).mono (S' := fun b => b = g) (fun i hi h => absurd h (by omega))) (fun _ _ h => h))
        have RZ := (rowc_new wo x).below hb2
        rw [← HPC.out] at RZ ⊢
        have HRY := Lib.hid (RY.out.below hbw)
        clear hb2 hbw HC
        cases B with
        | true =>
          clear g0 g1 g2 g3 g4 g5 g6 g7 g8 g9 g10 g11
          go_wp2_with fail
          go_roundw
          case rel =>
            refine ⟨i, j + 1, C, by omega, by omega, rfl, by go_num, Lib.hid ⟨hC.out.1, ?_, ?_⟩, HO2, HK2⟩
            · rw [take_snoc HX.out, List.filter_append, hC.out.2.1]
              simp [HBB.out.symm]
            · rw [← List.drop_drop, ← List.drop_drop, hC.out.2.2]
          case measure => simp [intOf]; omega
        | false =>
          clear g0 g1 g2 g3 g4 g5 g6 g7 g8 g9 g10 g11
          obtain ⟨z0, z1, z2, z3, z4, z5, z6, z7, z8, z9, z10, z11⟩ := RZ
          simp only [Nat.zero_add] at z0 z1 z2 z3 z4 z5 z6 z7 z8 z9 z10 z11
          obtain ⟨y0, y1, y2, y3, y4, y5, y6, y7, y8, y9, y10, y11⟩ := HRY.out
          have fz := HO2.out.frozenAt
          have fz0 := fz (i * 12)
          have fz1 := fz (i * 12 + 1)
          have fz2 := fz (i * 12 + 2)
          have fz3 := fz (i * 12 + 3)
          have fz4 := fz (i * 12 + 4)
          have fz5 := fz (i * 12 + 5)
          have fz6 := fz (i * 12 + 6)
          have fz7 := fz (i * 12 + 7)
          have fz8 := fz (i * 12 + 8)
          have fz9 := fz (i * 12 + 9)
          have fz10 := fz (i * 12 + 10)
          have fz11 := fz (i * 12 + 11)
          clear fz
          have hw5 : IntKind.i64.wrap ((i : Int) + 1) = (i : Int) + 1 := IntWalk.i64_in _ (by omega)
          go_wp2_with fail
          go_roundw
          case rel =>
            have h9 := own_put (x := x) HO2.out (by rw [hC.out.1]; omega : i < C.length)
            refine ⟨i + 1, j + 1, C.set i x, by omega, by omega, by go_num, by go_num, Lib.hid ⟨by rw [List.length_set]; exact hC.out.1, ?_, ?_⟩, Lib.hid h9.1, Lib.hid (HK2.out.grown h9.2 (fun k e _ => (Option.some.inj e).symm))⟩
            · rw [take_snoc (List.getElem?_set_self (by rw [hC.out.1]; omega)), take_snoc HX.out, List.filter_append, ← hC.out.2.1, List.take_set_of_le (Nat.le_refl i)]
              simp [HBB.out.symm]
            · rw [List.drop_set_of_lt (by omega), ← List.drop_drop, ← List.drop_drop, hC.out.2.2]
          case measure => simp [intOf]; omega
      · have j2 : ¬ (j : Int) < (n : Int) := by omega
        have j3 : decide ((j : Int) < (n : Int)) = false := decide_eq_false j2
        have hjn : j = n := by omega
        subst hjn
        obtain ⟨w', hclr, hown', hgr'⟩ := clear_rows (c := cap - i) hown.out (show i ≤ j by omega)
        have hF2 : C.take i = F := by rw [hC.out.2.1, HFF.out, HN.out, List.take_length]
        have hFl : F.length = i := by rw [← hF2, List.length_take, hC.out.1]; omega
        have HO9 := Lib.hid hown'
        have HG9 := Lib.hid hgr'
        have HF2 := Lib.hid hF2
        have HFL := Lib.hid hFl
        have i1 : (0 : Int) ≤ (i : Int) := by omega
        have i2 : (i : Int) ≤ (j : Int) := by omega
        have hjc : j ≤ cap := by
          rcases hown.out.2 with ⟨h', _⟩ | ⟨g', cap', cur, h', _, _, hnc, _⟩
          · cases h'
          · simp only [Value.slice.injEq, true_and] at h'
            omega
        have i4 : (i : Int) ≤ (cap : Int) := by omega
        have i5 : (j : Int) ≤ (cap : Int) := by omega
        have i6 : ¬ cap = i := by omega
        clear hown' hgr' hF2 hFl
        go_wp2
        go_ret
        refine ⟨_, rfl, ?_, rfl, (hkw.out.grown HG9.out (fun k e _ => (Option.some.inj e).symm)).mono (fun b _ e => by rw [e]; rfl)⟩
        rw [HFL.out, ← HF2.out]
        exact HO9.out
theorem index_named (L : List Rw) (ao : Option Addr) (cap b o : Nat) (id : Int) (w : World) (hs : SlAt w 12 L.length (L.flatMap Rw.cells) ao cap b o) (hlen : L.length ≤ 100000) :
    Calls Try.prog 43 #[.slice ao L.length cap, .func (.func 37) #[.int .u16 id] #[]] w fun e w' => e = .returned (.int .i64 (ixP (fun x : Rw => x.id == id) L)) ∧ Below w.heap.size w w' := by
  have hidx := hs.idx (P := Try.prog) (t := 38) (e := 41) (by kernel_rfl) size41 (by decide)
  obtain ⟨n, hn⟩ : ∃ n, n = L.length := ⟨_, rfl⟩
  rw [← hn] at hidx hlen ⊢
  have HS := Lib.hid hs
  have HN := Lib.hid hn
  obtain ⟨R, hR⟩ : ∃ R, R = ixP (fun x : Rw => x.id == id) L := ⟨_, rfl⟩
  rw [← hR]
  have HR := Lib.hid hR
  clear hs hn hR
  go_enter Try.func43, Try.ntmps43
  go_wp2_with fail
  go_loopw [8] (fun t8 wr => ∃ i : Nat, i ≤ n ∧ t8 = .int .i64 i ∧ Hid (∀ y ∈ L.take i, (fun x : Rw => x.id == id) y = false) ∧ Hid (Below w.heap.size w wr)) (fun t8 _ => n - (intOf t8).toNat)
  case atStart => exact ⟨0, Nat.zero_le _, rfl, Lib.hid (by simp), Lib.hid (bz w)⟩
  case round =>
    obtain ⟨i, hi, rfl, hno, hbel⟩ := hrel
    by_cases hlt : i < n
    · have i1 : (0 : Int) ≤ (i : Int) := by omega
      have i2 : (i : Int) < (n : Int) := by omega
      have i3 : decide ((i : Int) < (n : Int)) = true := decide_eq_true i2
      obtain ⟨x, hx⟩ : ∃ x, L[i]? = some x := ⟨_, List.getElem?_eq_getElem (by rw [← HN.out]; exact hlt)⟩
      obtain ⟨g0, g1, g2, g3, g4, g5, g6, g7, g8, g9, g10, g11⟩ := row_at (HS.out.below hbel.out) hx
      have HX := Lib.hid hx
      have HC := Lib.hid (named_any id x wr)
      unfold Rw.val at HC
      obtain ⟨B, hB⟩ : ∃ B : Bool, B = (fun x : Rw => x.id == id) x := ⟨_, rfl⟩
      have hB' : (x.id == id) = B := hB.symm
      rw [hB'] at HC
      have HBB := Lib.hid hB
      clear hx hB hB'
      go_wp2_with fail
      refine HC.out.mono ?_
      rintro e w2 ⟨rfl, hb2⟩
      have HB2 := Lib.hid (hbel.out.trans (hb2.mono hbel.out.size))
      clear hb2 HC
      cases B with
      | true =>
        go_wp2
        go_ret
        exact ⟨by rw [HR.out, ixP_hit HX.out HBB.out.symm hno.out]; rfl, HB2.out⟩
      | false =>
        go_wp2_with fail
        go_roundw
        case rel =>
          refine ⟨i + 1, by omega, by go_num, Lib.hid ?_, HB2⟩
          rw [take_snoc HX.out]
          intro y hy
          rcases List.mem_append.1 hy with hy | hy
          · exact hno.out y hy
          · rw [List.mem_singleton.1 hy]; exact HBB.out.symm
        case measure => simp [intOf]; omega
    · have i2 : ¬ (i : Int) < (n : Int) := by omega
      have i3 : decide ((i : Int) < (n : Int)) = false := decide_eq_false i2
      have HI := Lib.hid (show i = n by omega)
      go_wp2
      go_ret
      have h1 := hno.out
      rw [HI.out, HN.out, List.take_length] at h1
      exact ⟨by rw [HR.out, ixP_none h1]; rfl, hbel.out⟩
theorem delete_named (base : Nat) (v : Value) (L : List Rw) (id : Int) (w : World) (h : w.ownsRow base 41 12 v L.length (L.flatMap Rw.cells)) (hlen : L.length ≤ 1000) :
    Calls Try.prog 45 #[v, .func (.func 37) #[.int .u16 id] #[]] w (DPost base v (L.filter (fun x => !(fun x : Rw => x.id == id) x)) w) := by
  obtain ⟨ao, cap, b, o, rfl, hs, _⟩ := SlAt.owned h
  have HIX := Lib.hid (index_named L ao cap b o id w hs (by omega))
  have HH := Lib.hid h
  rcases ixP_cases (fun x : Rw => x.id == id) L with ⟨hi, hf⟩ | ⟨i0, x0, hi, hx0, hq0, hf⟩
  · rw [hi] at HIX
    rw [hf]
    clear hi hf h hs
    go_enter Try.func45, Try.ntmps45
    go_wp2_with fail
    refine HIX.out.mono ?_
    rintro e w1 ⟨rfl, hb1⟩
    have HB1 := Lib.hid hb1
    clear hb1
    go_wp2
    go_ret
    exact ⟨_, rfl, own_past HH.out HB1.out, rfl, (Kept.of_below HB1.out).mono (fun i hi h => absurd h (by omega))⟩
  · rw [hi] at HIX
    have hil := (List.getElem?_eq_some_iff.1 hx0).1
    obtain ⟨g, cp, hv, hs2, hbg⟩ := own_rows0 h (by omega)
    simp only [Value.slice.injEq, true_and] at hv
    obtain ⟨rfl, rfl⟩ := hv
    have hidx := hs2.idx (P := Try.prog) (t := 38) (e := 41) (by kernel_rfl) size41 (by decide)
    simp only [Nat.zero_add] at hidx
    obtain ⟨n, hn⟩ : ∃ n, n = L.length := ⟨_, rfl⟩
    have HN := Lib.hid hn
    obtain ⟨F, hF⟩ : ∃ F, F = L.filter (fun x => !(fun x : Rw => x.id == id) x) := ⟨_, rfl⟩
    rw [← hF]
    have HFF := Lib.hid hF
    rw [← hn] at hidx hlen hil HIX HH ⊢
    have HF0 := Lib.hid hf
    have hi0 : ((i0 : Int) == -1) = false := by first | (simp; done) | (simp; omega)
    have hw0 : IntKind.i64.wrap ((i0 : Int) + 1) = (i0 : Int) + 1 := IntWalk.i64_in _ (by omega)
    have hgw : g < w.heap.size := (own_lt HH.out rfl).2
    clear h hs hi hx0 hq0 hf hs2 hn hF
    go_enter Try.func45, Try.ntmps45
    go_wp2_with fail
    refine HIX.out.mono ?_
    rintro e w1 ⟨rfl, hb1⟩
    have HO1 := Lib.hid (own_past HH.out hb1)
    have HK1 := Lib.hid ((Kept.of_below hb1).mono (S' := fun b => b = g) (fun i hi h => absurd h (by omega)))
    clear hb1 HIX
    go_wp2_with fail
    go_loopw [5, 6] (fun t5 t6 wr => ∃ (i j : Nat) (C : List Rw), i < j ∧ j ≤ n ∧ t5 = .int .i64 i ∧ t6 = .int .i64 j ∧ Hid (C.length = n ∧ C.take i = (L.take j).filter (fun x => !(fun x : Rw => x.id == id) x) ∧ C.drop j = L.drop j) ∧ Hid (wr.ownsRow base 41 12 (.slice (some ⟨g, 0, none⟩) n cap) n (C.flatMap Rw.cells)) ∧ Hid (Kept (fun b => b = g) w wr)) (fun _ t6 _ => n - (intOf t6).toNat)
    case atStart => exact ⟨i0, i0 + 1, L, by omega, by omega, rfl, by go_num, Lib.hid ⟨HN.out.symm, HF0.out.symm, rfl⟩, HO1, HK1⟩
    case round =>
      clear HO1 HK1
      obtain ⟨i, j, C, hij, hj, rfl, rfl, hC, hown, hkw⟩ := hrel
      by_cases hlt : j < n
      · have i1 : (0 : Int) ≤ (i : Int) := by omega
        have i2 : (i : Int) < (n : Int) := by omega
        have j1 : (0 : Int) ≤ (j : Int) := by omega
        have j2 : (j : Int) < (n : Int) := by omega
        have j3 : decide ((j : Int) < (n : Int)) = true := decide_eq_true j2
        obtain ⟨x, hx⟩ : ∃ x, L[j]? = some x := ⟨_, List.getElem?_eq_getElem (by rw [← HN.out]; exact hlt)⟩
        have hcx : C[j]? = some x := by
          have h1 := congrArg (fun l => l[0]?) hC.out.2.2
          simp only [List.getElem?_drop, Nat.add_zero] at h1
          rw [h1]; exact hx
        obtain ⟨y, hcy⟩ : ∃ y, C[i]? = some y := ⟨_, List.getElem?_eq_getElem (by rw [hC.out.1]; omega)⟩
        obtain ⟨gg, cc, hv', hsr, _⟩ := own_rows0 (by rw [hC.out.1]; exact hown.out) (by rw [hC.out.1]; omega)
        simp only [Value.slice.injEq, Option.some.injEq, Addr.mk.injEq, and_true, true_and] at hv'
        obtain ⟨e1, e0, e2⟩ := hv'
        subst e1 e2
        clear e0
        have RX := row_at hsr hcx
        have RY := row_at hsr hcy
        rw [Nat.zero_add] at RX RY
        obtain ⟨g0, g1, g2, g3, g4, g5, g6, g7, g8, g9, g10, g11⟩ := RX
        have RY := Lib.hid RY
        have HX := Lib.hid hx
        obtain ⟨pc, hpc⟩ : ∃ p, p = wr.heap.size := ⟨_, rfl⟩
        have HPC := Lib.hid hpc
        obtain ⟨B, hB⟩ : ∃ B : Bool, B = (fun x : Rw => x.id == id) x := ⟨_, rfl⟩
        have hB' : (x.id == id) = B := hB.symm
        have HBB := Lib.hid hB
        obtain ⟨wo, hwo⟩ : ∃ x, x = wr := ⟨_, rfl⟩
        subst hwo
        have HC := Lib.hid (fun W => named_any id x W)
        unfold Rw.val at HC
        rw [hB'] at HC
        have hgwr : g < wo.heap.size := (own_lt hown.out rfl).2
        clear hx hcx hcy hB hB' hpc hsr
        go_wp2_with fail
        refine (HC.out _).mono ?_
        rintro e w2 ⟨rfl, hb2⟩
        have hbw : Below wo.heap.size wo w2 := bt (ba (bz wo) _) hb2
        have HO2 := Lib.hid (own_past hown.out hbw)
        have HK2 := Lib.hid (hkw.out.trans ((Kept.of_below hbw).mono (S' := fun b => b = g) (fun i hi h => absurd h (by omega))) (fun _ _ h => h))
        have RZ := (rowc_new wo x).below hb2
        rw [← HPC.out] at RZ ⊢
        have HRY := Lib.hid (RY.out.below hbw)
        clear hb2 hbw HC
        cases B with
        | true =>
          clear g0 g1 g2 g3 g4 g5 g6 g7 g8 g9 g10 g11
          go_wp2_with fail
          go_roundw
          case rel =>
            refine ⟨i, j + 1, C, by omega, by omega, rfl, by go_num, Lib.hid ⟨hC.out.1, ?_, ?_⟩, HO2, HK2⟩
            · rw [take_snoc HX.out, List.filter_append, hC.out.2.1]
              simp [HBB.out.symm]
            · rw [← List.drop_drop, ← List.drop_drop, hC.out.2.2]
          case measure => simp [intOf]; omega
        | false =>
          clear g0 g1 g2 g3 g4 g5 g6 g7 g8 g9 g10 g11
          obtain ⟨z0, z1, z2, z3, z4, z5, z6, z7, z8, z9, z10, z11⟩ := RZ
          simp only [Nat.zero_add] at z0 z1 z2 z3 z4 z5 z6 z7 z8 z9 z10 z11
          obtain ⟨y0, y1, y2, y3, y4, y5, y6, y7, y8, y9, y10, y11⟩ := HRY.out
          have fz := HO2.out.frozenAt
          have fz0 := fz (i * 12)
          have fz1 := fz (i * 12 + 1)
          have fz2 := fz (i * 12 + 2)
          have fz3 := fz (i * 12 + 3)
          have fz4 := fz (i * 12 + 4)
          have fz5 := fz (i * 12 + 5)
          have fz6 := fz (i * 12 + 6)
          have fz7 := fz (i * 12 + 7)
          have fz8 := fz (i * 12 + 8)
          have fz9 := fz (i * 12 + 9)
          have fz10 := fz (i * 12 + 10)
          have fz11 := fz (i * 12 + 11)
          clear fz
          have hw5 : IntKind.i64.wrap ((i : Int) + 1) = (i : Int) + 1 := IntWalk.i64_in _ (by omega)
          go_wp2_with fail
          go_roundw
          case rel =>
            have h9 := own_put (x := x) HO2.out (by rw [hC.out.1]; omega : i < C.length)
            refine ⟨i + 1, j + 1, C.set i x, by omega, by omega, by go_num, by go_num, Lib.hid ⟨by rw [List.length_set]; exact hC.out.1, ?_, ?_⟩, Lib.hid h9.1, Lib.hid (HK2.out.grown h9.2 (fun k e _ => (Option.some.inj e).symm))⟩
            · rw [take_snoc (List.getElem?_set_self (by rw [hC.out.1]; omega)), take_snoc HX.out, List.filter_append, ← hC.out.2.1, List.take_set_of_le (Nat.le_refl i)]
              simp [HBB.out.symm]
            · rw [List.drop_set_of_lt (by omega), ← List.drop_drop, ← List.drop_drop, hC.out.2.2]
          case measure => simp [intOf]; omega
      · have j2 : ¬ (j : Int) < (n : Int) := by omega
        have j3 : decide ((j : Int) < (n : Int)) = false := decide_eq_false j2
        have hjn : j = n := by omega
        subst hjn
        obtain ⟨w', hclr, hown', hgr'⟩ := clear_rows (c := cap - i) hown.out (show i ≤ j by omega)
        have hF2 : C.take i = F := by rw [hC.out.2.1, HFF.out, HN.out, List.take_length]
        have hFl : F.length = i := by rw [← hF2, List.length_take, hC.out.1]; omega
        have HO9 := Lib.hid hown'
        have HG9 := Lib.hid hgr'
        have HF2 := Lib.hid hF2
        have HFL := Lib.hid hFl
        have i1 : (0 : Int) ≤ (i : Int) := by omega
        have i2 : (i : Int) ≤ (j : Int) := by omega
        have hjc : j ≤ cap := by
          rcases hown.out.2 with ⟨h', _⟩ | ⟨g', cap', cur, h', _, _, hnc, _⟩
          · cases h'
          · simp only [Value.slice.injEq, true_and] at h'
            omega
        have i4 : (i : Int) ≤ (cap : Int) := by omega
        have i5 : (j : Int) ≤ (cap : Int) := by omega
        have i6 : ¬ cap = i := by omega
        clear hown' hgr' hF2 hFl
        go_wp2
        go_ret
        refine ⟨_, rfl, ?_, rfl, (hkw.out.grown HG9.out (fun k e _ => (Option.some.inj e).symm)).mono (fun b _ e => by rw [e]; rfl)⟩
        rw [HFL.out, ← HF2.out]
        exact HO9.out
end Go.Proofs.Ytjmanajbdkbkdaa
