/- The register's Run, of the program and of the document: the state, the answers and the error behind any operations. -/
import Derived.Test.YthheplpamcjphaaLeaf
import Derived.Test.YthheplpamcjphaaOpen
namespace Go.Proofs.Ythheplpamcjphaa
open Go.RowKit Go.Um
set_option maxHeartbeats 1000000

/-- an answer -/
def resC (x : Int × Int) : List Value := [.int .u8 x.1, .int .u16 x.2]
theorem resC_two (x : Int × Int) : (resC x).length = 2 := rfl

/-- the state behind the first k operations -/
def stN (s : Int) (l : List Op5) : Nat → Int
  | 0 => s
  | k + 1 => match l[k]? with
    | some x => (stp (stN s l k) x.f x.a x.b).1
    | none => stN s l k
/-- the answers of the first k operations -/
def outN (s : Int) (l : List Op5) : Nat → List (Int × Int)
  | 0 => []
  | k + 1 => match l[k]? with
    | some x => outN s l k ++ [((stp (stN s l k) x.f x.a x.b).2.1, (stp (stN s l k) x.f x.a x.b).2.2.1)]
    | none => outN s l k
/-- how many operations are the register's, from the first on -/
def known (x : Op5) : Bool := x.f == 1 || x.f == 2 || x.f == 3
def stopAt (l : List Op5) : Nat := (l.takeWhile known).length

theorem op_at {w : World} {l : List Op5} {ao : Option Addr} {n cap b o k : Nat} {x : Op5} (h : SlAt w 5 n (l.flatMap Op5.cells) ao cap b o) (hx : l[k]? = some x) :
    w.cell? ⟨b, o + k * 5, none⟩ = some (.int .u8 x.f) ∧ w.cell? ⟨b, o + k * 5 + 1, none⟩ = some (.int .u8 x.o) ∧ w.cell? ⟨b, o + k * 5 + 2, none⟩ = some (.int .u8 x.k) ∧
    w.cell? ⟨b, o + k * 5 + 3, none⟩ = some (.int .u16 x.a) ∧ w.cell? ⟨b, o + k * 5 + 4, none⟩ = some (.int .u16 x.b) := by
  have g := fun j (hj : j < 5) u (hu : x.cells[j]? = some u) => h.cell (k * 5 + j) u ((cell_of Op5.five l k x hx j hj).trans hu)
  exact ⟨g 0 (by omega) _ rfl, g 1 (by omega) _ rfl, g 2 (by omega) _ rfl, g 3 (by omega) _ rfl, g 4 (by omega) _ rfl⟩

theorem stp_err (s f a b : Int) : (stp s f a b).2.2.2 = if f = 1 ∨ f = 2 ∨ f = 3 then 0 else 10 := by
  unfold stp
  by_cases h1 : f = 1 <;> by_cases h2 : f = 2 <;> by_cases h3 : f = 3 <;> by_cases h4 : s = a <;> simp [h1, h2, h3, h4]

theorem stopAt_le (l : List Op5) : stopAt l ≤ l.length := (List.takeWhile_sublist _).length_le
theorem stopAt_lt {l : List Op5} {k : Nat} {x : Op5} (hx : l[k]? = some x) (hk : k ≤ stopAt l) (hkn : known x = true) : k + 1 ≤ stopAt l := by
  unfold stopAt at *
  induction l generalizing k with
  | nil => simp at hx
  | cons y l ih =>
    by_cases hy : known y = true
    · rw [List.takeWhile_cons_of_pos hy] at hk ⊢
      cases k with
      | zero => simp
      | succ k => have := ih (k := k) (by simpa using hx) (by simpa using hk); simp only [List.length_cons]; omega
    · rw [List.takeWhile_cons_of_neg hy] at hk
      cases k with
      | zero => simp at hx; subst hx; exact absurd hkn hy
      | succ k => simp at hk
theorem stopAt_eq {l : List Op5} {k : Nat} {x : Op5} (hx : l[k]? = some x) (hk : k ≤ stopAt l) (hkn : known x = false) : stopAt l = k := by
  unfold stopAt at *
  induction l generalizing k with
  | nil => simp at hx
  | cons y l ih =>
    by_cases hy : known y = true
    · rw [List.takeWhile_cons_of_pos hy] at hk ⊢
      cases k with
      | zero => simp at hx; subst hx; rw [hy] at hkn; cases hkn
      | succ k => simp only [List.length_cons]; rw [ih (k := k) (by simpa using hx) (by simpa using hk)]
    · rw [List.takeWhile_cons_of_neg hy] at hk ⊢
      cases k with
      | zero => rfl
      | succ k => simp at hk

theorem known_err {s a b : Int} {x : Op5} (h : known x = true) : (stp s x.f a b).2.2.2 = 0 := by
  rw [stp_err, if_pos (by simpa [known, or_assoc] using h)]
theorem foreign_err {s a b : Int} {x : Op5} (h : known x = false) : (stp s x.f a b).2.2.2 = 10 := by
  rw [stp_err, if_neg (fun h' => by have : known x = true := by simpa [known, or_assoc] using h'
                                    rw [this] at h; cases h)]

/-- the error of Run -/
def errAt (l : List Op5) : Int := if stopAt l = l.length then 0 else 10

/-- what Run leaves -/
def RunPost (s : Int) (l : List Op5) (w : World) (e : Ending) (w' : World) : Prop :=
  ∃ v', e = .returned (.tuple #[.int .u16 (stN s l (stopAt l)), v', .int .i64 (errAt l)]) ∧
      w'.ownsRow w.heap.size 35 2 v' (stopAt l) ((outN s l (stopAt l)).flatMap resC) ∧ Below w.heap.size w w'

theorem size38 : (Try.prog.info? 38).map (·.size) = some 5 := by kernel_rfl
theorem info35 : (Try.prog.info? 35).map (fun i => (i.zero, i.size, i.bytes)) = some (some (.agg #[.int .u8 0, .int .u16 0]), 2, 4) := by kernel_rfl

theorem run_any (s : Int) (l : List Op5) (ao : Option Addr) (cap b o : Nat) (w : World) (h : SlAt w 5 l.length (l.flatMap Op5.cells) ao cap b o) (hlen : l.length ≤ 200) :
    Calls Try.prog 9 #[.int .u16 s, .slice ao l.length cap] w (RunPost s l w) := by
  obtain ⟨i0, hi, hz0, hz1, hz2⟩ := info_parts info35
  have hidx := h.idx (P := Try.prog) (t := 23) Try.underlying23 size38 (by decide)
  go_enter Try.func9, Try.ntmps9
  go_wp2
  go_loopw [0, 7, 15] (fun t0 t7 t15 wr => ∃ k : Nat, k ≤ l.length ∧ k ≤ stopAt l ∧ t15 = .int .i64 k ∧ t0 = .int .u16 (stN s l k) ∧ wr.ownsRow w.heap.size 35 2 t7 k ((outN s l k).flatMap resC) ∧ Below w.heap.size w wr)
    (fun _ _ t15 _ => l.length - (intOf t15).toNat)
  case atStart => exact ⟨0, Nat.zero_le _, Nat.zero_le _, rfl, rfl, World.ownsRow_nil _ _ _ _, Below.refl _ _⟩
  case round =>
    obtain ⟨k, hk, hks, rfl, rfl, hown, hbel⟩ := hrel
    by_cases hlt : k < l.length
    · have hwr := h.below' hbel h.lt
      obtain ⟨x, hx⟩ : ∃ x, l[k]? = some x := ⟨_, List.getElem?_eq_getElem hlt⟩
      obtain ⟨g0, g1, g2, g3, g4⟩ := op_at hwr hx
      obtain ⟨st, hst⟩ : ∃ st, st = stN s l k := ⟨_, rfl⟩
      rw [← hst]
      have Hst := Lib.hid hst
      have Hx := Lib.hid hx
      clear hst hx
      have hsz := hbel.size
      by_cases hkn : known x = true
      · have he : ((stp st x.f x.a x.b).2.2.2 != 0) = false := by rw [known_err hkn]; rfl
        have Hkn := Lib.hid hkn
        clear hkn
        go_wp2_with fail
        refine (Step_any st x.f x.o x.k x.a x.b _).mono ?_
        rintro e w1 ⟨rfl, hb1⟩
        have hown1 := own_past (hown.alloc _) hb1
        have hbel1 := (hbel.alloc hsz _).trans (hb1.mono (by simp; omega))
        have hs1 : w.heap.size ≤ w1.heap.size := hbel1.size
        go_wp2_with (at_builtin; refine wpList_append_own _ rfl (.tmp 32) (.tmp 34) 26 rfl w.heap.size 35 i0 (.agg #[.int .u8 0, .int .u16 0]) 2 4 Try.underlying26 hi hz0 hz1 hz2 rfl (by decide) _ _ _ rfl ((hown1.alloc _).alloc _) ⟨w1.heap.size + 1, 0, none⟩ 1 1 [.int .u8 (stp st x.f x.a x.b).2.1, .int .u16 (stp st x.f x.a x.b).2.2.1] rfl rfl (new_cells _ _ _ _ (by simp)) (by simp [Value.oneCell']) (by unfold maxLen; omega) (by omega) (by simp; omega) ?_)
        intro v' w2 hown2 hgrow2 _
        have hbel2 : Below w.heap.size w w2 := below_own ((hbel1.alloc hs1 _).alloc (by simp; omega) _) ((hown1.alloc _).alloc _) hgrow2 (Nat.le_refl _) (by simp; omega)
        go_wp2
        go_roundw
        case rel =>
          refine ⟨k + 1, by omega, stopAt_lt Hx.out hks Hkn.out, by go_num, ?_, ?_, hbel2⟩
          · simp [stN, Hx.out, ← Hst.out]
          · simpa [outN, Hx.out, ← Hst.out, resC] using hown2
        case measure => simp [intOf]; omega
      · have hkn' : known x = false := by simpa using hkn
        have he : ((stp st x.f x.a x.b).2.2.2 != 0) = true := by rw [foreign_err hkn']; rfl
        have Hkn := Lib.hid hkn'
        clear hkn' hkn
        go_wp2_with fail
        refine (Step_any st x.f x.o x.k x.a x.b _).mono ?_
        rintro e w1 ⟨rfl, hb1⟩
        have hown1 := own_past (hown.alloc _) hb1
        have hbel1 := (hbel.alloc hsz _).trans (hb1.mono (by simp; omega))
        have hs1 : w.heap.size ≤ w1.heap.size := hbel1.size
        go_wp2
        go_ret3
        have hst' : stopAt l = k := stopAt_eq Hx.out hks Hkn.out
        refine ⟨u7, ?_, ?_, (hbel1.alloc hs1 _)⟩
        · rw [errAt, hst', if_neg (by omega), ← Hst.out]
          simp [foreign_err Hkn.out]
        · rw [hst']; exact hown1.alloc _
    · have hk' : l.length = k := by omega
      have hst' : stopAt l = k := by have := stopAt_le l; omega
      have Hk := Lib.hid hk'
      have Hst := Lib.hid hst'
      clear hk' hst'
      go_wp2
      go_ret3
      refine ⟨u7, ?_, ?_, hbel⟩
      · rw [errAt, Hst.out, if_pos Hk.out.symm]; rfl
      · rw [Hst.out]; exact hown

theorem refrun_any (s : Int) (l : List Op5) (ao : Option Addr) (cap b o : Nat) (w : World) (h : SlAt w 5 l.length (l.flatMap Op5.cells) ao cap b o) (hlen : l.length ≤ 200) :
    Calls Try.prog 10 #[.int .u16 s, .slice ao l.length cap] w (RunPost s l w) := by
  obtain ⟨i0, hi, hz0, hz1, hz2⟩ := info_parts info35
  have hidx := h.idx (P := Try.prog) (t := 23) Try.underlying23 size38 (by decide)
  go_enter Try.func10, Try.ntmps10
  go_wp2
  go_loopw [0, 7, 8] (fun t0 t7 t8 wr => ∃ k : Nat, k ≤ l.length ∧ k ≤ stopAt l ∧ t8 = .int .i64 k ∧ t0 = .int .u16 (stN s l k) ∧ wr.ownsRow w.heap.size 35 2 t7 k ((outN s l k).flatMap resC) ∧ Below w.heap.size w wr)
    (fun _ _ t8 _ => l.length - (intOf t8).toNat)
  case atStart => exact ⟨0, Nat.zero_le _, Nat.zero_le _, rfl, rfl, World.ownsRow_nil _ _ _ _, Below.refl _ _⟩
  case round =>
    obtain ⟨k, hk, hks, rfl, rfl, hown, hbel⟩ := hrel
    by_cases hlt : k < l.length
    · have hwr := h.below' hbel h.lt
      obtain ⟨x, hx⟩ : ∃ x, l[k]? = some x := ⟨_, List.getElem?_eq_getElem hlt⟩
      obtain ⟨g0, g1, g2, g3, g4⟩ := op_at hwr hx
      obtain ⟨st, hst⟩ : ∃ st, st = stN s l k := ⟨_, rfl⟩
      rw [← hst]
      have Hst := Lib.hid hst
      have Hx := Lib.hid hx
      clear hst hx
      have hsz := hbel.size
      by_cases hkn : known x = true
      · have he : ((stp st x.f x.a x.b).2.2.2 != 0) = false := by rw [known_err hkn]; rfl
        have Hkn := Lib.hid hkn
        clear hkn
        go_wp2_with fail
        refine (ref_any st x.f x.o x.k x.a x.b _).mono ?_
        rintro e w1 ⟨rfl, hb1⟩
        have hown1 := own_past hown hb1
        have hbel1 := hbel.trans (hb1.mono hsz)
        have hs1 : w.heap.size ≤ w1.heap.size := hbel1.size
        go_wp2_with (at_builtin; refine wpList_append_own _ rfl (.tmp 34) (.tmp 36) 26 rfl w.heap.size 35 i0 (.agg #[.int .u8 0, .int .u16 0]) 2 4 Try.underlying26 hi hz0 hz1 hz2 rfl (by decide) _ _ _ rfl ((hown1.alloc _).alloc _) ⟨w1.heap.size + 1, 0, none⟩ 1 1 [.int .u8 (stp st x.f x.a x.b).2.1, .int .u16 (stp st x.f x.a x.b).2.2.1] rfl rfl (new_cells _ _ _ _ (by simp)) (by simp [Value.oneCell']) (by unfold maxLen; omega) (by omega) (by simp; omega) ?_)
        intro v' w2 hown2 hgrow2 _
        have hbel2 : Below w.heap.size w w2 := below_own ((hbel1.alloc hs1 _).alloc (by simp; omega) _) ((hown1.alloc _).alloc _) hgrow2 (Nat.le_refl _) (by simp; omega)
        go_wp2
        go_roundw
        case rel =>
          refine ⟨k + 1, by omega, stopAt_lt Hx.out hks Hkn.out, by go_num, ?_, ?_, hbel2⟩
          · simp [stN, Hx.out, ← Hst.out]
          · simpa [outN, Hx.out, ← Hst.out, resC] using hown2
        case measure => simp [intOf]; omega
      · have hkn' : known x = false := by simpa using hkn
        have he : ((stp st x.f x.a x.b).2.2.2 != 0) = true := by rw [foreign_err hkn']; rfl
        have Hkn := Lib.hid hkn'
        clear hkn' hkn
        go_wp2_with fail
        refine (ref_any st x.f x.o x.k x.a x.b _).mono ?_
        rintro e w1 ⟨rfl, hb1⟩
        have hown1 := own_past hown hb1
        have hbel1 := hbel.trans (hb1.mono hsz)
        have hs1 : w.heap.size ≤ w1.heap.size := hbel1.size
        go_wp2
        go_ret3
        have hst' : stopAt l = k := stopAt_eq Hx.out hks Hkn.out
        refine ⟨u7, ?_, ?_, (hbel1.alloc hs1 _)⟩
        · rw [errAt, hst', if_neg (by omega), ← Hst.out]
          simp [foreign_err Hkn.out]
        · rw [hst']; exact hown1.alloc _
    · have hk' : l.length = k := by omega
      have hst' : stopAt l = k := by have := stopAt_le l; omega
      have Hk := Lib.hid hk'
      have Hst := Lib.hid hst'
      clear hk' hst'
      go_wp2
      go_ret3
      refine ⟨u7, ?_, ?_, hbel⟩
      · rw [errAt, Hst.out, if_pos Hk.out.symm]; rfl
      · rw [Hst.out]; exact hown

end Go.Proofs.Ythheplpamcjphaa
