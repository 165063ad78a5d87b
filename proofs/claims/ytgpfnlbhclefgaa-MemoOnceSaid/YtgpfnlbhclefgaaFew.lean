/- Are the acts few? (few, f7); awake (f8). -/
import Derived.Test.YtgpfnlbhclefgaaRa
import Derived.Test.YtgpfnlbhclefgaaOpact
namespace Go.Proofs.Ytgpfnlbhclefgaa
open Go.RowKit Go.Um
set_option linter.unusedSimpArgs false
set_option linter.unusedVariables false
set_option maxHeartbeats 4000000
set_option maxRecDepth 100000
theorem size37 : (Try.prog.info? 37).map (·.size) = some 3 := by kernel_rfl
def FewPost (l : List Act3) (w : World) (e : Ending) (w' : World) : Prop :=
  ∃ B, e = .returned (.bool B) ∧ w = w' ∧ (B = true → l.length ≤ 100 ∧ ∀ (j : Nat) (x : Act3), l[j]? = some x → x.l.length ≤ 20 ∧ x.s.size ≤ 100)
theorem few_any (l : List Act3) (n : Nat) (hn : n = l.length) (ao : Option Addr) (cap b o : Nat) (w : World) (hsl : SlAt w 3 n (l.flatMap Act3.cells) ao cap b o) :
    Calls Try.prog 7 #[.slice ao n cap] w (FewPost l w) := by
  have hidx := hsl.idx (P := Try.prog) (t := 22) (e := 37) (by kernel_rfl) size37 (by decide)
  have HL := Lib.hid hn
  have HS := Lib.hid hsl
  clear hn hsl
  go_enter Try.func7, Try.ntmps7
  go_wp2_with fail
  go_loop [3] (fun t3 => ∃ k : Nat, k ≤ n ∧ k ≤ 110 ∧ t3 = .int .i64 k ∧ Hid (∀ (j : Nat) (x : Act3), j < k → l[j]? = some x → x.l.length ≤ 20 ∧ x.s.size ≤ 100)) (fun t3 => n - (intOf t3).toNat)
  case atStart => exact ⟨0, Nat.zero_le _, by decide, rfl, Lib.hid (fun j x h => absurd h (Nat.not_lt_zero _))⟩
  case round =>
    obtain ⟨k, hk, hk110, rfl, hall⟩ := hrel
    by_cases hlt : k < n
    · have i1 : (0 : Int) ≤ (k : Int) := by omega
      have i2 : (k : Int) < (n : Int) := by omega
      by_cases h110 : k < 110
      · have i3 : (k : Int) < 110 := by omega
        obtain ⟨x, hxk⟩ : ∃ x, l[k]? = some x := ⟨_, List.getElem?_eq_getElem (by rw [← HL.out]; exact hlt)⟩
        have g1 := HS.out.cell (k * 3 + 1) (.slice x.ao x.l.length x.cap) (by rw [cell_of Act3.three l k x hxk 1 (by decide)]; rfl)
        have g2 := HS.out.cell (k * 3 + 2) (.string x.s) (by rw [cell_of Act3.three l k x hxk 2 (by decide)]; rfl)
        rw [← Nat.add_assoc] at g1 g2
        have HX := Lib.hid hxk
        clear hxk
        by_cases a1 : 20 < x.l.length
        · have t1 : decide ((20 : Int) < (x.l.length : Int)) = true := by rw [decide_eq_true_iff]; omega
          have t2 : (20 : Int) < (x.l.length : Int) := by omega
          go_wp2
          go_ret
          exact ⟨false, rfl, rfl, fun h => by cases h⟩
        · have t1 : decide ((20 : Int) < (x.l.length : Int)) = false := by rw [decide_eq_false_iff_not]; omega
          have t2 : ¬ (20 : Int) < (x.l.length : Int) := by omega
          by_cases a2 : 100 < x.s.size
          · have t3 : decide ((100 : Int) < (x.s.size : Int)) = true := by rw [decide_eq_true_iff]; omega
            have t4 : (100 : Int) < (x.s.size : Int) := by omega
            go_wp2
            go_ret
            exact ⟨false, rfl, rfl, fun h => by cases h⟩
          · have t3 : decide ((100 : Int) < (x.s.size : Int)) = false := by rw [decide_eq_false_iff_not]; omega
            have t4 : ¬ (100 : Int) < (x.s.size : Int) := by omega
            go_wp2_with fail
            go_round
            case rel => exact ⟨k + 1, by omega, by omega, by go_num, Lib.hid (fun j y hj hy => by
              by_cases e : j < k
              · exact hall.out j y e hy
              · have : j = k := by omega
                subst this
                rw [HX.out] at hy
                cases hy
                exact ⟨by omega, by omega⟩)⟩
            case measure => simp [intOf]; omega
      · have i3 : ¬ (k : Int) < 110 := by omega
        have i4 : ¬ (n : Int) ≤ 100 := by omega
        go_wp2
        go_ret
        exact ⟨_, rfl, rfl, fun h => by simp at h⟩
    · have i2 : ¬ (k : Int) < (n : Int) := by omega
      go_wp2
      go_ret
      exact ⟨_, rfl, rfl, fun h => ⟨by have := HL.out; simp at h; omega, fun j y hy => hall.out j y (by have := (List.getElem?_eq_some_iff.1 hy).1; have := HL.out; omega) hy⟩⟩
/-- a set's key, whatever it is -/
theorem needs_ex {N : Nat} : ∀ k, N < 2 ^ (8 * k) → ∃ t, t ≤ k ∧ Needs 8 t N
  | 0, h => ⟨0, Nat.le_refl _, ⟨h, .inl rfl⟩⟩
  | k + 1, h => by
    by_cases h0 : byteN N k = 0
    · obtain ⟨t, ht, hn⟩ := needs_ex k ((needs_cut h).1 h0)
      exact ⟨t, by omega, hn⟩
    · exact ⟨k + 1, Nat.le_refl _, ⟨h, .inr ((needs_cut h).2 h0)⟩⟩
theorem key_ex {w : World} {v : Value} {N : Nat} (h : SetAt w v N) : ∃ S, keyN N S ∧ S.size ≤ 8192 := by
  obtain ⟨m, ao, cap, b, o, hv, hs, hn, hm⟩ := h
  have hlt : N < 2 ^ (8 * (m * 8)) := by have := hn.lt; rwa [show 64 * m = 8 * (m * 8) by omega] at this
  obtain ⟨t, ht, hnt⟩ := needs_ex (m * 8) hlt
  exact ⟨_, ⟨bytesN N t, ⟨t, rfl, hnt⟩, rfl⟩, by rw [strOfNums_size, List.length_map, bytesN_len]; omega⟩
theorem keyN.inj {N N' : Nat} {S : ByteArray} (h : keyN N S) (g : keyN N' S) : N = N' := by
  obtain ⟨l, h1, e1⟩ := h
  obtain ⟨l', h2, e2⟩ := g
  have key : ∀ (l l' : List Nat), (∀ x ∈ l, x < 256) → (∀ x ∈ l', x < 256) → (l.map fun (x : Nat) => (x : Int)).map (fun n => UInt8.ofNat n.toNat) = (l'.map fun (x : Nat) => (x : Int)).map (fun n => UInt8.ofNat n.toNat) → l = l' := by
    intro l
    induction l with
    | nil => intro l' _ _ h; cases l' with
      | nil => rfl
      | cons y l' => simp at h
    | cons x l ih =>
      intro l' hx hy h
      cases l' with
      | nil => simp at h
      | cons y l' =>
        simp only [List.map_cons, List.cons.injEq, Int.toNat_natCast] at h
        have h1 := congrArg UInt8.toNat h.1
        rw [UInt8.toNat_ofNat', UInt8.toNat_ofNat'] at h1
        have hx0 := hx x (by simp)
        have hy0 := hy y (by simp)
        have : x = y := by omega
        subst this
        rw [ih l' (fun z hz => hx z (by simp [hz])) (fun z hz => hy z (by simp [hz])) (by simpa using h.2)]
  have hb : ∀ (N : Nat) (l : List Nat), IsKey N l → ∀ x ∈ l, x < 256 := by
    rintro N l ⟨k, rfl, _⟩ x hx
    obtain ⟨i, _, rfl⟩ := List.mem_map.1 hx
    exact byteN_lt N i
  have e3 : strOfNums (l.map fun (x : Nat) => (x : Int)) = strOfNums (l'.map fun (x : Nat) => (x : Int)) := e1.symm.trans e2
  have e4 := congrArg (fun s => s.data.toList) e3
  rw [strOfNums_data, strOfNums_data] at e4
  have := key l l' (hb N l h1) (hb N' l' h2) e4
  subst this
  exact h1.inj h2
end Go.Proofs.Ytgpfnlbhclefgaa
