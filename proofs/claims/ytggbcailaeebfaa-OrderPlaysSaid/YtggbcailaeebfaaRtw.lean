/- The document's Twice (umpireref26): contract. -/
import Derived.Test.YtggbcailaeebfaaWorks
namespace Go.Proofs.Ytggbcailaeebfaa
open Go.RowKit Go.Um
set_option linter.unusedSimpArgs false
set_option linter.unusedVariables false
set_option maxHeartbeats 4000000
set_option maxRecDepth 100000
def apartUp (l : List Int) (i : Nat) : Prop := ∀ (a b : Nat) (x : Int), a < i → a < b → l[a]? = some x → ¬ l[b]? = some x
theorem apart_nodup {l : List Int} (h : apartUp l l.length) : l.Nodup := by
  unfold List.Nodup
  rw [List.pairwise_iff_getElem]
  intro i j hi hj hij e
  exact h i j l[i] hi hij (List.getElem?_eq_getElem hi) (by rw [List.getElem?_eq_getElem hj, e])
theorem twice_not {l : List Int} {a b : Nat} {x : Int} (hab : a < b) (h1 : l[a]? = some x) (h2 : l[b]? = some x) : ¬ l.Nodup := by
  unfold List.Nodup
  rw [List.pairwise_iff_getElem]
  intro h
  obtain ⟨ha, e1⟩ := List.getElem?_eq_some_iff.1 h1
  obtain ⟨hb, e2⟩ := List.getElem?_eq_some_iff.1 h2
  exact h a b ha hb hab (by rw [e1, e2])
theorem rtwice_any (l : List Int) (ao : Option Addr) (cap b o : Nat) (w : World) (h : SlAt w 1 l.length (us l) ao cap b o) (hlen : l.length ≤ 100000) :
    Calls Try.prog 30 #[.slice ao l.length cap] w fun e w' => e = .returned (.bool (!decide l.Nodup)) ∧ Qt w w' := by
  have hidx := h.idx (P := Try.prog) (t := 22) Try.underlying22 size37 (by decide)
  obtain ⟨n, hn⟩ : ∃ n, n = l.length := ⟨_, rfl⟩
  rw [← hn] at hidx hlen ⊢
  have HS := Lib.hid h
  have HN := Lib.hid hn
  obtain ⟨B, hB⟩ : ∃ B, B = (!decide l.Nodup) := ⟨_, rfl⟩
  rw [← hB]
  have HB := Lib.hid hB
  clear h hn hB
  go_enter Try.func30, Try.ntmps30
  go_wp2_with fail
  go_loopw [3] (fun t3 wr => ∃ i : Nat, i ≤ n ∧ t3 = .int .i64 i ∧ Hid (apartUp l i) ∧ Qt w wr) (fun t3 _ => n - (intOf t3).toNat)
  case atStart => exact ⟨0, Nat.zero_le _, rfl, Lib.hid (fun a b x h => absurd h (Nat.not_lt_zero _)), Qt.refl _⟩
  case round =>
    obtain ⟨i, hi, rfl, hA, hq⟩ := hrel
    by_cases hlt : i < n
    · have i1 : (0 : Int) ≤ (i : Int) := by omega
      have i2 : (i : Int) < (n : Int) := by omega
      obtain ⟨x, hx⟩ : ∃ x, l[i]? = some x := ⟨_, List.getElem?_eq_getElem (by rw [← HN.out]; exact hlt)⟩
      have Hx := Lib.hid hx
      have hiw : IntKind.i64.wrap ((i : Int) + 1) = ((i + 1 : Nat) : Int) := by rw [show (i : Int) + 1 = ((i + 1 : Nat) : Int) by omega]; exact IntWalk.i64_in _ (by omega)
      clear hx
      go_wp2_with fail
      go_loopw [4] (fun t4 wr => ∃ k : Nat, i < k ∧ k ≤ n ∧ t4 = .int .i64 k ∧ Hid (∀ (b : Nat), i < b → b < k → ¬ l[b]? = some x) ∧ Qt w wr) (fun t4 _ => n - (intOf t4).toNat)
      case atStart => exact ⟨i + 1, by omega, by omega, by go_num, Lib.hid (fun b h1 h2 => by omega), hq⟩
      case round =>
        obtain ⟨k, hik, hk, rfl, hK, hq2⟩ := hrel
        clear hq
        by_cases hlt2 : k < n
        · have k1 : (0 : Int) ≤ (k : Int) := by omega
          have k2 : (k : Int) < (n : Int) := by omega
          obtain ⟨y, hy⟩ : ∃ y, l[k]? = some y := ⟨_, List.getElem?_eq_getElem (by rw [← HN.out]; exact hlt2)⟩
          have g0 := val_at (HS.out.below hq2.below) Hx.out
          have g1 := val_at (HS.out.below hq2.below) hy
          have Hy := Lib.hid hy
          clear hy
          by_cases e : x = y
          · have t1 : (x == y) = true := by simpa using e
            have HBt : B = true := by
              rw [HB.out]
              have := twice_not hik Hx.out (by rw [e]; exact Hy.out)
              simp [this]
            subst HBt
            have HE := Lib.hid e
            clear e
            go_wp2_with fail
            go_quiet (fail)
            go_wp2_with fail
            go_ret
            exact ⟨rfl, hq2.drewN _⟩
          · have t1 : (x == y) = false := by simpa using e
            have HE := Lib.hid e
            clear e
            go_wp2_with fail
            go_quiet (fail)
            go_wp2_with fail
            go_roundw
            case rel => exact ⟨k + 1, by omega, by omega, by go_num, Lib.hid (fun b h1 h2 => by
              by_cases hb : b < k
              · exact hK.out b h1 hb
              · have : b = k := by omega
                subst this
                rw [Hy.out]
                intro h
                cases h
                exact HE.out rfl), hq2.drewN _⟩
            case measure => simp [intOf]; omega
        · have k2 : ¬ (k : Int) < (n : Int) := by omega
          have HA2 : Hid (apartUp l (i + 1)) := Lib.hid (fun a b z ha hab hz hb => by
            by_cases hai : a < i
            · exact hA.out a b z hai hab hz hb
            · have : a = i := by omega
              subst this
              rw [Hx.out] at hz
              cases hz
              have hbn := (List.getElem?_eq_some_iff.1 hb).1
              exact hK.out b hab (by have := HN.out; omega) hb)
          go_wp2_with fail
          go_roundw
          case rel => exact ⟨i + 1, by omega, by go_num, HA2, hq2⟩
          case measure => simp [intOf]; omega
    · have i2 : ¬ (i : Int) < (n : Int) := by omega
      have HBf : B = false := by
        rw [HB.out]
        have hin : i = l.length := by have := HN.out; omega
        have := apart_nodup (by rw [← hin]; exact hA.out)
        simp [this]
      subst HBf
      go_wp2
      go_ret
      exact ⟨rfl, hq⟩
end Go.Proofs.Ytggbcailaeebfaa
