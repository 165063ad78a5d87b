/- The document's Gap. Printed from Rg.tmpl. -/
import Derived.Test.YtfjccgihdnemkaaRb
namespace Go.Proofs.Ytfjccgihdnemkaa
open Go.RowKit Go.Um
set_option linter.unusedSimpArgs false
set_option linter.unusedVariables false
set_option maxHeartbeats 4000000
set_option maxRecDepth 100000
def RgapPost (L : List Nat) (n : Int) (w : World) (e : Ending) (w' : World) : Prop :=
  ∃ g : Int, e = .returned (.int .i64 g) ∧ max 0 n ≤ g ∧ (L.any fun (x : Nat) => (x : Int) == g) = false ∧ (∀ j : Int, max 0 n ≤ j → j < g → (L.any fun (x : Nat) => (x : Int) == j) = true) ∧ w = w'
theorem rgap_any (v : Value) (L : List Nat) (n : Int) (w : World) (h : LisAt w v L) (hmax : L.length ≤ 100000) (hL : ∀ x ∈ L, x ≤ 65535) : Calls Try.prog 22 #[v, .int .i64 n] w (RgapPost L n w) := by
  have HH : Hid (∀ g : Int, Calls Try.prog 21 #[v, .int .i64 g] w fun e w' => e = .returned (.bool (L.any fun (x : Nat) => (x : Int) == g)) ∧ w = w') := Lib.hid (fun g => rhas_any v L g w h hmax)
  have HB : Hid (∀ g : Int, (L.any fun (x : Nat) => (x : Int) == g) = true → 0 ≤ g ∧ g ≤ 65535) := Lib.hid (fun g hg => by
    obtain ⟨x, hx, e⟩ := List.any_eq_true.1 hg
    have := hL x hx
    have e2 : (x : Int) = g := by simpa using e
    omega)
  obtain ⟨ao, cap, b, o, rfl, hs⟩ := h
  clear hs hL
  obtain ⟨K, hK⟩ : ∃ K, K = L.length := ⟨_, rfl⟩
  rw [← hK] at HH ⊢
  clear hK
  obtain ⟨M, hM⟩ : ∃ M, M = max 0 n := ⟨_, rfl⟩
  have HM := Lib.hid hM
  have hM0 : 0 ≤ M := by omega
  have key : ∀ (n' : Int), n' = M → True := fun _ _ => trivial
  clear key
  go_enter Try.func22, Try.ntmps22
  by_cases hn : n < 0
  · have e0 : M = 0 := by omega
    have HE := Lib.hid e0
    clear hM e0
    go_wp2_with fail
    go_loop [1] (fun t1 => ∃ g : Int, t1 = .int .i64 g ∧ M ≤ g ∧ Hid (∀ j, M ≤ j → j < g → (L.any fun (x : Nat) => (x : Int) == j) = true)) (fun t1 => (65536 - intOf t1).toNat)
    case atStart => exact ⟨0, rfl, by rw [HE.out]; exact Int.le_refl _, Lib.hid (fun j h1 h2 => absurd h2 (by have := HE.out; omega))⟩
    case round =>
      obtain ⟨g, rfl, hMg, hI⟩ := hrel
      have HG := Lib.hid (HH.out g)
      cases hb : (L.any fun (x : Nat) => (x : Int) == g)
      · rw [hb] at HG
        have HBb := Lib.hid hb
        clear hb
        go_wp2_with fail
        refine HG.out.mono ?_
        rintro e w1 ⟨rfl, rfl⟩
        go_wp2
        go_ret
        exact ⟨g, rfl, by rw [← HM.out]; exact hMg, HBb.out, by rw [← HM.out]; exact hI.out, rfl⟩
      · rw [hb] at HG
        obtain ⟨hg0, hg1⟩ := HB.out g hb
        have HBb := Lib.hid hb
        clear hb
        go_wp2_with fail
        refine HG.out.mono ?_
        rintro e w1 ⟨rfl, rfl⟩
        go_wp2_with fail
        refine ⟨⟨g + 1, by go_num, by omega, Lib.hid fun j h1 h2 => ?_⟩, ?_⟩
        · by_cases e : j = g
          · rw [e]; exact HBb.out
          · exact hI.out j h1 (by omega)
        · simp [intOf]; omega
  · have e0 : M = n := by omega
    have HE := Lib.hid e0
    clear hM e0
    go_wp2_with fail
    go_loop [1] (fun t1 => ∃ g : Int, t1 = .int .i64 g ∧ M ≤ g ∧ Hid (∀ j, M ≤ j → j < g → (L.any fun (x : Nat) => (x : Int) == j) = true)) (fun t1 => (65536 - intOf t1).toNat)
    case atStart => exact ⟨n, rfl, by rw [HE.out]; exact Int.le_refl _, Lib.hid (fun j h1 h2 => absurd h2 (by have := HE.out; omega))⟩
    case round =>
      obtain ⟨g, rfl, hMg, hI⟩ := hrel
      have HG := Lib.hid (HH.out g)
      cases hb : (L.any fun (x : Nat) => (x : Int) == g)
      · rw [hb] at HG
        have HBb := Lib.hid hb
        clear hb
        go_wp2_with fail
        refine HG.out.mono ?_
        rintro e w1 ⟨rfl, rfl⟩
        go_wp2
        go_ret
        exact ⟨g, rfl, by rw [← HM.out]; exact hMg, HBb.out, by rw [← HM.out]; exact hI.out, rfl⟩
      · rw [hb] at HG
        obtain ⟨hg0, hg1⟩ := HB.out g hb
        have HBb := Lib.hid hb
        clear hb
        go_wp2_with fail
        refine HG.out.mono ?_
        rintro e w1 ⟨rfl, rfl⟩
        go_wp2_with fail
        refine ⟨⟨g + 1, by go_num, by omega, Lib.hid fun j h1 h2 => ?_⟩, ?_⟩
        · by_cases e : j = g
          · rw [e]; exact HBb.out
          · exact hI.out j h1 (by omega)
        · simp [intOf]; omega
end Go.Proofs.Ytfjccgihdnemkaa
