/- The document's List (f29). -/
import Derived.Test.YtehnkljaoaehjaaWl
import Derived.Test.YtehnkljaoaehjaaNr
namespace Go.Proofs.Ytehnkljaoaehjaa
open Go.RowKit Go.Um
set_option linter.unusedSimpArgs false
set_option linter.unusedVariables false
set_option maxHeartbeats 2000000
set_option maxRecDepth 100000

/-- the document's bytes of a list, and its error -/
def rlS (l : List Int) : ByteArray := if 255 < l.length then ⟨#[]⟩ else strOfNums (lbytes l)
theorem rlist_any (xs : List Int) (n : Nat) (hn : n = xs.length) (ao : Option Addr) (cap b o : Nat) (w : World) (h : SlAt w 1 n (xs.map (Value.int .u16)) ao cap b o) (hx : ∀ x ∈ xs, 0 ≤ x ∧ x ≤ 65535) :
    Calls Try.prog 29 #[.slice ao n cap] w fun e w' => e = .returned (.tuple #[.string (rlS xs), .int .i64 (lerr 0 xs)]) ∧ Below w.heap.size w w' := by
  by_cases h255 : 255 < n
  · have e1 : rlS xs = ⟨#[]⟩ := by unfold rlS; rw [if_pos (by omega)]
    have e2 : lerr 0 xs = 3 := by unfold lerr; rw [if_pos (by omega)]
    rw [e1, e2]
    have t1 : decide ((255 : Int) < (n : Int)) = true := by rw [decide_eq_true_iff]; omega
    have t2 : (255 : Int) < (n : Int) := by omega
    clear e1 e2
    go_enter Try.func29, Try.ntmps29
    go_wp2
    go_ret2
    exact ⟨rfl, bz w⟩
  · have e1 : rlS xs = strOfNums (lbytes xs) := by unfold rlS; rw [if_neg (by omega)]
    have e2 : lerr 0 xs = 0 := by unfold lerr; rw [if_neg (by omega)]
    rw [e1, e2]
    have hlb : lbytes xs = be (n : Int) 1 ++ twos xs := by rw [hn]; rfl
    rw [hlb]
    have t1 : decide ((255 : Int) < (n : Int)) = false := by rw [decide_eq_false_iff_not]; omega
    have t2 : ¬ (255 : Int) < (n : Int) := by omega
    have e3 : (n : Int) % 4294967296 = (n : Int) := by omega
    have hidx := h.idx (P := Try.prog) (t := 35) Try.underlying35 size53 (by decide)
    have HL := Lib.hid hn
    have HX := Lib.hid hx
    have HS := Lib.hid h
    clear e1 e2 hlb hn hx h
    go_enter Try.func29, Try.ntmps29
    go_wp2_with fail
    refine (number_any (n : Int) 1 _ (by omega) (by decide)).mono ?_
    rintro e w1 ⟨rfl, hb1⟩
    have HB1 := Lib.hid hb1
    clear hb1
    go_wp2_with fail
    go_loopw [4, 5] (fun t4 t5 wr => ∃ k : Nat, k ≤ n ∧ t5 = .int .i64 k ∧ t4 = .string (strOfNums (be (n : Int) 1 ++ twos (xs.take k))) ∧ Hid (Below w.heap.size w wr)) (fun _ t5 _ => n - (intOf t5).toNat)
    case atStart => exact ⟨0, Nat.zero_le _, rfl, by simp [twos], HB1⟩
    case round =>
      obtain ⟨k, hk, rfl, rfl, hb⟩ := hrel
      by_cases hlt : k < n
      · have hkl : k < xs.length := by rw [← HL.out]; exact hlt
        obtain ⟨x, hxk⟩ : ∃ x, xs[k]? = some x := ⟨_, List.getElem?_eq_getElem hkl⟩
        have g0 := (HS.out.below hb.out).cell k (.int .u16 x) (by simp [hxk])
        have hx01 := HX.out x (List.mem_of_getElem? hxk)
        have htk : strOfNums (be (n : Int) 1 ++ twos (xs.take k)) ++ strOfNums (be x 2) = strOfNums (be (n : Int) 1 ++ twos (xs.take (k + 1))) := by
          rw [strcat, List.take_add_one, hxk]; simp [twos]
        have hsz : ((strOfNums (be (n : Int) 1 ++ twos (xs.take k))).size : Int) ≤ 8388608 := by
          rw [strOfNums_size, List.length_append, be_len, twos_len, List.length_take]; omega
        have hs2 : ((strOfNums (be x 2)).size : Int) ≤ 8388608 := by rw [strOfNums_size, be_len]; decide
        obtain ⟨S, hS⟩ : ∃ S, S = strOfNums (be (n : Int) 1 ++ twos (xs.take k)) := ⟨_, rfl⟩
        rw [← hS] at htk hsz ⊢
        have HT := Lib.hid htk
        have i1 : (0 : Int) ≤ (k : Int) := by omega
        have i2 : (k : Int) < (n : Int) := by omega
        have e4 : x % 4294967296 = x := by omega
        have HN : Hid (∀ W, Calls Try.prog 28 #[.int .u32 x, .int .i64 2] W fun e w' => e = .returned (.string (strOfNums (be x 2))) ∧ Below W.heap.size W w') := Lib.hid (fun W => number_any x 2 W (by omega) (by decide))
        obtain ⟨S2, hS2⟩ : ∃ S, S = strOfNums (be x 2) := ⟨_, rfl⟩
        rw [← hS2] at hs2 HT HN
        clear hxk hkl htk hS hS2
        go_wp2_with fail
        refine (HN.out _).mono ?_
        rintro e w2 ⟨rfl, hb2⟩
        have HB2 := Lib.hid (bt hb.out hb2)
        clear hb2
        go_wp2_with fail
        go_roundw
        case rel => exact ⟨k + 1, by omega, by go_num, by rw [← HT.out], HB2⟩
        case measure => simp [intOf]; omega
      · have hkn : xs.take k = xs := List.take_of_length_le (by rw [← HL.out]; omega)
        rw [hkn]
        have kk1 : ¬ ((k : Int) < (n : Int)) := by omega
        go_wp2
        go_ret2
        exact ⟨rfl, hb.out⟩
end Go.Proofs.Ytehnkljaoaehjaa
