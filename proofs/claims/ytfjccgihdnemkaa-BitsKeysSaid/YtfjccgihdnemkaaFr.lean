/- The document's FromKey (umpireref15): contract. Printed from Fr.tmpl. -/
import Derived.Test.YtfjccgihdnemkaaFk
import Derived.Test.YtfjccgihdnemkaaRb
import Derived.Test.YtfjccgihdnemkaaCn
namespace Go.Proofs.Ytfjccgihdnemkaa
open Go.RowKit Go.Um
set_option linter.unusedSimpArgs false
set_option linter.unusedVariables false
set_option maxHeartbeats 4000000
set_option maxRecDepth 100000
def FrPost (s : ByteArray) (w : World) (e : Ending) (w' : World) : Prop := ∃ v E, e = .returned (.tuple #[v, .int .i64 E]) ∧ Below w.heap.size w w' ∧ ((goodKey s ∧ E = 0 ∧ LisAt w' v (allN (setOf s))) ∨ (¬ goodKey s ∧ E = 4 ∧ LisAt w' v []))
theorem setOf_lt {s : ByteArray} : setOf s < 2 ^ (8 * s.size) := by
  have := kn_lt (keyL s) (keyL_lt s) s.size
  exact this
theorem setOf_all {s : ByteArray} (h : s.size ≤ 8192) : upto (setOf s) (8 * s.size) = allN (setOf s) := by
  have := upto_more (N := setOf s) (t := 8 * s.size) (fun n hn => testBit_ge setOf_lt hn) (65536 - 8 * s.size)
  rw [show 8 * s.size + (65536 - 8 * s.size) = 65536 by omega] at this
  exact this.symm
theorem rfk_bad1 (s : ByteArray) (w : World) (h : 8192 < s.size) : Calls Try.prog 17 #[.string s] w (FrPost s w) := by
  have HB := Lib.hid (show ¬ goodKey s from fun g => by have := g.1; omega)
  have h1 : (8192 : Int) < (s.size : Int) := by omega
  go_enter Try.func17, Try.ntmps17
  go_wp2
  exact bodyPost_ret (v := .tuple #[.slice none 0 0, .int .i64 4]) (by simp [results, Try.results17, go_sem]) rfl ⟨_, _, rfl, bz w, .inr ⟨HB.out, rfl, LisAt.nil _⟩⟩
theorem rfk_bad2 (s : ByteArray) (w : World) (h : s.size ≤ 8192) (h0 : 0 < s.size) (hz : ((keyL s)[s.size - 1]?).getD 0 = 0) : Calls Try.prog 17 #[.string s] w (FrPost s w) := by
  have HB := Lib.hid (show ¬ goodKey s from fun g => g.2 (by omega) hz)
  rw [keyL_at s _ (by omega)] at hz
  have h1 : ¬ (8192 : Int) < (s.size : Int) := by omega
  have h2 : (0 : Int) < (s.size : Int) := by omega
  go_enter Try.func17, Try.ntmps17
  go_wp2
  exact bodyPost_ret (v := .tuple #[.slice none 0 0, .int .i64 4]) (by simp [results, Try.results17, go_sem]) rfl ⟨_, _, rfl, bz w, .inr ⟨HB.out, rfl, LisAt.nil _⟩⟩
/-- at the head of a round -/
structure FrI (w : World) (N t : Nat) (v : Value) (wr : World) : Prop where
  own : wr.ownsRow w.heap.size 3 1 v (upto N t).length (i64s (upto N t))
  below : Below w.heap.size w wr
theorem rfk_loop (s : ByteArray) (w : World) (h : goodKey s) (hn : s.size = 0 ∨ 0 < s.size ∧ ((keyL s)[s.size - 1]?).getD 0 ≠ 0) : Calls Try.prog 17 #[.string s] w (FrPost s w) := by
  have h8 := h.1
  have h1 : ¬ (8192 : Int) < (s.size : Int) := by omega
  obtain ⟨j0, hj, jz0, jz1, jz2⟩ := info_parts info3i
  obtain ⟨N, hN⟩ : ∃ N, N = setOf s := ⟨_, rfl⟩
  have hbit : Hid (∀ i k, k < 8 → (hi : i < s.size) → (s[i]'hi).toNat / 2 ^ k % 2 = if N.testBit (8 * i + k) then 1 else 0) := Lib.hid (fun i k hk hi => by
    have h1 : (s[i]'hi).toNat = byteN N i := by rw [hN, ← keyL_at s i hi]; exact (kn_byte _ (keyL_lt s) _ _ hi).symm
    have h2 := testBit_byte N i k
    rw [h1, ← Nat.shiftRight_eq_div_pow]
    rw [Nat.testBit, Nat.and_comm, and_one] at h2
    cases hb : N.testBit (8 * i + k) with
    | false => rw [hb] at h2; simp at h2; rw [if_neg (by simp)]; omega
    | true => rw [hb] at h2; simp [hk] at h2; simp; omega)
  have HG := Lib.hid h
  have HN := Lib.hid hN
  clear h hN
  have hwalk : ((0 : Int) < (s.size : Int) ∧ Hid (∃ h : s.size - 1 < s.size, (((s[s.size - 1]'h).toNat : Int) == 0) = false)) ∨ (¬ (0 : Int) < (s.size : Int)) := by
    rcases hn with h0 | ⟨h0, hz⟩
    · exact .inr (by omega)
    · rw [keyL_at s _ (by omega)] at hz
      exact .inl ⟨by omega, Lib.hid ⟨by omega, by simp; omega⟩⟩
  clear hn
  have HI0 : Hid (FrI w N 0 (.slice none 0 0) w) := Lib.hid ⟨World.ownsRow_nil _ _ _ _, bz w⟩
  rcases hwalk with ⟨h2, hz⟩ | h2
  · obtain ⟨hh, hz'⟩ := hz.out
    go_enter Try.func17, Try.ntmps17
    go_wp2_with fail
    go_loopw [4, 5] (fun t4 t5 wr => ∃ i : Nat, i ≤ s.size ∧ t5 = .int .i64 i ∧ Hid (FrI w N (8 * i) t4 wr)) (fun _ t5 _ => s.size - (intOf t5).toNat)
    case atStart => exact ⟨0, Nat.zero_le _, rfl, HI0⟩
    case round =>
      obtain ⟨i, hi, rfl, HI⟩ := hrel
      clear HI0
      by_cases hlt : i < s.size
      · have i1 : (0 : Int) ≤ (i : Int) := by omega
        have i2 : (i : Int) < (s.size : Int) := by omega
        obtain ⟨x, hx⟩ : ∃ x, x = (s[i]'hlt).toNat := ⟨_, rfl⟩
        have hx256 : x < 256 := by rw [hx]; exact UInt8.toNat_lt _
        have HBIT : Hid (∀ k, k < 8 → x / 2 ^ k % 2 = if N.testBit (8 * i + k) then 1 else 0) := Lib.hid (fun k hk => by rw [hx]; exact hbit.out i k hk hlt)
        have hix : (s[i]'hlt).toNat = x := hx.symm
        clear hx
        go_wp2_with fail
        go_loopw [4, 6] (fun t4 t6 wr => ∃ k : Nat, k ≤ 8 ∧ t6 = .int .i64 k ∧ Hid (FrI w N (8 * i + k) t4 wr)) (fun _ t6 _ => 8 - (intOf t6).toNat)
        case atStart => exact ⟨0, Nat.zero_le _, rfl, HI⟩
        case round =>
          obtain ⟨k, hk, rfl, HI2⟩ := hrel
          clear HI
          by_cases hlt2 : k < 8
          · have k2 : (k : Int) < 8 := by omega
            have k3 : (0 : Int) ≤ (k : Int) := by omega
            have hb := HBIT.out k hlt2
            have hup := upto_succ N (8 * i + k)
            have hlen := upto_len N (8 * i + k)
            obtain ⟨n, hn⟩ : ∃ n, n = (upto N (8 * i + k)).length := ⟨_, rfl⟩
            have hn9 : n ≤ 65536 := by omega
            obtain ⟨V, hV⟩ : ∃ V, V = x / 2 ^ k := ⟨_, rfl⟩
            rw [← hV] at hb
            have hV1 : (x : Int) / 2 ^ k = (V : Int) := by rw [hV]; simp
            have hV2 : V < 256 := by rw [hV]; exact Nat.lt_of_le_of_lt (Nat.div_le_self _ _) hx256
            have hV4 : (0 : Int) ≤ (V : Int) := by omega
            have hV5 : (V : Int).tmod 2 = (V : Int) % 2 := Int.tmod_eq_emod_of_nonneg hV4
            have hV6 : IntKind.u8.wrap (V : Int) = (V : Int) := by simp only [IntKind.wrap, IntKind.signed, IntKind.bits, Bool.false_and, Bool.false_eq_true, if_false]; omega
            have own := HI2.out.own
            rw [← hn] at own
            have HOWN := Lib.hid own
            have HUP := Lib.hid hup
            have HNN := Lib.hid hn
            have HVV := Lib.hid hV
            clear hup hn hV own hlen
            cases hbb : N.testBit (8 * i + k) with
            | true =>
              rw [hbb] at hb
              have b1 : (V : Int) % 2 = 1 := by simp at hb; omega
              have b2 : (V : Int).tmod 2 = 1 := by rw [hV5]; exact b1
              obtain ⟨E, hE⟩ : ∃ E, E = 8 * i + k := ⟨_, rfl⟩
              have hE1 : 8 * (i : Int) + (k : Int) = (E : Int) := by omega
              have HBB := Lib.hid hbb
              have HE := Lib.hid hE
              clear hb hbb hV5 hE
              go_wp2_with (at_builtin; refine wpList_append_lies _ rfl (.tmp 40) (.tmp 45) 22 rfl w.heap.size 3 j0 (.int .i64 0) 1 8 Try.underlying22 hj jz0 jz1 jz2 rfl (by decide) _ _ _ rfl (HOWN.out.alloc _) ⟨wr.heap.size, 0, none⟩ 1 1 [.int .i64 E] rfl rfl (new_cells _ _ _ _ (by simp)) (by simp [Value.oneCell']) (by decide) (by unfold maxLen; omega) (by omega) (by have := HI2.out.below.size; simp; omega) _ rfl ?_)
              intro g cap2 wa hown2 hgrow2 hat hlt3
              have HI3 : Hid (FrI w N (8 * i + (k + 1)) (.slice (some ⟨g, 0, none⟩) (n + 1) cap2) wa) := by
                refine Lib.hid ⟨?_, ?_⟩
                · rw [← Nat.add_assoc, HUP.out, HBB.out]
                  have e1 : i64s (upto N (8 * i + k) ++ [8 * i + k]) = i64s (upto N (8 * i + k)) ++ [.int .i64 (E : Int)] := by simp [i64s, HE.out]
                  rw [if_pos rfl, e1, List.length_append, ← HNN.out]; exact hown2
                · exact ((HI2.out.below.alloc HI2.out.below.size (.cells #[.int .i64 E] 3))).grown hgrow2 (by have := HI2.out.below.size; simp; omega) (fun g' e => (HI2.out.own.lt g' e).1)
              clear hown2 hgrow2 hat hlt3
              go_wp2_with fail
              go_roundw
              case rel => exact ⟨k + 1, by omega, by go_num, HI3⟩
              case measure => simp [intOf]; omega
            | false =>
              rw [hbb] at hb
              have b1 : (V : Int) % 2 = 0 := by simp at hb; omega
              have b2 : (V : Int).tmod 2 = 0 := by rw [hV5]; exact b1
              have HI3 : Hid (FrI w N (8 * i + (k + 1)) u4 wr) := by
                refine Lib.hid ⟨?_, HI2.out.below⟩
                rw [← Nat.add_assoc, HUP.out, hbb, if_neg (by simp), List.append_nil]; exact HI2.out.own
              clear hb hbb hV5
              go_wp2_with fail
              go_roundw
              case rel => exact ⟨k + 1, by omega, by go_num, HI3⟩
              case measure => simp [intOf]; omega
          · have k2 : ¬ (k : Int) < 8 := by omega
            have hk8 : k = 8 := by omega
            subst hk8
            go_wp2_with fail
            go_roundw
            case rel => exact ⟨i + 1, by omega, by go_num, HI2⟩
            case measure => simp [intOf]; omega
      · have i2 : ¬ (i : Int) < (s.size : Int) := by omega
        obtain rfl : i = s.size := by omega
        have HX := setOf_all h8
        rw [← HN.out] at HX
        have HXX := Lib.hid HX
        clear HX
        go_wp2
        refine bodyPost_ret (v := .tuple #[u4, .int .i64 0]) (by simp [results, Try.results17, go_sem]) rfl ⟨_, _, rfl, HI.out.below, .inl ⟨HG.out, rfl, ?_⟩⟩
        obtain ⟨aoF, capF, bF, oF, hvF, hsF, _⟩ := SlAt.owned HI.out.own
        rw [HXX.out, HN.out] at hvF hsF
        exact ⟨aoF, capF, bF, oF, hvF, hsF⟩
  · skip
    go_enter Try.func17, Try.ntmps17
    go_wp2_with fail
    go_loopw [4, 5] (fun t4 t5 wr => ∃ i : Nat, i ≤ s.size ∧ t5 = .int .i64 i ∧ Hid (FrI w N (8 * i) t4 wr)) (fun _ t5 _ => s.size - (intOf t5).toNat)
    case atStart => exact ⟨0, Nat.zero_le _, rfl, HI0⟩
    case round =>
      obtain ⟨i, hi, rfl, HI⟩ := hrel
      clear HI0
      by_cases hlt : i < s.size
      · exfalso; omega
      · have i2 : ¬ (i : Int) < (s.size : Int) := by omega
        obtain rfl : i = s.size := by omega
        have HX := setOf_all h8
        rw [← HN.out] at HX
        have HXX := Lib.hid HX
        clear HX
        go_wp2
        refine bodyPost_ret (v := .tuple #[u4, .int .i64 0]) (by simp [results, Try.results17, go_sem]) rfl ⟨_, _, rfl, HI.out.below, .inl ⟨HG.out, rfl, ?_⟩⟩
        obtain ⟨aoF, capF, bF, oF, hvF, hsF, _⟩ := SlAt.owned HI.out.own
        rw [HXX.out, HN.out] at hvF hsF
        exact ⟨aoF, capF, bF, oF, hvF, hsF⟩
theorem rfk_any (s : ByteArray) (w : World) : Calls Try.prog 17 #[.string s] w (FrPost s w) := by
  by_cases h8 : 8192 < s.size
  · exact rfk_bad1 s w h8
  · by_cases h0 : s.size = 0
    · exact rfk_loop s w ⟨by omega, fun h => absurd h0 h⟩ (.inl h0)
    · by_cases hz : ((keyL s)[s.size - 1]?).getD 0 = 0
      · exact rfk_bad2 s w (by omega) (by omega) hz
      · exact rfk_loop s w ⟨by omega, fun _ => hz⟩ (.inr ⟨by omega, hz⟩)
end Go.Proofs.Ytfjccgihdnemkaa
