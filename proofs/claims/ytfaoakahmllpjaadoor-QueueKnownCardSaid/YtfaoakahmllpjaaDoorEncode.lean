/- The queue's Encode and Decode, of the program and of the document. -/
import Derived.Test.YtfaoakahmllpjaaDoorSteps
import Derived.Test.YtfaoakahmllpjaaDoorBits
import Derived.Lib.ConvBytes
import Derived.Laws.BytesArg
import Derived.Deep.RegionLaw
import Derived.RegionTactic
import Derived.BigRegion
namespace Go.Proofs.YtfaoakahmllpjaaDoor
open Go.RowKit Go.Um
set_option maxHeartbeats 1000000

/-- the bytes of values -/
def encL (l : List Int) : List Int := l.flatMap fun v => [v / 256, v % 256]
def in16s (l : List Int) : Prop := ∀ n ∈ l, in16 n
theorem encL_len (l : List Int) : (encL l).length = 2 * l.length := by
  induction l with
  | nil => rfl
  | cons x l ih => show ((x / 256) :: (x % 256) :: encL l).length = _; simp [ih]; omega
theorem encL_snoc (l : List Int) (x : Int) : encL (l ++ [x]) = encL l ++ [x / 256, x % 256] := by simp [encL]
theorem info5 : (Tryd.prog.info? 5).map (fun i => (i.zero, i.size, i.bytes)) = some (some (.int .u8 0), 1, 1) := by kernel_rfl

theorem conv_own {w : World} {base : Nat} {v : Value} {bs : List Int} {n : Nat} (hn : n = bs.length) (h : w.ownsRow base 5 1 v n (bs.map (Value.int .u8))) : (convert 70 9 v).run Tryd.prog w = .ok (.string (strOfNums bs)) w := by
  subst hn
  obtain ⟨ao, cap, b, o, rfl, hsl, _⟩ := SlAt.owned h
  by_cases hp : 0 < bs.length
  · have ha := hsl.addr (by simpa using hp)
    rw [ha]
    exact run_convert_bytes_arg w 70 5 Tryd.underlying70 Tryd.underlying5 b o bs.length cap bs rfl (fun i hi => hsl.cell i _ (by simp [List.getElem?_eq_getElem hi])) 9 Tryd.underlying9
  · have : bs = [] := List.eq_nil_of_length_eq_zero (by omega)
    subst this
    rcases h.2 with ⟨hv, _⟩ | ⟨g, cap', cur, hv, _, hg, _⟩
    · rw [hv]
      exact run_convert_bytes_nil w 70 5 Tryd.underlying70 Tryd.underlying5 0 0 9 Tryd.underlying9
    · rw [hv]
      exact run_convert_bytes_arg w 70 5 Tryd.underlying70 Tryd.underlying5 g 0 0 cap' [] rfl (fun i hi => absurd hi (Nat.not_lt_zero _)) 9 Tryd.underlying9

theorem encode_any (l : List Int) (v : Value) (w : World) (hv : Lies w l v) (hr : in16s l) (hlen : l.length ≤ 1000) :
    Calls Tryd.prog 25 #[.agg #[v]] w fun e w' => e = .returned (.string (strOfNums (encL l))) ∧ Below w.heap.size w w' := by
  obtain ⟨i0, hi, hz0, hz1, hz2⟩ := info_parts info5
  obtain ⟨ao, cap, b, o, rfl, hs⟩ := hv
  have hidx := hs.idx (P := Tryd.prog) (t := 22) Tryd.underlying22 size23 (by decide)
  have HR := Lib.hid hr
  clear hr
  go_enter Tryd.func25, Tryd.ntmps25
  go_wp2
  go_loopw [3, 9] (fun t3 t9 wr => ∃ k : Nat, k ≤ l.length ∧ t9 = .int .i64 k ∧ wr.ownsRow (w.heap.size + 1) 5 1 t3 (2 * k) ((encL (l.take k)).map (Value.int .u8)) ∧ Below w.heap.size w wr ∧ w.heap.size + 1 ≤ wr.heap.size) (fun _ t9 _ => l.length - (intOf t9).toNat)
  case atStart => exact ⟨0, Nat.zero_le _, rfl, World.ownsRow_nil _ _ _ _, ba (bz w) _, by simp⟩
  case round =>
    obtain ⟨k, hk, rfl, hown, hbel, hz⟩ := hrel
    by_cases hlt : k < l.length
    · obtain ⟨x, hx⟩ : ∃ x, l[k]? = some x := ⟨_, List.getElem?_eq_getElem hlt⟩
      have g0 := val_at (hs.below' hbel hs.lt) hx
      obtain ⟨x0, x1⟩ := HR.out x (List.mem_of_getElem? hx)
      have b1 : (0 : Int) ≤ (k : Int) := by omega
      have b2 : (k : Int) < (l.length : Int) := by omega
      have Hx := Lib.hid hx
      clear hx
      go_wp2_with (at_builtin; refine wpList_append_own _ rfl (.tmp 13) (.tmp 19) 70 rfl (w.heap.size + 1) 5 i0 (.int .u8 0) 1 1 Tryd.underlying70 hi hz0 hz1 hz2 rfl (by decide) _ _ _ rfl (hown.alloc _) ⟨wr.heap.size, 0, none⟩ 2 2 [.int .u8 (x / 256), .int .u8 (x % 256)] rfl rfl (new_cells _ _ _ _ (by simp)) (by simp [Value.oneCell']) (by unfold maxLen; omega) (by omega) (by simp; omega) ?_)
      intro v' w2 hown2 hgrow2 _
      have hbel2 : Below w.heap.size w w2 := (hbel.alloc hbel.size _).grown hgrow2 (by have := hbel.size; simp; omega) (fun k hk => by have := (hown.lt k hk).1; omega)
      have hz2 : w.heap.size + 1 ≤ w2.heap.size := by have := hgrow2.size; simp at this; omega
      have HO := Lib.hid hown2
      clear hown2 hgrow2
      go_wp2
      go_roundw
      case rel =>
        refine ⟨k + 1, by omega, by go_num, ?_, hbel2, hz2⟩
        have h1 := HO.out
        rw [List.take_add_one, Hx.out]
        simp only [Option.toList_some, encL_snoc, List.map_append, List.map_cons, List.map_nil]
        exact h1
      case measure => simp [intOf]; omega
    · have hk' : l.length = k := by omega
      have hcv := conv_own (by rw [encL_len, List.length_take]; omega) hown
      rw [List.take_of_length_le (by omega)] at hcv
      obtain ⟨st, hst⟩ : ∃ st, st = strOfNums (encL l) := ⟨_, rfl⟩
      rw [← hst] at hcv
      have Hst := Lib.hid hst
      have Hk := Lib.hid hk'
      clear hk' hst
      go_wp2
      go_ret
      exact ⟨by simp [Hst.out], hbel⟩

theorem conv2 (a b : Int) (w : World) (g : Nat) (hg : g = w.heap.size) : (convert 70 9 (.slice (some ⟨g, 0, none⟩) 2 2)).run Tryd.prog (w.alloc (.cells #[.int .u8 a, .int .u8 b] 5)) = .ok (.string (strOfNums [a, b])) (w.alloc (.cells #[.int .u8 a, .int .u8 b] 5)) := by
  subst hg
  exact run_convert_bytes_arg (P := Tryd.prog) (w.alloc (.cells #[.int .u8 a, .int .u8 b] 5)) 70 5 Tryd.underlying70 Tryd.underlying5 w.heap.size 0 2 2 [a, b] rfl (fun i hi => by
    have : i = 0 ∨ i = 1 := by omega
    rcases this with rfl | rfl <;> simp [go_sem]) 9 Tryd.underlying9
theorem conv2d (a b : Int) (w : World) : (convert 70 9 (.slice (some ⟨w.heap.size, 0, none⟩) 2 2)).run Tryd.prog (w.alloc (.cells #[.int .u8 a, .int .u8 b] 5)).drew = .ok (.string (strOfNums [a, b])) (w.alloc (.cells #[.int .u8 a, .int .u8 b] 5)).drew :=
  run_convert_bytes_arg (P := Tryd.prog) (w.alloc (.cells #[.int .u8 a, .int .u8 b] 5)).drew 70 5 Tryd.underlying70 Tryd.underlying5 w.heap.size 0 2 2 [a, b] rfl (fun i hi => by
    have : i = 0 ∨ i = 1 := by omega
    rcases this with rfl | rfl <;> simp [go_sem]) 9 Tryd.underlying9
theorem q_div (x : Int) (h0 : 0 ≤ x) (h1 : x ≤ 65535) : IntKind.u8.wrap (IntKind.u16.wrap (x.tdiv 256)) = x / 256 := by
  have e : x.tdiv 256 = x / 256 := Int.tdiv_eq_ediv_of_nonneg h0
  rw [e, wrap16_in (by omega), wrap8_eq]; omega
theorem q_mod (x : Int) (h0 : 0 ≤ x) (h1 : x ≤ 65535) : IntKind.u8.wrap (x.tmod 256) = x % 256 := by
  have e : x.tmod 256 = x % 256 := Int.tmod_eq_emod_of_nonneg h0
  rw [e, wrap8_eq]; omega
theorem str_app (a b : List Int) : strOfNums a ++ strOfNums b = strOfNums (a ++ b) := by
  simp [strOfNums, ByteArray.mk_append_mk]

theorem rencode_any (l : List Int) (ao : Option Addr) (cap b o : Nat) (w : World) (hs : SlAt w 1 l.length (us l) ao cap b o) (hr : in16s l) (hlen : l.length ≤ 1000) :
    Calls Tryd.prog 26 #[.slice ao l.length cap] w fun e w' => e = .returned (.string (strOfNums (encL l))) ∧ Below w.heap.size w w' := by
  have hidx := hs.idx (P := Tryd.prog) (t := 22) Tryd.underlying22 size23 (by decide)
  have HR := Lib.hid hr
  have hc := conv2
  clear hr
  go_enter Tryd.func26, Tryd.ntmps26
  go_wp2
  go_loopw [3, 4] (fun t3 t4 wr => ∃ k : Nat, k ≤ l.length ∧ t4 = .int .i64 k ∧ t3 = .string (strOfNums (encL (l.take k))) ∧ Below w.heap.size w wr) (fun _ t4 _ => l.length - (intOf t4).toNat)
  case atStart => exact ⟨0, Nat.zero_le _, rfl, rfl, bz w⟩
  case round =>
    obtain ⟨k, hk, rfl, rfl, hbel⟩ := hrel
    obtain ⟨st, hst⟩ : ∃ st, st = strOfNums (encL (l.take k)) := ⟨_, rfl⟩
    rw [← hst]
    have hsz : st.size = 2 * k := by rw [hst, strOfNums_size, encL_len, List.length_take]; omega
    have u1 : (st.size : Int) ≤ 8388608 := by omega
    have Hst := Lib.hid hst
    clear hst hsz
    by_cases hlt : k < l.length
    · obtain ⟨x, hx⟩ : ∃ x, l[k]? = some x := ⟨_, List.getElem?_eq_getElem hlt⟩
      have g0 := val_at (hs.below' hbel hs.lt) hx
      obtain ⟨x0, x1⟩ := HR.out x (List.mem_of_getElem? hx)
      have b1 : (0 : Int) ≤ (k : Int) := by omega
      have b2 : (k : Int) < (l.length : Int) := by omega
      obtain ⟨s2, hs2⟩ : ∃ s2, s2 = strOfNums [x / 256, x % 256] := ⟨_, rfl⟩
      have u2 : (s2.size : Int) ≤ 8388608 := by rw [hs2, strOfNums_size]; show ((2 : Nat) : Int) ≤ 8388608; decide
      have hc2 := conv2d (x / 256) (x % 256)
      rw [← hs2] at hc2
      have y1 := q_div x x0 x1
      have y2 := q_mod x x0 x1
      have Hx := Lib.hid hx
      have Hs2 := Lib.hid hs2
      clear hx hs2 hc
      go_wp2_with fail
      go_region
      go_wp2_with fail
      go_roundw
      case rel =>
        refine ⟨k + 1, by omega, by go_num, ?_, ?_⟩
        · rw [List.take_add_one, Hx.out]
          simp only [Option.toList_some, encL_snoc]
          rw [← str_app, ← Hst.out, ← Hs2.out]
        · exact (ba (hbel.drew) _)
      case measure => simp [intOf]; omega
    · have hk' : l.length = k := by omega
      have Hk := Lib.hid hk'
      clear hk'
      go_wp2
      go_ret
      have e1 : st = strOfNums (encL l) := by rw [Hst.out, List.take_of_length_le (by have := Hk.out; omega)]
      exact ⟨by simp [e1], hbel⟩
end Go.Proofs.YtfaoakahmllpjaaDoor
