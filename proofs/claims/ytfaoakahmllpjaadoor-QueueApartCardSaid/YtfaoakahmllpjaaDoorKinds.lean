/- The table of the kinds of operations (package op's variable), and what find answers. -/
import Derived.Test.YtfaoakahmllpjaaDoorProg
import Derived.Deep.RegionHeld3
import Derived.KernelRfl
import Derived.Test.YtfaoakahmllpjaaDoorOpen
namespace Go.Proofs.YtfaoakahmllpjaaDoor
open Go.RowKit Go.Um
set_option maxHeartbeats 1000000

def kindC (m : Int) (s : List UInt8) (n : Int) : List Value := [.int .u8 m, .string ⟨s.toArray⟩, .int .u8 n]
def kindL : List Value :=
  kindC 0 [] 0 ++ kindC 0 [114, 101, 97, 100] 0 ++ kindC 0 [119, 114, 105, 116, 101] 2 ++ kindC 0 [99, 97, 115] 6 ++ kindC 1 [101, 110, 113] 2 ++ kindC 1 [100, 101, 113] 0 ++ kindC 2 [103, 101, 116] 1 ++
  kindC 2 [112, 117, 116] 3 ++ kindC 2 [100, 101, 108] 1 ++ kindC 2 [115, 119, 97, 112] 7 ++ kindC 3 [97, 99, 113, 117, 105, 114, 101] 0 ++ kindC 3 [114, 101, 108, 101, 97, 115, 101] 0

/-- block 0 holds the table -/
structure Kinds (w : World) : Prop where
  cell : ∀ i v, kindL[i]? = some v → w.cell? ⟨0, i, none⟩ = some v
  pos : 0 < w.heap.size

theorem Kinds.below {w w' : World} (h : Kinds w) (hb : Below w.heap.size w w') : Kinds w' :=
  ⟨fun i v hv => by rw [hb.cell (p := ⟨0, i, none⟩) h.pos]; exact h.cell i v hv, Nat.lt_of_lt_of_le h.pos hb.size⟩

def kTab : List (Int × List UInt8 × Int × Bool) := [(0, [], 0, false), (0, [114, 101, 97, 100], 0, true), (0, [119, 114, 105, 116, 101], 2, true), (0, [99, 97, 115], 6, true), (1, [101, 110, 113], 2, true), (1, [100, 101, 113], 0, true), (2, [103, 101, 116], 1, true), (2, [112, 117, 116], 3, true), (2, [100, 101, 108], 1, true), (2, [115, 119, 97, 112], 7, true), (3, [97, 99, 113, 117, 105, 114, 101], 0, true), (3, [114, 101, 108, 101, 97, 115, 101], 0, true)]
def kOf (f : Int) : Int × List UInt8 × Int × Bool := kTab.getD f.toNat (0, [], 0, false)
/-- a kind, as a value -/
def kV (x : Int × List UInt8 × Int × Bool) : Value := .agg #[.int .u8 x.1, .string ⟨x.2.1.toArray⟩, .int .u8 x.2.2.1]

theorem find_out (f : Int) (hf : f ≤ 255) (t0 : (f == 0 || decide (12 ≤ f)) = true) (w : World) :
    Calls Tryd.prog 39 #[.int .u8 f] w fun e w' => e = .returned (.tuple #[kV (0, [], 0, false), .bool false]) ∧ Below w.heap.size w w' := by
  by_cases hz : (f == 0) = true
  · clear t0
    go_enter Tryd.func39, Tryd.ntmps39
    go_wp2
    refine bodyPost_ret (by simp [results, Tryd.results39, go_sem] <;> rfl) rfl ⟨rfl, ?_⟩
    exact ba (bz w) _
  · have hz' : (f == 0) = false := by simpa using hz
    have t1 : decide (12 ≤ f) = true := by rw [hz'] at t0; simpa using t0
    have t2 : decide (12 ≤ wrap64 f) = true := by rw [IntWalk.wrap64_in f (by simp at t1; omega)]; exact t1
    clear t0 hz
    go_enter Tryd.func39, Tryd.ntmps39
    go_wp2
    refine bodyPost_ret (by simp [results, Tryd.results39, go_sem] <;> rfl) rfl ⟨rfl, ?_⟩
    exact ba (bz w) _
theorem find1 (w : World) (h : Kinds w) :
    Calls Tryd.prog 39 #[.int .u8 1] w fun e w' => e = .returned (.tuple #[kV (kOf 1), .bool (kOf 1).2.2.2]) ∧ Below w.heap.size w w' := by
  have c0 := h.cell 3 _ rfl
  have c1 := h.cell 4 _ rfl
  have c2 := h.cell 5 _ rfl
  have hp := h.pos
  go_enter Tryd.func39, Tryd.ntmps39
  go_wp2
  refine bodyPost_ret (by simp [results, Tryd.results39, go_sem] <;> rfl) rfl ⟨by simp [kOf, kTab, kV], ?_⟩
  exact ba (bz w) _
theorem find2 (w : World) (h : Kinds w) :
    Calls Tryd.prog 39 #[.int .u8 2] w fun e w' => e = .returned (.tuple #[kV (kOf 2), .bool (kOf 2).2.2.2]) ∧ Below w.heap.size w w' := by
  have c0 := h.cell 6 _ rfl
  have c1 := h.cell 7 _ rfl
  have c2 := h.cell 8 _ rfl
  have hp := h.pos
  go_enter Tryd.func39, Tryd.ntmps39
  go_wp2
  refine bodyPost_ret (by simp [results, Tryd.results39, go_sem] <;> rfl) rfl ⟨by simp [kOf, kTab, kV], ?_⟩
  exact ba (bz w) _
theorem find3 (w : World) (h : Kinds w) :
    Calls Tryd.prog 39 #[.int .u8 3] w fun e w' => e = .returned (.tuple #[kV (kOf 3), .bool (kOf 3).2.2.2]) ∧ Below w.heap.size w w' := by
  have c0 := h.cell 9 _ rfl
  have c1 := h.cell 10 _ rfl
  have c2 := h.cell 11 _ rfl
  have hp := h.pos
  go_enter Tryd.func39, Tryd.ntmps39
  go_wp2
  refine bodyPost_ret (by simp [results, Tryd.results39, go_sem] <;> rfl) rfl ⟨by simp [kOf, kTab, kV], ?_⟩
  exact ba (bz w) _
theorem find4 (w : World) (h : Kinds w) :
    Calls Tryd.prog 39 #[.int .u8 4] w fun e w' => e = .returned (.tuple #[kV (kOf 4), .bool (kOf 4).2.2.2]) ∧ Below w.heap.size w w' := by
  have c0 := h.cell 12 _ rfl
  have c1 := h.cell 13 _ rfl
  have c2 := h.cell 14 _ rfl
  have hp := h.pos
  go_enter Tryd.func39, Tryd.ntmps39
  go_wp2
  refine bodyPost_ret (by simp [results, Tryd.results39, go_sem] <;> rfl) rfl ⟨by simp [kOf, kTab, kV], ?_⟩
  exact ba (bz w) _
theorem find5 (w : World) (h : Kinds w) :
    Calls Tryd.prog 39 #[.int .u8 5] w fun e w' => e = .returned (.tuple #[kV (kOf 5), .bool (kOf 5).2.2.2]) ∧ Below w.heap.size w w' := by
  have c0 := h.cell 15 _ rfl
  have c1 := h.cell 16 _ rfl
  have c2 := h.cell 17 _ rfl
  have hp := h.pos
  go_enter Tryd.func39, Tryd.ntmps39
  go_wp2
  refine bodyPost_ret (by simp [results, Tryd.results39, go_sem] <;> rfl) rfl ⟨by simp [kOf, kTab, kV], ?_⟩
  exact ba (bz w) _
theorem find6 (w : World) (h : Kinds w) :
    Calls Tryd.prog 39 #[.int .u8 6] w fun e w' => e = .returned (.tuple #[kV (kOf 6), .bool (kOf 6).2.2.2]) ∧ Below w.heap.size w w' := by
  have c0 := h.cell 18 _ rfl
  have c1 := h.cell 19 _ rfl
  have c2 := h.cell 20 _ rfl
  have hp := h.pos
  go_enter Tryd.func39, Tryd.ntmps39
  go_wp2
  refine bodyPost_ret (by simp [results, Tryd.results39, go_sem] <;> rfl) rfl ⟨by simp [kOf, kTab, kV], ?_⟩
  exact ba (bz w) _
theorem find7 (w : World) (h : Kinds w) :
    Calls Tryd.prog 39 #[.int .u8 7] w fun e w' => e = .returned (.tuple #[kV (kOf 7), .bool (kOf 7).2.2.2]) ∧ Below w.heap.size w w' := by
  have c0 := h.cell 21 _ rfl
  have c1 := h.cell 22 _ rfl
  have c2 := h.cell 23 _ rfl
  have hp := h.pos
  go_enter Tryd.func39, Tryd.ntmps39
  go_wp2
  refine bodyPost_ret (by simp [results, Tryd.results39, go_sem] <;> rfl) rfl ⟨by simp [kOf, kTab, kV], ?_⟩
  exact ba (bz w) _
theorem find8 (w : World) (h : Kinds w) :
    Calls Tryd.prog 39 #[.int .u8 8] w fun e w' => e = .returned (.tuple #[kV (kOf 8), .bool (kOf 8).2.2.2]) ∧ Below w.heap.size w w' := by
  have c0 := h.cell 24 _ rfl
  have c1 := h.cell 25 _ rfl
  have c2 := h.cell 26 _ rfl
  have hp := h.pos
  go_enter Tryd.func39, Tryd.ntmps39
  go_wp2
  refine bodyPost_ret (by simp [results, Tryd.results39, go_sem] <;> rfl) rfl ⟨by simp [kOf, kTab, kV], ?_⟩
  exact ba (bz w) _
theorem find9 (w : World) (h : Kinds w) :
    Calls Tryd.prog 39 #[.int .u8 9] w fun e w' => e = .returned (.tuple #[kV (kOf 9), .bool (kOf 9).2.2.2]) ∧ Below w.heap.size w w' := by
  have c0 := h.cell 27 _ rfl
  have c1 := h.cell 28 _ rfl
  have c2 := h.cell 29 _ rfl
  have hp := h.pos
  go_enter Tryd.func39, Tryd.ntmps39
  go_wp2
  refine bodyPost_ret (by simp [results, Tryd.results39, go_sem] <;> rfl) rfl ⟨by simp [kOf, kTab, kV], ?_⟩
  exact ba (bz w) _
theorem find10 (w : World) (h : Kinds w) :
    Calls Tryd.prog 39 #[.int .u8 10] w fun e w' => e = .returned (.tuple #[kV (kOf 10), .bool (kOf 10).2.2.2]) ∧ Below w.heap.size w w' := by
  have c0 := h.cell 30 _ rfl
  have c1 := h.cell 31 _ rfl
  have c2 := h.cell 32 _ rfl
  have hp := h.pos
  go_enter Tryd.func39, Tryd.ntmps39
  go_wp2
  refine bodyPost_ret (by simp [results, Tryd.results39, go_sem] <;> rfl) rfl ⟨by simp [kOf, kTab, kV], ?_⟩
  exact ba (bz w) _
theorem find11 (w : World) (h : Kinds w) :
    Calls Tryd.prog 39 #[.int .u8 11] w fun e w' => e = .returned (.tuple #[kV (kOf 11), .bool (kOf 11).2.2.2]) ∧ Below w.heap.size w w' := by
  have c0 := h.cell 33 _ rfl
  have c1 := h.cell 34 _ rfl
  have c2 := h.cell 35 _ rfl
  have hp := h.pos
  go_enter Tryd.func39, Tryd.ntmps39
  go_wp2
  refine bodyPost_ret (by simp [results, Tryd.results39, go_sem] <;> rfl) rfl ⟨by simp [kOf, kTab, kV], ?_⟩
  exact ba (bz w) _
theorem find_any (f : Int) (hf : in8 f) (w : World) (h : Kinds w) :
    Calls Tryd.prog 39 #[.int .u8 f] w fun e w' => e = .returned (.tuple #[kV (kOf f), .bool (kOf f).2.2.2]) ∧ Below w.heap.size w w' := by
  have hc : f = 0 ∨ 12 ≤ f ∨ f = 1 ∨ f = 2 ∨ f = 3 ∨ f = 4 ∨ f = 5 ∨ f = 6 ∨ f = 7 ∨ f = 8 ∨ f = 9 ∨ f = 10 ∨ f = 11 := by have h0 := hf.1; omega
  rcases hc with rfl | hc | rfl | rfl | rfl | rfl | rfl | rfl | rfl | rfl | rfl | rfl | rfl
  · exact find_out 0 (by decide) rfl w
  · have e : kOf f = (0, [], 0, false) := by
      unfold kOf
      rw [List.getD_eq_getElem?_getD, List.getElem?_eq_none (by show 12 ≤ f.toNat; omega)]
      rfl
    rw [e]
    exact find_out f hf.2 (by simp [hc]) w
  · exact find1 w h
  · exact find2 w h
  · exact find3 w h
  · exact find4 w h
  · exact find5 w h
  · exact find6 w h
  · exact find7 w h
  · exact find8 w h
  · exact find9 w h
  · exact find10 w h
  · exact find11 w h
end Go.Proofs.YtfaoakahmllpjaaDoor
