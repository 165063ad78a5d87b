/- A slice of reads, opened; few. -/
import Derived.Test.YtggbcailaeebfaaGrow
import Derived.Test.YtggbcailaeebfaaOpenl
import Derived.ChangeArms
namespace Go.Um
open Go.RowKit Go.ChangeShapes Go.WideShapes Go.ChangeAt Go.Deep
/-- a slice of numbers in one cell -/
theorem cell_nums {H : Type} {enc : TypeId × Value → H} {P : Program} {W : World} {t e : TypeId} {q : IntKind} {c : Value} {fuel : Nat} {y : DataW H × List MemPlace} (ht : P.underlying t = some (.slice e)) (he : P.underlying e = some (.int q)) (hc : P.cellsOf e = 1)
    (h : DataW.trod enc P W 0 (fun _ => true) true fuel t [c] = some y) :
    ∃ (l : List Int) (ao : Option Addr) (cap b o : Nat), c = .slice ao l.length cap ∧ SlAt W 1 l.length (l.map (Value.int q)) ao cap b o ∧ ∀ n ∈ l, (Lit.int q n).wf = true := by
  rcases open_ints ht he hc h with ⟨hcs, _⟩ | ⟨a, len, cap, zs, hcs, hb, hl, hm, hz, hx, hcc, hwf⟩
  · obtain rfl : c = .slice none 0 0 := by simpa using hcs
    exact ⟨[], none, 0, 0, 0, rfl, slat_nil, fun n hn => by cases hn⟩
  · obtain rfl : c = .slice (some a) len cap := by simpa using hcs
    simp only [if_true] at hz
    have hlen : (zs.take len).length = len := by rw [List.length_take]; omega
    refine ⟨zs.take len, some a, cap, a.block, a.off, by rw [hlen], slat_of (by simp) (by omega) hm ?_, fun n hn => hwf n (List.mem_of_mem_take hn)⟩
    intro j u hu
    have hj : j < len := by have := (List.getElem?_eq_some_iff.1 hu).1; rw [List.length_map, hlen] at this; exact this
    rw [hcc j (by omega)]
    simp only [List.getElem?_map, List.getElem?_take, if_pos hj, Option.map_eq_some_iff] at hu
    obtain ⟨z, hz', rfl⟩ := hu
    rw [List.getD_eq_getElem?_getD, hz']
    rfl
end Go.Um
namespace Go.Proofs.Ytggbcailaeebfaa
open Go.RowKit Go.Um Go.ChangeShapes Go.WideShapes Go.ChangeAt Go.Deep
set_option maxHeartbeats 1000000

theorem open_reads {H : Type} {enc : TypeId × Value → H} {W : World} {r : Reach} {b0 : Nat} {v : Value} {d : DataW H} {p : List MemPlace}
    (hv : Value.okWide Try.prog W r b0 25 v) (h : DataW.Trod enc Try.prog W 0 (fun _ => true) true 25 v d p) :
    ∃ (l : List Rd) (ao : Option Addr) (cap b o : Nat), v = .slice ao l.length cap ∧ SlAt W 3 l.length (l.flatMap Rd.cells) ao cap b o ∧ ∀ x ∈ l, x.Ok W ∧ ∀ n ∈ x.L, in16 n := by
  obtain ⟨n, ao, cap, b, o, E, rfl, hsl, hE⟩ := open_structs Try.underlying25 Try.underlying35 (by kernel_rfl) (by kernel_rfl) hv h
  have each : ∀ i, i < n → ∃ x : Rd, E i 0 = .int .u8 x.key ∧ E i 1 = .slice x.ao x.L.length x.cap ∧ E i 2 = .bool x.cop ∧ x.Ok W ∧ ∀ n ∈ x.L, in16 n := by
    intro i hi
    obtain ⟨m0, y0, g0⟩ := hE i hi 0 _ rfl
    obtain ⟨m1, y1, g1⟩ := hE i hi 1 _ rfl
    obtain ⟨m2, y2, g2⟩ := hE i hi 2 _ rfl
    obtain ⟨k, q0, _, w0⟩ := DataW.trod_int Try.underlying5 g0
    obtain ⟨l, ao1, cap1, b1, o1, q1, hs1, hw1⟩ := cell_nums Try.underlying22 Try.underlying37 (by kernel_rfl) g1
    obtain ⟨c, q2, _⟩ := DataW.trod_bool Try.underlying4 g2
    simp only [List.cons.injEq, and_true] at q0 q2
    have hk := in8_of w0
    unfold in8 at hk
    exact ⟨⟨k.toNat, l, c, ao1, cap1, b1, o1⟩, by rw [q0]; congr 1; show k = ((k.toNat : Nat) : Int); omega, q1, q2, ⟨by show k.toNat ≤ 255; omega, hs1⟩, fun n hn => in16_of (hw1 n hn)⟩
  have each' : ∃ X : Nat → Rd, ∀ i, i < n → E i 0 = .int .u8 (X i).key ∧ E i 1 = .slice (X i).ao (X i).L.length (X i).cap ∧ E i 2 = .bool (X i).cop ∧ (X i).Ok W ∧ ∀ n ∈ (X i).L, in16 n := by
    classical
    refine ⟨fun i => if hi : i < n then Classical.choose (each i hi) else ⟨0, [], false, none, 0, 0, 0⟩, fun i hi => ?_⟩
    simp only [dif_pos hi]
    exact Classical.choose_spec (each i hi)
  obtain ⟨X, hX⟩ := each'
  refine ⟨(List.range n).map X, ao, cap, b, o, by simp, ?_, ?_⟩
  · have he : ((List.range n).map X).flatMap Rd.cells = (List.range n).flatMap fun i => (List.range 3).map (E i) := by
      rw [List.flatMap_map]
      refine flatMap_congr_range fun i hi => ?_
      obtain ⟨q0, q1, q2, _⟩ := hX i hi
      show _ = [E i 0, E i 1, E i 2]
      rw [q0, q1, q2]
      rfl
    rw [he]
    simpa using hsl
  · intro x hx
    obtain ⟨i, hi, rfl⟩ := List.mem_map.1 hx
    obtain ⟨_, _, _, h1, h2⟩ := hX i (List.mem_range.1 hi)
    exact ⟨h1, h2⟩
theorem size35 : (Try.prog.info? 35).map (·.size) = some 3 := by kernel_rfl
theorem rd_at {w : World} {l : List Rd} {ao : Option Addr} {n cap b o k : Nat} {x : Rd} (h : SlAt w 3 n (l.flatMap Rd.cells) ao cap b o) (hx : l[k]? = some x) :
    w.cell? ⟨b, o + k * 3, none⟩ = some (.int .u8 x.key) ∧ w.cell? ⟨b, o + k * 3 + 1, none⟩ = some (.slice x.ao x.L.length x.cap) ∧ w.cell? ⟨b, o + k * 3 + 2, none⟩ = some (.bool x.cop) := by
  have g := fun j (hj : j < 3) u (hu : x.cells[j]? = some u) => h.cell (k * 3 + j) u ((cell_of Rd.three l k x hx j hj).trans hu)
  exact ⟨g 0 (by omega) _ rfl, g 1 (by omega) _ rfl, g 2 (by omega) _ rfl⟩

def FewPost (l : List Rd) (w : World) (e : Ending) (w' : World) : Prop := ∃ b, e = .returned (.bool b) ∧ (b = true → l.length ≤ 50 ∧ ∀ x ∈ l, x.L.length ≤ 40) ∧ w = w'
theorem few_any (l : List Rd) (ao : Option Addr) (cap b o : Nat) (w : World) (h : SlAt w 3 l.length (l.flatMap Rd.cells) ao cap b o) :
    Calls Try.prog 12 #[.slice ao l.length cap] w (FewPost l w) := by
  have hidx := h.idx (P := Try.prog) (t := 25) Try.underlying25 size35 (by decide)
  have hll : l.length ≤ maxLen := Nat.le_trans h.le h.max
  unfold maxLen at hll
  go_enter Try.func12, Try.ntmps12
  go_wp2
  go_loop [3] (fun t3 => ∃ k : Nat, k ≤ l.length ∧ k ≤ 60 ∧ t3 = .int .i64 k ∧ Hid (∀ x ∈ l.take k, x.L.length ≤ 40)) (fun t3 => l.length - (intOf t3).toNat)
  case atStart => exact ⟨0, Nat.zero_le _, Nat.zero_le _, rfl, fun s hs => by simp at hs⟩
  case round =>
    obtain ⟨k, hk, hk5, rfl, ht⟩ := hrel
    by_cases hlt : k < l.length
    · have b1 : (0 : Int) ≤ (k : Int) := by omega
      have b2 : (k : Int) < (l.length : Int) := by omega
      by_cases h60 : k < 60
      · have t1 : decide ((k : Int) < 60) = true := by simp; omega
        obtain ⟨x, hx⟩ : ∃ x, l[k]? = some x := ⟨_, List.getElem?_eq_getElem hlt⟩
        have g := (rd_at h hx).2.1
        have Hx := Lib.hid hx
        clear hx
        by_cases hsz : 40 < x.L.length
        · have t2 : decide (40 < (x.L.length : Int)) = true := by simp; omega
          have HS := Lib.hid hsz
          clear hsz
          go_wp2
          go_ret
          exact ⟨false, rfl, (fun h => by cases h), rfl⟩
        · have t2 : decide (40 < (x.L.length : Int)) = false := by simp; omega
          have HS := Lib.hid hsz
          clear hsz
          go_wp2
          go_round
          case rel =>
            refine ⟨k + 1, by omega, by omega, by go_num, ?_⟩
            intro s hs
            rw [List.take_add_one, Hx.out] at hs
            rcases List.mem_append.1 hs with h1 | h1
            · exact ht.out s h1
            · have : s = x := by simpa using h1
              have := HS.out
              subst s; omega
          case measure => simp [intOf]; omega
      · have t1 : decide ((k : Int) < 60) = false := by simp; omega
        have t3 : decide ((l.length : Int) ≤ 50) = false := by simp; omega
        go_wp2
        go_ret
        exact ⟨false, by simp [t3], (fun h => by cases h), rfl⟩
    · have hk' : l.length = k := by omega
      have HK := Lib.hid hk'
      have hb : ¬ ((k : Int) < (l.length : Int)) := by omega
      clear hk'
      go_wp2
      go_ret
      refine ⟨decide ((l.length : Int) ≤ 50), by simp, fun h => ?_, rfl⟩
      have h1 := ht.out
      rw [List.take_of_length_le (by have := HK.out; omega)] at h1
      exact ⟨by simp at h; omega, h1⟩
end Go.Proofs.Ytggbcailaeebfaa
