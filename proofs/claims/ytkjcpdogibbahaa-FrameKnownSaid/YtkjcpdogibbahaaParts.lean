/- Contracts of the cutter's parts. -/
import Derived.Test.YtkjcpdogibbahaaSum
namespace Go.Proofs.Ytkjcpdogibbahaa
open Go.RowKit Go.Um
set_option maxHeartbeats 1000000

/-- a number of two bytes -/
def num (l : List UInt8) : Int := 256 * ((l.getD 0 0).toNat : Int) + ((l.getD 1 0).toNat : Int)
theorem num_bd (l : List UInt8) : 0 ≤ num l ∧ num l ≤ 65535 := by
  have h0 := (l.getD 0 0).toNat_lt
  have h1 := (l.getD 1 0).toNat_lt
  unfold num; omega

theorem below_drewN {B : Nat} {a w : World} (h : Below B a w) (n : Nat) : Below B a (w.drewN n) := ⟨h.os, h.tape, h.output, h.size, h.block⟩
theorem getD_data (s : ByteArray) (i : Nat) (h : i < s.size) : s.data.toList.getD i 0 = s[i] := by
  rw [List.getD_eq_getElem?_getD, List.getElem?_eq_getElem (by rw [len_data]; exact h)]; rfl
theorem num_val (s : ByteArray) (h : 2 ≤ s.size) : bits .or .u16 (IntKind.u16.wrap (IntKind.u16.wrap (s[0].toNat : Int) * 256)) (IntKind.u16.wrap (s[1].toNat : Int)) = num s.data.toList := by
  have h0 := s[0].toNat_lt
  have h1 := s[1].toNat_lt
  rw [wrap16_in (n := (s[0].toNat : Int)) (by omega), wrap16_in (n := (s[1].toNat : Int)) (by omega), wrap16_in (by omega), u16_or8 _ _ (by omega) (by omega) (by omega) (by omega), num, getD_data s 0 (by omega), getD_data s 1 (by omega)]
theorem number_q (s : ByteArray) (w : World) (hs : 2 ≤ s.size) (hm : s.size ≤ 1000000) :
    Calls Try.prog 34 #[.string s] w fun e w' => e = .returned (.int .u16 (num s.data.toList)) ∧ ∃ n, w' = w.drewN n := by
  have b0 : (0 : Int) < (s.size : Int) := by omega
  have b1 : (1 : Int) < (s.size : Int) := by omega
  have n0 : 0 < s.size := by omega
  have n1 : 1 < s.size := by omega
  go_enter Try.func34, Try.ntmps34
  go_wp2_with fail
  go_quiet (fail)
  go_wp2_with fail
  go_ret
  exact ⟨by simp [num_val s hs], _, rfl⟩

theorem number_any (s : ByteArray) (w : World) (hs : 2 ≤ s.size) (hm : s.size ≤ 1000000) :
    Calls Try.prog 34 #[.string s] w fun e w' => e = .returned (.int .u16 (num s.data.toList)) ∧ Below w.heap.size w w' :=
  (number_q s w hs hm).mono fun _ _ ⟨h1, n, h2⟩ => ⟨h1, by rw [h2]; exact below_drewN (bz w) n⟩

structure CutAt (w : World) (p : Nat) (made : Bool) (rest : ByteArray) (at' : Int) (bad : Bool) : Prop where
  c0 : w.cell? ⟨p, 0, none⟩ = some (.bool made)
  c1 : w.cell? ⟨p, 1, none⟩ = some (.string rest)
  c2 : w.cell? ⟨p, 2, none⟩ = some (.int .i64 at')
  c3 : w.cell? ⟨p, 3, none⟩ = some (.bool bad)
  f0 : w.frozen? ⟨p, 0, none⟩ = false
  f1 : w.frozen? ⟨p, 1, none⟩ = false
  f2 : w.frozen? ⟨p, 2, none⟩ = false
  f3 : w.frozen? ⟨p, 3, none⟩ = false

theorem new_any (w : World) : Calls Try.prog 11 #[] w fun e w' => e = .returned (.pointer (some ⟨w.heap.size, 0, none⟩)) ∧ CutAt w' w.heap.size true ⟨#[]⟩ 0 false ∧ Below w.heap.size w w' ∧ w'.heap.size = w.heap.size + 1 := by
  go_enter Try.func11, Try.ntmps11
  go_wp2
  go_ret
  exact ⟨rfl, ⟨by simp [go_sem], by simp [go_sem], by simp [go_sem], by simp [go_sem], by simp [go_sem], by simp [go_sem], by simp [go_sem], by simp [go_sem]⟩, ba (bz w) _, by simp⟩

theorem is_any (p : Nat) (made bad : Bool) (rest : ByteArray) (at' : Int) (w : World) (h : CutAt w p made rest at' bad) : Calls Try.prog 23 #[.pointer (some ⟨p, 0, none⟩)] w fun e w' => e = .returned (.bool made) ∧ w = w' := by
  have c0 := h.c0
  go_enter Try.func23, Try.ntmps23
  go_wp2
  go_ret
  exact ⟨rfl, rfl⟩
theorem is_nil (w : World) : Calls Try.prog 23 #[.pointer none] w fun e w' => e = .returned (.bool false) ∧ w = w' := by
  go_enter Try.func23, Try.ntmps23
  go_wp2
  go_ret
  exact ⟨rfl, rfl⟩

theorem feed_any (p : Nat) (bad : Bool) (rest s : ByteArray) (at' : Int) (w : World) (h : CutAt w p true rest at' bad) (hr : rest.size ≤ 1000000) (hs : s.size ≤ 1000000) :
    Calls Try.prog 12 #[.pointer (some ⟨p, 0, none⟩), .string s] w fun e w' => e = .returned (.tuple #[]) ∧ CutAt w' p true (rest ++ s) at' bad ∧ Kept (fun k => k = p) w w' := by
  have r1 : (rest.size : Int) ≤ 8388608 := by omega
  have r2 : (s.size : Int) ≤ 8388608 := by omega
  have c0 := h.c0
  have c1 := h.c1
  have c2 := h.c2
  have c3 := h.c3
  have f0 := h.f0
  have f1 := h.f1
  have f2 := h.f2
  have f3 := h.f3
  go_enter Try.func12, Try.ntmps12
  go_wp2_with fail
  refine (is_any p true bad rest at' _ h).mono ?_
  rintro e w1 ⟨rfl, rfl⟩
  go_wp2
  go_end0
  exact ⟨rfl, ⟨by simp [go_sem, c0], by simp [go_sem, c1], by simp [go_sem, c2], by simp [go_sem, c3], by simp [go_sem, f0], by simp [go_sem, f1], by simp [go_sem, f2], by simp [go_sem, f3]⟩, Kept.setCell (S := fun k => k = p) (Kept.refl _ _) (fun _ => rfl) _⟩
theorem feed_nil (s : ByteArray) (w : World) : Calls Try.prog 12 #[.pointer none, .string s] w fun e w' => e = .returned (.tuple #[]) ∧ w = w' := by
  go_enter Try.func12, Try.ntmps12
  go_wp2_with fail
  refine (is_nil _).mono ?_
  rintro e w1 ⟨rfl, rfl⟩
  go_wp2
  go_end0
  exact ⟨rfl, rfl⟩
theorem feed_not (p : Nat) (bad : Bool) (rest s : ByteArray) (at' : Int) (w : World) (h : CutAt w p false rest at' bad) :
    Calls Try.prog 12 #[.pointer (some ⟨p, 0, none⟩), .string s] w fun e w' => e = .returned (.tuple #[]) ∧ w = w' := by
  go_enter Try.func12, Try.ntmps12
  go_wp2_with fail
  refine (is_any p false bad rest at' _ h).mono ?_
  rintro e w1 ⟨rfl, rfl⟩
  go_wp2
  go_end0
  exact ⟨rfl, rfl⟩
theorem fed_q (p : Nat) (bad : Bool) (rest : ByteArray) (at' : Int) (w : World) (h : CutAt w p true rest at' bad) (hr : rest.size ≤ 1000000) (ha : 0 ≤ at' ∧ at' ≤ 1000000) :
    Calls Try.prog 15 #[.pointer (some ⟨p, 0, none⟩)] w fun e w' => e = .returned (.int .i64 (at' + rest.size)) ∧ ∃ n, w' = w.drewN n := by
  have c1 := h.c1
  have c2 := h.c2
  obtain ⟨a0, a1⟩ := ha
  have r1 : (rest.size : Int) ≤ 1000000 := by omega
  go_enter Try.func15, Try.ntmps15
  go_wp2_with fail
  refine (is_any p true bad rest at' _ h).mono ?_
  rintro e w1 ⟨rfl, rfl⟩
  go_wp2_with fail
  go_quiet (fail)
  go_wp2_with fail
  go_ret
  have e1 : IntKind.i64.wrap (at' + (rest.size : Int)) = at' + rest.size := IntWalk.i64_in _ (by omega)
  exact ⟨by simp [e1], _, rfl⟩
theorem fed_not (p : Nat) (bad : Bool) (rest : ByteArray) (at' : Int) (w : World) (h : CutAt w p false rest at' bad) :
    Calls Try.prog 15 #[.pointer (some ⟨p, 0, none⟩)] w fun e w' => e = .returned (.int .i64 0) ∧ w = w' := by
  go_enter Try.func15, Try.ntmps15
  go_wp2_with fail
  refine (is_any p false bad rest at' _ h).mono ?_
  rintro e w1 ⟨rfl, rfl⟩
  go_wp2
  go_ret
  exact ⟨rfl, rfl⟩
theorem fed_nil (w : World) : Calls Try.prog 15 #[.pointer none] w fun e w' => e = .returned (.int .i64 0) ∧ w = w' := by
  go_enter Try.func15, Try.ntmps15
  go_wp2_with fail
  refine (is_nil _).mono ?_
  rintro e w1 ⟨rfl, rfl⟩
  go_wp2
  go_ret
  exact ⟨rfl, rfl⟩
end Go.Proofs.Ytkjcpdogibbahaa
