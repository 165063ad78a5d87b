/- The document's table: New, may, at, Before. -/
import Derived.Test.YtjmanajbdkbkdaaTe
namespace Go.Proofs.Ytjmanajbdkbkdaa
open Go.RowKit Go.Um
set_option linter.unusedSimpArgs false
set_option linter.unusedVariables false
set_option maxHeartbeats 4000000
set_option maxRecDepth 100000
theorem size54 : (Try.prog.info? 54).map (·.size) = some 12 := by kernel_rfl
theorem info54 : (Try.prog.info? 54).map (fun i => (i.zero, i.size, i.bytes)) = some (some Rw.zero.val, 12, 40) := by kernel_rfl
/-- the document's table; nx is the moment behind its last one -/
structure RTab (base : Nat) (w : World) (q : Nat) (v : Value) (L : List Rw) (nx : Int) : Prop where
  c0 : w.cell? ⟨q, 0, none⟩ = some v
  f0 : w.frozen? ⟨q, 0, none⟩ = false
  c1 : w.cell? ⟨q, 1, none⟩ = some (.int .i64 (nx - 1))
  f1 : w.frozen? ⟨q, 1, none⟩ = false
  own : w.ownsRow base 54 12 v L.length (L.flatMap Rw.cells)
  ne : v.ownBlock ≠ some q
theorem RTab.lt {base : Nat} {w : World} {q : Nat} {v : Value} {L : List Rw} {nx : Int} (h : RTab base w q v L nx) : q < w.heap.size := World.block_lt_of_cell? w _ h.c0
theorem RTab.below {base : Nat} {w W : World} {q : Nat} {v : Value} {L : List Rw} {nx : Int} (h : RTab base w q v L nx) (hb : Below w.heap.size w W) : RTab base W q v L nx :=
  ⟨kc hb _ _ _ h.c0, kf hb _ _ h.lt h.f0, kc hb _ _ _ h.c1, kf hb _ _ h.lt h.f1, own_past h.own hb, h.ne⟩
theorem RTab.slat {base : Nat} {w : World} {q : Nat} {v : Value} {L : List Rw} {nx : Int} (h : RTab base w q v L nx) : ∃ ao cap b o, v = .slice ao L.length cap ∧ SlAt w 12 L.length (L.flatMap Rw.cells) ao cap b o := by
  obtain ⟨ao, cap, b, o, e, hs, _⟩ := SlAt.owned h.own
  exact ⟨ao, cap, b, o, e, hs⟩
theorem rnew_any (base : Nat) (w : World) (hb : base ≤ w.heap.size) : Calls Try.prog 17 #[] w fun e w' => e = .returned (.pointer (some ⟨w.heap.size, 0, none⟩)) ∧ RTab base w' w.heap.size (.slice none 0 0) [] 0 ∧ Below w.heap.size w w' := by
  go_enter Try.func17, Try.ntmps17
  go_wp2
  go_ret
  exact ⟨rfl, ⟨by simp [go_sem], by simp [go_sem], by simp [go_sem], by simp [go_sem], World.ownsRow_nil _ _ _ _, by simp [Value.ownBlock]⟩, ba (bz w) _⟩
theorem rmay_any {base : Nat} {w : World} {q : Nat} {v : Value} {L : List Rw} {nx : Int} (a : Int) (h : RTab base w q v L nx) (hn : 0 ≤ nx) :
    Calls Try.prog 46 #[.pointer (some ⟨q, 0, none⟩), .int .i64 a] w fun e w' => e = .returned (.bool (decide (moE nx a = 0))) ∧ w = w' := by
  have c1 := h.c1
  clear h
  obtain ⟨B, hB⟩ : ∃ B, B = decide (moE nx a = 0) := ⟨_, rfl⟩
  have hmo : moE nx a = 0 ↔ ¬ (a < nx ∨ 2305843009213693952 < a) := by unfold moE; split <;> simp_all
  by_cases h0 : 0 ≤ a
  · have d0 : decide (0 ≤ a) = true := decide_eq_true h0
    by_cases h1 : a ≤ 2305843009213693952
    · have d1 : decide (a ≤ 2305843009213693952) = true := decide_eq_true h1
      by_cases h2 : nx - 1 < a
      · have d2 : decide (nx - 1 < a) = true := decide_eq_true h2
        have e : decide (moE nx a = 0) = true := decide_eq_true (hmo.2 (by omega))
        rw [e]
        clear hB hmo e
        go_enter Try.func46, Try.ntmps46
        go_wp2
        go_ret
        exact ⟨rfl, rfl⟩
      · have d2 : decide (nx - 1 < a) = false := decide_eq_false h2
        have e : decide (moE nx a = 0) = false := decide_eq_false (fun hc => by have := hmo.1 hc; omega)
        rw [e]
        clear hB hmo e
        go_enter Try.func46, Try.ntmps46
        go_wp2
        go_ret
        exact ⟨rfl, rfl⟩
    · have d1 : decide (a ≤ 2305843009213693952) = false := decide_eq_false h1
      have e : decide (moE nx a = 0) = false := decide_eq_false (fun hc => by have := hmo.1 hc; omega)
      rw [e]
      clear hB hmo e
      go_enter Try.func46, Try.ntmps46
      go_wp2
      go_ret
      exact ⟨rfl, rfl⟩
  · have d0 : decide (0 ≤ a) = false := decide_eq_false h0
    have e : decide (moE nx a = 0) = false := decide_eq_false (fun hc => by have := hmo.1 hc; omega)
    rw [e]
    clear hB hmo e
    go_enter Try.func46, Try.ntmps46
    go_wp2
    go_ret
    exact ⟨rfl, rfl⟩
theorem rat_any {base : Nat} {w : World} {q : Nat} {v : Value} {L : List Rw} {nx : Int} (id : Int) (h : RTab base w q v L nx) (hlen : L.length ≤ 1000) :
    Calls Try.prog 42 #[.pointer (some ⟨q, 0, none⟩), .int .u16 id] w fun e w' => e = .returned (.int .i64 (ixF L id)) ∧ w = w' := by
  obtain ⟨ao, cap, b, o, rfl, hs⟩ := h.slat
  have c0 := h.c0
  have hidx := hs.idx (P := Try.prog) (t := 58) (e := 54) (by kernel_rfl) size54 (by decide)
  obtain ⟨n, hn⟩ : ∃ n, n = L.length := ⟨_, rfl⟩
  rw [← hn] at hidx hlen c0
  have HS := Lib.hid hs
  have HN := Lib.hid hn
  obtain ⟨R, hR⟩ : ∃ R, R = ixF L id := ⟨_, rfl⟩
  rw [← hR]
  have HR := Lib.hid hR
  clear h hs hn hR
  go_enter Try.func42, Try.ntmps42
  go_wp2_with fail
  go_loop [5] (fun t5 => ∃ i : Nat, i ≤ n ∧ t5 = .int .i64 i ∧ Hid (∀ y ∈ L.take i, y.id ≠ id)) (fun t5 => n - (intOf t5).toNat)
  case atStart => exact ⟨0, Nat.zero_le _, rfl, Lib.hid (by simp)⟩
  case round =>
    obtain ⟨i, hi, rfl, hno⟩ := hrel
    by_cases hlt : i < n
    · have i1 : (0 : Int) ≤ (i : Int) := by omega
      have i2 : (i : Int) < (n : Int) := by omega
      have i3 : decide ((i : Int) < (n : Int)) = true := decide_eq_true i2
      obtain ⟨x, hx⟩ : ∃ x, L[i]? = some x := ⟨_, List.getElem?_eq_getElem (by rw [← HN.out]; exact hlt)⟩
      have g1 := (row_at HS.out hx).c1
      have HX := Lib.hid hx
      clear hx
      by_cases he : x.id = id
      · have t1 : (x.id == id) = true := by simpa using he
        have HE := Lib.hid he
        clear he
        go_wp2
        go_ret
        exact ⟨by rw [HR.out, ixF_hit HX.out HE.out hno.out]; rfl, rfl⟩
      · have t1 : (x.id == id) = false := by simpa using he
        have HE := Lib.hid he
        clear he
        go_wp2_with fail
        go_round
        case rel =>
          refine ⟨i + 1, by omega, by go_num, Lib.hid ?_⟩
          rw [take_snoc HX.out]
          intro y hy
          rcases List.mem_append.1 hy with hy | hy
          · exact hno.out y hy
          · rw [List.mem_singleton.1 hy]; exact HE.out
        case measure => simp [intOf]; omega
    · have i2 : ¬ (i : Int) < (n : Int) := by omega
      have i3 : decide ((i : Int) < (n : Int)) = false := decide_eq_false i2
      have HI := Lib.hid (show i = n by omega)
      go_wp2
      go_ret
      have h1 := hno.out
      rw [HI.out, HN.out, List.take_length] at h1
      exact ⟨by rw [HR.out, ixF_none h1]; rfl, rfl⟩
end Go.Proofs.Ytjmanajbdkbkdaa
