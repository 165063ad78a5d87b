/- The document's table: Copy. -/
import Derived.Test.YtjmanajbdkbkdaaTri
namespace Go.Um
open Go.RowKit
theorem step_append_slat {P : Program} {w : World} {ops : Array Oper} {o : Oper} {a : Act} {K : Act → World → Prop} {Q : Exit → Act → World → Prop} {E : Prop} (hgd : o.guard = none) (s x : Operand) (t : TypeId)
    (ho : o.op = .call { callee := .builtin .append, args := #[s, x], argTypes := #[t, t] })
    (base : Nat) (e : TypeId) (i : TypeInfo) (z : Value) (size bytes : Nat) (ht : P.underlying t = some (.slice e)) (hi : P.info? e = some i) (hz : i.zero = some z)
    (hsize : i.size = size) (hby : i.bytes = bytes) (hzs : z.cells.size = size) (hsz : 0 < size)
    (v : Value) (n : Nat) (xs : List Value) (hs : a.eval s = v) (hown : w.ownsRow base e size v n xs)
    (ao : Option Addr) (m c b' o' : Nat) (news : List Value) (hx : a.eval x = .slice ao m c) (hsl : SlAt w size m news ao c b' o') (h1 : ∀ u ∈ news, u.oneCell' = true)
    (h63 : n + m ≤ maxLen) (hbytes : (n + m) * bytes ≤ 140737488355328) (hbase : base ≤ w.heap.size)
    (h : ∀ v' w', w'.ownsRow base e size v' (n + m) (xs ++ news) → w.grownBy w' v.ownBlock → (v'.ownBlock = v.ownBlock ∨ v'.ownBlock = some w.heap.size) → K (a.put o.dst v') w') :
    if Region.wanted o (yielded ops a.tmps) = true then Oper.wp P o a w K Q else E := by
  have hw : Region.wanted o (yielded ops a.tmps) = true := by simp [Region.wanted, hgd]
  rw [if_pos hw]
  obtain ⟨v', w', hr, h2, h3, h4⟩ := run_append_slat (P := P) (w := w) base t o.type e i z size bytes ht hi hz hsize hby hzs hsz v n xs hown ao m c b' o' news hsl h1 h63 hbytes hbase
  unfold Oper.wp execOp
  simp only [ho, resolve, invoke, builtin, Sem.run_bind, Sem.run_pure, Result.andThen_ok, List.map_toArray, List.map_cons, List.map_nil, hs, hx, hr]
  exact h v' w' h2 h3 h4
end Go.Um
namespace Go.Proofs.Ytjmanajbdkbkdaa
open Go.RowKit Go.Um
set_option linter.unusedSimpArgs false
set_option linter.unusedVariables false
set_option maxHeartbeats 4000000
set_option maxRecDepth 100000
theorem rows_one' {L : List Rw} : ∀ u ∈ L.flatMap Rw.cells, u.oneCell' = true := by
  intro u hu
  obtain ⟨x, _, hx⟩ := List.mem_flatMap.1 hu
  exact x.one u hx
/-- a copy has the same rows, laid anew -/
theorem rcopy_any {base : Nat} {w : World} {p : Nat} {v : Value} {L : List Rw} {nx : Int} (h : RTab base w p v L nx) (hlen : L.length ≤ 1000) :
    Calls Try.prog 19 #[.pointer (some ⟨p, 0, none⟩)] w fun e w' => ∃ p' v', e = .returned (.pointer (some ⟨p', 0, none⟩)) ∧ w.heap.size ≤ p' ∧ RTab w.heap.size w' p' v' L nx ∧ Below w.heap.size w w' := by
  obtain ⟨ao, cap, b, o, rfl, hs⟩ := h.slat
  obtain ⟨j0, hj, jz0, jz1, jz2⟩ := info_parts info54
  have c0 := h.c0
  have c1 := h.c1
  have hpl := h.lt
  have HS := Lib.hid hs
  have HL := Lib.hid (show ∀ u ∈ L.flatMap Rw.cells, u.oneCell' = true from rows_one')
  have HLE := Lib.hid (length_flat Rw.twelve L)
  obtain ⟨n, hn⟩ : ∃ n, n = L.length := ⟨_, rfl⟩
  rw [← hn] at c0 HS hlen
  have HN := Lib.hid hn
  clear h hs hn
  go_enter Try.func19, Try.ntmps19
  go_wp2_with fail
  go_region_law ((refine step_append_slat rfl (.tmp 14) (.tmp 18) 58 rfl w.heap.size 54 j0 Rw.zero.val 12 40 Try.underlying58 hj jz0 jz1 jz2 rfl (by decide) (.slice none 0 0) 0 [] (by simp [Act.eval, Act.put]) (World.ownsRow_nil _ _ _ _) ao n cap b o (L.flatMap Rw.cells) (by simp [Act.eval, Act.put]) (HS.out.below (by repeat (first | (with_reducible exact bz w) | (with_reducible apply ba) | (with_reducible apply Below.drew)))) HL.out (by unfold maxLen; omega) (by omega) (by simp) ?_; intro v3 w3 hown3 hgrow3 hat3; rw [Nat.zero_add, List.nil_append] at hown3; obtain ⟨ao3, cap3, b3, o3, rfl, -, -⟩ := SlAt.owned hown3; have k0 : w3.cell? ⟨w.heap.size, 0, none⟩ = some (.slice none 0 0) := (hgrow3.cell (a := ⟨w.heap.size, 0, none⟩) (by simp [go_sem]) (by simp [Value.ownBlock])); have k1 : w3.cell? ⟨w.heap.size, 1, none⟩ = some (.int .i64 (nx - 1)) := (hgrow3.cell (a := ⟨w.heap.size, 1, none⟩) (by simp [go_sem]) (by simp [Value.ownBlock])); have e0 : w3.frozen? ⟨w.heap.size, 0, none⟩ = false := (hgrow3.frozen_far ⟨w.heap.size, 0, none⟩ (by simp) (by simp [Value.ownBlock])).trans (by simp [go_sem]); have e1 : w3.frozen? ⟨w.heap.size, 1, none⟩ = false := (hgrow3.frozen_far ⟨w.heap.size, 1, none⟩ (by simp) (by simp [Value.ownBlock])).trans (by simp [go_sem]); have HO3 := Lib.hid hown3; have HG3 := Lib.hid hgrow3; have HA3 := Lib.hid hat3; clear hown3 hgrow3 hat3))
  all_goals go_wp2
  all_goals go_ret
  all_goals
    have hne : (Value.slice ao3 n cap3).ownBlock ≠ some w.heap.size := by
      rcases HA3.out with h | h
      · rw [h]; simp [Value.ownBlock]
      · rw [h]; simp
    refine ⟨w.heap.size, .slice ao3 n cap3, rfl, Nat.le_refl _, ⟨World.cell?_setCell_same _ _ _ k0, ?_, ?_, ?_, ?_, hne⟩, ?_⟩
    · rw [World.frozen?_setCell]; exact e0
    · rw [World.cell?_setCell_other _ _ _ _ (by simp)]; exact k1
    · rw [World.frozen?_setCell]; exact e1
    · rw [← HN.out]; exact own_setCell HO3.out hne _
    · exact bs ((Below.drew (ba (bz w) _)).grown HG3.out (by simp) (fun k e => by cases e)) (Nat.le_refl _) _
end Go.Proofs.Ytjmanajbdkbkdaa
