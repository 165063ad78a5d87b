/- The document's memo (umpireref17): contracts. -/
import Derived.Test.YtgpfnlbhclefgaaMa
import Derived.Deep.RegionLaw
namespace Go.Proofs.Ytgpfnlbhclefgaa
open Go.RowKit Go.Um
set_option linter.unusedSimpArgs false
set_option linter.unusedVariables false
set_option maxHeartbeats 4000000
set_option maxRecDepth 100000
def OfPost (S wd : ByteArray) (w : World) (e : Ending) (w' : World) : Prop := e = .returned (.agg #[.string S, .string wd]) ∧ Below w.heap.size w w'
structure RoInv (w : World) (xs : List Int) (k : Nat) (u : Value) (wr : World) : Prop where
  lis : LisAt wr u (lisOf (xs.take k))
  below : Below w.heap.size w wr
  c4 : wr.cell? ⟨w.heap.size, 0, none⟩ = some (.string ⟨#[]⟩)
  c4b : wr.cell? ⟨w.heap.size, 1, none⟩ = some (.string ⟨#[]⟩)
  f4 : wr.frozen? ⟨w.heap.size, 0, none⟩ = false
  f4b : wr.frozen? ⟨w.heap.size, 1, none⟩ = false
theorem rof_any (xs : List Int) (n : Nat) (hn : n = xs.length) (ao : Option Addr) (cap b o : Nat) (S wd : ByteArray) (w : World) (hsl : SlAt w 1 n (xs.map (Value.int .i64)) ao cap b o) (hmax : n ≤ 60000) (hK : keyN (ofN xs) S) :
    Calls Try.prog 12 #[.slice ao n cap, .string wd] w (OfPost S wd w) := by
  have hidx := hsl.idx (P := Try.prog) (t := 35) Try.underlying35 size3i (by decide)
  have HL := Lib.hid hn
  have HS := Lib.hid hsl
  have HK := Lib.hid hK
  clear hn hsl hK
  go_enter Try.func12, Try.ntmps12
  go_wp2_with fail
  have HI0 : Hid (RoInv w xs 0 (.slice none 0 0) (w.alloc (.cells #[.string ⟨#[]⟩, .string ⟨#[]⟩] 39))) := Lib.hid ⟨LisAt.nil _, ba (bz w) _, by simp [go_sem], by simp [go_sem], by simp [go_sem], by simp [go_sem]⟩
  go_loopw [5, 6] (fun t5 t6 wr => ∃ (k : Nat), k ≤ n ∧ t6 = .int .i64 k ∧ Hid (RoInv w xs k t5 wr)) (fun _ t6 _ => n - (intOf t6).toNat)
  case atStart => exact ⟨0, Nat.zero_le _, rfl, HI0⟩
  case round =>
    obtain ⟨k, hk, rfl, HI⟩ := hrel
    clear HI0
    have hlen : (lisOf (xs.take k)).length ≤ 60000 := by
      have h1 := lisOf_len (xs.take k)
      have h2 := List.length_take_le k xs
      omega
    by_cases hlt : k < n
    · obtain ⟨x, hxk⟩ : ∃ x, xs[k]? = some x := ⟨_, List.getElem?_eq_getElem (by rw [← HL.out]; exact hlt)⟩
      have g0 := (HS.out.below HI.out.below).cell k (.int .i64 x) (by simp [hxk])
      have i1 : (0 : Int) ≤ (k : Int) := by omega
      have i2 : (k : Int) < (n : Int) := by omega
      have hof : lisOf (xs.take (k + 1)) = rins (lisOf (xs.take k)) x := by rw [take_snoc xs k x hxk, lisOf_snoc]
      have HC := Lib.hid (rwith_any u5 (lisOf (xs.take k)) x wr HI.out.lis (by omega))
      rw [← hof] at HC
      clear hxk hof hlen
      go_wp2_with fail
      refine HC.out.mono ?_
      rintro e w1 ⟨v, rfl, hlis, hb⟩
      have HI1 : Hid (RoInv w xs (k + 1) v w1) := Lib.hid ⟨hlis, bt HI.out.below hb, kc hb _ _ _ HI.out.c4, kc hb _ _ _ HI.out.c4b, kf hb _ _ (World.block_lt_of_cell? _ _ HI.out.c4) HI.out.f4, kf hb _ _ (World.block_lt_of_cell? _ _ HI.out.c4) HI.out.f4b⟩
      clear hlis hb HC g0
      go_wp2_with fail
      go_roundw
      case rel => exact ⟨k + 1, by omega, by go_num, HI1⟩
      case measure => simp [intOf]; omega
    · have i2 : ¬ (k : Int) < (n : Int) := by omega
      have hkn : n = k := by omega
      subst hkn
      have htk : xs.take n = xs := by rw [HL.out, List.take_length]
      have hlis := HI.out.lis
      rw [htk] at hlis hlen
      have HC := Lib.hid ((rkey_any u5 (lisOf xs) (ofN xs) wr hlis (lisOf_n xs) (by omega)).mono (R' := fun e w' => e = .returned (.string S) ∧ Below wr.heap.size wr w') fun e w' ⟨s, he, hs, hb⟩ => ⟨by rw [he, hs.unique HK.out], hb⟩)
      clear htk hlis hlen
      go_wp2_with fail
      refine HC.out.mono ?_
      rintro e w1 ⟨rfl, hb⟩
      have c4 := kc hb _ _ _ HI.out.c4
      have c4b := kc hb _ _ _ HI.out.c4b
      have f4 := kf hb _ _ (World.block_lt_of_cell? _ _ HI.out.c4) HI.out.f4
      have f4b := kf hb _ _ (World.block_lt_of_cell? _ _ HI.out.c4) HI.out.f4b
      have HB := Lib.hid (bt HI.out.below hb)
      clear hb HC
      go_wp2
      refine bodyPost_ret (v := .agg #[.string S, .string wd]) (by simp [results, Try.results12, go_sem, c4, c4b]) rfl ⟨rfl, ?_⟩
      exact bs (bs HB.out (by simp) _) (by simp) _
def cfgC (k : Cfg) : List Value := [.string k.1, .string k.2]
theorem cfgC_two (k : Cfg) : (cfgC k).length = 2 := rfl
/-- the document's memo at block q -/
structure RmAt (w : World) (q : Nat) (on : Bool) (ks : List Cfg) (vl : Value) (sv : Nat) : Prop where
  c0 : w.cell? ⟨q, 0, none⟩ = some (.bool on)
  c1 : w.cell? ⟨q, 1, none⟩ = some vl
  c2 : w.cell? ⟨q, 2, none⟩ = some (.int .i64 sv)
  f1 : w.frozen? ⟨q, 1, none⟩ = false
  f2 : w.frozen? ⟨q, 2, none⟩ = false
  own : w.ownsRow (q + 1) 39 2 vl ks.length (ks.flatMap cfgC)
theorem RmAt.lt {w : World} {q : Nat} {on : Bool} {ks : List Cfg} {vl : Value} {sv : Nat} (h : RmAt w q on ks vl sv) : q < w.heap.size := World.block_lt_of_cell? w _ h.c0
theorem own_kept2 {S : Nat → Prop} {w w' : World} {base size n : Nat} {e : TypeId} {v : Value} {xs : List Value} (h : w.ownsRow base e size v n xs) (hk : Kept S w w') (hS : ∀ g, v.ownBlock = some g → ¬ S g) : w'.ownsRow base e size v n xs := by
  obtain ⟨h1, h2⟩ := h
  refine ⟨h1, ?_⟩
  rcases h2 with h2 | ⟨g, cap, cur, rfl, hg, hh, r⟩
  · exact .inl h2
  · exact .inr ⟨g, cap, cur, rfl, hg, by rw [hk.block g (Array.getElem?_eq_some_iff.1 hh).1 (hS g (by simp [Value.ownBlock]))]; exact hh, r⟩
theorem RmAt.kept {S : Nat → Prop} {w w' : World} {q : Nat} {on : Bool} {ks : List Cfg} {vl : Value} {sv : Nat} (h : RmAt w q on ks vl sv) (hk : Kept S w w') (hq : ¬ S q) (hb : ∀ g, vl.ownBlock = some g → ¬ S g) : RmAt w' q on ks vl sv :=
  ⟨hk.cell h.c0 hq, hk.cell h.c1 hq, hk.cell h.c2 hq, (hk.frozen h.lt hq).trans h.f1, (hk.frozen h.lt hq).trans h.f2, own_kept2 h.own hk hb⟩
theorem RmAt.below {w w' : World} {q : Nat} {on : Bool} {ks : List Cfg} {vl : Value} {sv : Nat} (h : RmAt w q on ks vl sv) (hb : Below w.heap.size w w') : RmAt w' q on ks vl sv :=
  h.kept (Kept.of_below hb) (by have := h.lt; omega) (fun g e => by have := (h.own.lt g e).2; omega)
theorem size39 : (Try.prog.info? 39).map (·.size) = some 2 := by kernel_rfl
theorem eq39 (a b c d : ByteArray) (W : World) : (binOp .eql 39 (.agg #[.string a, .string b]) (.agg #[.string c, .string d])).run Try.prog W = .ok (.bool (a.toList == c.toList && b.toList == d.toList)) W := by
  by_cases e : a.toList = c.toList
  · simp [go_sem, e]
    by_cases e2 : b.toList = d.toList <;> simp [e2]
  · simp [go_sem, e]
theorem tolist_inj {a b : ByteArray} (h : a.toList = b.toList) : a = b := by
  rw [ByteArray.toList_eq, ByteArray.toList_eq] at h
  exact ByteArray.ext (Array.toList_inj.mp h)
theorem rhasm_any (q : Nat) (on : Bool) (ks : List Cfg) (vl : Value) (sv : Nat) (S wd : ByteArray) (w : World) (h : RmAt w q on ks vl sv) (hlen : ks.length ≤ 100000) (B : Bool) (hB : B = true ↔ (S, wd) ∈ ks) :
    Calls Try.prog 14 #[.pointer (some ⟨q, 0, none⟩), .agg #[.string S, .string wd]] w fun e w' => e = .returned (.bool B) ∧ Below w.heap.size w w' := by
  obtain ⟨ao, cap, b, o, rfl, hs, _⟩ := SlAt.owned h.own
  have hidx := hs.idx (P := Try.prog) (t := 28) (e := 39) Try.underlying28 size39 (by decide)
  obtain ⟨n, hn⟩ : ∃ n, n = ks.length := ⟨_, rfl⟩
  rw [← hn] at hidx hlen hs
  have c1 := h.c1
  rw [← hn] at c1
  have HC1 := Lib.hid c1
  have HL := Lib.hid hn
  have HS := Lib.hid hs
  have HB := Lib.hid hB
  have hql := h.lt
  clear hn hs hB h c1
  go_enter Try.func14, Try.ntmps14
  go_wp2_with fail
  have HW0 : Hid (Below w.heap.size w (w.alloc (.cells #[.string S, .string wd] 39)) ∧ (w.alloc (.cells #[.string S, .string wd] 39)).cell? ⟨w.heap.size, 0, none⟩ = some (.string S) ∧ (w.alloc (.cells #[.string S, .string wd] 39)).cell? ⟨w.heap.size, 1, none⟩ = some (.string wd)) := Lib.hid ⟨ba (bz w) _, by simp [go_sem], by simp [go_sem]⟩
  go_loopw [5] (fun t5 wr => ∃ k : Nat, k ≤ n ∧ t5 = .int .i64 k ∧ Hid (Below w.heap.size w wr ∧ wr.cell? ⟨w.heap.size, 0, none⟩ = some (.string S) ∧ wr.cell? ⟨w.heap.size, 1, none⟩ = some (.string wd)) ∧ Hid (∀ (j : Nat) (x : Cfg), j < k → ks[j]? = some x → x ≠ (S, wd))) (fun t5 _ => n - (intOf t5).toNat)
  case atStart => exact ⟨0, Nat.zero_le _, rfl, HW0, Lib.hid (fun j x h => absurd h (Nat.not_lt_zero _))⟩
  case round =>
    obtain ⟨k, hk, rfl, HW, HN⟩ := hrel
    clear HW0
    have x1 := kc HW.out.1 _ _ _ HC1.out
    by_cases hlt : k < n
    · have i1 : (0 : Int) ≤ (k : Int) := by omega
      have i2 : (k : Int) < (n : Int) := by omega
      obtain ⟨x, hx⟩ : ∃ x, ks[k]? = some x := ⟨_, List.getElem?_eq_getElem (by rw [← HL.out]; exact hlt)⟩
      have SB := HS.out.below HW.out.1
      have g0 := SB.cell (k * 2 + 0) (.string x.1) (by rw [cell_of cfgC_two ks k x hx 0 (by decide)]; rfl)
      have g1 := SB.cell (k * 2 + 1) (.string x.2) (by rw [cell_of cfgC_two ks k x hx 1 (by decide)]; rfl)
      rw [Nat.add_zero] at g0
      rw [← Nat.add_assoc] at g1
      have y0 := HW.out.2.1
      have y1 := HW.out.2.2
      have HX := Lib.hid hx
      clear SB hx
      obtain ⟨xa, xb⟩ := x
      dsimp only at g0 g1
      by_cases e : (xa, xb) = (S, wd)
      · have ea : (xa.toList == S.toList && xb.toList == wd.toList) = true := by
          simp only [Prod.mk.injEq] at e
          simp [e.1, e.2]
        have he := eq39 xa xb S wd
        rw [ea] at he
        have hBt : B = true := HB.out.2 (e ▸ List.mem_of_getElem? HX.out)
        subst hBt
        clear e ea
        go_wp2_with fail
        go_quiet (fail)
        go_wp2
        go_ret
        exact ⟨rfl, by repeat (first | (with_reducible exact HW.out.1) | (with_reducible apply Below.drew) | (with_reducible apply below_drewN))⟩
      · have ea : (xa.toList == S.toList && xb.toList == wd.toList) = false := by
          rw [Bool.eq_false_iff]
          intro h
          simp only [Bool.and_eq_true, beq_iff_eq] at h
          exact e (by rw [Prod.mk.injEq]; exact ⟨tolist_inj h.1, tolist_inj h.2⟩)
        have he := eq39 xa xb S wd
        rw [ea] at he
        have HE := Lib.hid e
        clear e ea
        go_wp2_with fail
        go_quiet (fail)
        go_wp2_with fail
        go_roundw
        case rel => exact ⟨k + 1, by omega, by go_num, Lib.hid ⟨below_drewN HW.out.1 _, y0, y1⟩, Lib.hid (fun j y hj hy => by
          by_cases h : j < k
          · exact HN.out j y h hy
          · have : j = k := by omega
            subst this
            rw [HX.out] at hy
            cases hy
            exact HE.out)⟩
        case measure => simp [intOf]; omega
    · have i2 : ¬ (k : Int) < (n : Int) := by omega
      have hBf : B = false := by
        cases hb : B
        · rfl
        · obtain ⟨j, hj⟩ := List.getElem?_of_mem (HB.out.1 hb)
          exact absurd rfl (HN.out j _ (by have := (List.getElem?_eq_some_iff.1 hj).1; have := HL.out; omega) hj)
      subst hBf
      go_wp2
      go_ret
      exact ⟨rfl, HW.out.1⟩
end Go.Proofs.Ytgpfnlbhclefgaa
