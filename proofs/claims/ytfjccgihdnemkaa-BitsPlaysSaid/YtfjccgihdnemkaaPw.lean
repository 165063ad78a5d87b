/- umpirelaw15's BitsPlays: the walk. Printed from Pw.tmpl by gen_bs.py and gen_pw.py. -/
import Derived.Test.YtfjccgihdnemkaaPli
import Derived.Deep.DeepCutAuto
namespace Go.Proofs.Ytfjccgihdnemkaa
open Go.RowKit Go.Um
set_option linter.unusedSimpArgs false
set_option linter.unusedVariables false
set_option maxHeartbeats 8000000
set_option maxRecDepth 100000
theorem info27s : (Try.prog.info? 27).map (fun i => (i.zero, i.size, i.bytes)) = some (some (.agg #[.slice none 0 0]), 1, 24) := by kernel_rfl
theorem info22s : (Try.prog.info? 22).map (fun i => (i.zero, i.size, i.bytes)) = some (some (.slice none 0 0), 1, 24) := by kernel_rfl
theorem size27s : (Try.prog.info? 27).map (·.size) = some 1 := by kernel_rfl
theorem size22s : (Try.prog.info? 22).map (·.size) = some 1 := by kernel_rfl
theorem idx_raw {t e : TypeId} (ht : Try.prog.underlying t = some (.slice e)) (hs : (Try.prog.info? e).map (·.size) = some 1) (g n p : Nat) :
    ∀ (i : Int), 0 ≤ i → i < n → ∀ w, (Instr.indexAt t (.slice (some ⟨g, 0, none⟩) n p) (.int .i64 i)).run Try.prog w = .ok (.pointer (some ⟨g, i.toNat, none⟩)) w := by
  intro i h0 h1 w
  obtain ⟨ti, hi, hti⟩ := Option.map_eq_some_iff.1 hs
  have he : Try.prog.elem t = e := by simp [Program.elem, ht]
  rw [run_indexAt_slice (h := by rw [he]; exact ht), if_pos ⟨h0, h1⟩, he]
  simp [sizeOf, typeInfo, hi, hti, Result.andThen, Addr.add_lit]
theorem idx_one {t : TypeId} {g n p k : Nat} (h : ∀ (i : Int), 0 ≤ i → i < n → ∀ w, (Instr.indexAt t (.slice (some ⟨g, 0, none⟩) n p) (.int .i64 i)).run Try.prog w = .ok (.pointer (some ⟨g, i.toNat, none⟩)) w)
    (i1 : (0 : Int) ≤ (k : Int)) (i2 : (k : Int) < (n : Int)) {w : World} {ev : Operand → Value} {x y : Operand} (hx : ev x = .slice (some ⟨g, 0, none⟩) n p) (hy : ev y = .int .i64 k) {d : Option Tmp} {ty : TypeId} {ps : String} {af : Array Edge} {gg : Option (Nat × Bool)} :
    (execOp ev { dst := d, op := .indexAddr t x y, type := ty, pos := ps, after := af, guard := gg }).run Try.prog w = .ok (.value (.pointer (some ⟨g, k, none⟩))) w := by
  have h' := h k i1 i2 w
  rw [Int.toNat_natCast] at h'
  simp [execOp, hx, hy, go_sem, h']
theorem idx_act {n cap b o k : Nat} {ao : Option Addr} (h : ∀ (i : Int), 0 ≤ i → i < n → ∀ w, (Instr.indexAt 45 (.slice ao n cap) (.int .i64 i)).run Try.prog w = .ok (.pointer (some ⟨b, o + i.toNat * 3, none⟩)) w)
    (i1 : (0 : Int) ≤ (k : Int)) (i2 : (k : Int) < (n : Int)) {w : World} {ev : Operand → Value} {x y : Operand} (hx : ev x = .slice ao n cap) (hy : ev y = .int .i64 k) {d : Option Tmp} {ty : TypeId} {ps : String} {af : Array Edge} {g : Option (Nat × Bool)} :
    (execOp ev { dst := d, op := .indexAddr 45 x y, type := ty, pos := ps, after := af, guard := g }).run Try.prog w = .ok (.value (.pointer (some ⟨b, o + k * 3, none⟩))) w := by
  have h' := h k i1 i2 w
  rw [Int.toNat_natCast] at h'
  simp [execOp, hx, hy, go_sem, h']
theorem load_set {w : World} {b a : Nat} {u : Value} (h0 : w.cell? ⟨b, a, none⟩ = some u) {ev : Operand → Value} {x : Operand} (hx : ev x = .pointer (some ⟨b, a, none⟩)) {d : Option Tmp} {ty : TypeId} {ps : String} {af : Array Edge} {g : Option (Nat × Bool)} :
    (execOp ev { dst := d, op := .load 27 x, type := ty, pos := ps, after := af, guard := g }).run Try.prog w = .ok (.value (.agg #[u])) w := by
  simp [execOp, hx, go_sem, h0]
theorem load_lis {w : World} {b a : Nat} {u : Value} (h0 : w.cell? ⟨b, a, none⟩ = some u) {ev : Operand → Value} {x : Operand} (hx : ev x = .pointer (some ⟨b, a, none⟩)) {d : Option Tmp} {ty : TypeId} {ps : String} {af : Array Edge} {g : Option (Nat × Bool)} :
    (execOp ev { dst := d, op := .load 22 x, type := ty, pos := ps, after := af, guard := g }).run Try.prog w = .ok (.value u) w := by
  simp [execOp, hx, go_sem, h0]
theorem load_one3 {w : World} {b a : Nat} {u : Value} (h0 : w.cell? ⟨b, a, none⟩ = some u) {ev : Operand → Value} {x : Operand} (hx : ev x = .pointer (some ⟨b, a, none⟩)) {d : Option Tmp} {ty : TypeId} {ps : String} {af : Array Edge} {g : Option (Nat × Bool)} :
    (execOp ev { dst := d, op := .load 3 x, type := ty, pos := ps, after := af, guard := g }).run Try.prog w = .ok (.value u) w := by
  simp [execOp, hx, go_sem, h0]
theorem load_act {w : World} {b a : Nat} {u0 u1 u2 : Value} (h0 : w.cell? ⟨b, a, none⟩ = some u0) (h1 : w.cell? ⟨b, a + 1, none⟩ = some u1) (h2 : w.cell? ⟨b, a + 2, none⟩ = some u2) {ev : Operand → Value} {x : Operand} (hx : ev x = .pointer (some ⟨b, a, none⟩)) {d : Option Tmp} {ty : TypeId} {ps : String} {af : Array Edge} {g : Option (Nat × Bool)} :
    (execOp ev { dst := d, op := .load 52 x, type := ty, pos := ps, after := af, guard := g }).run Try.prog w = .ok (.value (.agg #[u0, u1, u2])) w := by
  simp [execOp, hx, go_sem, h0, h1, h2]
theorem oplays_any (l : List Act3) (n : Nat) (hn : n = l.length) (ao : Option Addr) (cap b o : Nat) (w : World) (hs : SlAt w 3 n (l.flatMap Act3.cells) ao cap b o) (hx : ∀ x ∈ l, x.ok w) :
    Calls Try.prog 5 #[.slice ao n cap] w fun e w' => e = .returned (.bool true) ∧ Below w.heap.size w w' := by
  have hidx := hs.idx (P := Try.prog) (t := 45) (e := 52) (by kernel_rfl) size52 (by decide)
  obtain ⟨j3, hj3, jz30, jz31, jz32⟩ := info_parts info27s
  obtain ⟨j4, hj4, jz40, jz41, jz42⟩ := info_parts info22s
  have HJ := Lib.hid (And.intro hj3 (And.intro jz30 (And.intro jz31 (And.intro jz32 (And.intro hj4 (And.intro jz40 (And.intro jz41 jz42)))))))
  clear hj3 jz30 jz31 jz32 hj4 jz40 jz41 jz42
  have HF := Lib.hid (few_any l n hn ao cap b o w hs)
  have HS := Lib.hid hs
  have HX := Lib.hid hx
  have HL := Lib.hid hn
  have HA := Lib.hid (awake_any w)
  clear hs hx hn
  go_enter Try.func5, Try.ntmps5
  go_wp2_with fail
  refine HF.out.mono ?_
  rintro e w1 ⟨B, rfl, rfl, hB⟩
  cases B
  · go_wp2_with fail
    refine HA.out.mono ?_
    rintro e w1 ⟨rfl, hb⟩
    have HB1 := Lib.hid hb
    clear hb
    go_wp2
    go_ret
    exact ⟨rfl, HB1.out⟩
  · obtain ⟨h40, hall⟩ := hB rfl
    have HALL := Lib.hid hall
    have hn40 : n ≤ 40 := by have := HL.out; omega
    clear hB hall HA h40
    go_wp2_with fail
    have HI0 := Lib.hid (PlI.first w l)
    go_loopw [3, 4, 5] (fun t3 t4 t5 wr => ∃ i : Nat, i ≤ n ∧ t5 = .int .i64 i ∧ Hid (∃ cs3 cs4, PlI w l i i t3 t4 cs3 cs4 wr)) (fun _ _ t5 _ => n - (intOf t5).toNat)
    case atStart => exact ⟨0, Nat.zero_le _, rfl, Lib.hid ⟨_, _, HI0.out⟩⟩
    case round =>
      obtain ⟨i, hi, rfl, hI⟩ := hrel
      obtain ⟨cs3, cs4, hI2⟩ := hI.out
      obtain ⟨g3, p3, rfl, hge3, hg3⟩ := own_some hI2.own3
      obtain ⟨g4, p4, rfl, hge4, hg4⟩ := own_some hI2.own4
      have HI := Lib.hid hI2
      clear hI hI2 HI0 hge3 hge4
      have HSL : Hid (∀ k, k ≤ n → LisN (stL l k) (stN l k) ∧ (stL l k).length ≤ 41 * k) := Lib.hid (fun k hk => ⟨st_lis l k (by rw [← HL.out]; exact hk), st_len l HALL.out k (by rw [← HL.out]; exact hk)⟩)
      have i1 : (0 : Int) ≤ (i : Int) := by omega
      have i3 : (i : Int) < ((i + 1 : Nat) : Int) := by omega
      have hidx3 := idx_raw (t := 47) (by kernel_rfl) size27s g3 (i + 1) p3
      have hidx4 := idx_raw (t := 48) (by kernel_rfl) size22s g4 (i + 1) p4
      by_cases hlt : i < n
      · have i2 : (i : Int) < (n : Int) := by omega
        obtain ⟨x, hxk⟩ : ∃ x, l[i]? = some x := ⟨_, List.getElem?_eq_getElem (by rw [← HL.out]; exact hlt)⟩
        have SB := HS.out.below HI.out.below
        have g0 := SB.cell (i * 3 + 0) (.int .u8 x.what) (by rw [cell_of Act3.three l i x hxk 0 (by decide)]; rfl)
        have g1 := SB.cell (i * 3 + 1) (.int .i64 x.n) (by rw [cell_of Act3.three l i x hxk 1 (by decide)]; rfl)
        have g2 := SB.cell (i * 3 + 2) (.slice x.ao x.l.length x.cap) (by rw [cell_of Act3.three l i x hxk 2 (by decide)]; rfl)
        rw [Nat.add_zero] at g0
        rw [← Nat.add_assoc] at g1 g2
        have CA := Lib.hid (fun W (h : Below wr.heap.size wr W) => And.intro (cell_past_g h g0) (And.intro (cell_past_g h g1) (cell_past_g h g2)))
        obtain ⟨ao3, m3, q3, hc3, hs3⟩ := HI.out.cell3 rfl (Nat.le_refl i)
        obtain ⟨ao4, m4, q4, hc4, hs4⟩ := HI.out.cell4 rfl (Nat.le_refl i)
        have C3 := Lib.hid (fun W (h : Below wr.heap.size wr W) => cell_past_g h hc3)
        have C4 := Lib.hid (fun W (h : Below wr.heap.size wr W) => cell_past_g h hc4)
        have hok := act_below (HX.out x (List.mem_of_getElem? hxk)) HI.out.below
        have HMD : Hid (∀ W, Below wr.heap.size wr W → Calls Try.prog 20 #[.agg #[.slice ao3 m3 q3], .slice ao4 m4 q4, .agg #[.int .u8 x.what, .int .i64 x.n, .slice x.ao x.l.length x.cap]] W fun e W' => ∃ v u, e = .returned (.tuple #[v, u]) ∧ SetAt W' v (stN l (i + 1)) ∧ LisAt W' u (stL l (i + 1)) ∧ Below W.heap.size W W') := Lib.hid (fun W hW => by
          rw [stN_succ hxk, stL_succ hxk]
          exact made_any _ _ (stN l i) (stL l i) x W (hs3.below hW) (hs4.below hW) (HSL.out i hi).1 (by have := (HSL.out i hi).2; omega) (act_below hok hW) (HALL.out i x hxk))
        have HXK := Lib.hid hxk
        clear SB hxk g0 g1 g2 hc3 hs3 hc4 hs4 hok
        go_upto_region 8 with fail
        go_cut [6, 7] (fun t6 t7 wx => ∃ (c6 : Nat) (ao6 : Option Addr) (m6 cap6 : Nat), t6 = .pointer (some ⟨c6, 0, none⟩) ∧ Hid (PlC wr c6 (.slice ao6 m6 cap6) t7 (stN l (i + 1)) (stL l (i + 1)) wx))
        case first =>
          refine wp_region_held_drew (S := (fun W => Below wr.heap.size wr W)) (by kernel_rfl) (by exact (bz wr).drew) (fun hHeld => ?_)
          refine takeD (i := 0) (v := ?zvq80) (some 23) rfl rfl (by kernel_rfl) (by kernel_rfl) (by kernel_rfl) (fun _ _ _ h => h) (Or.inl ⟨by rfl, ?zyq80⟩) (by assumption) ?zrq80
          case zyq80 => (intro w hSw; clear hSw; go_simp; try with_reducible rfl)
          try simp only [Act.put, List.setIfInBounds_toArray, List.set_cons_zero, List.set_cons_succ]
          refine takeD (i := 1) (v := ?zvq81) (some 24) rfl rfl (by kernel_rfl) (by kernel_rfl) (by kernel_rfl) (fun _ _ _ h => h) (Or.inl ⟨by rfl, ?zyq81⟩) (by assumption) ?zrq81
          case zyq81 => (intro w hSw; clear hSw; go_simp; try with_reducible rfl)
          try simp only [Act.put, List.setIfInBounds_toArray, List.set_cons_zero, List.set_cons_succ]
          refine takeD (i := 2) (v := ?zvq82) (some 25) rfl rfl (by kernel_rfl) (by kernel_rfl) (by kernel_rfl) (fun _ _ _ h => h) (Or.inl ⟨by rfl, ?zyq82⟩) (by assumption) ?zrq82
          case zyq82 => (intro w hSw; refine idx_one hidx3 i1 i3 ?_ ?_ <;> rfl)
          try simp only [Act.put, List.setIfInBounds_toArray, List.set_cons_zero, List.set_cons_succ]
          refine takeD (i := 3) (v := ?zvq83) (some 26) rfl rfl (by kernel_rfl) (by kernel_rfl) (by kernel_rfl) (fun _ _ _ h => h) (Or.inl ⟨by rfl, ?zyq83⟩) (by assumption) ?zrq83
          case zyq83 => (intro w hSw; refine load_set (C3.out w hSw) ?_; rfl)
          try simp only [Act.put, List.setIfInBounds_toArray, List.set_cons_zero, List.set_cons_succ]
          refine takeD (i := 4) (v := ?zvq84) (some 27) rfl rfl (by kernel_rfl) (by kernel_rfl) (by kernel_rfl) (fun _ _ _ h => h) (Or.inl ⟨by rfl, ?zyq84⟩) (by assumption) ?zrq84
          case zyq84 => (intro w hSw; clear hSw; go_simp; try with_reducible rfl)
          try simp only [Act.put, List.setIfInBounds_toArray, List.set_cons_zero, List.set_cons_succ]
          refine takeD (i := 5) (v := ?zvq85) (some 28) rfl rfl (by kernel_rfl) (by kernel_rfl) (by kernel_rfl) (fun _ _ _ h => h) (Or.inl ⟨by rfl, ?zyq85⟩) (by assumption) ?zrq85
          case zyq85 => (intro w hSw; clear hSw; go_simp; try with_reducible rfl)
          try simp only [Act.put, List.setIfInBounds_toArray, List.set_cons_zero, List.set_cons_succ]
          refine takeD (i := 6) (v := ?zvq86) (some 29) rfl rfl (by kernel_rfl) (by kernel_rfl) (by kernel_rfl) (fun _ _ _ h => h) (Or.inl ⟨by rfl, ?zyq86⟩) (by assumption) ?zrq86
          case zyq86 => (intro w hSw; refine idx_one hidx4 i1 i3 ?_ ?_ <;> rfl)
          try simp only [Act.put, List.setIfInBounds_toArray, List.set_cons_zero, List.set_cons_succ]
          refine takeD (i := 7) (v := ?zvq87) (some 30) rfl rfl (by kernel_rfl) (by kernel_rfl) (by kernel_rfl) (fun _ _ _ h => h) (Or.inl ⟨by rfl, ?zyq87⟩) (by assumption) ?zrq87
          case zyq87 => (intro w hSw; refine load_lis (C4.out w hSw) ?_; rfl)
          try simp only [Act.put, List.setIfInBounds_toArray, List.set_cons_zero, List.set_cons_succ]
          refine takeD (i := 8) (v := ?zvq88) (some 31) rfl rfl (by kernel_rfl) (by kernel_rfl) (by kernel_rfl) (fun _ _ _ h => h) (Or.inl ⟨by rfl, ?zyq88⟩) (by assumption) ?zrq88
          case zyq88 => (intro w hSw; clear hSw; go_simp; try with_reducible rfl)
          try simp only [Act.put, List.setIfInBounds_toArray, List.set_cons_zero, List.set_cons_succ]
          refine takeD (i := 9) (v := ?zvq89) (some 32) rfl rfl (by kernel_rfl) (by kernel_rfl) (by kernel_rfl) (fun _ _ _ h => h) (Or.inl ⟨by rfl, ?zyq89⟩) (by assumption) ?zrq89
          case zyq89 => (intro w hSw; clear hSw; go_simp; try with_reducible rfl)
          try simp only [Act.put, List.setIfInBounds_toArray, List.set_cons_zero, List.set_cons_succ]
          refine takeD (i := 10) (v := ?zvq810) (some 33) rfl rfl (by kernel_rfl) (by kernel_rfl) (by kernel_rfl) (fun _ _ _ h => h) (Or.inl ⟨by rfl, ?zyq810⟩) (by assumption) ?zrq810
          case zyq810 => (intro w hSw; refine idx_act hidx i1 i2 ?_ ?_ <;> rfl)
          try simp only [Act.put, List.setIfInBounds_toArray, List.set_cons_zero, List.set_cons_succ]
          refine takeD (i := 11) (v := ?zvq811) (some 34) rfl rfl (by kernel_rfl) (by kernel_rfl) (by kernel_rfl) (fun _ _ _ h => h) (Or.inl ⟨by rfl, ?zyq811⟩) (by assumption) ?zrq811
          case zyq811 => (intro w hSw; refine load_act (CA.out w hSw).1 (CA.out w hSw).2.1 (CA.out w hSw).2.2 ?_; rfl)
          try simp only [Act.put, List.setIfInBounds_toArray, List.set_cons_zero, List.set_cons_succ]
          have hbc : Below wr.heap.size wr wr.drew := (bz wr).drew
          generalize wr.drew = W0 at *
          refine wpAnyH_ready (rs := [12, 16]) (by kernel_rfl) (by simp) ?_
          refine AllReadyH.cons rfl (fun K hK => ?t1n12) (AllReadyH.cons rfl (fun K hK => ?t1n16) AllReadyH.nil)
          case t1n12 =>
            go_simp
            refine (HMD.out W0 hbc).mono ?_
            rintro e W1 ⟨v6, u7, rfl, hset, hlis, hb⟩
            obtain ⟨m6, ao6, cap6, b6, o6, rfl, _⟩ := id hset
            obtain ⟨ao7, cap7, b7, o7, rfl, _⟩ := id hlis
            replace hbc := bt hbc hb
            clear hb
            go_wp2_with fail
            refine hK.out _ _ hbc (fun hHeld2 => ?_)
            clear hK K
            clear hHeld
            have hHeld := hHeld2
            clear hHeld2
            try simp only [Act.put, List.setIfInBounds_toArray, List.set_cons_zero, List.set_cons_succ]
            refine takeD (i := 13) (v := ?zvq8a13) (some 22) rfl rfl (by kernel_rfl) (by kernel_rfl) (by kernel_rfl) (fun _ _ _ h => h) (Or.inl ⟨by rfl, ?zyq8a13⟩) (by assumption) ?zrq8a13
            case zyq8a13 => (intro w hSw; clear hSw; go_simp; try with_reducible rfl)
            try simp only [Act.put, List.setIfInBounds_toArray, List.set_cons_zero, List.set_cons_succ]
            refine takeD (i := 14) (v := ?zvq8a14) (some 36) rfl rfl (by kernel_rfl) (by kernel_rfl) (by kernel_rfl) (fun _ _ _ h => h) (Or.inl ⟨by rfl, ?zyq8a14⟩) (by assumption) ?zrq8a14
            case zyq8a14 => (intro w hSw; clear hSw; go_simp; try with_reducible rfl)
            try simp only [Act.put, List.setIfInBounds_toArray, List.set_cons_zero, List.set_cons_succ]
            refine takeD (i := 15) (v := ?zvq8a15) (some 37) rfl rfl (by kernel_rfl) (by kernel_rfl) (by kernel_rfl) (fun _ _ _ h => h) (Or.inl ⟨by rfl, ?zyq8a15⟩) (by assumption) ?zrq8a15
            case zyq8a15 => (intro w hSw; clear hSw; go_simp; try with_reducible rfl)
            try simp only [Act.put, List.setIfInBounds_toArray, List.set_cons_zero, List.set_cons_succ]
            refine wpAnyH_ready (rs := [16]) (by kernel_rfl) (by simp) ?_
            refine AllReadyH.cons rfl (fun K hK => ?_) AllReadyH.nil
            go_simp
            obtain ⟨c6, hc6⟩ : ∃ c, c = W1.heap.size := ⟨_, rfl⟩
            have hge6 : wr.heap.size ≤ c6 := by rw [hc6]; exact hbc.size
            refine hK.out _ _ (hbc.alloc hbc.size _) (fun hHeld2 => ?_)
            clear hK K
            clear hHeld
            have hHeld := hHeld2
            clear hHeld2
            try simp only [Act.put, List.setIfInBounds_toArray, List.set_cons_zero, List.set_cons_succ]
            have x6 : (W1.alloc (.cells #[.slice none 0 0] 27)).cell? ⟨c6, 0, none⟩ = some (.slice none 0 0) := by rw [hc6]; exact (cell_new_l W1 _ 27).1
            have f6 : (W1.alloc (.cells #[.slice none 0 0] 27)).frozen? ⟨c6, 0, none⟩ = false := by rw [hc6]; exact (cell_new_l W1 (.slice none 0 0) 27).2
            replace hset := hset.below (ba (bz _) (.cells #[.slice none 0 0] 27))
            replace hlis := hlis.below (ba (bz _) (.cells #[.slice none 0 0] 27))
            replace hbc := hbc.alloc hbc.size (.cells #[.slice none 0 0] 27)
            rw [← hc6]
            generalize (W1.alloc (.cells #[.slice none 0 0] 27)) = W2 at *
            clear hc6
            refine wpAnyH_ready (rs := [17]) (by kernel_rfl) (by simp) ?_
            refine AllReadyH.cons rfl (fun K hK => ?_) AllReadyH.nil
            go_simp
            refine hK.out _ _ (bs hbc hge6 _) (fun hHeld2 => ?_)
            clear hK K
            clear hHeld
            have hHeld := hHeld2
            clear hHeld2
            try simp only [Act.put, List.setIfInBounds_toArray, List.set_cons_zero, List.set_cons_succ]
            have hset2 := set_other hset x6 (fun _ => by simp) (.slice ao6 m6 cap6)
            have hlis2 := hlis.other x6 (fun _ => by simp) (.slice ao6 m6 cap6)
            have x6b : (W2.setCell ⟨c6, 0, none⟩ (.slice ao6 m6 cap6)).cell? ⟨c6, 0, none⟩ = some (.slice ao6 m6 cap6) := by simp [go_sem, x6]
            replace hbc := bs hbc (p := ⟨c6, 0, none⟩) hge6 (.slice ao6 m6 cap6)
            clear hset hlis x6 f6
            generalize (W2.setCell ⟨c6, 0, none⟩ (.slice ao6 m6 cap6)) = WZ at *
            refine takeD (i := 18) (v := ?zvq8a18) (some 7) rfl rfl (by kernel_rfl) (by kernel_rfl) (by kernel_rfl) (fun _ _ _ h => h) (Or.inl ⟨by rfl, ?zyq8a18⟩) (by assumption) ?zrq8a18
            case zyq8a18 => (intro w hSw; clear hSw; go_simp; try with_reducible rfl)
            try simp only [Act.put, List.setIfInBounds_toArray, List.set_cons_zero, List.set_cons_succ]
            refine wpAnyH_done (by kernel_rfl) ?_ _
            go_wp2_with fail
            go_meet
            exact ⟨c6, ao6, m6, cap6, rfl, Lib.hid ⟨hbc, x6b, hset2, hlis2, hge6⟩⟩
          case t1n16 =>
            go_simp
            obtain ⟨c6, hc6⟩ : ∃ c, c = W0.heap.size := ⟨_, rfl⟩
            have hge6 : wr.heap.size ≤ c6 := by rw [hc6]; exact hbc.size
            refine hK.out _ _ (hbc.alloc hbc.size _) (fun hHeld2 => ?_)
            clear hK K
            clear hHeld
            have hHeld := hHeld2
            clear hHeld2
            try simp only [Act.put, List.setIfInBounds_toArray, List.set_cons_zero, List.set_cons_succ]
            have x6 : (W0.alloc (.cells #[.slice none 0 0] 27)).cell? ⟨c6, 0, none⟩ = some (.slice none 0 0) := by rw [hc6]; exact (cell_new_l W0 _ 27).1
            have f6 : (W0.alloc (.cells #[.slice none 0 0] 27)).frozen? ⟨c6, 0, none⟩ = false := by rw [hc6]; exact (cell_new_l W0 (.slice none 0 0) 27).2
            replace hbc := hbc.alloc hbc.size (.cells #[.slice none 0 0] 27)
            rw [← hc6]
            generalize (W0.alloc (.cells #[.slice none 0 0] 27)) = W1 at *
            clear hc6
            refine wpAnyH_ready (rs := [12]) (by kernel_rfl) (by simp) ?_
            refine AllReadyH.cons rfl (fun K hK => ?_) AllReadyH.nil
            go_simp
            refine (HMD.out W1 hbc).mono ?_
            rintro e W2 ⟨v6, u7, rfl, hset, hlis, hb⟩
            obtain ⟨m6, ao6, cap6, b6, o6, rfl, _⟩ := id hset
            obtain ⟨ao7, cap7, b7, o7, rfl, _⟩ := id hlis
            replace hbc := bt hbc hb
            replace f6 := (hb.frozen (World.block_lt_of_cell? _ _ x6)).trans f6
            replace x6 := cell_past_g hb x6
            clear hb
            go_wp2_with fail
            refine hK.out _ _ hbc (fun hHeld2 => ?_)
            clear hK K
            clear hHeld
            have hHeld := hHeld2
            clear hHeld2
            try simp only [Act.put, List.setIfInBounds_toArray, List.set_cons_zero, List.set_cons_succ]
            refine takeD (i := 13) (v := ?zvq8b13) (some 22) rfl rfl (by kernel_rfl) (by kernel_rfl) (by kernel_rfl) (fun _ _ _ h => h) (Or.inl ⟨by rfl, ?zyq8b13⟩) (by assumption) ?zrq8b13
            case zyq8b13 => (intro w hSw; clear hSw; go_simp; try with_reducible rfl)
            try simp only [Act.put, List.setIfInBounds_toArray, List.set_cons_zero, List.set_cons_succ]
            refine takeD (i := 14) (v := ?zvq8b14) (some 36) rfl rfl (by kernel_rfl) (by kernel_rfl) (by kernel_rfl) (fun _ _ _ h => h) (Or.inl ⟨by rfl, ?zyq8b14⟩) (by assumption) ?zrq8b14
            case zyq8b14 => (intro w hSw; clear hSw; go_simp; try with_reducible rfl)
            try simp only [Act.put, List.setIfInBounds_toArray, List.set_cons_zero, List.set_cons_succ]
            refine takeD (i := 15) (v := ?zvq8b15) (some 37) rfl rfl (by kernel_rfl) (by kernel_rfl) (by kernel_rfl) (fun _ _ _ h => h) (Or.inl ⟨by rfl, ?zyq8b15⟩) (by assumption) ?zrq8b15
            case zyq8b15 => (intro w hSw; clear hSw; go_simp; try with_reducible rfl)
            try simp only [Act.put, List.setIfInBounds_toArray, List.set_cons_zero, List.set_cons_succ]
            refine wpAnyH_ready (rs := [17]) (by kernel_rfl) (by simp) ?_
            refine AllReadyH.cons rfl (fun K hK => ?_) AllReadyH.nil
            go_simp
            refine hK.out _ _ (bs hbc hge6 _) (fun hHeld2 => ?_)
            clear hK K
            clear hHeld
            have hHeld := hHeld2
            clear hHeld2
            try simp only [Act.put, List.setIfInBounds_toArray, List.set_cons_zero, List.set_cons_succ]
            have hset2 := set_other hset x6 (fun _ => by simp) (.slice ao6 m6 cap6)
            have hlis2 := hlis.other x6 (fun _ => by simp) (.slice ao6 m6 cap6)
            have x6b : (W2.setCell ⟨c6, 0, none⟩ (.slice ao6 m6 cap6)).cell? ⟨c6, 0, none⟩ = some (.slice ao6 m6 cap6) := by simp [go_sem, x6]
            replace hbc := bs hbc (p := ⟨c6, 0, none⟩) hge6 (.slice ao6 m6 cap6)
            clear hset hlis x6 f6
            generalize (W2.setCell ⟨c6, 0, none⟩ (.slice ao6 m6 cap6)) = WZ at *
            refine takeD (i := 18) (v := ?zvq8b18) (some 7) rfl rfl (by kernel_rfl) (by kernel_rfl) (by kernel_rfl) (fun _ _ _ h => h) (Or.inl ⟨by rfl, ?zyq8b18⟩) (by assumption) ?zrq8b18
            case zyq8b18 => (intro w hSw; clear hSw; go_simp; try with_reducible rfl)
            try simp only [Act.put, List.setIfInBounds_toArray, List.set_cons_zero, List.set_cons_succ]
            refine wpAnyH_done (by kernel_rfl) ?_ _
            go_wp2_with fail
            go_meet
            exact ⟨c6, ao6, m6, cap6, rfl, Lib.hid ⟨hbc, x6b, hset2, hlis2, hge6⟩⟩
        case rest =>
          have hcut' := hcut
          revert hcut'
          rename World => wx
          intro hcut'
          clear hcut'
          obtain ⟨c6, ao6, m6, cap6, rfl, HC⟩ := hcut
          obtain ⟨ao7, cap7, b7, o7, rfl, _⟩ := id HC.out.list
          obtain ⟨K7, hK7⟩ : ∃ K, K = (stL l (i + 1)).length := ⟨_, rfl⟩
          obtain ⟨NN, hNN⟩ : ∃ N, N = stN l (i + 1) := ⟨_, rfl⟩
          have HNN := Lib.hid hNN
          have hlist := HC.out.list
          rw [← hK7] at hlist ⊢
          have HLI := Lib.hid hlist
          clear hlist
          have HK7 := Lib.hid hK7
          clear hK7 hNN
          have x6 := HC.out.cell
          have HI1 := Lib.hid (HI.out.past HC.out.below)
          have hge6 : wr.heap.size ≤ c6 := HC.out.ge
          have hi41 : i + 1 ≤ 41 := by omega
          clear C3 C4 CA HMD HI hidx3 hidx4
          go_wp2_with (at_builtin; refine wpList_append_kind _ rfl (.tmp 38) (.tmp 40) 47 rfl Sl w.heap.size 27 j3 (.agg #[.slice none 0 0]) 24 (by kernel_rfl) HJ.out.1 HJ.out.2.1 HJ.out.2.2.1 HJ.out.2.2.2.1 (.slice none 0 0) rfl _ _ _ rfl (HI1.out.own3.alloc _) ⟨wx.heap.size, 0, none⟩ 1 1 [.slice ao6 m6 cap6] rfl rfl (new_cells _ _ _ _ rfl) (by simp [Value.oneCell']) (by unfold maxLen; omega) (by omega) (by have := HI1.out.below.size; simp; omega) (by decide) (rowt_below HI1.out.t3 (ba (bz _) _)) ⟨_, _, _, rfl⟩ HI1.out.s3 (by intro u hu; rw [List.mem_singleton.1 hu]; exact ⟨_, _, _, rfl⟩) ?_)
          intro v3n w1 hown1 hgrow1 hrow1 hblk1
          have HP1 := Lib.hid (HI1.out.past (ba (bz _) (.cells #[.slice ao6 m6 cap6] 27)))
          have HI2 := Lib.hid (HP1.out.app3 ⟨_, _, _, rfl⟩ (HC.out.set.below (ba (bz _) _)) hown1 hgrow1 hrow1 (by simpa using hblk1))
          have HSET1 := Lib.hid (set_row (HC.out.set.below (ba (bz _) (.cells #[.slice ao6 m6 cap6] 27))) HP1.out.t3 hgrow1 (own_form HP1.out.own3))
          have HLIS1 := Lib.hid (lis_row (HLI.out.below (ba (bz _) (.cells #[.slice ao6 m6 cap6] 27))) HP1.out.t3 hgrow1 (own_form HP1.out.own3))
          replace x6 := hgrow1.cell (cell_past_g (ba (bz _) (.cells #[.slice ao6 m6 cap6] 27)) x6) (by simp [Value.ownBlock]; omega)
          have hge64 : ¬ c6 = g4 := by omega
          clear hown1 hgrow1 hrow1 hblk1 HI1 HP1 HC
          go_wp2_with (at_builtin; refine wpList_append_kind _ rfl (.tmp 42) (.tmp 44) 48 rfl Sl w.heap.size 22 j4 (.slice none 0 0) 24 (by kernel_rfl) HJ.out.2.2.2.2.1 HJ.out.2.2.2.2.2.1 HJ.out.2.2.2.2.2.2.1 HJ.out.2.2.2.2.2.2.2 (.slice none 0 0) rfl _ _ _ rfl (HI2.out.own4.alloc _) ⟨w1.heap.size, 0, none⟩ 1 1 [.slice ao7 K7 cap7] rfl rfl (new_cells _ _ _ _ rfl) (by simp [Value.oneCell']) (by unfold maxLen; omega) (by omega) (by have := HI2.out.below.size; simp; omega) (by decide) (rowt_below HI2.out.t4 (ba (bz _) _)) ⟨_, _, _, rfl⟩ HI2.out.s4 (by intro u hu; rw [List.mem_singleton.1 hu]; exact ⟨_, _, _, rfl⟩) ?_)
          intro v4n W2 hown2 hgrow2 hrow2 hblk2
          have HP2 := Lib.hid (HI2.out.past (ba (bz _) (.cells #[.slice ao7 K7 cap7] 22)))
          have HI3 := Lib.hid (HP2.out.app4 ⟨_, _, _, rfl⟩ (HLIS1.out.below (ba (bz _) _)) hown2 hgrow2 hrow2 (by simpa using hblk2))
          have HSET2 := Lib.hid (set_row (HSET1.out.below (ba (bz _) (.cells #[.slice ao7 K7 cap7] 22))) HP2.out.t4 hgrow2 (own_form HP2.out.own4))
          have HLIS2 := Lib.hid (lis_row (HLIS1.out.below (ba (bz _) (.cells #[.slice ao7 K7 cap7] 22))) HP2.out.t4 hgrow2 (own_form HP2.out.own4))
          replace x6 := hgrow2.cell (cell_past_g (ba (bz _) (.cells #[.slice ao7 K7 cap7] 22)) x6) (by simp [Value.ownBlock]; omega)
          clear hown2 hgrow2 hrow2 hblk2 HI2 HP2 HSET1 HLIS1
          have C6 := Lib.hid (fun W (h : Below W2.heap.size W2 W) => cell_past_g h x6)
          have hg1 := (HS.out.below HI3.out.below).cell (i * 3 + 1) (.int .i64 x.n) (by rw [cell_of Act3.three l i x HXK.out 1 (by decide)]; rfl)
          rw [← Nat.add_assoc] at hg1
          have CX := Lib.hid (fun W (h : Below W2.heap.size W2 W) => cell_past_g h hg1)
          have hl := HSL.out (i + 1) (by omega)
          rw [← HNN.out] at hl
          have hs2 := HSET2.out
          rw [← HNN.out] at hs2
          have hu2 : LisAt W2 (.slice ao7 K7 cap7) (stL l (i + 1)) := HLIS2.out
          have HC6 := Lib.hid (fun W (h : Below W2.heap.size W2 W) => has_any _ NN x.n W (hs2.below h))
          have HC13 : Hid (∀ W, Below W2.heap.size W2 W → Calls Try.prog 21 #[.slice ao7 K7 cap7, .int .i64 x.n] W fun e w' => e = .returned (.bool (hasB NN x.n)) ∧ W = w') := Lib.hid (fun W h => by have := rhas_any _ (stL l (i + 1)) x.n W (hu2.below h) (by omega); rw [lis_has hl.1] at this; exact this)
          have HC22 := Lib.hid (fun W (h : Below W2.heap.size W2 W) => gap_any _ NN x.n W (hs2.below h))
          have HC29 : Hid (∀ W, Below W2.heap.size W2 W → Calls Try.prog 22 #[.slice ao7 K7 cap7, .int .i64 x.n] W fun e w' => ∃ g : Int, e = .returned (.int .i64 g) ∧ max 0 x.n ≤ g ∧ hasB NN g = false ∧ (∀ j : Int, max 0 x.n ≤ j → j < g → hasB NN j = true) ∧ W = w') := Lib.hid (fun W h => by
            have := rgap_any _ (stL l (i + 1)) x.n W (hu2.below h) (by omega) hl.1.bd
            unfold RgapPost at this
            simp only [lis_has hl.1] at this
            exact this)
          have HC34 := Lib.hid (fun W (h : Below W2.heap.size W2 W) => key_any _ NN W (hs2.below h))
          have HC36 : Hid (∀ W, Below W2.heap.size W2 W → Calls Try.prog 23 #[.slice ao7 K7 cap7] W fun e w' => ∃ s, e = .returned (.string s) ∧ keyN NN s ∧ Below W.heap.size W w') := Lib.hid (fun W h => rkey_any _ (stL l (i + 1)) NN W (hu2.below h) hl.1 (by omega))
          clear x6 hg1 hl hs2 hu2 HSET2 HLIS2
          go_wp2_with fail
          have hbc := bz W2
          refine wp_region_held_drew (S := (fun W => Below W2.heap.size W2 W)) (by kernel_rfl) (by first | exact hbc | exact hbc.drew) (fun hHeld => ?_)
          replace hbc := hbc.drew
          refine takeD (i := 0) (v := ?zvq110) (some 46) rfl rfl (by kernel_rfl) (by kernel_rfl) (by kernel_rfl) (fun _ _ _ h => h) (Or.inl ⟨by rfl, ?zyq110⟩) (by assumption) ?zrq110
          case zyq110 => (intro w hSw; refine load_set (C6.out w hSw) ?_; rfl)
          try simp only [Act.put, List.setIfInBounds_toArray, List.set_cons_zero, List.set_cons_succ]
          refine takeD (i := 1) (v := ?zvq111) (some 47) rfl rfl (by kernel_rfl) (by kernel_rfl) (by kernel_rfl) (fun _ _ _ h => h) (Or.inl ⟨by rfl, ?zyq111⟩) (by assumption) ?zrq111
          case zyq111 => (intro w hSw; clear hSw; go_simp; try with_reducible rfl)
          try simp only [Act.put, List.setIfInBounds_toArray, List.set_cons_zero, List.set_cons_succ]
          refine takeD (i := 2) (v := ?zvq112) (some 48) rfl rfl (by kernel_rfl) (by kernel_rfl) (by kernel_rfl) (fun _ _ _ h => h) (Or.inl ⟨by rfl, ?zyq112⟩) (by assumption) ?zrq112
          case zyq112 => (intro w hSw; clear hSw; go_simp; try with_reducible rfl)
          try simp only [Act.put, List.setIfInBounds_toArray, List.set_cons_zero, List.set_cons_succ]
          refine takeD (i := 3) (v := ?zvq113) (some 49) rfl rfl (by kernel_rfl) (by kernel_rfl) (by kernel_rfl) (fun _ _ _ h => h) (Or.inl ⟨by rfl, ?zyq113⟩) (by assumption) ?zrq113
          case zyq113 => (intro w hSw; refine idx_act hidx i1 i2 ?_ ?_ <;> rfl)
          try simp only [Act.put, List.setIfInBounds_toArray, List.set_cons_zero, List.set_cons_succ]
          refine takeD (i := 4) (v := ?zvq114) (some 50) rfl rfl (by kernel_rfl) (by kernel_rfl) (by kernel_rfl) (fun _ _ _ h => h) (Or.inl ⟨by rfl, ?zyq114⟩) (by assumption) ?zrq114
          case zyq114 => (intro w hSw; clear hSw; go_simp; try with_reducible rfl)
          try simp only [Act.put, List.setIfInBounds_toArray, List.set_cons_zero, List.set_cons_succ]
          refine takeD (i := 5) (v := ?zvq115) (some 51) rfl rfl (by kernel_rfl) (by kernel_rfl) (by kernel_rfl) (fun _ _ _ h => h) (Or.inl ⟨by rfl, ?zyq115⟩) (by assumption) ?zrq115
          case zyq115 => (intro w hSw; refine load_one3 (CX.out w hSw) ?_; rfl)
          try simp only [Act.put, List.setIfInBounds_toArray, List.set_cons_zero, List.set_cons_succ]
          refine takeD (i := 7) (v := ?zvq117) (some 53) rfl rfl (by kernel_rfl) (by kernel_rfl) (by kernel_rfl) (fun _ _ _ h => h) (Or.inl ⟨by rfl, ?zyq117⟩) (by assumption) ?zrq117
          case zyq117 => (intro w hSw; clear hSw; go_simp; try with_reducible rfl)
          try simp only [Act.put, List.setIfInBounds_toArray, List.set_cons_zero, List.set_cons_succ]
          refine takeD (i := 8) (v := ?zvq118) (some 54) rfl rfl (by kernel_rfl) (by kernel_rfl) (by kernel_rfl) (fun _ _ _ h => h) (Or.inl ⟨by rfl, ?zyq118⟩) (by assumption) ?zrq118
          case zyq118 => (intro w hSw; clear hSw; go_simp; try with_reducible rfl)
          try simp only [Act.put, List.setIfInBounds_toArray, List.set_cons_zero, List.set_cons_succ]
          refine takeD (i := 9) (v := ?zvq119) (some 55) rfl rfl (by kernel_rfl) (by kernel_rfl) (by kernel_rfl) (fun _ _ _ h => h) (Or.inl ⟨by rfl, ?zyq119⟩) (by assumption) ?zrq119
          case zyq119 => (intro w hSw; clear hSw; go_simp; try with_reducible rfl)
          try simp only [Act.put, List.setIfInBounds_toArray, List.set_cons_zero, List.set_cons_succ]
          refine takeD (i := 10) (v := ?zvq1110) (some 56) rfl rfl (by kernel_rfl) (by kernel_rfl) (by kernel_rfl) (fun _ _ _ h => h) (Or.inl ⟨by rfl, ?zyq1110⟩) (by assumption) ?zrq1110
          case zyq1110 => (intro w hSw; refine idx_act hidx i1 i2 ?_ ?_ <;> rfl)
          try simp only [Act.put, List.setIfInBounds_toArray, List.set_cons_zero, List.set_cons_succ]
          refine takeD (i := 11) (v := ?zvq1111) (some 57) rfl rfl (by kernel_rfl) (by kernel_rfl) (by kernel_rfl) (fun _ _ _ h => h) (Or.inl ⟨by rfl, ?zyq1111⟩) (by assumption) ?zrq1111
          case zyq1111 => (intro w hSw; clear hSw; go_simp; try with_reducible rfl)
          try simp only [Act.put, List.setIfInBounds_toArray, List.set_cons_zero, List.set_cons_succ]
          refine takeD (i := 12) (v := ?zvq1112) (some 58) rfl rfl (by kernel_rfl) (by kernel_rfl) (by kernel_rfl) (fun _ _ _ h => h) (Or.inl ⟨by rfl, ?zyq1112⟩) (by assumption) ?zrq1112
          case zyq1112 => (intro w hSw; refine load_one3 (CX.out w hSw) ?_; rfl)
          try simp only [Act.put, List.setIfInBounds_toArray, List.set_cons_zero, List.set_cons_succ]
          refine wpAnyH_ready (rs := [6]) (by kernel_rfl) (by simp) ?_
          refine AllReadyH.cons rfl (fun K hK => ?_) AllReadyH.nil
          go_simp
          refine (HC6.out _ hbc).mono ?_
          rintro e wka ⟨rfl, hbk⟩
          replace hbc := bt hbc hbk
          clear hbk
          go_wp2_with fail
          refine hK.out _ _ (by first | exact hbc | exact hbc.drew) (fun hHeld2 => ?_)
          clear hK K
          clear hHeld
          have hHeld := hHeld2
          clear hHeld2
          try simp only [Act.put, List.setIfInBounds_toArray, List.set_cons_zero, List.set_cons_succ]
          refine wpAnyH_ready (rs := [13]) (by kernel_rfl) (by simp) ?_
          refine AllReadyH.cons rfl (fun K hK => ?_) AllReadyH.nil
          go_simp
          refine (HC13.out _ hbc).mono ?_
          rintro e wkb ⟨rfl, rfl⟩
          go_wp2_with fail
          refine hK.out _ _ (by first | exact hbc | exact hbc.drew) (fun hHeld2 => ?_)
          clear hK K
          clear hHeld
          have hHeld := hHeld2
          clear hHeld2
          try simp only [Act.put, List.setIfInBounds_toArray, List.set_cons_zero, List.set_cons_succ]
          refine takeD (i := 14) (v := ?zvq1114) (some 60) rfl rfl (by kernel_rfl) (by kernel_rfl) (by kernel_rfl) (fun _ _ _ h => h) (Or.inl ⟨by rfl, ?zyq1114⟩) (by assumption) ?zrq1114
          case zyq1114 => (intro w hSw; clear hSw; go_simp; try with_reducible rfl)
          try simp only [Act.put, List.setIfInBounds_toArray, List.set_cons_zero, List.set_cons_succ]
          refine takeD (i := 15) (v := ?zvq1115) (some 61) rfl rfl (by kernel_rfl) (by kernel_rfl) (by kernel_rfl) (fun _ _ _ h => h) (Or.inl ⟨by rfl, ?zyq1115⟩) (by assumption) ?zrq1115
          case zyq1115 => (intro w hSw; clear hSw; go_simp; try with_reducible rfl)
          try simp only [Act.put, List.setIfInBounds_toArray, List.set_cons_zero, List.set_cons_succ]
          refine takeD (i := 16) (v := ?zvq1116) (some 62) rfl rfl (by kernel_rfl) (by kernel_rfl) (by kernel_rfl) (fun _ _ _ h => h) (Or.inl ⟨by rfl, ?zyq1116⟩) (by assumption) ?zrq1116
          case zyq1116 => (intro w hSw; refine load_set (C6.out w hSw) ?_; rfl)
          try simp only [Act.put, List.setIfInBounds_toArray, List.set_cons_zero, List.set_cons_succ]
          refine takeD (i := 17) (v := ?zvq1117) (some 63) rfl rfl (by kernel_rfl) (by kernel_rfl) (by kernel_rfl) (fun _ _ _ h => h) (Or.inl ⟨by rfl, ?zyq1117⟩) (by assumption) ?zrq1117
          case zyq1117 => (intro w hSw; clear hSw; go_simp; try with_reducible rfl)
          try simp only [Act.put, List.setIfInBounds_toArray, List.set_cons_zero, List.set_cons_succ]
          refine takeD (i := 18) (v := ?zvq1118) (some 64) rfl rfl (by kernel_rfl) (by kernel_rfl) (by kernel_rfl) (fun _ _ _ h => h) (Or.inl ⟨by rfl, ?zyq1118⟩) (by assumption) ?zrq1118
          case zyq1118 => (intro w hSw; clear hSw; go_simp; try with_reducible rfl)
          try simp only [Act.put, List.setIfInBounds_toArray, List.set_cons_zero, List.set_cons_succ]
          refine takeD (i := 19) (v := ?zvq1119) (some 65) rfl rfl (by kernel_rfl) (by kernel_rfl) (by kernel_rfl) (fun _ _ _ h => h) (Or.inl ⟨by rfl, ?zyq1119⟩) (by assumption) ?zrq1119
          case zyq1119 => (intro w hSw; refine idx_act hidx i1 i2 ?_ ?_ <;> rfl)
          try simp only [Act.put, List.setIfInBounds_toArray, List.set_cons_zero, List.set_cons_succ]
          refine takeD (i := 20) (v := ?zvq1120) (some 66) rfl rfl (by kernel_rfl) (by kernel_rfl) (by kernel_rfl) (fun _ _ _ h => h) (Or.inl ⟨by rfl, ?zyq1120⟩) (by assumption) ?zrq1120
          case zyq1120 => (intro w hSw; clear hSw; go_simp; try with_reducible rfl)
          try simp only [Act.put, List.setIfInBounds_toArray, List.set_cons_zero, List.set_cons_succ]
          refine takeD (i := 21) (v := ?zvq1121) (some 67) rfl rfl (by kernel_rfl) (by kernel_rfl) (by kernel_rfl) (fun _ _ _ h => h) (Or.inl ⟨by rfl, ?zyq1121⟩) (by assumption) ?zrq1121
          case zyq1121 => (intro w hSw; refine load_one3 (CX.out w hSw) ?_; rfl)
          try simp only [Act.put, List.setIfInBounds_toArray, List.set_cons_zero, List.set_cons_succ]
          refine takeD (i := 23) (v := ?zvq1123) (some 69) rfl rfl (by kernel_rfl) (by kernel_rfl) (by kernel_rfl) (fun _ _ _ h => h) (Or.inl ⟨by rfl, ?zyq1123⟩) (by assumption) ?zrq1123
          case zyq1123 => (intro w hSw; clear hSw; go_simp; try with_reducible rfl)
          try simp only [Act.put, List.setIfInBounds_toArray, List.set_cons_zero, List.set_cons_succ]
          refine takeD (i := 24) (v := ?zvq1124) (some 70) rfl rfl (by kernel_rfl) (by kernel_rfl) (by kernel_rfl) (fun _ _ _ h => h) (Or.inl ⟨by rfl, ?zyq1124⟩) (by assumption) ?zrq1124
          case zyq1124 => (intro w hSw; clear hSw; go_simp; try with_reducible rfl)
          try simp only [Act.put, List.setIfInBounds_toArray, List.set_cons_zero, List.set_cons_succ]
          refine takeD (i := 25) (v := ?zvq1125) (some 71) rfl rfl (by kernel_rfl) (by kernel_rfl) (by kernel_rfl) (fun _ _ _ h => h) (Or.inl ⟨by rfl, ?zyq1125⟩) (by assumption) ?zrq1125
          case zyq1125 => (intro w hSw; clear hSw; go_simp; try with_reducible rfl)
          try simp only [Act.put, List.setIfInBounds_toArray, List.set_cons_zero, List.set_cons_succ]
          refine takeD (i := 26) (v := ?zvq1126) (some 72) rfl rfl (by kernel_rfl) (by kernel_rfl) (by kernel_rfl) (fun _ _ _ h => h) (Or.inl ⟨by rfl, ?zyq1126⟩) (by assumption) ?zrq1126
          case zyq1126 => (intro w hSw; refine idx_act hidx i1 i2 ?_ ?_ <;> rfl)
          try simp only [Act.put, List.setIfInBounds_toArray, List.set_cons_zero, List.set_cons_succ]
          refine takeD (i := 27) (v := ?zvq1127) (some 73) rfl rfl (by kernel_rfl) (by kernel_rfl) (by kernel_rfl) (fun _ _ _ h => h) (Or.inl ⟨by rfl, ?zyq1127⟩) (by assumption) ?zrq1127
          case zyq1127 => (intro w hSw; clear hSw; go_simp; try with_reducible rfl)
          try simp only [Act.put, List.setIfInBounds_toArray, List.set_cons_zero, List.set_cons_succ]
          refine takeD (i := 28) (v := ?zvq1128) (some 74) rfl rfl (by kernel_rfl) (by kernel_rfl) (by kernel_rfl) (fun _ _ _ h => h) (Or.inl ⟨by rfl, ?zyq1128⟩) (by assumption) ?zrq1128
          case zyq1128 => (intro w hSw; refine load_one3 (CX.out w hSw) ?_; rfl)
          try simp only [Act.put, List.setIfInBounds_toArray, List.set_cons_zero, List.set_cons_succ]
          refine wpAnyH_ready (rs := [22]) (by kernel_rfl) (by simp) ?_
          refine AllReadyH.cons rfl (fun K hK => ?_) AllReadyH.nil
          go_simp
          refine (HC22.out _ hbc).mono ?_
          rintro e wkc ⟨ga, rfl, ga1, ga2, ga3, hbk⟩
          replace hbc := bt hbc hbk
          clear hbk
          go_wp2_with fail
          refine hK.out _ _ (by first | exact hbc | exact hbc.drew) (fun hHeld2 => ?_)
          clear hK K
          clear hHeld
          have hHeld := hHeld2
          clear hHeld2
          try simp only [Act.put, List.setIfInBounds_toArray, List.set_cons_zero, List.set_cons_succ]
          refine wpAnyH_ready (rs := [29]) (by kernel_rfl) (by simp) ?_
          refine AllReadyH.cons rfl (fun K hK => ?_) AllReadyH.nil
          go_simp
          refine (HC29.out _ hbc).mono ?_
          rintro e wkd ⟨gb, rfl, gb1, gb2, gb3, rfl⟩
          obtain rfl := gap_uniq (f := hasB NN) ga1 ga2 ga3 gb1 gb2 gb3
          clear gb1 gb2 gb3
          go_wp2_with fail
          refine hK.out _ _ (by first | exact hbc | exact hbc.drew) (fun hHeld2 => ?_)
          clear hK K
          clear hHeld
          have hHeld := hHeld2
          clear hHeld2
          try simp only [Act.put, List.setIfInBounds_toArray, List.set_cons_zero, List.set_cons_succ]
          refine takeD (i := 30) (v := ?zvq1130) (some 76) rfl rfl (by kernel_rfl) (by kernel_rfl) (by kernel_rfl) (fun _ _ _ h => h) (Or.inl ⟨by rfl, ?zyq1130⟩) (by assumption) ?zrq1130
          case zyq1130 => (intro w hSw; clear hSw; go_simp; try with_reducible rfl)
          try simp only [Act.put, List.setIfInBounds_toArray, List.set_cons_zero, List.set_cons_succ]
          refine takeD (i := 31) (v := ?zvq1131) (some 77) rfl rfl (by kernel_rfl) (by kernel_rfl) (by kernel_rfl) (fun _ _ _ h => h) (Or.inl ⟨by rfl, ?zyq1131⟩) (by assumption) ?zrq1131
          case zyq1131 => (intro w hSw; clear hSw; go_simp; try with_reducible rfl)
          try simp only [Act.put, List.setIfInBounds_toArray, List.set_cons_zero, List.set_cons_succ]
          refine takeD (i := 32) (v := ?zvq1132) (some 78) rfl rfl (by kernel_rfl) (by kernel_rfl) (by kernel_rfl) (fun _ _ _ h => h) (Or.inl ⟨by rfl, ?zyq1132⟩) (by assumption) ?zrq1132
          case zyq1132 => (intro w hSw; clear hSw; go_simp; try with_reducible rfl)
          try simp only [Act.put, List.setIfInBounds_toArray, List.set_cons_zero, List.set_cons_succ]
          refine takeD (i := 33) (v := ?zvq1133) (some 79) rfl rfl (by kernel_rfl) (by kernel_rfl) (by kernel_rfl) (fun _ _ _ h => h) (Or.inl ⟨by rfl, ?zyq1133⟩) (by assumption) ?zrq1133
          case zyq1133 => (intro w hSw; refine load_set (C6.out w hSw) ?_; rfl)
          try simp only [Act.put, List.setIfInBounds_toArray, List.set_cons_zero, List.set_cons_succ]
          refine takeD (i := 35) (v := ?zvq1135) (some 81) rfl rfl (by kernel_rfl) (by kernel_rfl) (by kernel_rfl) (fun _ _ _ h => h) (Or.inl ⟨by rfl, ?zyq1135⟩) (by assumption) ?zrq1135
          case zyq1135 => (intro w hSw; clear hSw; go_simp; try with_reducible rfl)
          try simp only [Act.put, List.setIfInBounds_toArray, List.set_cons_zero, List.set_cons_succ]
          refine wpAnyH_ready (rs := [34]) (by kernel_rfl) (by simp) ?_
          refine AllReadyH.cons rfl (fun K hK => ?_) AllReadyH.nil
          go_simp
          refine (HC34.out _ hbc).mono ?_
          rintro e wke ⟨sa, rfl, hka, hbk⟩
          replace hbc := bt hbc hbk
          clear hbk
          go_wp2_with fail
          refine hK.out _ _ (by first | exact hbc | exact hbc.drew) (fun hHeld2 => ?_)
          clear hK K
          clear hHeld
          have hHeld := hHeld2
          clear hHeld2
          try simp only [Act.put, List.setIfInBounds_toArray, List.set_cons_zero, List.set_cons_succ]
          refine wpAnyH_ready (rs := [36]) (by kernel_rfl) (by simp) ?_
          refine AllReadyH.cons rfl (fun K hK => ?_) AllReadyH.nil
          go_simp
          refine (HC36.out _ hbc).mono ?_
          rintro e wkf ⟨sb, rfl, hkb, hbk⟩
          replace hbc := bt hbc hbk
          obtain rfl := hka.unique hkb
          clear hbk hkb
          go_wp2_with fail
          refine hK.out _ _ (by first | exact hbc | exact hbc.drew) (fun hHeld2 => ?_)
          clear hK K
          clear hHeld
          have hHeld := hHeld2
          clear hHeld2
          try simp only [Act.put, List.setIfInBounds_toArray, List.set_cons_zero, List.set_cons_succ]
          refine takeD (i := 37) (v := ?zvq1137) (some 83) rfl rfl (by kernel_rfl) (by kernel_rfl) (by kernel_rfl) (fun _ _ _ h => h) (Or.inl ⟨by rfl, ?zyq1137⟩) (by assumption) ?zrq1137
          case zyq1137 => (intro w hSw; clear hSw; go_simp; try with_reducible rfl)
          try simp only [Act.put, List.setIfInBounds_toArray, List.set_cons_zero, List.set_cons_succ]
          refine takeD (i := 38) (v := ?zvq1138) (some 84) rfl rfl (by kernel_rfl) (by kernel_rfl) (by kernel_rfl) (fun _ _ _ h => h) (Or.inl ⟨by rfl, ?zyq1138⟩) (by assumption) ?zrq1138
          case zyq1138 => (intro w hSw; clear hSw; go_simp; try with_reducible rfl)
          try simp only [Act.put, List.setIfInBounds_toArray, List.set_cons_zero, List.set_cons_succ]
          refine wpAnyH_done (by kernel_rfl) ?_ _
          go_wp2_with fail
          refine ⟨⟨i + 1, by omega, by go_num, Lib.hid ⟨_, _, HI3.out.past hbc⟩⟩, ?_⟩
          simp [intOf]; omega
      · have e : i = n := by omega
        subst e
        have i2 : ¬ (i : Int) < (i : Int) := by omega
        have HBW := Lib.hid (bz wr)
        go_wp2_with fail
        obtain ⟨wo, hwo⟩ : ∃ x, x = wr := ⟨_, rfl⟩
        subst hwo
        go_loopw [8] (fun t8 ws => ∃ k : Nat, k ≤ i + 1 ∧ t8 = .int .i64 k ∧ Hid (Below wo.heap.size wo ws)) (fun t8 _ => (i + 1) - (intOf t8).toNat)
        case atStart => exact ⟨0, Nat.zero_le _, rfl, HBW⟩
        case round =>
          obtain ⟨k, hk, rfl, hB⟩ := hrel
          have HB2 := Lib.hid hB.out
          clear hB
          have k1 : (0 : Int) ≤ (k : Int) := by omega
          by_cases hk2 : k < i + 1
          · have k2 : (k : Int) < ((i + 1 : Nat) : Int) := by omega
            have hki : k ≤ i := by omega
            have HIk := Lib.hid (HI.out.past HB2.out)
            obtain ⟨ao3, m3, q3, hc3, hs3⟩ := HIk.out.cell3 rfl hki
            obtain ⟨ao4, m4, q4, hc4, hs4⟩ := HIk.out.cell4 rfl hki
            have C3 := Lib.hid (fun W (h : Below wr.heap.size wr W) => cell_past_g h hc3)
            have C4 := Lib.hid (fun W (h : Below wr.heap.size wr W) => cell_past_g h hc4)
            have hl := HSL.out k (by omega)
            have HIS := Lib.hid (fun W (h : Below wr.heap.size wr W) => is_any (hs3.below h) (hs4.below h) (by omega) true ⟨fun _ => lis_all hl.1, fun _ => rfl⟩)
            clear hc3 hs3 hc4 hs4 hl
            go_wp2_with fail
            have hbc := bz wr
            refine wp_region_held_drew (S := (fun W => Below wr.heap.size wr W)) (by kernel_rfl) (by first | exact hbc | exact hbc.drew) (fun hHeld => ?_)
            replace hbc := hbc.drew
            refine takeD (i := 0) (v := ?zvq160) (some 91) rfl rfl (by kernel_rfl) (by kernel_rfl) (by kernel_rfl) (fun _ _ _ h => h) (Or.inl ⟨by rfl, ?zyq160⟩) (by assumption) ?zrq160
            case zyq160 => (intro w hSw; clear hSw; go_simp; try with_reducible rfl)
            try simp only [Act.put, List.setIfInBounds_toArray, List.set_cons_zero, List.set_cons_succ]
            refine takeD (i := 1) (v := ?zvq161) (some 92) rfl rfl (by kernel_rfl) (by kernel_rfl) (by kernel_rfl) (fun _ _ _ h => h) (Or.inl ⟨by rfl, ?zyq161⟩) (by assumption) ?zrq161
            case zyq161 => (intro w hSw; clear hSw; go_simp; try with_reducible rfl)
            try simp only [Act.put, List.setIfInBounds_toArray, List.set_cons_zero, List.set_cons_succ]
            refine takeD (i := 2) (v := ?zvq162) (some 93) rfl rfl (by kernel_rfl) (by kernel_rfl) (by kernel_rfl) (fun _ _ _ h => h) (Or.inl ⟨by rfl, ?zyq162⟩) (by assumption) ?zrq162
            case zyq162 => (intro w hSw; refine idx_one hidx3 k1 k2 ?_ ?_ <;> rfl)
            try simp only [Act.put, List.setIfInBounds_toArray, List.set_cons_zero, List.set_cons_succ]
            refine takeD (i := 3) (v := ?zvq163) (some 94) rfl rfl (by kernel_rfl) (by kernel_rfl) (by kernel_rfl) (fun _ _ _ h => h) (Or.inl ⟨by rfl, ?zyq163⟩) (by assumption) ?zrq163
            case zyq163 => (intro w hSw; refine load_set (C3.out w hSw) ?_; rfl)
            try simp only [Act.put, List.setIfInBounds_toArray, List.set_cons_zero, List.set_cons_succ]
            refine takeD (i := 4) (v := ?zvq164) (some 95) rfl rfl (by kernel_rfl) (by kernel_rfl) (by kernel_rfl) (fun _ _ _ h => h) (Or.inl ⟨by rfl, ?zyq164⟩) (by assumption) ?zrq164
            case zyq164 => (intro w hSw; clear hSw; go_simp; try with_reducible rfl)
            try simp only [Act.put, List.setIfInBounds_toArray, List.set_cons_zero, List.set_cons_succ]
            refine takeD (i := 5) (v := ?zvq165) (some 96) rfl rfl (by kernel_rfl) (by kernel_rfl) (by kernel_rfl) (fun _ _ _ h => h) (Or.inl ⟨by rfl, ?zyq165⟩) (by assumption) ?zrq165
            case zyq165 => (intro w hSw; clear hSw; go_simp; try with_reducible rfl)
            try simp only [Act.put, List.setIfInBounds_toArray, List.set_cons_zero, List.set_cons_succ]
            refine takeD (i := 6) (v := ?zvq166) (some 97) rfl rfl (by kernel_rfl) (by kernel_rfl) (by kernel_rfl) (fun _ _ _ h => h) (Or.inl ⟨by rfl, ?zyq166⟩) (by assumption) ?zrq166
            case zyq166 => (intro w hSw; refine idx_one hidx4 k1 k2 ?_ ?_ <;> rfl)
            try simp only [Act.put, List.setIfInBounds_toArray, List.set_cons_zero, List.set_cons_succ]
            refine takeD (i := 7) (v := ?zvq167) (some 98) rfl rfl (by kernel_rfl) (by kernel_rfl) (by kernel_rfl) (fun _ _ _ h => h) (Or.inl ⟨by rfl, ?zyq167⟩) (by assumption) ?zrq167
            case zyq167 => (intro w hSw; refine load_lis (C4.out w hSw) ?_; rfl)
            try simp only [Act.put, List.setIfInBounds_toArray, List.set_cons_zero, List.set_cons_succ]
            refine wpAnyH_ready (rs := [8]) (by kernel_rfl) (by simp) ?_
            refine AllReadyH.cons rfl (fun K hK => ?_) AllReadyH.nil
            go_simp
            refine (HIS.out _ hbc).mono ?_
            rintro e wkz ⟨rfl, hbk⟩
            replace hbc := bt hbc hbk
            clear hbk
            go_wp2_with fail
            refine hK.out _ _ (by first | exact hbc | exact hbc.drew) (fun hHeld2 => ?_)
            clear hK K
            clear hHeld
            have hHeld := hHeld2
            clear hHeld2
            try simp only [Act.put, List.setIfInBounds_toArray, List.set_cons_zero, List.set_cons_succ]
            refine takeD (i := 9) (v := ?zvq169) (some 100) rfl rfl (by kernel_rfl) (by kernel_rfl) (by kernel_rfl) (fun _ _ _ h => h) (Or.inl ⟨by rfl, ?zyq169⟩) (by assumption) ?zrq169
            case zyq169 => (intro w hSw; clear hSw; go_simp; try with_reducible rfl)
            try simp only [Act.put, List.setIfInBounds_toArray, List.set_cons_zero, List.set_cons_succ]
            refine wpAnyH_done (by kernel_rfl) ?_ _
            go_wp2_with fail
            refine ⟨⟨k + 1, by omega, by go_num, Lib.hid (bt HB2.out hbc)⟩, ?_⟩
            simp [intOf]; omega
          · have k2 : ¬ (k : Int) < ((i + 1 : Nat) : Int) := by omega
            have HBZ := Lib.hid (bt HI.out.below HB2.out)
            clear hidx3 hidx4
            go_wp2_with fail
            refine (awake_any _).mono ?_
            rintro e w1 ⟨rfl, hb1⟩
            go_wp2
            go_ret
            exact ⟨rfl, bt HBZ.out hb1⟩
end Go.Proofs.Ytfjccgihdnemkaa
