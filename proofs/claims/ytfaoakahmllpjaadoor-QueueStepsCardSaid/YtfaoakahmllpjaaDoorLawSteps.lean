/- QueueSteps: a step of any values is the document's, and the values told stay. -/
import Derived.Test.YtfaoakahmllpjaaDoorSteps
namespace Go.Proofs.YtfaoakahmllpjaaDoor
open Go.RowKit Go.Um
set_option maxHeartbeats 1000000

theorem idx22 (g n cap : Nat) : ∀ (i : Int), 0 ≤ i → i < n → ∀ w, (Instr.indexAt 22 (.slice (some ⟨g, 0, none⟩) n cap) (.int .i64 i)).run Tryd.prog w = .ok (.pointer (some ⟨g, i.toNat, none⟩)) w := by
  intro i h0 h1 w
  obtain ⟨ti, hi, hti⟩ := Option.map_eq_some_iff.1 size23
  have he : Tryd.prog.elem 22 = 23 := by simp [Program.elem, Tryd.underlying22]
  rw [run_indexAt_slice (h := by rw [he]; exact Tryd.underlying22), if_pos ⟨h0, h1⟩, he]
  simp [sizeOf, typeInfo, hi, hti, Result.andThen, Addr.add_lit]

theorem SlAt.kept {S : Nat → Prop} {w w' : World} {size n cap b o : Nat} {cs : List Value} {ao : Option Addr} (h : SlAt w size n cs ao cap b o) (hk : Kept S w w') (hb : 0 < cs.length → ¬ S b) : SlAt w' size n cs ao cap b o :=
  ⟨h.len, h.le, h.max, h.addr, fun hp => Nat.lt_of_lt_of_le (h.lt hp) hk.size, fun j u hu => by
    have hp : 0 < cs.length := by have := (List.getElem?_eq_some_iff.1 hu).1; omega
    exact hk.cell (h.cell j u hu) (hb hp)⟩
theorem Far.kept {S S' : Nat → Prop} {w w' : World} {l : List Int} {v : Value} (h : Far S w l v) (hk : Kept S' w w') (hb : ∀ b, b < w.heap.size → S b → ¬ S' b) : Far S w' l v := by
  obtain ⟨ao, cap, b, o, rfl, hs, k⟩ := h
  exact ⟨ao, cap, b, o, rfl, SlAt.kept hs hk (fun hp => hb b (hs.lt hp) (k (by rw [us_len] at hp; omega))), k⟩

/-- two rows that the call owns, and that it writes -/
structure LInv (w8 : World) (E B n bv bo capv capo : Nat) (wr : World) : Prop where
  own1 : ∃ l1 : List Int, l1.length = n ∧ wr.ownsRow E 23 1 (.slice (some ⟨bv, 0, none⟩) n capv) n (us l1)
  own2 : ∃ l2 : List Int, l2.length = n ∧ wr.ownsRow B 23 1 (.slice (some ⟨bo, 0, none⟩) n capo) n (us l2)
  kept : Kept (fun b => b = bv ∨ b = bo) w8 wr

theorem us_set (l : List Int) (k : Nat) (y : Int) : (us l).set k (.int .u16 y) = us (l.set k y) := by simp [us]

theorem LInv.step {w8 wr : World} {E B n bv bo capv capo k : Nat} (h : LInv w8 E B n bv bo capv capo wr) (hne : bv ≠ bo) (y z : Int) :
    LInv w8 E B n bv bo capv capo ((wr.setCell ⟨bv, k, none⟩ (.int .u16 y)).setCell ⟨bo, k, none⟩ (.int .u16 z)) := by
  obtain ⟨⟨l1, e1, o1⟩, ⟨l2, e2, o2⟩, kp⟩ := h
  have a1 := (o1.stored k (.int .u16 y)).1
  have a2 := own_setCell o2 (a := ⟨bv, k, none⟩) (by simp [Value.ownBlock]; omega) (.int .u16 y)
  have b1 := own_setCell a1 (a := ⟨bo, k, none⟩) (by simp [Value.ownBlock]; omega) (.int .u16 z)
  have b2 := (a2.stored k (.int .u16 z)).1
  rw [us_set] at b1 b2
  exact ⟨⟨l1.set k y, by simpa using e1, b1⟩, ⟨l2.set k z, by simpa using e2, b2⟩, (kp.setCell (fun _ => .inl rfl) _).setCell (fun _ => .inr rfl) _⟩

theorem qsteps_big (l : List Int) (v : Value) (x : Op5) (w : World) (hv : Lies w l v) (hbig : 200 < l.length) (hk : Kinds w) :
    Calls Tryd.prog 3 #[v, opV x] w fun e w' => e = .returned (.bool true) ∧ Below w.heap.size w w' := by
  obtain ⟨ao, cap, b, o, rfl, hs⟩ := hv
  have h1 : decide ((l.length : Int) > 200) = true := by simp; omega
  have h2 : decide (200 < (l.length : Int)) = true := by simp; omega
  clear hs
  unfold opV
  go_enter Tryd.func3, Tryd.ntmps3
  go_wp2_with fail
  refine (works_any _ (hk.below (ba (bz w) _))).mono ?_
  rintro e w1 ⟨rfl, hb1⟩
  go_wp2
  go_ret
  exact ⟨rfl, bt (ba (bz w) _) hb1⟩

theorem qsteps_pos (l : List Int) (v : Value) (x : Op5) (hx : x.ok) (w : World) (hv : Lies w l v) (hl0 : 0 < l.length) (hl : l.length ≤ 200) (hk : Kinds w) :
    Calls Tryd.prog 3 #[v, opV x] w fun e w' => e = .returned (.bool true) ∧ Below w.heap.size w w' := by
  obtain ⟨i0, hi, hz0, hz1, hz2⟩ := info_parts info23
  have HV := Lib.hid hv
  obtain ⟨ao, cap, b, o, rfl, hs⟩ := hv
  have ha := hs.addr (by rw [us_len]; omega)
  subst ha
  have hcl : ∀ j u, (us l)[j]? = some u → w.cell? ((⟨b, o, none⟩ : Addr).add j) = some u := by
    intro j u hu
    rw [Addr.add_lit]
    exact hs.cell j u hu
  have Hs := Lib.hid hs
  have Hcl := Lib.hid hcl
  have Hk := Lib.hid hk
  clear hs hcl hk
  have h1 : (l.length : Int) ≤ 200 := by omega
  have HX := Lib.hid hx
  obtain ⟨f, ob, k, a, bb⟩ := x
  have hst := fun S v' W (h : Far S W l v') hk => step_any S l v' ⟨f, ob, k, a, bb⟩ hx W h (by omega) hk
  have hrst := fun S v' W (h : Far S W l v') => rstep_any S l v' ⟨f, ob, k, a, bb⟩ hx W h (by omega)
  unfold opV at hst hrst ⊢
  have Hst := Lib.hid hst
  have Hrst := Lib.hid hrst
  obtain ⟨q, hq⟩ : ∃ q, q = nxt l ⟨f, ob, k, a, bb⟩ := ⟨_, rfl⟩
  obtain ⟨r, hr⟩ : ∃ r, r = ans l ⟨f, ob, k, a, bb⟩ := ⟨_, rfl⟩
  obtain ⟨er, her⟩ : ∃ er, er = errOf ⟨f, ob, k, a, bb⟩ := ⟨_, rfl⟩
  have hql : q.length ≤ 100000 := by have := nxt_len l ⟨f, ob, k, a, bb⟩; rw [← hq] at this; omega
  rw [← hq, ← hr, ← her] at Hst Hrst
  clear hst hrst hx hq hr her
  have Hql := Lib.hid hql
  clear hql
  have hneq := neq31
  go_enter Tryd.func3, Tryd.ntmps3
  go_wp2_with (at_builtin; refine wpList_append_grows _ rfl (.tmp 19) (.tmp 20) 22 rfl 23 i0 (.int .u16 0) 1 2 Tryd.underlying22 hi hz0 hz1 hz2 rfl (by decide) none 0 0 [] rfl (by simp) rfl (by simp) ⟨b, o, none⟩ l.length cap (us l) rfl (us_len l) (fun j u hu => cell_past (ba (bz w) _) (Hcl.out j u hu)) us_one (by omega) (by unfold maxLen; omega) (by omega) ?_)
  intro vo wa howna hgrowa
  obtain ⟨bo, capo, hvo, hbo1, hbo2⟩ := World.ownsRow.form howna hl0
  subst hvo
  have hBa : Below w.heap.size w wa := (ba (bz w) _).grown hgrowa (by simp) (fun k hk => by cases hk)
  have x0 := hgrowa.cell (a := ⟨w.heap.size, 0, none⟩) (v := .int .u8 f) (by simp [go_sem]) (by simp)
  have x1 := hgrowa.cell (a := ⟨w.heap.size, 1, none⟩) (v := .int .u8 ob) (by simp [go_sem]) (by simp)
  have x2 := hgrowa.cell (a := ⟨w.heap.size, 2, none⟩) (v := .int .u8 k) (by simp [go_sem]) (by simp)
  have x3 := hgrowa.cell (a := ⟨w.heap.size, 3, none⟩) (v := .int .u16 a) (by simp [go_sem]) (by simp)
  have x4 := hgrowa.cell (a := ⟨w.heap.size, 4, none⟩) (v := .int .u16 bb) (by simp [go_sem]) (by simp)
  have za : w.heap.size < wa.heap.size := by have := hgrowa.size; simp at this; omega
  have hlo : Lies wa l (.slice (some ⟨bo, 0, none⟩) l.length capo) := Lies.own howna
  have Hlo := Lib.hid hlo
  clear hlo
  have Howna := Lib.hid howna
  clear howna
  have Hga := Lib.hid hgrowa
  clear hgrowa
  have HBa := Lib.hid hBa
  clear hBa
  go_wp2_with fail
  refine (qof_any l _ _ (Hlo.out) (by omega)).mono ?_
  rintro e w1 ⟨s, rfl, hown1, hb1⟩
  replace x0 := cell_past hb1 x0
  replace x1 := cell_past hb1 x1
  replace x2 := cell_past hb1 x2
  replace x3 := cell_past hb1 x3
  replace x4 := cell_past hb1 x4
  have hf1 := (Far.own (S := fun b => wa.heap.size ≤ b) hown1 (fun b hb => hb)).mono (S' := fun b => wa.heap.size ≤ b ∧ b < w1.heap.size) (fun b h1 h2 => ⟨h2, h1⟩)
  have hB1 := bt HBa.out hb1
  have z1 : wa.heap.size ≤ w1.heap.size := hb1.size
  have zz1 : w.heap.size < w1.heap.size := by omega
  have Hs1 := Lib.hid hf1
  obtain ⟨ao1, cap1, b1, o1, rfl, hs1', hf1'⟩ := hf1
  have Hb1 := Lib.hid hb1
  clear hb1
  have HB1 := Lib.hid hB1
  clear hB1
  have Hown1 := Lib.hid hown1
  clear hown1
  clear hs1' hf1'
  go_wp2_with fail
  refine (Hst.out _ _ _ (Hs1.out.alloc _) (((Hk.out.below HB1.out)).below (ba (bz w1) _))).mono ?_
  rintro e w2 ⟨nv, rfl, hf2, hb2⟩
  have c6 := kc hb2 w1.heap.size 0 (.slice ao1 l.length cap1) (by simp [go_sem])
  have hb2' := bt (ba (bz w1) _) hb2
  replace x0 := cell_past hb2' x0
  replace x1 := cell_past hb2' x1
  replace x2 := cell_past hb2' x2
  replace x3 := cell_past hb2' x3
  replace x4 := cell_past hb2' x4
  have hB2 := bt HB1.out hb2'
  have z2 : w1.heap.size < w2.heap.size := by have := hb2.size; simp at this; omega
  have zz2 : w.heap.size < w2.heap.size := by omega
  have Hs2 := Lib.hid (Hs1.out.below hb2')
  have Hn2 := Lib.hid hf2
  obtain ⟨ao2, cap2, b2, o2, rfl, hs1', hf1'⟩ := hf2
  have Hb2 := Lib.hid hb2'
  clear hb2'
  have HB2 := Lib.hid hB2
  clear hB2
  clear hs1' hf1' hb2
  go_wp2_with fail
  refine (Hrst.out (fun b => b < w.heap.size) _ _ ((((Far.of_lies HV.out).below HB2.out).alloc _).alloc _)).mono ?_
  rintro e w3 ⟨qv, rfl, hf3, hb3⟩
  have c7 := kc hb3 w2.heap.size 0 (.slice ao2 q.length cap2) (by simp [go_sem])
  have c8 := kc hb3 (w2.heap.size + 1) 0 (.int .u8 r.1) (by simp [go_sem])
  have c9 := kc hb3 (w2.heap.size + 1) 1 (.int .u16 r.2) (by simp [go_sem])
  have hb3' := bt (ba (ba (bz w2) _) _) hb3
  replace x0 := cell_past hb3' x0
  replace x1 := cell_past hb3' x1
  replace x2 := cell_past hb3' x2
  replace x3 := cell_past hb3' x3
  replace x4 := cell_past hb3' x4
  replace c6 := cell_past hb3' c6
  have hB3 := bt HB2.out hb3'
  have z3 : w2.heap.size + 1 < w3.heap.size := by have := hb3.size; simp at this; omega
  have zz3 : w.heap.size < w3.heap.size := by omega
  have y3 : w2.heap.size < w3.heap.size := by omega
  have HB23 := Lib.hid hb3'
  have Hs3 := Lib.hid (Hs2.out.below hb3')
  have Hn3 := Lib.hid (Hn2.out.below hb3')
  have Hq3 := Lib.hid hf3
  obtain ⟨ao3, cap3, b3, o3, rfl, hs1', hf1'⟩ := hf3
  have HQ3 := Lib.hid hs1'
  have HQS := Lib.hid hf1'
  have HB3 := Lib.hid hB3
  clear hB3
  clear hs1' hf1' hb3 hb3'
  go_wp2_with fail
  refine (values_any q _ _ (Hn3.out.lies.below (ba (bz w3) _)) Hql.out).mono ?_
  rintro e w4 ⟨vv4, rfl, hown4, hb4⟩
  have c10 := kc hb4 w3.heap.size 0 (.int .u8 r.1) (by simp [go_sem])
  have c11 := kc hb4 w3.heap.size 1 (.int .u16 r.2) (by simp [go_sem])
  have hb4' := bt (ba (bz w3) _) hb4
  replace x0 := cell_past hb4' x0
  replace x1 := cell_past hb4' x1
  replace x2 := cell_past hb4' x2
  replace x3 := cell_past hb4' x3
  replace x4 := cell_past hb4' x4
  replace c6 := cell_past hb4' c6
  replace c7 := cell_past hb4' c7
  replace c8 := cell_past hb4' c8
  replace c9 := cell_past hb4' c9
  obtain ⟨ao4, cap4, b4, o4, rfl, hs4, _⟩ := SlAt.owned hown4
  have HB4 := Lib.hid hb4'
  clear hb4'
  have HS4 := Lib.hid hs4
  clear hs4
  clear hown4 hb4
  go_wp2_with fail
  refine (rsame_any q q _ _ _ _ _ _ _ _ _ HS4.out (HQ3.out.below HB4.out) Hql.out).mono ?_
  rintro e w5 ⟨rfl, hb5⟩
  rw [decide_eq_true (rfl : q = q)]
  replace x0 := cell_past hb5 x0
  replace x1 := cell_past hb5 x1
  replace x2 := cell_past hb5 x2
  replace x3 := cell_past hb5 x3
  replace x4 := cell_past hb5 x4
  replace c6 := cell_past hb5 c6
  replace c7 := cell_past hb5 c7
  replace c8 := cell_past hb5 c8
  replace c9 := cell_past hb5 c9
  replace c10 := cell_past hb5 c10
  replace c11 := cell_past hb5 c11
  have hB5 := bt HB4.out hb5
  have HB5 := Lib.hid hB5
  clear hB5
  clear hb5
  go_wp2_with fail
  refine (values_any l _ _ ((Hs3.out.lies).below HB5.out) (by omega)).mono ?_
  rintro e w6 ⟨vv6, rfl, hown6, hb6⟩
  replace x0 := cell_past hb6 x0
  replace x1 := cell_past hb6 x1
  replace x2 := cell_past hb6 x2
  replace x3 := cell_past hb6 x3
  replace x4 := cell_past hb6 x4
  replace c6 := cell_past hb6 c6
  replace c7 := cell_past hb6 c7
  obtain ⟨ao6, cap6, b6, o6, rfl, hs6, _⟩ := SlAt.owned hown6
  have hB6 := bt HB5.out hb6
  have HB6 := Lib.hid hB6
  clear hB6
  have HS6 := Lib.hid hs6
  clear hs6
  clear hown6 hb6 c8 c9 c10 c11
  go_wp2_with fail
  refine (rsame_any l l _ _ _ _ _ _ _ _ _ HS6.out ((Hs.out.below HB3.out).below HB6.out) (by omega)).mono ?_
  rintro e w7 ⟨rfl, hb7⟩
  rw [decide_eq_true (rfl : l = l)]
  replace x0 := cell_past hb7 x0
  replace x1 := cell_past hb7 x1
  replace x2 := cell_past hb7 x2
  replace x3 := cell_past hb7 x3
  replace x4 := cell_past hb7 x4
  replace c6 := cell_past hb7 c6
  replace c7 := cell_past hb7 c7
  have hB7 := bt HB6.out hb7
  have HB7 := Lib.hid hB7
  clear hB7
  clear hb7
  go_wp2_with fail
  refine (values_any l _ _ ((Hs3.out.lies).below HB7.out) (by omega)).mono ?_
  rintro e w8 ⟨vv8, rfl, hown8, hb8⟩
  replace x0 := cell_past hb8 x0
  replace x1 := cell_past hb8 x1
  replace x2 := cell_past hb8 x2
  replace x3 := cell_past hb8 x3
  replace x4 := cell_past hb8 x4
  replace c6 := cell_past hb8 c6
  replace c7 := cell_past hb8 c7
  obtain ⟨bv, capv, hvv, hbv1, hbv2⟩ := World.ownsRow.form hown8 hl0
  subst hvv
  have hB8 := bt HB7.out hb8
  have hBB8 := bt HB3.out hB8
  have z8 : w7.heap.size ≤ w8.heap.size := hb8.size
  have z7 : w3.heap.size ≤ w7.heap.size := HB7.out.size
  have howno : w8.ownsRow (w.heap.size + 1) 23 1 (.slice (some ⟨bo, 0, none⟩) l.length capo) l.length (us l) := by
    have h1 := own_past (own_past (own_past (own_past Howna.out Hb1.out) Hb2.out) HB23.out) hB8
    simpa using h1
  have HB8 := Lib.hid hB8
  clear hB8
  have HBB8 := Lib.hid hBB8
  clear hBB8
  have Hown8 := Lib.hid hown8
  clear hown8
  have Howno := Lib.hid howno
  clear howno
  clear hb8
  have hix := idx22 bv l.length capv
  have hixo := idx22 bo l.length capo
  have hne : bv ≠ bo := by omega
  have n1 : w8.heap.size ≠ w.heap.size := by omega
  go_wp2_with fail
  go_loopw [14] (fun t14 wr => ∃ k : Nat, k ≤ l.length ∧ t14 = .int .i64 k ∧ LInv w8 w7.heap.size (w.heap.size + 1) l.length bv bo capv capo wr) (fun t14 _ => l.length - (intOf t14).toNat)
  case atStart => exact ⟨0, Nat.zero_le _, rfl, ⟨l, rfl, Hown8.out⟩, ⟨l, rfl, Howno.out⟩, Kept.refl _ _⟩
  case round =>
    obtain ⟨k, hk, rfl, hinv⟩ := hrel
    by_cases hlt : k < l.length
    · obtain ⟨l1, e1, o1⟩ := hinv.own1
      obtain ⟨l2, e2, o2⟩ := hinv.own2
      have hp0 : (0 : Int) ≤ (k : Int) := by omega
      have hp1 : (k : Int) < (l.length : Int) := by omega
      have g1 : wr.cell? ⟨bv, k, none⟩ = some (.int .u16 (l1[k]'(by omega))) := (o1.cellAt k (by omega)).trans (us_at (List.getElem?_eq_getElem (by omega)))
      have g2 : wr.cell? ⟨bo, k, none⟩ = some (.int .u16 (l2[k]'(by omega))) := (o2.cellAt k (by omega)).trans (us_at (List.getElem?_eq_getElem (by omega)))
      obtain ⟨y1, hy1⟩ : ∃ y, y = l1[k]'(by omega) := ⟨_, rfl⟩
      obtain ⟨y2, hy2⟩ : ∃ y, y = l2[k]'(by omega) := ⟨_, rfl⟩
      rw [← hy1] at g1
      rw [← hy2] at g2
      have q1 := o1.frozenAt k
      have q2 := o2.frozenAt k
      have HI := Lib.hid hinv
      clear hy1 hy2 o1 o2 e1 e2 hinv
      go_wp2
      go_roundw
      case rel => exact ⟨k + 1, by omega, by go_num, HI.out.step hne _ _⟩
      case measure => simp [intOf]; omega
    · have hk' : l.length = k := by omega
      have hkp := hinv.kept
      have nv1 : ¬ (w.heap.size = bv ∨ w.heap.size = bo) := by omega
      have nv2 : ¬ (w1.heap.size = bv ∨ w1.heap.size = bo) := by omega
      have nv3 : ¬ (w2.heap.size = bv ∨ w2.heap.size = bo) := by omega
      replace x0 := hkp.cell x0 nv1
      replace c6 := hkp.cell c6 nv2
      replace c7 := hkp.cell c7 nv3
      have hbel : Below w.heap.size w wr := HBB8.out.trans (hkp.below (fun k hk _ h => by omega) HBB8.out.size)
      have HSr := Lib.hid ((Hs3.out.below HB8.out).kept hkp (fun b _ hb h => by omega))
      have HNr := Lib.hid (((Hn3.out.mono (S' := fun b => wa.heap.size ≤ b ∧ b < w3.heap.size) (fun b hlt hb => ⟨hb.elim (fun h => h.1) (fun h => by simp at h; omega), hlt⟩)).below HB8.out).kept hkp (fun b _ hb h => by omega))
      have HQr := Lib.hid (SlAt.kept (HQ3.out.below HB8.out) hkp (fun hp h => by
        have h1 := HQ3.out.lt hp
        have h2 := HQS.out (by rw [us_len] at hp; omega)
        simp at h2
        omega))
      have HLr := Lib.hid (SlAt.kept (Hs.out.below HBB8.out) hkp (fun hp h => by have := Hs.out.lt hp; omega))
      have HK := Lib.hid hk'
      have HBr := Lib.hid hbel
      clear hbel
      clear hinv hkp hk' x1 x2 x3 x4 nv1 nv2 nv3
      go_wp2_with fail
      refine (values_any l _ _ HSr.out.lies (by omega)).mono ?_
      rintro e wA ⟨vA, rfl, hownA, hbA⟩
      replace x0 := cell_past hbA x0
      replace c7 := cell_past hbA c7
      obtain ⟨aoA, capA, bA, oA, rfl, hsA, _⟩ := SlAt.owned hownA
      have HSA := Lib.hid hsA
      clear hsA
      have HBA := Lib.hid hbA
      clear hbA
      clear hownA
      go_wp2_with fail
      refine (rsame_any l l _ _ _ _ _ _ _ _ _ HSA.out (HLr.out.below HBA.out) (by omega)).mono ?_
      rintro e wB ⟨rfl, hbB⟩
      rw [decide_eq_true (rfl : l = l)]
      replace x0 := cell_past hbB x0
      replace c7 := cell_past hbB c7
      have hBB := bt HBA.out hbB
      have HBB := Lib.hid hBB
      clear hBB
      clear hbB
      go_wp2_with fail
      refine (values_any q _ _ (HNr.out.lies.below HBB.out) Hql.out).mono ?_
      rintro e wC ⟨vC, rfl, hownC, hbC⟩
      replace x0 := cell_past hbC x0
      obtain ⟨aoC, capC, bC, oC, rfl, hsC, _⟩ := SlAt.owned hownC
      have hBC := bt HBB.out hbC
      have HSC := Lib.hid hsC
      clear hsC
      have HBC := Lib.hid hBC
      clear hBC
      clear hownC hbC
      go_wp2_with fail
      refine (rsame_any q q _ _ _ _ _ _ _ _ _ HSC.out (HQr.out.below HBC.out) Hql.out).mono ?_
      rintro e wD ⟨rfl, hbD⟩
      rw [decide_eq_true (rfl : q = q)]
      replace x0 := cell_past hbD x0
      have hBD := bt HBC.out hbD
      have hBD' := bt HBr.out hBD
      have HBD := Lib.hid hBD'
      clear hBD'
      clear hbD hBD
      go_wp2_with fail
      refine (idle_any f _).mono ?_
      rintro e wE ⟨rfl, rfl⟩
      go_wp2_with fail
      refine (works_any _ (Hk.out.below HBD.out)).mono ?_
      rintro e wF ⟨rfl, hbF⟩
      go_wp2
      go_ret
      exact ⟨rfl, bt HBD.out hbF⟩
theorem qsteps_nil (v : Value) (x : Op5) (hx : x.ok) (w : World) (hv : Lies w [] v) (hk : Kinds w) :
    Calls Tryd.prog 3 #[v, opV x] w fun e w' => e = .returned (.bool true) ∧ Below w.heap.size w w' := by
  obtain ⟨i0, hi, hz0, hz1, hz2⟩ := info_parts info23
  have HV := Lib.hid hv
  obtain ⟨ao, cap, b, o, rfl, hs⟩ := hv
  have Hs := Lib.hid hs
  have Hk := Lib.hid hk
  clear hs hk
  have HX := Lib.hid hx
  obtain ⟨f, ob, k, a, bb⟩ := x
  have hst := fun S v' W (h : Far S W [] v') hk => step_any S [] v' ⟨f, ob, k, a, bb⟩ hx W h (by decide) hk
  have hrst := fun S v' W (h : Far S W [] v') => rstep_any S [] v' ⟨f, ob, k, a, bb⟩ hx W h (by decide)
  unfold opV at hst hrst ⊢
  have Hst := Lib.hid hst
  have Hrst := Lib.hid hrst
  obtain ⟨q, hq⟩ : ∃ q, q = nxt [] ⟨f, ob, k, a, bb⟩ := ⟨_, rfl⟩
  obtain ⟨r, hr⟩ : ∃ r, r = ans [] ⟨f, ob, k, a, bb⟩ := ⟨_, rfl⟩
  obtain ⟨er, her⟩ : ∃ er, er = errOf ⟨f, ob, k, a, bb⟩ := ⟨_, rfl⟩
  have hql : q.length ≤ 100000 := by have := nxt_len [] ⟨f, ob, k, a, bb⟩; rw [← hq] at this; simp at this; omega
  rw [← hq, ← hr, ← her] at Hst Hrst
  clear hst hrst hx hq hr her
  have Hql := Lib.hid hql
  clear hql
  have hneq := neq31
  cases ao
  all_goals
    go_enter Tryd.func3, Tryd.ntmps3
    go_wp2_with fail
    have hBa : Below w.heap.size w (w.alloc (.cells #[.int .u8 f, .int .u8 ob, .int .u8 k, .int .u16 a, .int .u16 bb] 25)) := ba (bz w) _
    obtain ⟨wa, hwa⟩ : ∃ wa, wa = w.alloc (.cells #[.int .u8 f, .int .u8 ob, .int .u8 k, .int .u16 a, .int .u16 bb] 25) := ⟨_, rfl⟩
    have x0 : wa.cell? ⟨w.heap.size, 0, none⟩ = some (.int .u8 f) := by rw [hwa]; simp [go_sem]
    have x1 : wa.cell? ⟨w.heap.size, 1, none⟩ = some (.int .u8 ob) := by rw [hwa]; simp [go_sem]
    have x2 : wa.cell? ⟨w.heap.size, 2, none⟩ = some (.int .u8 k) := by rw [hwa]; simp [go_sem]
    have x3 : wa.cell? ⟨w.heap.size, 3, none⟩ = some (.int .u16 a) := by rw [hwa]; simp [go_sem]
    have x4 : wa.cell? ⟨w.heap.size, 4, none⟩ = some (.int .u16 bb) := by rw [hwa]; simp [go_sem]
    have za : w.heap.size < wa.heap.size := by rw [hwa]; simp
    rw [← hwa] at hBa ⊢
    clear hwa
    have HBa := Lib.hid hBa
    clear hBa
    go_wp2_with fail
    refine (qof_any [] _ _ (nil_lies wa) (by decide)).mono ?_
    rintro e w1 ⟨s, rfl, hown1, hb1⟩
    replace x0 := cell_past hb1 x0
    replace x1 := cell_past hb1 x1
    replace x2 := cell_past hb1 x2
    replace x3 := cell_past hb1 x3
    replace x4 := cell_past hb1 x4
    have hf1 := (Far.own (S := fun b => wa.heap.size ≤ b) hown1 (fun b hb => hb)).mono (S' := fun b => wa.heap.size ≤ b ∧ b < w1.heap.size) (fun b h1 h2 => ⟨h2, h1⟩)
    have hB1 := bt HBa.out hb1
    have z1 : wa.heap.size ≤ w1.heap.size := hb1.size
    have zz1 : w.heap.size < w1.heap.size := by omega
    have Hs1 := Lib.hid hf1
    obtain ⟨ao1, cap1, b1, o1, rfl, hs1', hf1'⟩ := hf1
    have Hb1 := Lib.hid hb1
    clear hb1
    have HB1 := Lib.hid hB1
    clear hB1
    have Hown1 := Lib.hid hown1
    clear hown1
    clear hs1' hf1'
    go_wp2_with fail
    refine (Hst.out _ _ _ (Hs1.out.alloc _) (((Hk.out.below HB1.out)).below (ba (bz w1) _))).mono ?_
    rintro e w2 ⟨nv, rfl, hf2, hb2⟩
    have c6 := kc hb2 w1.heap.size 0 (.slice ao1 0 cap1) (by simp [go_sem])
    have hb2' := bt (ba (bz w1) _) hb2
    replace x0 := cell_past hb2' x0
    replace x1 := cell_past hb2' x1
    replace x2 := cell_past hb2' x2
    replace x3 := cell_past hb2' x3
    replace x4 := cell_past hb2' x4
    have hB2 := bt HB1.out hb2'
    have z2 : w1.heap.size < w2.heap.size := by have := hb2.size; simp at this; omega
    have zz2 : w.heap.size < w2.heap.size := by omega
    have Hs2 := Lib.hid (Hs1.out.below hb2')
    have Hn2 := Lib.hid hf2
    obtain ⟨ao2, cap2, b2, o2, rfl, hs1', hf1'⟩ := hf2
    have Hb2 := Lib.hid hb2'
    clear hb2'
    have HB2 := Lib.hid hB2
    clear hB2
    clear hs1' hf1' hb2
    go_wp2_with fail
    refine (Hrst.out (fun b => b < w.heap.size) _ _ ((((Far.of_lies HV.out).below HB2.out).alloc _).alloc _)).mono ?_
    rintro e w3 ⟨qv, rfl, hf3, hb3⟩
    have c7 := kc hb3 w2.heap.size 0 (.slice ao2 q.length cap2) (by simp [go_sem])
    have c8 := kc hb3 (w2.heap.size + 1) 0 (.int .u8 r.1) (by simp [go_sem])
    have c9 := kc hb3 (w2.heap.size + 1) 1 (.int .u16 r.2) (by simp [go_sem])
    have hb3' := bt (ba (ba (bz w2) _) _) hb3
    replace x0 := cell_past hb3' x0
    replace x1 := cell_past hb3' x1
    replace x2 := cell_past hb3' x2
    replace x3 := cell_past hb3' x3
    replace x4 := cell_past hb3' x4
    replace c6 := cell_past hb3' c6
    have hB3 := bt HB2.out hb3'
    have z3 : w2.heap.size + 1 < w3.heap.size := by have := hb3.size; simp at this; omega
    have zz3 : w.heap.size < w3.heap.size := by omega
    have y3 : w2.heap.size < w3.heap.size := by omega
    have HB23 := Lib.hid hb3'
    have Hs3 := Lib.hid (Hs2.out.below hb3')
    have Hn3 := Lib.hid (Hn2.out.below hb3')
    have Hq3 := Lib.hid hf3
    obtain ⟨ao3, cap3, b3, o3, rfl, hs1', hf1'⟩ := hf3
    have HQ3 := Lib.hid hs1'
    have HQS := Lib.hid hf1'
    have HB3 := Lib.hid hB3
    clear hB3
    clear hs1' hf1' hb3 hb3'
    go_wp2_with fail
    refine (values_any q _ _ (Hn3.out.lies.below (ba (bz w3) _)) Hql.out).mono ?_
    rintro e w4 ⟨vv4, rfl, hown4, hb4⟩
    have c10 := kc hb4 w3.heap.size 0 (.int .u8 r.1) (by simp [go_sem])
    have c11 := kc hb4 w3.heap.size 1 (.int .u16 r.2) (by simp [go_sem])
    have hb4' := bt (ba (bz w3) _) hb4
    replace x0 := cell_past hb4' x0
    replace x1 := cell_past hb4' x1
    replace x2 := cell_past hb4' x2
    replace x3 := cell_past hb4' x3
    replace x4 := cell_past hb4' x4
    replace c6 := cell_past hb4' c6
    replace c7 := cell_past hb4' c7
    replace c8 := cell_past hb4' c8
    replace c9 := cell_past hb4' c9
    obtain ⟨ao4, cap4, b4, o4, rfl, hs4, _⟩ := SlAt.owned hown4
    have HB4 := Lib.hid hb4'
    clear hb4'
    have HS4 := Lib.hid hs4
    clear hs4
    clear hown4 hb4
    go_wp2_with fail
    refine (rsame_any q q _ _ _ _ _ _ _ _ _ HS4.out (HQ3.out.below HB4.out) Hql.out).mono ?_
    rintro e w5 ⟨rfl, hb5⟩
    rw [decide_eq_true (rfl : q = q)]
    replace x0 := cell_past hb5 x0
    replace x1 := cell_past hb5 x1
    replace x2 := cell_past hb5 x2
    replace x3 := cell_past hb5 x3
    replace x4 := cell_past hb5 x4
    replace c6 := cell_past hb5 c6
    replace c7 := cell_past hb5 c7
    replace c8 := cell_past hb5 c8
    replace c9 := cell_past hb5 c9
    replace c10 := cell_past hb5 c10
    replace c11 := cell_past hb5 c11
    have hB5 := bt HB4.out hb5
    have HB5 := Lib.hid hB5
    clear hB5
    clear hb5
    go_wp2_with fail
    refine (values_any [] _ _ ((Hs3.out.lies).below HB5.out) (by decide)).mono ?_
    rintro e w6 ⟨vv6, rfl, hown6, hb6⟩
    replace x0 := cell_past hb6 x0
    replace x1 := cell_past hb6 x1
    replace x2 := cell_past hb6 x2
    replace x3 := cell_past hb6 x3
    replace x4 := cell_past hb6 x4
    replace c6 := cell_past hb6 c6
    replace c7 := cell_past hb6 c7
    obtain ⟨ao6, cap6, b6, o6, rfl, hs6, _⟩ := SlAt.owned hown6
    have hB6 := bt HB5.out hb6
    have HB6 := Lib.hid hB6
    clear hB6
    have HS6 := Lib.hid hs6
    clear hs6
    clear hown6 hb6 c8 c9 c10 c11
    go_wp2_with fail
    refine (rsame_any [] [] _ _ _ _ _ _ _ _ _ HS6.out ((Hs.out.below HB3.out).below HB6.out) (by decide)).mono ?_
    rintro e w7 ⟨rfl, hb7⟩
    rw [decide_eq_true (rfl : ([] : List Int) = [])]
    replace x0 := cell_past hb7 x0
    replace x1 := cell_past hb7 x1
    replace x2 := cell_past hb7 x2
    replace x3 := cell_past hb7 x3
    replace x4 := cell_past hb7 x4
    replace c6 := cell_past hb7 c6
    replace c7 := cell_past hb7 c7
    have hB7 := bt HB6.out hb7
    have HB7 := Lib.hid hB7
    clear hB7
    clear hb7
    go_wp2_with fail
    refine (values_any [] _ _ ((Hs3.out.lies).below HB7.out) (by decide)).mono ?_
    rintro e w8 ⟨vv8, rfl, hown8, hb8⟩
    replace x0 := cell_past hb8 x0
    replace x1 := cell_past hb8 x1
    replace x2 := cell_past hb8 x2
    replace x3 := cell_past hb8 x3
    replace x4 := cell_past hb8 x4
    replace c6 := cell_past hb8 c6
    replace c7 := cell_past hb8 c7
    obtain ⟨ao8, cap8, b8, o8, rfl, hs8, _⟩ := SlAt.owned hown8
    have hB8 := bt HB7.out hb8
    have hBB8 := bt HB3.out hB8
    have HB8 := Lib.hid hB8
    clear hB8
    have HBB8 := Lib.hid hBB8
    clear hBB8
    clear hown8 hs8 hb8
    go_wp2_with fail
    refine wp_loop_rounds 1 ?_
    rw [rounds_succ]
    go_wp2_with fail
    refine (values_any [] _ _ ((Hs3.out.lies).below HB8.out) (by decide)).mono ?_
    rintro e wA ⟨vA, rfl, hownA, hbA⟩
    replace x0 := cell_past hbA x0
    replace c7 := cell_past hbA c7
    obtain ⟨aoA, capA, bA, oA, rfl, hsA, _⟩ := SlAt.owned hownA
    have HSA := Lib.hid hsA
    clear hsA
    have HBA := Lib.hid hbA
    clear hbA
    clear hownA
    go_wp2_with fail
    refine (rsame_any [] [] _ _ _ _ _ _ _ _ _ HSA.out (((Hs.out.below HBB8.out)).below HBA.out) (by decide)).mono ?_
    rintro e wB ⟨rfl, hbB⟩
    rw [decide_eq_true (rfl : ([] : List Int) = [])]
    replace x0 := cell_past hbB x0
    replace c7 := cell_past hbB c7
    have hBB := bt HBA.out hbB
    have HBB := Lib.hid hBB
    clear hBB
    clear hbB
    go_wp2_with fail
    refine (values_any q _ _ (((Hn3.out.lies.below HB8.out)).below HBB.out) Hql.out).mono ?_
    rintro e wC ⟨vC, rfl, hownC, hbC⟩
    replace x0 := cell_past hbC x0
    obtain ⟨aoC, capC, bC, oC, rfl, hsC, _⟩ := SlAt.owned hownC
    have hBC := bt HBB.out hbC
    have HSC := Lib.hid hsC
    clear hsC
    have HBC := Lib.hid hBC
    clear hBC
    clear hownC hbC
    go_wp2_with fail
    refine (rsame_any q q _ _ _ _ _ _ _ _ _ HSC.out (((HQ3.out.below HB8.out)).below HBC.out) Hql.out).mono ?_
    rintro e wD ⟨rfl, hbD⟩
    rw [decide_eq_true (rfl : q = q)]
    replace x0 := cell_past hbD x0
    have hBD := bt HBC.out hbD
    have hBD' := bt HBB8.out hBD
    have HBD := Lib.hid hBD'
    clear hBD'
    clear hbD hBD
    go_wp2_with fail
    refine (idle_any f _).mono ?_
    rintro e wE ⟨rfl, rfl⟩
    go_wp2_with fail
    refine (works_any _ (Hk.out.below HBD.out)).mono ?_
    rintro e wF ⟨rfl, hbF⟩
    go_wp2
    go_ret
    exact ⟨rfl, bt HBD.out hbF⟩


theorem qsteps_any (l : List Int) (v : Value) (x : Op5) (hx : x.ok) (w : World) (hv : Lies w l v) (hk : Kinds w) :
    Calls Tryd.prog 3 #[v, opV x] w fun e w' => e = .returned (.bool true) ∧ Below w.heap.size w w' := by
  by_cases hl : l.length ≤ 200
  · cases l with
    | nil => exact qsteps_nil v x hx w hv hk
    | cons h l => exact qsteps_pos (h :: l) v x hx w hv (by simp) hl hk
  · exact qsteps_big l v x w hv (by omega) hk
end Go.Proofs.YtfaoakahmllpjaaDoor
