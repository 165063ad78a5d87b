/- The queue's Decode, of the program and of the document. -/
import Derived.Test.YtfaoakahmllpjaaDoorEncode
namespace Go.Proofs.YtfaoakahmllpjaaDoor
open Go.RowKit Go.Um
set_option maxHeartbeats 1000000

/-- bytes taken two by two -/
def decL : List UInt8 → List Int
  | a :: b :: r => (256 * (a.toNat : Int) + b.toNat) :: decL r
  | _ => []
/-- what a text is: values, error -/
def decS (l : List UInt8) : List Int := if l.length % 2 = 0 then decL l else []
def decE (l : List UInt8) : Int := if l.length % 2 = 0 then 0 else 5
theorem decL_len (l : List UInt8) : (decL l).length = l.length / 2 := by
  match l with
  | [] => rfl
  | [x] => simp [decL]
  | a :: b :: r => show (decL r).length + 1 = (r.length + 2) / 2; rw [decL_len r]; omega
theorem decL_app (l : List UInt8) (a b : UInt8) (h : l.length % 2 = 0) : decL (l ++ [a, b]) = decL l ++ [256 * (a.toNat : Int) + b.toNat] := by
  match l, h with
  | [], _ => rfl
  | [_], h => simp at h
  | x :: y :: r, h =>
    have h2 : r.length % 2 = 0 := by simp at h; omega
    show _ :: decL (r ++ [a, b]) = _
    rw [decL_app r a b h2]; rfl
theorem len_data (s : ByteArray) : s.data.toList.length = s.size := Array.length_toList
theorem take2 (s : ByteArray) (k : Nat) (h : k + 1 < s.size) : s.data.toList.take (k + 2) = s.data.toList.take k ++ [s[k], s[k + 1]] := by
  have h1 : k < s.data.toList.length := by rw [len_data]; omega
  have h2 : k + 1 < s.data.toList.length := by rw [len_data]; omega
  rw [show k + 2 = (k + 1) + 1 from rfl, List.take_succ_eq_append_getElem h2, List.take_succ_eq_append_getElem h1, List.append_assoc]
  rfl
def DecPost (l : List UInt8) (w : World) (e : Ending) (w' : World) : Prop := ∃ v, e = .returned (.tuple #[.agg #[v], .int .i64 (decE l)]) ∧ Far (fun b => w.heap.size ≤ b) w' (decS l) v ∧ Below w.heap.size w w'
def RDecPost (l : List UInt8) (w : World) (e : Ending) (w' : World) : Prop := ∃ v, e = .returned (.tuple #[v, .int .i64 (decE l)]) ∧ w'.ownsRow w.heap.size 23 1 v (decS l).length (us (decS l)) ∧ Below w.heap.size w w'

theorem rdec_val (a b : UInt8) : IntKind.u16.wrap (IntKind.u16.wrap (IntKind.u16.wrap (a.toNat : Int) * 256) + IntKind.u16.wrap (b.toNat : Int)) = 256 * (a.toNat : Int) + b.toNat := by
  have h0 := a.toNat_lt
  have h1 := b.toNat_lt
  rw [wrap16_in (n := (a.toNat : Int)) (by omega), wrap16_in (n := (b.toNat : Int)) (by omega), wrap16_in (n := (a.toNat : Int) * 256) (by omega), wrap16_in (by omega)]; omega

theorem rdecode_any (s : ByteArray) (w : World) (hs : s.size ≤ 2000) : Calls Tryd.prog 24 #[.string s] w (RDecPost s.data.toList w) := by
  obtain ⟨i0, hi, hz0, hz1, hz2⟩ := info_parts info23
  have b0 : (s.size : Int) ≤ 2000 := by omega
  have hld := len_data s
  have Hld := Lib.hid hld
  clear hld
  by_cases hodd : s.size % 2 = 1
  · have t1 : ((s.size : Int) % 2 == 1) = true := by rw [beq_iff_eq]; omega
    have e1 : decE s.data.toList = 5 := by unfold decE; rw [Hld.out, if_neg (by omega)]
    have e2 : decS s.data.toList = [] := by unfold decS; rw [Hld.out, if_neg (by omega)]
    have H1 := Lib.hid e1
    have H2 := Lib.hid e2
    clear e1 e2 hodd
    go_enter Tryd.func24, Tryd.ntmps24
    go_wp2
    go_ret2
    exact ⟨.slice none 0 0, by rw [H1.out]; rfl, by rw [H2.out]; exact World.ownsRow_nil _ _ _ _, bz w⟩
  · have t1 : ((s.size : Int) % 2 == 1) = false := by rw [beq_eq_false_iff_ne]; omega
    have e1 : decE s.data.toList = 0 := by unfold decE; rw [Hld.out, if_pos (by omega)]
    have e2 : decS s.data.toList = decL s.data.toList := by unfold decS; rw [Hld.out, if_pos (by omega)]
    have H1 := Lib.hid e1
    have H2 := Lib.hid e2
    have HO : Hid (s.size % 2 = 0) := Lib.hid (by omega)
    clear e1 e2 hodd
    go_enter Tryd.func24, Tryd.ntmps24
    go_wp2
    go_loopw [4, 5] (fun t4 t5 wr => ∃ k : Nat, 2 * k ≤ s.size ∧ t5 = .int .i64 ((2 * k : Nat) : Int) ∧ wr.ownsRow w.heap.size 23 1 t4 k (us (decL (s.data.toList.take (2 * k)))) ∧ Below w.heap.size w wr) (fun _ t5 _ => s.size + 1 - (intOf t5).toNat)
    case atStart => exact ⟨0, Nat.zero_le _, rfl, World.ownsRow_nil _ _ _ _, bz w⟩
    case round =>
      obtain ⟨k, hk, rfl, hown, hbel⟩ := hrel
      obtain ⟨m, hm⟩ : ∃ m, m = 2 * k := ⟨_, rfl⟩
      rw [← hm] at hk ⊢
      have Hm := Lib.hid hm
      clear hm
      have HB := Lib.hid hbel
      have hbz := hbel.size
      by_cases hlt : m + 1 < s.size
      · have c1 : (m : Int) + 1 < (s.size : Int) := by omega
        have c2 : (m : Int) < (s.size : Int) := by omega
        have c3 : (0 : Int) ≤ (m : Int) := by omega
        have c4 : (0 : Int) ≤ (m : Int) + 1 := by omega
        have c5 : ((m : Int) + 1).toNat = m + 1 := by omega
        have n1 : m < s.size := by omega
        have n2 : m + 1 < s.size := hlt
        have hkk : k ≤ 1000 := by have := Hm.out; omega
        have hv := rdec_val s[m] s[m + 1]
        obtain ⟨y, hy⟩ : ∃ y, y = 256 * ((s[m].toNat : Nat) : Int) + (s[m + 1].toNat : Nat) := ⟨_, rfl⟩
        rw [← hy] at hv
        have Hy := Lib.hid hy
        have c6 : IntKind.i64.wrap ((m : Int) + 1) = (m : Int) + 1 := IntWalk.i64_in _ (by omega)
        clear hy hbel
        go_wp2_with fail
        go_region_law ((refine step_append_lies _ rfl (.tmp 17) (.tmp 29) 22 rfl w.heap.size 23 i0 (.int .u16 0) 1 2 Tryd.underlying22 hi hz0 hz1 hz2 rfl (by decide) u4 k (us (decL (s.data.toList.take (2 * k)))) (by simp [Act.eval, Act.put]) (hown.drew.alloc _) ⟨wr.heap.size, 0, none⟩ 1 1 [.int .u16 y] (by simp [Act.eval, Act.put]) rfl (new_cells _ _ _ _ (by simp)) (by simp [Value.oneCell']) (by decide) (by unfold maxLen; omega) (by omega) (by simp; omega) _ rfl ?_; intro g cap2 w2 hown2 hgrow2 hat hlt2))
        go_wp2_with fail
        all_goals
          go_roundw
          case rel =>
            have hm := Hm.out
            have hev : (s.data.toList.take m).length % 2 = 0 := by rw [List.length_take, Hld.out]; omega
            refine ⟨k + 1, by omega, by congr 1; omega, ?_, ?_⟩
            · have h1 := hown2
              rw [show 2 * (k + 1) = m + 2 from by omega, take2 s m n2, decL_app _ _ _ hev]
              rw [← hm, Hy.out] at h1
              simpa [us] using h1
            · exact (HB.out.drew.alloc HB.out.size _).grown hgrow2 (by simp; omega) (fun k hk => (hown.lt k hk).1)
          case measure => (show s.size + 1 - ((m : Int) + 2).toNat < s.size + 1 - (m : Int).toNat; omega)
      · have c1 : ¬ (m : Int) + 1 < (s.size : Int) := by omega
        have hms : m = s.size := by have := HO.out; have := Hm.out; omega
        have Hms := Lib.hid hms
        clear hms
        go_wp2
        go_ret2
        have hm := Hm.out
        have h3 : s.data.toList.take (2 * k) = s.data.toList := List.take_of_length_le (by rw [Hld.out]; have := Hms.out; omega)
        have h4 : (decL s.data.toList).length = k := by rw [decL_len, Hld.out]; have := Hms.out; omega
        refine ⟨u4, by rw [H1.out]; rfl, ?_, HB.out⟩
        rw [H2.out, h4]
        rw [h3] at hown
        exact hown

theorem pdec_val (a b : UInt8) : bits .or .u16 (IntKind.u16.wrap (IntKind.u16.wrap (a.toNat : Int) * 256)) (IntKind.u16.wrap (b.toNat : Int)) = 256 * (a.toNat : Int) + b.toNat := by
  have h0 := a.toNat_lt
  have h1 := b.toNat_lt
  rw [wrap16_in (n := (a.toNat : Int)) (by omega), wrap16_in (n := (b.toNat : Int)) (by omega), wrap16_in (by omega), u16_or8 _ _ (by omega) (by omega) (by omega) (by omega)]

/-- at the head of a round of Decode: the state is boxed at the call's second block -/
structure DInv (w : World) (k : Nat) (l : List Int) (v : Value) (wr : World) : Prop where
  own : wr.ownsRow (w.heap.size + 2) 23 1 v k (us l)
  bel : Below w.heap.size w wr
  c0 : wr.cell? ⟨w.heap.size, 0, none⟩ = some (.slice none 0 0)
  f0 : wr.frozen? ⟨w.heap.size, 0, none⟩ = false
  c1 : wr.cell? ⟨w.heap.size + 1, 0, none⟩ = some v
  f1 : wr.frozen? ⟨w.heap.size + 1, 0, none⟩ = false
  z : w.heap.size + 1 < wr.heap.size

theorem DInv.step {w wr W w2 : World} {k g cap : Nat} {l l' : List Int} {v : Value} (h : DInv w k l v wr) (hb : Below wr.heap.size wr W) (hg : W.grownBy w2 v.ownBlock) (hown : w2.ownsRow (w.heap.size + 2) 23 1 (.slice (some ⟨g, 0, none⟩) (k + 1) cap) (k + 1) (us l'))
    (p0 : w2.cell? ⟨w.heap.size, 0, none⟩ = some (.slice none 0 0)) (p1 : w2.frozen? ⟨w.heap.size, 0, none⟩ = false) (q0 : w2.cell? ⟨w.heap.size + 1, 0, none⟩ = some v) (q1 : w2.frozen? ⟨w.heap.size + 1, 0, none⟩ = false) :
    DInv w (k + 1) l' (.slice (some ⟨g, 0, none⟩) (k + 1) cap) (w2.setCell ⟨w.heap.size + 1, 0, none⟩ (.slice (some ⟨g, 0, none⟩) (k + 1) cap)) := by
  have hz := h.z
  have h1 := hb.size
  have h2 := hg.size
  have hgl := (hown.lt g rfl).1
  have hB : Below w.heap.size w W := h.bel.trans (hb.mono (by omega))
  refine ⟨own_setCell hown (by simp [Value.ownBlock]; omega) _, bs (hB.grown hg hB.size (fun k hk => by have := (h.own.lt k hk).1; omega)) (by simp) _, ?_, ?_, ?_, ?_, ?_⟩
  · rw [World.cell?_setCell_other _ _ _ _ (by simp)]; exact p0
  · rw [World.frozen?_setCell]; exact p1
  · exact World.cell?_setCell_same w2 ⟨w.heap.size + 1, 0, none⟩ _ q0
  · rw [World.frozen?_setCell]; exact q1
  · have : w.heap.size + 1 < w2.heap.size := by omega
    simpa [World.setCell] using this

theorem decode_any (s : ByteArray) (w : World) (hs : s.size ≤ 2000) : Calls Tryd.prog 23 #[.string s] w (DecPost s.data.toList w) := by
  obtain ⟨i0, hi, hz0, hz1, hz2⟩ := info_parts info23
  have b0 : (s.size : Int) ≤ 2000 := by omega
  have hld := len_data s
  have Hld := Lib.hid hld
  clear hld
  by_cases hodd : s.size % 2 = 1
  · have t1 : ((s.size : Int) % 2 != 0) = true := by rw [bne_iff_ne]; omega
    have e1 : decE s.data.toList = 5 := by unfold decE; rw [Hld.out, if_neg (by omega)]
    have e2 : decS s.data.toList = [] := by unfold decS; rw [Hld.out, if_neg (by omega)]
    have H1 := Lib.hid e1
    have H2 := Lib.hid e2
    clear e1 e2 hodd
    go_enter Tryd.func23, Tryd.ntmps23
    go_wp2
    refine bodyPost_ret (by simp [results, Tryd.results23, go_sem] <;> rfl) rfl ⟨.slice none 0 0, by rw [H1.out], ?_, ?_⟩
    · rw [H2.out]; exact ⟨none, 0, 0, 0, rfl, nil_at _, fun h => absurd h (by decide)⟩
    · exact ba (bz w) _
  · have t1 : ((s.size : Int) % 2 != 0) = false := by simp; omega
    have e1 : decE s.data.toList = 0 := by unfold decE; rw [Hld.out, if_pos (by omega)]
    have e2 : decS s.data.toList = decL s.data.toList := by unfold decS; rw [Hld.out, if_pos (by omega)]
    have H1 := Lib.hid e1
    have H2 := Lib.hid e2
    have HO : Hid (s.size % 2 = 0) := Lib.hid (by omega)
    clear e1 e2 hodd
    go_enter Tryd.func23, Tryd.ntmps23
    go_wp2
    go_loopw [5] (fun t5 wr => ∃ (k : Nat) (v : Value), 2 * k ≤ s.size ∧ t5 = .int .i64 ((2 * k : Nat) : Int) ∧ Hid (DInv w k (decL (s.data.toList.take (2 * k))) v wr)) (fun t5 _ => s.size + 1 - (intOf t5).toNat)
    case atStart => exact ⟨0, .slice none 0 0, Nat.zero_le _, rfl, World.ownsRow_nil _ _ _ _, ba (ba (bz w) _) _, by simp [go_sem], by simp [go_sem], by simp [go_sem], by simp [go_sem], by simp⟩
    case round =>
      obtain ⟨k, v, hk, rfl, hinv⟩ := hrel
      obtain ⟨m, hm⟩ : ∃ m, m = 2 * k := ⟨_, rfl⟩
      rw [← hm] at hk ⊢
      have Hm := Lib.hid hm
      clear hm
      have c0 := hinv.out.c0
      have f0 := hinv.out.f0
      have c1' := hinv.out.c1
      have f1 := hinv.out.f1
      have z := hinv.out.z
      have z0 : w.heap.size < wr.heap.size := by omega
      have hlo := hinv.out.own.lt
      have hne0 : some w.heap.size ≠ v.ownBlock := fun e => by have := (hlo _ e.symm).1; omega
      have hne1 : some (w.heap.size + 1) ≠ v.ownBlock := fun e => by have := (hlo _ e.symm).1; omega
      have HLO := Lib.hid hlo
      clear hlo
      by_cases hlt : m < s.size
      · have hlt2 : m + 1 < s.size := by have := HO.out; have := Hm.out; omega
        have d1 : (m : Int) + 1 < (s.size : Int) := by omega
        have d2 : (m : Int) < (s.size : Int) := by omega
        have d3 : (0 : Int) ≤ (m : Int) := by omega
        have d4 : (0 : Int) ≤ (m : Int) + 1 := by omega
        have d5 : ((m : Int) + 1).toNat = m + 1 := by omega
        have hkk : k ≤ 1000 := by have := Hm.out; omega
        have hv := pdec_val s[m] s[m + 1]
        obtain ⟨y, hy⟩ : ∃ y, y = 256 * ((s[m].toNat : Nat) : Int) + (s[m + 1].toNat : Nat) := ⟨_, rfl⟩
        rw [← hy] at hv
        have Hy := Lib.hid hy
        have d6 : IntKind.i64.wrap ((m : Int) + 1) = (m : Int) + 1 := IntWalk.i64_in _ (by omega)
        clear hy
        go_wp2_with fail
        go_region_law ((refine step_append_lies _ rfl (.tmp 18) (.tmp 30) 22 rfl (w.heap.size + 2) 23 i0 (.int .u16 0) 1 2 Tryd.underlying22 hi hz0 hz1 hz2 rfl (by decide) v k (us (decL (s.data.toList.take (2 * k)))) (by simp [Act.eval, Act.put]) (hinv.out.own.drew.alloc _) ⟨wr.heap.size, 0, none⟩ 1 1 [.int .u16 y] (by simp [Act.eval, Act.put]) rfl (new_cells _ _ _ _ (by simp)) (by simp [Value.oneCell']) (by decide) (by unfold maxLen; omega) (by omega) (by simp; omega) _ rfl ?_; intro g cap2 w2 hown2 hgrow2 hat hlt2'; have p0 : w2.cell? ⟨w.heap.size, 0, none⟩ = some (.slice none 0 0) := hgrow2.cell (a := ⟨w.heap.size, 0, none⟩) (by simp [go_sem, z0, c0]) hne0; have p1 : w2.frozen? ⟨w.heap.size, 0, none⟩ = false := (hgrow2.frozen_far ⟨w.heap.size, 0, none⟩ (by simp; omega) hne0).trans (by simp [go_sem, z0, f0]); have q0 : w2.cell? ⟨w.heap.size + 1, 0, none⟩ = some v := hgrow2.cell (a := ⟨w.heap.size + 1, 0, none⟩) (by simp [go_sem, z, c1']) hne1; have q1 : w2.frozen? ⟨w.heap.size + 1, 0, none⟩ = false := (hgrow2.frozen_far ⟨w.heap.size + 1, 0, none⟩ (by simp; omega) hne1).trans (by simp [go_sem, z, f1])))
        all_goals go_wp2_with fail
        all_goals
          go_roundw
          case rel =>
            have hm := Hm.out
            have hev : (s.data.toList.take m).length % 2 = 0 := by rw [List.length_take, Hld.out]; omega
            refine ⟨k + 1, .slice (some ⟨g, 0, none⟩) (k + 1) cap2, by omega, by congr 1; omega, ?_⟩
            have h1 := hown2
            rw [← hm, Hy.out] at h1
            have h2 : us (decL (s.data.toList.take m)) ++ [.int .u16 (256 * ((s[m].toNat : Nat) : Int) + (s[m + 1].toNat : Nat))] = us (decL (s.data.toList.take (2 * (k + 1)))) := by
              rw [show 2 * (k + 1) = m + 2 from by omega, take2 s m hlt2, decL_app _ _ _ hev]
              simp [us]
            rw [h2] at h1
            exact DInv.step hinv.out (((bz wr).drew).alloc (Nat.le_refl _) _) hgrow2 h1 p0 p1 q0 q1
          case measure => (show s.size + 1 - ((m : Int) + 2).toNat < s.size + 1 - (m : Int).toNat; omega)
      · have e1 : ¬ (m : Int) < (s.size : Int) := by omega
        have hms : m = s.size := by omega
        have Hms := Lib.hid hms
        obtain ⟨ao, cap, b, o, rfl, hsl, hbl⟩ := SlAt.owned hinv.out.own
        have Hsl := Lib.hid hsl
        have Hbl := Lib.hid hbl
        clear hms hsl hbl
        go_wp2
        have hm := Hm.out
        have h3 : s.data.toList.take (2 * k) = s.data.toList := List.take_of_length_le (by rw [Hld.out]; have := Hms.out; omega)
        have h4 : (decL s.data.toList).length = k := by rw [decL_len, Hld.out]; have := Hms.out; omega
        have ho := hinv.out.own
        rw [h3] at ho
        refine bodyPost_ret (by simp [results, Tryd.results23, go_sem, c0, z] <;> rfl) rfl ⟨.slice ao k cap, by rw [H1.out], ?_, ?_⟩
        · rw [H2.out]
          have hf : Far (fun b => w.heap.size + 2 ≤ b) wr (decL s.data.toList) (.slice ao k cap) := Far.own (base := w.heap.size + 2) (by rw [h4]; exact ho) (fun b hb => hb)
          exact (hf.setCell (p := ⟨w.heap.size, 0, none⟩) (by simp) _).mono (fun b _ hb => by omega)
        · exact bs hinv.out.bel (Nat.le_refl _) _
end Go.Proofs.YtfaoakahmllpjaaDoor
