/- Lists that are written. -/
import Derived.Test.YtehnkljaoaehjaaLs
namespace Go.Proofs.Ytehnkljaoaehjaa
open Go.RowKit Go.Um
set_option linter.unusedSimpArgs false
set_option linter.unusedVariables false
set_option maxHeartbeats 4000000
set_option maxRecDepth 100000

theorem wput_nil (bs : List Int) (er : Int) : wput bs er [] = bs := by unfold wput; split <;> simp
theorem wput_app (bs : List Int) (er : Int) (a b : List Int) : wput (wput bs er a) er b = wput bs er (a ++ b) := by unfold wput; split <;> simp
theorem wput_le (bs : List Int) (er : Int) (a : List Int) : (wput bs er a).length ≤ bs.length + a.length := by unfold wput; split <;> simp
def twos (l : List Int) : List Int := l.flatMap fun x => be x 2
theorem twos_len (l : List Int) : (twos l).length = 2 * l.length := by
  induction l with
  | nil => rfl
  | cons x l ih => unfold twos at ih ⊢; rw [List.flatMap_cons, List.length_append, ih, be_len, List.length_cons]; omega
/-- a list's bytes -/
def lbytes (l : List Int) : List Int := be (l.length : Int) 1 ++ twos l
def lerr (er : Int) (l : List Int) : Int := if 255 < l.length then 3 else er
/-- what List leaves -/
def WlPost (p base : Nat) (v : Value) (bs : List Int) (er : Int) (w : World) (e : Ending) (w' : World) : Prop :=
  ∃ v', e = .returned (.tuple #[]) ∧ WrAt w' p base v' bs er ∧ Kept (fun k => k = p ∨ v.ownBlock = some k) w w' ∧ (∀ g, v'.ownBlock = some g → v.ownBlock = some g ∨ w.heap.size ≤ g)
theorem wrat_e {w : World} {p base : Nat} {v : Value} {bs : List Int} {er : Int} (h : WrAt w p base v bs er) (x : Int) : WrAt (w.setCell ⟨p, 0, none⟩ (.int .i64 x)) p base v bs x := by
  obtain ⟨c0, c1, f0, f1, ho, hne⟩ := h
  exact ⟨by simp [go_sem, c0], by simp [go_sem, c1], by simp [go_sem, f0], by simp [go_sem, f1], own_setCell ho hne _, hne⟩
/-- at the head of a round -/
structure WlInv (w : World) (p base : Nat) (v : Value) (bs : List Int) (er : Int) (v' : Value) (wr : World) : Prop where
  a : WrAt wr p base v' bs er
  k : Kept (fun k => k = p ∨ v.ownBlock = some k) w wr
  n : ∀ g, v'.ownBlock = some g → v.ownBlock = some g ∨ w.heap.size ≤ g
theorem wlist_any (p base : Nat) (v : Value) (bs : List Int) (er : Int) (l : List Int) (ao : Option Addr) (cap b o : Nat) (w : World) (h : WrAt w p base v bs er) (hl : SlAt w 1 l.length (l.map (Value.int .u16)) ao cap b o)
    (hx : ∀ x ∈ l, 0 ≤ x ∧ x ≤ 65535) (hb : 0 < l.length → b ≠ p ∧ v.ownBlock ≠ some b) (hlen : bs.length + 2 * l.length ≤ 90000) (hbase : base ≤ w.heap.size) :
    Calls Try.prog 20 #[.pointer (some ⟨p, 0, none⟩), .slice ao l.length cap] w (WlPost p base v (wput bs (lerr er l) (lbytes l)) (lerr er l) w) := by
  have hidx := hl.idx (P := Try.prog) (t := 35) Try.underlying35 size53 (by decide)
  have hpl := h.lt
  -- the world in which the first byte is written
  have key : ∀ (W : World) (hW : WrAt W p base v bs (lerr er l)) (hk : Kept (fun k => k = p ∨ v.ownBlock = some k) w W), Hid (Calls Try.prog 19 #[.pointer (some ⟨p, 0, none⟩), .int .u8 ((l.length : Int) % 256)] W (PutPost p base v bs (be ((l.length : Int) % 256) 1) (lerr er l) W)) :=
    fun W hW hk => Lib.hid (wu8_any p base v bs (lerr er l) ((l.length : Int) % 256) W hW (by omega) (by omega) (by have := hk.size; omega))
  have hfirst : wput bs (lerr er l) (be ((l.length : Int) % 256) 1) = wput bs (lerr er l) (be (l.length : Int) 1) := by
    unfold wput
    by_cases he : lerr er l = 0
    · rw [if_pos he, if_pos he]
      have : l.length ≤ 255 := by
        unfold lerr at he
        by_cases h255 : 255 < l.length
        · rw [if_pos h255] at he; cases he
        · omega
      rw [show (l.length : Int) % 256 = (l.length : Int) from by omega]
    · rw [if_neg he, if_neg he]
  have hall : wput bs (lerr er l) (lbytes l) = wput (wput bs (lerr er l) (be (l.length : Int) 1)) (lerr er l) (twos l) := by rw [wput_app]; rfl
  rw [hall]
  obtain ⟨er', her⟩ : ∃ e, e = lerr er l := ⟨_, rfl⟩
  have herd : er' = if 255 < l.length then 3 else er := by rw [her]; rfl
  rw [← her] at key hfirst ⊢
  have hb1 : (wput bs er' (be (l.length : Int) 1)).length ≤ bs.length + 1 := by have := wput_le bs er' (be (l.length : Int) 1); rw [be_len] at this; exact this
  obtain ⟨B1, hB1⟩ : ∃ B, B = wput bs er' (be (l.length : Int) 1) := ⟨_, rfl⟩
  rw [← hB1] at hfirst hb1 ⊢
  have HF := Lib.hid hfirst
  have HH := Lib.hid h
  have HLS := Lib.hid hl
  have HX := Lib.hid hx
  have HB := Lib.hid hb
  have KEY := Lib.hid key
  have c0 := h.e
  have f0 := h.fe
  clear hall hfirst her hB1 hx hb key h
  have c1 := HH.out.b
  -- the tail, behind the first byte
  by_cases h255 : 255 < l.length
  · rw [if_pos h255] at herd
    have t1 : decide ((255 : Int) < (l.length : Int)) = true := by rw [decide_eq_true_iff]; omega
    have HW3 : Hid (WrAt (w.setCell ⟨p, 0, none⟩ (.int .i64 3)) p base v bs er') := by rw [herd]; exact Lib.hid (wrat_e HH.out 3)
    have HK3 : Hid (Kept (fun k => k = p ∨ v.ownBlock = some k) w (w.setCell ⟨p, 0, none⟩ (.int .i64 3))) := Lib.hid ((Kept.refl _ w).setCell (fun _ => .inl rfl) _)
    clear herd
    go_enter Try.func20, Try.ntmps20
    go_wp2_with fail
    refine (KEY.out _ HW3.out HK3.out).out.mono ?_
    rintro e w1 ⟨v1, rfl, hw1, hk1, hn1⟩
    rw [HF.out] at hw1
    have HI0 : Hid (WlInv w p base v (wput B1 er' (twos (l.take 0))) er' v1 w1) := Lib.hid ⟨by rw [show twos (l.take 0) = [] from rfl, wput_nil]; exact hw1, HK3.out.trans hk1 (fun _ _ e => e), fun g hg => by have := hn1 g hg; simpa using this⟩
    clear hw1 hk1 hn1 c0 f0 c1
    go_wp2_with fail
    go_loopw [22] (fun t22 wr => ∃ (i : Nat) (v' : Value), i ≤ l.length ∧ t22 = .int .i64 i ∧ Hid (WlInv w p base v (wput B1 er' (twos (l.take i))) er' v' wr)) (fun t22 _ => l.length - (intOf t22).toNat)
    case atStart => exact ⟨0, v1, Nat.zero_le _, rfl, HI0.out⟩
    case round =>
      obtain ⟨i, v', hi, rfl, hinv⟩ := hrel
      have hsz := hinv.out.k.size
      by_cases hlt : i < l.length
      · obtain ⟨x, hxi⟩ : ∃ x, l[i]? = some x := ⟨_, List.getElem?_eq_getElem hlt⟩
        have hx01 := HX.out x (List.mem_of_getElem? hxi)
        have hbb := HB.out (by omega)
        have hbl := HLS.out.lt (by simp; omega)
        have g0 : wr.cell? ⟨b, o + i, none⟩ = some (.int .u16 x) := hinv.out.k.cell (HLS.out.cell i _ (by simp [hxi])) (by rintro (e | e); (· exact hbb.1 e); (· exact hbb.2 e))
        have htk : twos (l.take (i + 1)) = twos (l.take i) ++ be x 2 := by rw [List.take_add_one, hxi]; simp [twos]
        have hle2 : (wput B1 er' (twos (l.take i))).length ≤ 100000 := by
          have h1 := wput_le B1 er' (twos (l.take i))
          rw [twos_len, List.length_take] at h1; omega
        have i1 : (0 : Int) ≤ (i : Int) := by omega
        have i2 : (i : Int) < (l.length : Int) := by omega
        have HTK := Lib.hid htk
        have HI := Lib.hid hinv.out
        clear hxi htk hinv
        go_wp2_with fail
        refine (wu16_any p base v' (wput B1 er' (twos (l.take i))) er' x wr HI.out.a hx01 hle2 (by omega)).mono ?_
        rintro e w2 ⟨v2, rfl, hw2, hk2, hn2⟩
        rw [wput_app, ← HTK.out] at hw2
        have HI2 : Hid (WlInv w p base v (wput B1 er' (twos (l.take (i + 1)))) er' v2 w2) := Lib.hid ⟨hw2, HI.out.k.trans hk2 (fun g hg e => by rcases e with e | e; (· exact .inl e); (· rcases HI.out.n g e with e2 | e2; (· exact .inr e2); (· omega))), fun g hg => by rcases hn2 g hg with h1 | h1; (· exact HI.out.n g h1); (· right; omega)⟩
        clear hw2 hk2 hn2
        go_wp2_with fail
        go_roundw
        case rel => exact ⟨i + 1, v2, by omega, by go_num, HI2⟩
        case measure => simp [intOf]; omega
      · have hil : l.take i = l := List.take_of_length_le (by omega)
        rw [hil] at hinv
        have kk1 : ¬ ((i : Int) < (l.length : Int)) := by omega
        go_wp2
        go_end0
        exact ⟨v', rfl, hinv.out.a, hinv.out.k, hinv.out.n⟩
  · rw [if_neg h255] at herd
    have t1 : decide ((255 : Int) < (l.length : Int)) = false := by rw [decide_eq_false_iff_not]; omega
    have HW3 : Hid (WrAt w p base v bs er') := by rw [herd]; exact Lib.hid HH.out
    have HK3 : Hid (Kept (fun k => k = p ∨ v.ownBlock = some k) w w) := Lib.hid (Kept.refl _ w)
    have e256 : (l.length : Int) % 256 = (l.length : Int) := by omega
    rw [e256] at KEY HF
    clear herd
    go_enter Try.func20, Try.ntmps20
    go_wp2_with fail
    refine (KEY.out _ HW3.out HK3.out).out.mono ?_
    rintro e w1 ⟨v1, rfl, hw1, hk1, hn1⟩
    rw [HF.out] at hw1
    have HI0 : Hid (WlInv w p base v (wput B1 er' (twos (l.take 0))) er' v1 w1) := Lib.hid ⟨by rw [show twos (l.take 0) = [] from rfl, wput_nil]; exact hw1, HK3.out.trans hk1 (fun _ _ e => e), fun g hg => hn1 g hg⟩
    clear hw1 hk1 hn1 c0 f0 c1
    go_wp2_with fail
    go_loopw [22] (fun t22 wr => ∃ (i : Nat) (v' : Value), i ≤ l.length ∧ t22 = .int .i64 i ∧ Hid (WlInv w p base v (wput B1 er' (twos (l.take i))) er' v' wr)) (fun t22 _ => l.length - (intOf t22).toNat)
    case atStart => exact ⟨0, v1, Nat.zero_le _, rfl, HI0.out⟩
    case round =>
      obtain ⟨i, v', hi, rfl, hinv⟩ := hrel
      have hsz := hinv.out.k.size
      by_cases hlt : i < l.length
      · obtain ⟨x, hxi⟩ : ∃ x, l[i]? = some x := ⟨_, List.getElem?_eq_getElem hlt⟩
        have hx01 := HX.out x (List.mem_of_getElem? hxi)
        have hbb := HB.out (by omega)
        have hbl := HLS.out.lt (by simp; omega)
        have g0 : wr.cell? ⟨b, o + i, none⟩ = some (.int .u16 x) := hinv.out.k.cell (HLS.out.cell i _ (by simp [hxi])) (by rintro (e | e); (· exact hbb.1 e); (· exact hbb.2 e))
        have htk : twos (l.take (i + 1)) = twos (l.take i) ++ be x 2 := by rw [List.take_add_one, hxi]; simp [twos]
        have hle2 : (wput B1 er' (twos (l.take i))).length ≤ 100000 := by
          have h1 := wput_le B1 er' (twos (l.take i))
          rw [twos_len, List.length_take] at h1; omega
        have i1 : (0 : Int) ≤ (i : Int) := by omega
        have i2 : (i : Int) < (l.length : Int) := by omega
        have HTK := Lib.hid htk
        have HI := Lib.hid hinv.out
        clear hxi htk hinv
        go_wp2_with fail
        refine (wu16_any p base v' (wput B1 er' (twos (l.take i))) er' x wr HI.out.a hx01 hle2 (by omega)).mono ?_
        rintro e w2 ⟨v2, rfl, hw2, hk2, hn2⟩
        rw [wput_app, ← HTK.out] at hw2
        have HI2 : Hid (WlInv w p base v (wput B1 er' (twos (l.take (i + 1)))) er' v2 w2) := Lib.hid ⟨hw2, HI.out.k.trans hk2 (fun g hg e => by rcases e with e | e; (· exact .inl e); (· rcases HI.out.n g e with e2 | e2; (· exact .inr e2); (· omega))), fun g hg => by rcases hn2 g hg with h1 | h1; (· exact HI.out.n g h1); (· right; omega)⟩
        clear hw2 hk2 hn2
        go_wp2_with fail
        go_roundw
        case rel => exact ⟨i + 1, v2, by omega, by go_num, HI2⟩
        case measure => simp [intOf]; omega
      · have hil : l.take i = l := List.take_of_length_le (by omega)
        rw [hil] at hinv
        have kk1 : ¬ ((i : Int) < (l.length : Int)) := by omega
        go_wp2
        go_end0
        exact ⟨v', rfl, hinv.out.a, hinv.out.k, hinv.out.n⟩
end Go.Proofs.Ytehnkljaoaehjaa
