/- Orders of keys: what lies behind the pointer; is, order, Of, Take. -/
import Derived.Test.YtggbcailaeebfaaLists
import Derived.Deep.RegionHeld3
import Derived.Lib.PathFns
namespace Go.Proofs.Ytggbcailaeebfaa
open Go.RowKit Go.Um
set_option maxHeartbeats 1000000

/-- where a value lies first, or how many there are -/
theorem idx_hit {l : List Int} {v : Int} {k : Nat} (hk : l[k]? = some v) (hn : v ∉ l.take k) : l.idxOf v = k := by
  induction l generalizing k with
  | nil => simp at hk
  | cons y l ih =>
    cases k with
    | zero => simp at hk; subst hk; simp
    | succ k =>
      rw [List.take_succ_cons, List.mem_cons, not_or] at hn
      have hb : (y == v) = false := by rw [beq_eq_false_iff_ne]; exact fun e => hn.1 e.symm
      rw [List.idxOf_cons, hb, ih (by simpa using hk) hn.2]; rfl
/-- the place of a value, or -1 -/
def ix (l : List Int) (v : Int) : Int := if v ∈ l then (l.idxOf v : Nat) else -1
theorem ix_hit {l : List Int} {v : Int} {k : Nat} (hk : l[k]? = some v) (hn : v ∉ l.take k) : ix l v = (k : Int) := by
  unfold ix
  rw [if_pos (List.mem_of_getElem? hk), idx_hit hk hn]
theorem ix_none {l : List Int} {v : Int} (h : v ∉ l) : ix l v = -1 := if_neg h
theorem ix_ge (l : List Int) (v : Int) : decide (0 ≤ ix l v) = decide (v ∈ l) := by
  unfold ix
  by_cases h : v ∈ l
  · rw [if_pos h]; simp [h]
  · rw [if_neg h]; simp [h]
theorem ix_bd (l : List Int) (v : Int) : -1 ≤ ix l v ∧ ix l v ≤ l.length := by
  unfold ix
  split
  · rename_i h
    have := List.idxOf_le_length (a := v) (l := l)
    omega
  · omega

theorem index_any (l : List Int) (v : Int) (ao : Option Addr) (cap b o : Nat) (w : World) (h : SlAt w 1 l.length (us l) ao cap b o) (hlen : l.length ≤ 100000) :
    Calls Try.prog 33 #[.slice ao l.length cap, .int .u16 v] w fun e w' => e = .returned (.int .i64 (ix l v)) ∧ w = w' := by
  have hidx := h.idx (P := Try.prog) (t := 22) Try.underlying22 size37 (by decide)
  go_enter Try.func33, Try.ntmps33
  go_wp2
  go_loop [8] (fun t8 => ∃ k : Nat, k ≤ l.length ∧ t8 = .int .i64 k ∧ Hid (v ∉ l.take k)) (fun t8 => l.length - (intOf t8).toNat)
  case atStart => exact ⟨0, Nat.zero_le _, rfl, by simp [Hid]⟩
  case round =>
    obtain ⟨k, hk, rfl, hn⟩ := hrel
    by_cases hlt : k < l.length
    · obtain ⟨x, hx⟩ : ∃ x, l[k]? = some x := ⟨_, List.getElem?_eq_getElem hlt⟩
      have g0 := val_at h hx
      have Hx := Lib.hid hx
      clear hx
      have b1 : (0 : Int) ≤ (k : Int) := by omega
      have b2 : (k : Int) < (l.length : Int) := by omega
      by_cases hxy : v = x
      · have t1 : (v == x) = true := by simp [hxy]
        have Hxy := Lib.hid hxy
        clear hxy
        go_wp2_with fail
        go_ret
        have h1 : ix l v = (k : Int) := ix_hit (by rw [Hxy.out]; exact Hx.out) hn.out
        exact ⟨by rw [h1]; rfl, rfl⟩
      · have t1 : (v == x) = false := by simp [hxy]
        have Hxy := Lib.hid hxy
        clear hxy
        go_wp2_with fail
        go_round
        case rel =>
          refine ⟨k + 1, by omega, by go_num, ?_⟩
          show v ∉ l.take (k + 1)
          rw [List.take_add_one, Hx.out]
          intro hm
          rcases List.mem_append.1 hm with h | h
          · exact hn.out h
          · exact Hxy.out (by simpa using h)
        case measure => simp [intOf]; omega
    · have hk' : l.length = k := by omega
      have Hk := Lib.hid hk'
      clear hk'
      go_wp2
      go_ret
      have h1 := hn.out
      rw [List.take_of_length_le (by have := Hk.out; omega)] at h1
      exact ⟨by rw [ix_none h1]; rfl, rfl⟩
theorem contains_any (l : List Int) (v : Int) (ao : Option Addr) (cap b o : Nat) (w : World) (h : SlAt w 1 l.length (us l) ao cap b o) (hlen : l.length ≤ 100000) :
    Calls Try.prog 35 #[.slice ao l.length cap, .int .u16 v] w fun e w' => e = .returned (.bool (decide (v ∈ l))) ∧ w = w' := by
  have h1 := index_any l v ao cap b o w h hlen
  have h2 := ix_ge l v
  obtain ⟨m, hm⟩ : ∃ m, m = ix l v := ⟨_, rfl⟩
  rw [← hm] at h1 h2
  have H1 := Lib.hid h1
  have H2 := Lib.hid h2
  clear h1 h2 hm h
  go_enter Try.func35, Try.ntmps35
  go_wp2_with fail
  refine H1.out.mono ?_
  rintro e w1 ⟨rfl, rfl⟩
  go_wp2
  go_ret
  exact ⟨by rw [← H2.out]; rfl, rfl⟩
theorem twice_any (l : List Int) (ao : Option Addr) (cap b o : Nat) (w : World) (h : SlAt w 1 l.length (us l) ao cap b o) (hlen : l.length ≤ 100000) :
    Calls Try.prog 29 #[.slice ao l.length cap] w fun e w' => e = .returned (.bool (!decide l.Nodup)) ∧ w = w' := by
  have hidx := h.idx (P := Try.prog) (t := 22) Try.underlying22 size37 (by decide)
  have hle := h.le
  go_enter Try.func29, Try.ntmps29
  go_wp2
  go_loop [7] (fun t7 => ∃ k : Nat, k ≤ l.length ∧ t7 = .int .i64 k ∧ Hid ((l.take k).Nodup)) (fun t7 => l.length - (intOf t7).toNat)
  case atStart => exact ⟨0, Nat.zero_le _, rfl, by simp [Hid]⟩
  case round =>
    obtain ⟨k, hk, rfl, hn⟩ := hrel
    by_cases hlt : k < l.length
    · obtain ⟨x, hx⟩ : ∃ x, l[k]? = some x := ⟨_, List.getElem?_eq_getElem hlt⟩
      have g0 := val_at h hx
      have hc := contains_any (l.take k) x ao cap b o w (slat_take h k (by omega)) (by rw [List.length_take]; omega)
      have hkl : (l.take k).length = k := by rw [List.length_take]; omega
      rw [hkl] at hc
      have hsn : l.take (k + 1) = l.take k ++ [x] := by rw [List.take_add_one, hx]; rfl
      have Hx := Lib.hid hx
      have HC := Lib.hid hc
      have HS := Lib.hid hsn
      clear hx hc hkl hsn
      have b1 : (0 : Int) ≤ (k : Int) := by omega
      have b2 : (k : Int) < (l.length : Int) := by omega
      have b3 : (k : Int) ≤ (cap : Int) := by omega
      cases hm : decide (x ∈ l.take k) with
      | true =>
        rw [hm] at HC
        have HM := Lib.hid (of_decide_eq_true hm)
        clear hm
        go_wp2_with fail
        refine HC.out.mono ?_
        rintro e w1 ⟨rfl, rfl⟩
        go_wp2_with fail
        go_ret
        have h1 : ¬ l.Nodup := fun hd => by
          have h2 := hd.sublist (List.take_sublist (k + 1) l)
          rw [HS.out, List.nodup_append] at h2
          exact h2.2.2 x HM.out x (by simp) rfl
        exact ⟨by simp [h1], rfl⟩
      | false =>
        rw [hm] at HC
        have HM := Lib.hid (of_decide_eq_false hm)
        clear hm
        go_wp2_with fail
        refine HC.out.mono ?_
        rintro e w1 ⟨rfl, rfl⟩
        go_wp2_with fail
        go_round
        case rel =>
          refine ⟨k + 1, by omega, by go_num, ?_⟩
          show (l.take (k + 1)).Nodup
          rw [HS.out, List.nodup_append]
          refine ⟨hn.out, by simp, fun a ha c hc e => ?_⟩
          obtain rfl : c = x := by simpa using hc
          subst e
          exact HM.out ha
        case measure => simp [intOf]; omega
    · have hk' : l.length = k := by omega
      have Hk := Lib.hid hk'
      clear hk'
      go_wp2
      go_ret
      have h1 := hn.out
      rw [List.take_of_length_le (by have := Hk.out; omega)] at h1
      exact ⟨by simp [h1], rfl⟩

/-! ### the orders -/
structure OrdAt (S : Nat → Prop) (w : World) (p : Nat) (L : Nat → List Int) : Prop where
  c0 : w.cell? ⟨p, 0, none⟩ = some (.bool true)
  row : ∀ k, k < 8 → ∃ ao cap b o, w.cell? ⟨p, 1 + k, none⟩ = some (.slice ao (L k).length cap) ∧ w.frozen? ⟨p, 1 + k, none⟩ = false ∧ SlAt w 1 (L k).length (us (L k)) ao cap b o ∧ (0 < (L k).length → S b ∧ b ≠ p) ∧ (L k).length ≤ 32
theorem OrdAt.lt {S : Nat → Prop} {w : World} {p : Nat} {L : Nat → List Int} (h : OrdAt S w p L) : p < w.heap.size := World.block_lt_of_cell? w _ h.c0
theorem OrdAt.below {S : Nat → Prop} {w w' : World} {p : Nat} {L : Nat → List Int} (h : OrdAt S w p L) (hb : Below w.heap.size w w') : OrdAt S w' p L := by
  refine ⟨kc hb _ _ _ h.c0, fun k hk => ?_⟩
  obtain ⟨ao, cap, b, o, h1, h2, h3, h4, h5⟩ := h.row k hk
  exact ⟨ao, cap, b, o, kc hb _ _ _ h1, kf hb _ _ h.lt h2, h3.below hb, h4, h5⟩
theorem OrdAt.mono {S S' : Nat → Prop} {w : World} {p : Nat} {L : Nat → List Int} (h : OrdAt S w p L) (hS : ∀ b, b < w.heap.size → S b → S' b) : OrdAt S' w p L := by
  refine ⟨h.c0, fun k hk => ?_⟩
  obtain ⟨ao, cap, b, o, h1, h2, h3, h4, h5⟩ := h.row k hk
  exact ⟨ao, cap, b, o, h1, h2, h3, fun hp => ⟨hS b (h3.lt (by rw [us_len]; omega)) (h4 hp).1, (h4 hp).2⟩, h5⟩
theorem slat_kept {S : Nat → Prop} {w w' : World} {size n cap b o : Nat} {cs : List Value} {ao : Option Addr} (h : SlAt w size n cs ao cap b o) (hk : Kept S w w') (hS : 0 < cs.length → ¬ S b) : SlAt w' size n cs ao cap b o :=
  ⟨h.len, h.le, h.max, h.addr, fun hp => Nat.lt_of_lt_of_le (h.lt hp) hk.size, fun j u hu => by
    have hp : 0 < cs.length := by have := (List.getElem?_eq_some_iff.1 hu).1; omega
    exact hk.cell (h.cell j u hu) (hS hp)⟩
theorem OrdAt.kept {S K : Nat → Prop} {w w' : World} {p : Nat} {L : Nat → List Int} (h : OrdAt S w p L) (hk : Kept K w w') (hp : ¬ K p) (hS : ∀ b, b < w.heap.size → S b → ¬ K b) : OrdAt S w' p L := by
  refine ⟨hk.cell h.c0 hp, fun k hk8 => ?_⟩
  obtain ⟨ao, cap, b, o, h1, h2, h3, h4, h5⟩ := h.row k hk8
  refine ⟨ao, cap, b, o, hk.cell h1 hp, (hk.frozen h.lt hp).trans h2, slat_kept h3 hk (fun hq => ?_), h4, h5⟩
  rw [us_len] at hq
  exact hS b (h3.lt (by rw [us_len]; exact hq)) (h4 (by omega)).1
/-- one key's list anew -/
def setL (L : Nat → List Int) (k : Nat) (l : List Int) : Nat → List Int := fun j => if j = k then l else L j
theorem OrdAt.put {S : Nat → Prop} {w : World} {p k : Nat} {L : Nat → List Int} {l : List Int} {ao : Option Addr} {cap b o : Nat} (h : OrdAt S w p L) (hk : k < 8) (hs : SlAt w 1 l.length (us l) ao cap b o) (hb : 0 < l.length → S b ∧ b ≠ p) (hl : l.length ≤ 32) :
    OrdAt S (w.setCell ⟨p, 1 + k, none⟩ (.slice ao l.length cap)) p (setL L k l) := by
  have hkp : ∀ (n : Nat) (cs : List Value) (ao' : Option Addr) (cap' b' o' : Nat), SlAt w 1 n cs ao' cap' b' o' → (0 < cs.length → b' ≠ p) → SlAt (w.setCell ⟨p, 1 + k, none⟩ (.slice ao l.length cap)) 1 n cs ao' cap' b' o' := by
    intro n cs ao' cap' b' o' h1 h2
    exact slat_kept h1 (Kept.setCell (S := fun j => j = p) (Kept.refl _ w) (fun _ => rfl) _) (fun hp e => h2 hp e)
  refine ⟨?_, fun j hj => ?_⟩
  · rw [World.cell?_setCell_other _ _ _ _ (by simp <;> omega)]; exact h.c0
  · obtain ⟨ao1, cap1, b1, o1, h1, h2, h3, h4, h5⟩ := h.row j hj
    unfold setL
    by_cases e : j = k
    · subst e
      rw [if_pos rfl]
      refine ⟨ao, cap, b, o, World.cell?_setCell_same _ _ _ h1, by rw [World.frozen?_setCell]; exact h2, hkp _ _ _ _ _ _ hs (fun hp => (hb (by rw [us_len] at hp; omega)).2), hb, hl⟩
    · rw [if_neg e]
      exact ⟨ao1, cap1, b1, o1, by rw [World.cell?_setCell_other _ _ _ _ (by simp <;> omega)]; exact h1, by rw [World.frozen?_setCell]; exact h2, hkp _ _ _ _ _ _ h3 (fun hp => (h4 (by rw [us_len] at hp; omega)).2), h4, h5⟩

theorem is_any (S : Nat → Prop) (p : Nat) (L : Nat → List Int) (w : World) (h : OrdAt S w p L) : Calls Try.prog 28 #[.pointer (some ⟨p, 0, none⟩)] w fun e w' => e = .returned (.bool true) ∧ w = w' := by
  have c0 := h.c0
  go_enter Try.func28, Try.ntmps28
  go_wp2
  go_ret
  exact ⟨rfl, rfl⟩
theorem is_nil (w : World) : Calls Try.prog 28 #[.pointer none] w fun e w' => e = .returned (.bool false) ∧ w = w' := by
  go_enter Try.func28, Try.ntmps28
  go_wp2
  go_ret
  exact ⟨rfl, rfl⟩

/-- the list of a key, or none -/
def keyL (L : Nat → List Int) (k : Nat) : List Int := if k < 8 then L k else []
def OrdPost (S : Nat → Prop) (p : Nat) (l : List Int) (w : World) (e : Ending) (w' : World) : Prop := ∃ ao cap b o, e = .returned (.slice ao l.length cap) ∧ SlAt w 1 l.length (us l) ao cap b o ∧ (0 < l.length → S b ∧ b ≠ p) ∧ l.length ≤ 32 ∧ w = w'
theorem slat_none (w : World) : SlAt w 1 0 (us []) none 0 0 0 := ⟨rfl, Nat.le_refl _, Nat.zero_le _, fun h => absurd h (by decide), fun h => absurd h (by decide), fun j u hu => by simp [us] at hu⟩
theorem order_any (S : Nat → Prop) (p k : Nat) (L : Nat → List Int) (w : World) (h : OrdAt S w p L) (hk : k ≤ 255) : Calls Try.prog 27 #[.pointer (some ⟨p, 0, none⟩), .int .u8 k] w (OrdPost S p (keyL L k) w) := by
  have hi := is_any S p L w h
  by_cases hk8 : k < 8
  · obtain ⟨ao, cap, b, o, h1, h2, h3, h4, h5⟩ := h.row k hk8
    have t1 : decide ((8 : Int) ≤ (k : Int)) = false := by simp; omega
    have e1 : keyL L k = L k := if_pos hk8
    have b0 : (0 : Int) ≤ (k : Int) := by omega
    have b1 : (k : Int) < 8 := by omega
    have HI := Lib.hid hi
    have E1 := Lib.hid e1
    have H := Lib.hid (show SlAt w 1 (L k).length (us (L k)) ao cap b o ∧ (0 < (L k).length → S b ∧ b ≠ p) ∧ (L k).length ≤ 32 from ⟨h3, h4, h5⟩)
    clear hi e1 h3 h4 h5 h
    go_enter Try.func27, Try.ntmps27
    go_wp2_with fail
    refine HI.out.mono ?_
    rintro e w1 ⟨rfl, rfl⟩
    go_wp2
    go_ret
    rw [E1.out]
    exact ⟨ao, cap, b, o, rfl, H.out.1, H.out.2.1, H.out.2.2, rfl⟩
  · have t1 : decide ((8 : Int) ≤ (k : Int)) = true := by simp; omega
    have e1 : keyL L k = [] := if_neg hk8
    have HI := Lib.hid hi
    have E1 := Lib.hid e1
    clear hi e1 h
    go_enter Try.func27, Try.ntmps27
    go_wp2_with fail
    refine HI.out.mono ?_
    rintro e w1 ⟨rfl, rfl⟩
    go_wp2
    go_ret
    rw [E1.out]
    exact ⟨none, 0, 0, 0, rfl, slat_none _, fun h => absurd h (by decide), by decide, rfl⟩
theorem of_any (S : Nat → Prop) (p k : Nat) (L : Nat → List Int) (w : World) (h : OrdAt S w p L) (hk : k ≤ 255) : Calls Try.prog 14 #[.pointer (some ⟨p, 0, none⟩), .int .u8 k] w (OwnPost (keyL L k) w) := by
  have ho := order_any S p k L w h hk
  obtain ⟨l, hl⟩ : ∃ l, l = keyL L k := ⟨_, rfl⟩
  rw [← hl] at ho ⊢
  have HO := Lib.hid ho
  clear ho hl h
  go_enter Try.func14, Try.ntmps14
  go_wp2_with fail
  refine HO.out.mono ?_
  rintro e w1 ⟨ao, cap, b, o, rfl, hs, hS, hl, rfl⟩
  have HS := Lib.hid hs
  clear hs hS
  go_wp2_with fail
  refine (clone_any l ao cap b o _ HS.out (by omega)).mono ?_
  rintro e w1 ⟨v, rfl, hown, hb⟩
  go_wp2
  go_ret
  exact ⟨_, rfl, hown, hb⟩

/-! ### Take -/
/-- is it taken, the error, and the lists behind it -/
def takeB (L : Nat → List Int) (k : Nat) (l : List Int) : Bool := decide (k < 8) && decide (l.length ≤ 32) && decide l.Nodup && (bgn l (L k) || bgn (L k) l)
def takeE (k : Nat) (l : List Int) : Int := if 8 ≤ k then 2 else if 32 < l.length then 3 else 0
def takeL (L : Nat → List Int) (k : Nat) (l : List Int) : Nat → List Int := if takeB L k l = true ∧ bgn l (L k) = false then setL L k l else L
def TPost (S : Nat → Prop) (p : Nat) (B : Bool) (E : Int) (L' : Nat → List Int) (w : World) (e : Ending) (w' : World) : Prop :=
  e = .returned (.tuple #[.bool B, .int .i64 E]) ∧ OrdAt (fun b => S b ∨ w.heap.size ≤ b) w' p L' ∧ Kept (fun b => b = p) w w'
def TakePost (S : Nat → Prop) (p k : Nat) (L : Nat → List Int) (l : List Int) (w : World) : Ending → World → Prop := TPost S p (takeB L k l) (takeE k l) (takeL L k l) w
theorem ret_tk {a b : Bool} {c d : Int} (h : a = b) (h' : c = d) : Ending.returned (.tuple #[.bool a, .int .i64 c]) = .returned (.tuple #[.bool b, .int .i64 d]) := by rw [h, h']

theorem take_early (S : Nat → Prop) (p k : Nat) (L : Nat → List Int) (l : List Int) (ao : Option Addr) (cap b o : Nat) (w : World) (h : OrdAt S w p L) (hs : SlAt w 1 l.length (us l) ao cap b o) (hlen : l.length ≤ 100000) (hk : k ≤ 255)
    (hno : 8 ≤ k ∨ 32 < l.length ∨ ¬ l.Nodup) : Calls Try.prog 15 #[.pointer (some ⟨p, 0, none⟩), .int .u8 k, .slice ao l.length cap] w (TakePost S p k L l w) := by
  have hi := is_any S p L w h
  have ht := twice_any l ao cap b o w hs hlen
  have hfin : ∀ e, takeE k l = e → TakePost S p k L l w (.returned (.tuple #[.bool false, .int .i64 e])) w := by
    intro e he
    have hb : takeB L k l = false := by
      unfold takeB
      rcases hno with h | h | h
      · rw [decide_eq_false (by omega : ¬ k < 8)]; rfl
      · rw [decide_eq_false (by omega : ¬ l.length ≤ 32)]; simp
      · rw [decide_eq_false h]; simp
    refine ⟨ret_tk hb.symm he.symm, ?_, Kept.refl _ _⟩
    unfold takeL
    rw [if_neg (by rw [hb]; simp)]
    exact h.mono fun b _ hb => .inl hb
  have HI := Lib.hid hi
  have HF := Lib.hid hfin
  by_cases h8 : 8 ≤ k
  · have t1 : decide ((8 : Int) ≤ (k : Int)) = true := by simp; omega
    have he : takeE k l = 2 := if_pos h8
    have HE := Lib.hid he
    clear hi ht hfin hno h hs he
    go_enter Try.func15, Try.ntmps15
    go_wp2_with fail
    refine HI.out.mono ?_
    rintro e w1 ⟨rfl, rfl⟩
    go_wp2
    go_ret2
    exact HF.out 2 HE.out
  · have t1 : decide ((8 : Int) ≤ (k : Int)) = false := by simp; omega
    by_cases h32 : 32 < l.length
    · have t2 : decide ((32 : Int) < (l.length : Int)) = true := by simp; omega
      have he : takeE k l = 3 := by unfold takeE; rw [if_neg h8, if_pos h32]
      have HE := Lib.hid he
      clear hi ht hfin hno h hs he
      go_enter Try.func15, Try.ntmps15
      go_wp2_with fail
      refine HI.out.mono ?_
      rintro e w1 ⟨rfl, rfl⟩
      go_wp2
      go_ret2
      exact HF.out 3 HE.out
    · have t2 : decide ((32 : Int) < (l.length : Int)) = false := by simp; omega
      have he : takeE k l = 0 := by unfold takeE; rw [if_neg h8, if_neg h32]
      have hn : ¬ l.Nodup := (hno.resolve_left h8).resolve_left h32
      rw [decide_eq_false hn] at ht
      have HE := Lib.hid he
      have HT := Lib.hid ht
      clear hi ht hfin hno h hs he hn
      go_enter Try.func15, Try.ntmps15
      go_wp2_with fail
      refine HI.out.mono ?_
      rintro e w1 ⟨rfl, rfl⟩
      go_wp2_with fail
      refine HT.out.mono ?_
      rintro e w1 ⟨rfl, rfl⟩
      go_wp2
      go_ret2
      exact HF.out 0 HE.out

theorem take_late (S : Nat → Prop) (p k : Nat) (L : Nat → List Int) (l : List Int) (ao : Option Addr) (cap b o : Nat) (w : World) (h : OrdAt S w p L) (hs : SlAt w 1 l.length (us l) ao cap b o) (h8 : k < 8) (h32 : l.length ≤ 32) (hd : l.Nodup) :
    Calls Try.prog 15 #[.pointer (some ⟨p, 0, none⟩), .int .u8 k, .slice ao l.length cap] w (TakePost S p k L l w) := by
  have hi := is_any S p L w h
  have ht := twice_any l ao cap b o w hs (by omega)
  rw [decide_eq_true hd] at ht
  obtain ⟨ao1, cap1, b1, o1, c1, f1, hs1, hS1, hl1⟩ := h.row k h8
  have hb1 := begins_any l (L k) ao ao1 cap b o cap1 b1 o1 w hs hs1 (by omega)
  have hb2 := fun n => begins_any (L k) l ao1 ao cap1 b1 o1 cap b o (w.drewN n) (hs1.below (below_drewN (bz w) n)) (hs.below (below_drewN (bz w) n)) (by omega)
  have hc := fun W hb => clone_any l ao cap b o W (hs.below hb) (by omega)
  have hB : takeB L k l = (bgn l (L k) || bgn (L k) l) := by unfold takeB; rw [decide_eq_true h8, decide_eq_true h32, decide_eq_true hd]; simp
  have hE : takeE k l = 0 := by unfold takeE; rw [if_neg (by omega), if_neg (by omega)]
  have hL : takeL L k l = if (bgn l (L k) || bgn (L k) l) = true ∧ bgn l (L k) = false then setL L k l else L := by unfold takeL; rw [hB]
  have t1 : decide ((8 : Int) ≤ (k : Int)) = false := by simp; omega
  have t2 : decide ((32 : Int) < (l.length : Int)) = false := by simp; omega
  have b0 : (0 : Int) ≤ (k : Int) := by omega
  have b1 : (k : Int) < 8 := by omega
  have hplt := h.lt
  have HI := Lib.hid hi
  have HT := Lib.hid ht
  have H := Lib.hid h
  have HC := Lib.hid hc
  unfold TakePost
  rw [hB, hE, hL]
  obtain ⟨B1, hB1⟩ : ∃ B1, B1 = bgn l (L k) := ⟨_, rfl⟩
  obtain ⟨B2, hB2⟩ : ∃ B2, B2 = bgn (L k) l := ⟨_, rfl⟩
  rw [← hB1] at hb1 ⊢
  rw [← hB2] at hb2 ⊢
  have HB1 := Lib.hid hb1
  have HB2 := Lib.hid hb2
  clear hi ht h hc hs hs1 hS1 hb1 hb2 hB hE hL hB1 hB2
  cases B1 with
  | true =>
    rw [show (if (true || B2) = true ∧ true = false then setL L k l else L) = L from if_neg (by simp)]
    go_enter Try.func15, Try.ntmps15
    go_wp2_with fail
    refine HI.out.mono ?_
    rintro e w1 ⟨rfl, rfl⟩
    go_wp2_with fail
    refine HT.out.mono ?_
    rintro e w1 ⟨rfl, rfl⟩
    go_wp2_with fail
    refine HB1.out.mono ?_
    rintro e w1 ⟨rfl, n, rfl⟩
    go_wp2
    go_ret2
    exact ⟨by simp, (H.out.below (below_drewN (bz w) n)).mono fun b _ hb => .inl hb, (Kept.refl _ _).drewN _⟩
  | false =>
    cases B2 with
    | false =>
      rw [show (if (false || false) = true ∧ false = false then setL L k l else L) = L from if_neg (by simp)]
      go_enter Try.func15, Try.ntmps15
      go_wp2_with fail
      refine HI.out.mono ?_
      rintro e w1 ⟨rfl, rfl⟩
      go_wp2_with fail
      refine HT.out.mono ?_
      rintro e w1 ⟨rfl, rfl⟩
      go_wp2_with fail
      refine HB1.out.mono ?_
      rintro e w1 ⟨rfl, n, rfl⟩
      go_wp2_with fail
      refine (HB2.out n).mono ?_
      rintro e w1 ⟨rfl, m, rfl⟩
      go_wp2
      go_ret2
      exact ⟨by simp, (H.out.below (below_drewN (bz w) _)).mono fun b _ hb => .inl hb, (Kept.refl _ _).drewN _⟩
    | true =>
      rw [show (if (false || true) = true ∧ false = false then setL L k l else L) = setL L k l from if_pos (by simp)]
      go_enter Try.func15, Try.ntmps15
      go_wp2_with fail
      refine HI.out.mono ?_
      rintro e w1 ⟨rfl, rfl⟩
      go_wp2_with fail
      refine HT.out.mono ?_
      rintro e w1 ⟨rfl, rfl⟩
      go_wp2_with fail
      refine HB1.out.mono ?_
      rintro e w1 ⟨rfl, n, rfl⟩
      go_wp2_with fail
      refine (HB2.out n).mono ?_
      rintro e w1 ⟨rfl, m, rfl⟩
      go_wp2_with fail
      go_region_held3 (fun _ => True) (trivial) ((go_at_call 26; refine (HC.out _ (below_drewN (bz w) _)).mono ?_; rintro e w2 ⟨v2, rfl, hown, hb⟩; have hbb : Below w.heap.size w w2 := bt (below_drewN (bz w) _) hb; have c2 := kc hbb _ _ _ c1; have f2 := kf hbb _ _ hplt f1; obtain ⟨ao2, cap2, b2, o2, rfl, hs2, hb2⟩ := SlAt.owned hown; have HS2 := Lib.hid hs2; have HBB := Lib.hid hbb; have HB2' := Lib.hid hb2; clear hown hs2 hbb hb2 hb))
      all_goals go_wp2
      all_goals go_ret2
      have HB3 : 0 < l.length → w.heap.size ≤ b2 := fun hp => HB2'.out (by rw [us_len]; omega)
      refine ⟨by simp, ?_, ?_⟩
      · have h5 := (H.out.below HBB.out).mono (S' := fun b => S b ∨ w.heap.size ≤ b) (fun b _ hb => .inl hb)
        have h6 := h5.put h8 HS2.out (fun hp => ⟨.inr (HB3 hp), fun e => by have := HB3 hp; omega⟩) h32
        first | exact h6 | exact h6.below (bz _).drew
      · have h7 := ((Kept.of_below HBB.out).mono (S' := fun b => b = p) (fun i hi h => absurd h (by omega))).setCell (p := ⟨p, 1 + k, none⟩) (fun _ => rfl) (.slice ao2 l.length cap2)
        first | exact h7 | exact h7.drew

theorem take_any (S : Nat → Prop) (p k : Nat) (L : Nat → List Int) (l : List Int) (ao : Option Addr) (cap b o : Nat) (w : World) (h : OrdAt S w p L) (hs : SlAt w 1 l.length (us l) ao cap b o) (hlen : l.length ≤ 100000) (hk : k ≤ 255) :
    Calls Try.prog 15 #[.pointer (some ⟨p, 0, none⟩), .int .u8 k, .slice ao l.length cap] w (TakePost S p k L l w) := by
  by_cases hno : 8 ≤ k ∨ 32 < l.length ∨ ¬ l.Nodup
  · exact take_early S p k L l ao cap b o w h hs hlen hk hno
  · exact take_late S p k L l ao cap b o w h hs (by omega) (by omega) (by
      by_cases hd : l.Nodup
      · exact hd
      · exact absurd (.inr (.inr hd)) hno)
theorem take_nil (k : Int) (v : Value) (w : World) : Calls Try.prog 15 #[.pointer none, .int .u8 k, v] w fun e w' => e = .returned (.tuple #[.bool false, .int .i64 1]) ∧ w = w' := by
  go_enter Try.func15, Try.ntmps15
  go_wp2_with fail
  refine (is_nil w).mono ?_
  rintro e w1 ⟨rfl, rfl⟩
  go_wp2
  go_ret2
  exact ⟨rfl, rfl⟩
theorem new_any (w : World) : Calls Try.prog 13 #[] w fun e w' => e = .returned (.pointer (some ⟨w.heap.size, 0, none⟩)) ∧ OrdAt (fun _ => False) w' w.heap.size (fun _ => []) ∧ Below w.heap.size w w' ∧ w'.heap.size = w.heap.size + 1 := by
  go_enter Try.func13, Try.ntmps13
  go_wp2
  go_ret
  refine ⟨rfl, ⟨by simp [go_sem], fun k hk => ⟨none, 0, 0, 0, ?_, by simp [go_sem], slat_none _, fun h => absurd h (by decide), by decide⟩⟩, ba (bz w) _, by simp⟩
  rcases (by omega : k = 0 ∨ k = 1 ∨ k = 2 ∨ k = 3 ∨ k = 4 ∨ k = 5 ∨ k = 6 ∨ k = 7) with rfl | rfl | rfl | rfl | rfl | rfl | rfl | rfl <;> simp [go_sem]
theorem takes_any (S : Nat → Prop) (p : Nat) (L : Nat → List Int) (l : List Int) (ao : Option Addr) (cap b o : Nat) (w : World) (h : OrdAt S w p L) (hs : SlAt w 1 l.length (us l) ao cap b o) (hlen : l.length ≤ 100000) :
    Calls Try.prog 20 #[.pointer (some ⟨p, 0, none⟩), .slice ao l.length cap] w fun e w' => e = .returned (.bool (takeB L 2 l && takeE 2 l == 0)) ∧ OrdAt (fun b => S b ∨ w.heap.size ≤ b) w' p (takeL L 2 l) ∧ Kept (fun b => b = p) w w' := by
  have ht := take_any S p 2 L l ao cap b o w h hs hlen (by decide)
  unfold TakePost TPost at ht
  obtain ⟨B, hB⟩ : ∃ B, B = takeB L 2 l := ⟨_, rfl⟩
  obtain ⟨E, hE⟩ : ∃ E, E = takeE 2 l := ⟨_, rfl⟩
  rw [← hB, ← hE] at ht ⊢
  have HT := Lib.hid ht
  clear ht hB hE h hs
  cases B
  all_goals
    go_enter Try.func20, Try.ntmps20
    go_wp2_with fail
    refine HT.out.mono ?_
    rintro e w1 ⟨rfl, h1, h2⟩
    go_wp2
    go_ret
    exact ⟨by simp, h1, h2⟩
theorem leaves_any (S : Nat → Prop) (p : Nat) (L : Nat → List Int) (l : List Int) (ao : Option Addr) (cap b o : Nat) (w : World) (h : OrdAt S w p L) (hs : SlAt w 1 l.length (us l) ao cap b o) (hlen : l.length ≤ 100000) :
    Calls Try.prog 21 #[.pointer (some ⟨p, 0, none⟩), .slice ao l.length cap] w fun e w' => e = .returned (.bool (!takeB L 2 l && takeE 2 l == 0)) ∧ OrdAt (fun b => S b ∨ w.heap.size ≤ b) w' p (takeL L 2 l) ∧ Kept (fun b => b = p) w w' := by
  have ht := take_any S p 2 L l ao cap b o w h hs hlen (by decide)
  unfold TakePost TPost at ht
  obtain ⟨B, hB⟩ : ∃ B, B = takeB L 2 l := ⟨_, rfl⟩
  obtain ⟨E, hE⟩ : ∃ E, E = takeE 2 l := ⟨_, rfl⟩
  rw [← hB, ← hE] at ht ⊢
  have HT := Lib.hid ht
  clear ht hB hE h hs
  cases B
  all_goals
    go_enter Try.func21, Try.ntmps21
    go_wp2_with fail
    refine HT.out.mono ?_
    rintro e w1 ⟨rfl, h1, h2⟩
    go_wp2
    go_ret
    exact ⟨by simp, h1, h2⟩
end Go.Proofs.Ytggbcailaeebfaa
