/- The plain law of CodecBack: where bytes stand in a text, and in a beginning of it. -/
import Derived.Test.YtehnkljaoaehjaaWrites
import Derived.Test.YtehnkljaoaehjaaLr
namespace Go.Proofs.Ytehnkljaoaehjaa
open Go.RowKit Go.Um
set_option linter.unusedSimpArgs false
set_option linter.unusedVariables false

def encT (x : Thing2) : List Int :=
  if Int.tmod x.kind 5 = 0 then be x.n 1 else if Int.tmod x.kind 5 = 1 then be x.n 2 else if Int.tmod x.kind 5 = 2 then be x.n 4 else if Int.tmod x.kind 5 = 3 then numsOf x.s else lbytes x.l
def tb (e : List Int) : List UInt8 := e.map fun n => UInt8.ofNat n.toNat
theorem tb_app (a b : List Int) : tb (a ++ b) = tb a ++ tb b := by simp [tb]
theorem tb_len (a : List Int) : (tb a).length = a.length := by simp [tb]
/-- from place k on s has these bytes -/
def AtB (s : ByteArray) (k : Nat) (e : List Int) : Prop := ∃ pre post, s.data.toList = pre ++ (tb e ++ post) ∧ pre.length = k
/-- at place k a beginning of these bytes stands, and there the text ends -/
def CutB (s : ByteArray) (k : Nat) (e : List Int) : Prop := ∃ pre a b, s.data.toList = pre ++ tb a ∧ e = a ++ b ∧ b ≠ [] ∧ pre.length = k
theorem AtB.le {s : ByteArray} {k : Nat} {e : List Int} (h : AtB s k e) : k + e.length ≤ s.size := by
  obtain ⟨pre, post, h1, h2⟩ := h
  have := congrArg List.length h1
  simp [tb_len] at this
  omega
theorem CutB.lt {s : ByteArray} {k : Nat} {e : List Int} (h : CutB s k e) : k ≤ s.size ∧ s.size < k + e.length := by
  obtain ⟨pre, a, b, h1, rfl, h3, h2⟩ := h
  have h4 := congrArg List.length h1
  have h5 : 0 < b.length := List.length_pos_iff.2 h3
  simp [tb_len] at h4 ⊢
  omega
theorem AtB.app {s : ByteArray} {k : Nat} {a b : List Int} (h : AtB s k (a ++ b)) : AtB s k a ∧ AtB s (k + a.length) b := by
  obtain ⟨pre, post, h1, h2⟩ := h
  refine ⟨⟨pre, tb b ++ post, by rw [h1, tb_app, List.append_assoc], h2⟩, ⟨pre ++ tb a, post, by rw [h1, tb_app]; simp, by simp [tb_len, h2]⟩⟩
theorem AtB.ext {s : ByteArray} {k : Nat} {e : List Int} (h : AtB s k e) : s.extract k (k + e.length) = strOfNums e := by
  obtain ⟨pre, post, h1, h2⟩ := h
  apply ba_ext
  rw [extr_data, strOfNums_data, h1, ← h2, List.drop_left, Nat.add_sub_cancel_left, ← tb_len e, List.take_left]
  rfl
theorem numB_tb (e : List Int) : numB (strOfNums e) = numL (tb e) := rfl
theorem byteOf_bd (n : Int) (j : Nat) : 0 ≤ byteOf n j ∧ byteOf n j ≤ 255 := by
  unfold byteOf; omega
theorem ofNat_byte (z : Int) (h : 0 ≤ z ∧ z ≤ 255) : (UInt8.ofNat z.toNat).toNat = z.toNat := by
  rw [UInt8.toNat_ofNat']; exact Nat.mod_eq_of_lt (by omega)
theorem numB_be1 (n : Int) : ((numB (strOfNums (be n 1)) : Nat) : Int) = n % 256 := by
  have h0 := byteOf_bd n 0
  rw [numB_tb]
  simp only [be, tb, List.map_cons, List.map_nil, numL, List.foldl_cons, List.foldl_nil, ofNat_byte _ h0]
  unfold byteOf at *
  simp at *
  omega
theorem numB_be2 (n : Int) : ((numB (strOfNums (be n 2)) : Nat) : Int) = n % 65536 := by
  have h0 := byteOf_bd n 0
  have h1 := byteOf_bd n 1
  rw [numB_tb]
  simp only [be, tb, List.map_cons, List.map_nil, numL, List.foldl_cons, List.foldl_nil, ofNat_byte _ h0, ofNat_byte _ h1]
  unfold byteOf at *
  simp at *
  omega
theorem numB_be4 (n : Int) : ((numB (strOfNums (be n 4)) : Nat) : Int) = n % 4294967296 := by
  have h0 := byteOf_bd n 0
  have h1 := byteOf_bd n 1
  have h2 := byteOf_bd n 2
  have h3 := byteOf_bd n 3
  rw [numB_tb]
  simp only [be, tb, List.map_cons, List.map_nil, numL, List.foldl_cons, List.foldl_nil, ofNat_byte _ h0, ofNat_byte _ h1, ofNat_byte _ h2, ofNat_byte _ h3]
  unfold byteOf at *
  simp at *
  omega
theorem got_at {s : ByteArray} {k W : Nat} {e : List Int} (h : AtB s k e) (hW : W = e.length) : (⟨k, 0⟩ : Rs).next s W = ⟨k + W, 0⟩ ∧ (⟨k, 0⟩ : Rs).got s W = strOfNums e := by
  subst hW
  have hle := h.le
  obtain ⟨h1, h2⟩ := Rs.fine s ⟨k, 0⟩ e.length rfl hle
  exact ⟨h1, h2.trans h.ext⟩
theorem next_cut {s : ByteArray} {k W : Nat} {e : List Int} (h : CutB s k e) (hW : W = e.length) : (⟨k, 0⟩ : Rs).next s W = ⟨k, 5⟩ := by
  subst hW
  exact (Rs.torn s ⟨k, 0⟩ e.length rfl h.lt.2).1
theorem many_at {s : ByteArray} {k : Nat} {l : List Int} (hl : l.length ≤ 255) (h : AtB s k (be (l.length : Int) 1)) : many s k = l.length := by
  have h1 := h.ext
  rw [be_len] at h1
  have h2 := numB_be1 (l.length : Int)
  unfold many
  rw [h1]
  omega
theorem twos_app (a b : List Int) : twos (a ++ b) = twos a ++ twos b := by simp [twos]
theorem vals_at {s : ByteArray} {k : Nat} {l : List Int} (h : AtB s k (twos l)) (hu : ∀ y ∈ l, 0 ≤ y ∧ y ≤ 65535) : vals s k l.length = l := by
  have key : ∀ m, m ≤ l.length → vals s k m = l.take m := by
    intro m
    induction m with
    | zero => intro _; rfl
    | succ m ih =>
      intro hm
      have hx := List.getElem?_eq_getElem (show m < l.length by omega)
      obtain ⟨x, hx'⟩ : ∃ x, x = l[m] := ⟨_, rfl⟩
      rw [← hx'] at hx
      have hsp : l = l.take m ++ (x :: l.drop (m + 1)) := by
        rw [hx', List.getElem_cons_drop, List.take_append_drop]
      have h1 : AtB s k (twos (l.take m) ++ (be x 2 ++ twos (l.drop (m + 1)))) := by
        have : twos l = twos (l.take m) ++ (be x 2 ++ twos (l.drop (m + 1))) := by
          conv => lhs; rw [hsp]
          rw [twos_app]; rfl
        rwa [this] at h
      have h2 := h1.app.2.app.1
      rw [twos_len, List.length_take, Nat.min_eq_left (by omega)] at h2
      have h3 := h2.ext
      rw [be_len] at h3
      have h4 := numB_be2 x
      have h5 := hu x (List.mem_of_getElem? hx)
      have e4 : x % 65536 = x := by omega
      rw [e4] at h4
      rw [vals, ih (by omega), h3, List.take_add_one, hx]
      simp [h4]
  have := key l.length (Nat.le_refl _)
  rwa [List.take_length] at this
theorem list_at {s : ByteArray} {k : Nat} {l : List Int} (hl : l.length ≤ 255) (hu : ∀ y ∈ l, 0 ≤ y ∧ y ≤ 65535) (h : AtB s k (lbytes l)) : listV s ⟨k, 0⟩ = l ∧ listS s ⟨k, 0⟩ = ⟨k + (lbytes l).length, 0⟩ := by
  have hle := h.le
  rw [lbytes_len] at hle
  obtain ⟨h1, h2⟩ := AtB.app (a := be (l.length : Int) 1) (b := twos l) h
  have hm := many_at hl h1
  rw [be_len] at h2
  have hv := vals_at h2 hu
  have hw : whole s k = true := by unfold whole; rw [hm]; simp; omega
  unfold listV listS
  dsimp only
  rw [hw, hm, lbytes_len, if_pos ⟨rfl, rfl⟩, if_pos rfl, if_pos rfl]
  exact ⟨hv, by rw [Nat.add_assoc]⟩
theorem list_cut {s : ByteArray} {k : Nat} {l : List Int} (hl : l.length ≤ 255) (h : CutB s k (lbytes l)) : listV s ⟨k, 0⟩ = [] ∧ listS s ⟨k, 0⟩ = ⟨k, 5⟩ := by
  have hlt := h.lt
  rw [lbytes_len] at hlt
  have hw : whole s k = false := by
    by_cases h1 : k + 1 ≤ s.size
    · have h2 : AtB s k (be (l.length : Int) 1) := by
        obtain ⟨pre, a, b, e1, e2, e3, e4⟩ := h
        have hlen := congrArg List.length e1
        simp [tb_len] at hlen
        match a with
        | [] => simp at hlen; omega
        | y :: a' =>
          refine ⟨pre, tb a', ?_, e4⟩
          have e5 : be (l.length : Int) 1 ++ twos l = y :: (a' ++ b) := e2
          simp only [be, List.cons_append, List.nil_append, List.cons.injEq] at e5
          rw [e1]
          simp only [be, e5.1, tb, List.map_cons, List.map_nil, List.cons_append, List.nil_append]
      have hm := many_at hl h2
      unfold whole; rw [hm]; simp; omega
    · unfold whole; simp; omega
  unfold listV listS
  dsimp only
  rw [hw]
  simp

def encL (l : List Thing2) : List Int := l.flatMap encT
def off (l : List Thing2) (i : Nat) : Nat := (encL (l.take i)).length
theorem off_zero (l : List Thing2) : off l 0 = 0 := rfl
theorem off_all (l : List Thing2) : off l l.length = (encL l).length := by unfold off; rw [List.take_length]
theorem encL_snoc (l : List Thing2) (i : Nat) (x : Thing2) (hx : l[i]? = some x) : encL (l.take (i + 1)) = encL (l.take i) ++ encT x := by
  unfold encL
  rw [List.take_add_one, hx]
  simp
theorem off_succ (l : List Thing2) (i : Nat) (x : Thing2) (hx : l[i]? = some x) : off l (i + 1) = off l i + (encT x).length := by
  unfold off
  rw [encL_snoc l i x hx, List.length_append]
theorem encL_split (l : List Thing2) (i : Nat) (x : Thing2) (hx : l[i]? = some x) : ∃ r, encL l = encL (l.take i) ++ (encT x ++ r) := by
  refine ⟨encL (l.drop (i + 1)), ?_⟩
  obtain ⟨hi, e⟩ := List.getElem?_eq_some_iff.1 hx
  have hsp : l = l.take i ++ (x :: l.drop (i + 1)) := by
    rw [← e, List.getElem_cons_drop, List.take_append_drop]
  conv => lhs; rw [hsp]
  simp [encL]
theorem at_full (l : List Thing2) (i : Nat) (x : Thing2) (hx : l[i]? = some x) : AtB (strOfNums (encL l)) (off l i) (encT x) := by
  obtain ⟨r, hr⟩ := encL_split l i x hx
  refine ⟨tb (encL (l.take i)), tb r, ?_, tb_len _⟩
  rw [strOfNums_data, hr]
  show tb _ = _
  rw [tb_app, tb_app]
theorem take_three {α : Type} (A B R : List α) (c : Nat) (h : A.length + B.length ≤ c) : (A ++ (B ++ R)).take c = A ++ (B ++ R.take (c - (A.length + B.length))) := by
  rw [← List.append_assoc, List.take_append, List.take_of_length_le (by simp; omega), List.length_append, List.append_assoc]
theorem take_two {α : Type} (A B R : List α) (c : Nat) (h1 : A.length ≤ c) (h2 : c ≤ A.length + B.length) : (A ++ (B ++ R)).take c = A ++ B.take (c - A.length) := by
  rw [List.take_append, List.take_of_length_le h1, List.take_append, (by omega : c - A.length - B.length = 0), List.take_zero, List.append_nil]
theorem at_part (l : List Thing2) (i c : Nat) (x : Thing2) (hx : l[i]? = some x) (hc : off l (i + 1) ≤ c) : AtB ((strOfNums (encL l)).extract 0 c) (off l i) (encT x) := by
  obtain ⟨r, hr⟩ := encL_split l i x hx
  have ho := off_succ l i x hx
  refine ⟨tb (encL (l.take i)), (tb r).take (c - off l (i + 1)), ?_, tb_len _⟩
  rw [extr_data, List.drop_zero, Nat.sub_zero, strOfNums_data, hr]
  show List.take c (tb _) = _
  have h1 : (tb (encL (l.take i))).length = off l i := tb_len _
  have h2 : (tb (encT x)).length = (encT x).length := tb_len _
  rw [tb_app, tb_app, take_three _ _ _ _ (by rw [h1, h2]; omega), h1, h2, ho]
theorem cut_part (l : List Thing2) (i c : Nat) (x : Thing2) (hx : l[i]? = some x) (hc1 : off l i ≤ c) (hc : c < off l (i + 1)) : CutB ((strOfNums (encL l)).extract 0 c) (off l i) (encT x) := by
  obtain ⟨r, hr⟩ := encL_split l i x hx
  have ho := off_succ l i x hx
  refine ⟨tb (encL (l.take i)), (encT x).take (c - off l i), (encT x).drop (c - off l i), ?_, (List.take_append_drop _ _).symm, ?_, tb_len _⟩
  · rw [extr_data, List.drop_zero, Nat.sub_zero, strOfNums_data, hr]
    show List.take c (tb _) = _
    have h1 : (tb (encL (l.take i))).length = off l i := tb_len _
    have h2 : (tb (encT x)).length = (encT x).length := tb_len _
    rw [tb_app, tb_app, take_two _ _ _ _ (by rw [h1]; omega) (by rw [h1, h2]; omega), h1]
    simp [tb, List.map_take]
  · intro h
    have := congrArg List.length h
    simp at this
    omega
theorem off_mono (l : List Thing2) (i : Nat) : ∀ j, i ≤ j → j ≤ l.length → off l i ≤ off l j := by
  intro j
  induction j with
  | zero => intro h _; have : i = 0 := by omega
            subst this; exact Nat.le_refl _
  | succ j ih =>
    intro h1 h2
    rcases Nat.lt_or_ge j i with h3 | h3
    · have : i = j + 1 := by omega
      subst this; exact Nat.le_refl _
    · have := off_succ l j _ (List.getElem?_eq_getElem (show j < l.length by omega))
      have := ih h3 (by omega)
      omega
theorem encT_len (x : Thing2) (hs : x.s.size ≤ 300) (hl : x.l.length ≤ 255) : (encT x).length ≤ 600 := by
  unfold encT
  repeat' split
  all_goals first | (rw [be_len]; omega) | (rw [numsOf_len]; omega) | (rw [lbytes_len]; omega)
theorem off_le (l : List Thing2) (h : ∀ (j : Nat) (x : Thing2), l[j]? = some x → (encT x).length ≤ 600) : ∀ i, i ≤ l.length → off l i ≤ 600 * i := by
  intro i
  induction i with
  | zero => intro _; simp [off_zero]
  | succ i ih =>
    intro hi
    have hx := List.getElem?_eq_getElem (show i < l.length by omega)
    have := off_succ l i _ hx
    have := h i _ hx
    have := ih (by omega)
    omega
end Go.Proofs.Ytehnkljaoaehjaa
