/- QueueBack: Decode of Encode is the state; what is decoded has that text; states are the same just if their texts are. -/
import Derived.Test.YtfaoakahmllpjaaDoorDecode
namespace Go.Proofs.YtfaoakahmllpjaaDoor
open Go.RowKit Go.Um
set_option maxHeartbeats 1000000

theorem encL_cons (x : Int) (l : List Int) : encL (x :: l) = (x / 256) :: (x % 256) :: encL l := rfl
theorem dec_enc (l : List Int) (h : in16s l) : decL (strOfNums (encL l)).data.toList = l := by
  rw [strOfNums_data]
  induction l with
  | nil => rfl
  | cons x l ih =>
    have hx := h x (by simp)
    rw [encL_cons]
    show (256 * ((UInt8.ofNat (x / 256).toNat).toNat : Int) + ((UInt8.ofNat (x % 256).toNat).toNat : Int)) :: decL ((encL l).map fun n => UInt8.ofNat n.toNat) = x :: l
    rw [ih (fun n hn => h n (by simp [hn])), UInt8.toNat_ofNat', UInt8.toNat_ofNat', Nat.mod_eq_of_lt (by unfold in16 at hx; omega), Nat.mod_eq_of_lt (by omega)]
    congr 1
    unfold in16 at hx
    omega
theorem enc_len (l : List Int) : (strOfNums (encL l)).size = 2 * l.length := by rw [strOfNums_size, encL_len]
theorem decS_enc (l : List Int) (h : in16s l) : decS (strOfNums (encL l)).data.toList = l := by
  unfold decS; rw [len_data, enc_len, if_pos (by omega), dec_enc l h]
theorem decE_enc (l : List Int) : decE (strOfNums (encL l)).data.toList = 0 := by
  unfold decE; rw [len_data, enc_len, if_pos (by omega)]
theorem enc_dec (l : List UInt8) (h : l.length % 2 = 0) : (encL (decL l)).map (fun n => UInt8.ofNat n.toNat) = l := by
  match l, h with
  | [], _ => rfl
  | [_], h => simp at h
  | a :: b :: r, h =>
    have ha := a.toNat_lt
    have hb := b.toNat_lt
    have h2 : r.length % 2 = 0 := by simp at h; omega
    show UInt8.ofNat ((256 * (a.toNat : Int) + b.toNat) / 256).toNat :: UInt8.ofNat ((256 * (a.toNat : Int) + b.toNat) % 256).toNat :: (encL (decL r)).map _ = _
    rw [enc_dec r h2]
    have e1 : ((256 * (a.toNat : Int) + b.toNat) / 256).toNat = a.toNat := by omega
    have e2 : ((256 * (a.toNat : Int) + b.toNat) % 256).toNat = b.toNat := by omega
    rw [e1, e2]
    simp
theorem decL_in16 (l : List UInt8) : in16s (decL l) := by
  match l with
  | [] => intro n hn; simp [decL] at hn
  | [_] => intro n hn; simp [decL] at hn
  | a :: b :: r =>
    intro n hn
    have ha := a.toNat_lt
    have hb := b.toNat_lt
    rcases List.mem_cons.1 hn with rfl | hn
    · unfold in16; omega
    · exact decL_in16 r n hn
theorem text_back (s : ByteArray) (h : s.size % 2 = 0) : (strOfNums (encL (decS s.data.toList))).data.toList = s.data.toList := by
  unfold decS
  rw [len_data, if_pos h, strOfNums_data]
  exact enc_dec _ (by rw [len_data]; exact h)
theorem enc_inj (a b : List Int) (ha : in16s a) (hb : in16s b) : (decide (a = b)) = ((strOfNums (encL a)).toList == (strOfNums (encL b)).toList) := by
  rw [ByteArray.toList_eq, ByteArray.toList_eq]
  by_cases h : a = b
  · subst h; simp
  · have : (strOfNums (encL a)).data.toList ≠ (strOfNums (encL b)).data.toList := fun e => h (by rw [← dec_enc a ha, ← dec_enc b hb, e])
    rw [decide_eq_false h]; symm; rw [beq_eq_false_iff_ne]; exact this

theorem back_big (a b : List Int) (va vb : Value) (s : ByteArray) (w : World) (ha : Lies w a va) (hb : Lies w b vb) (hbig : 200 < a.length ∨ 200 < b.length ∨ 500 < s.size) (hk : Kinds w) :
    Calls Tryd.prog 8 #[va, vb, .string s] w fun e w' => e = .returned (.bool true) ∧ Below w.heap.size w w' := by
  obtain ⟨ao1, cap1, b1, o1, rfl, h1⟩ := ha
  obtain ⟨ao2, cap2, b2, o2, rfl, h2⟩ := hb
  clear h1 h2
  have hc : (decide (200 < (a.length : Int)) = true) ∨ (decide (200 < (a.length : Int)) = false ∧ decide (200 < (b.length : Int)) = true) ∨ (decide (200 < (a.length : Int)) = false ∧ decide (200 < (b.length : Int)) = false ∧ decide (500 < (s.size : Int)) = true) := by
    by_cases h1 : 200 < a.length
    · exact .inl (by simp; omega)
    · by_cases h2 : 200 < b.length
      · exact .inr (.inl ⟨by simp; omega, by simp; omega⟩)
      · exact .inr (.inr ⟨by simp; omega, by simp; omega, by simp; omega⟩)
  clear hbig
  rcases hc with h1 | ⟨h1, h2⟩ | ⟨h1, h2, h3⟩
  all_goals
    go_enter Tryd.func8, Tryd.ntmps8
    go_wp2_with fail
    refine (works_any _ hk).mono ?_
    rintro e w1 ⟨rfl, hb1⟩
    go_wp2
    go_ret
    exact ⟨rfl, hb1⟩

theorem back_small (a b : List Int) (va vb : Value) (s : ByteArray) (w : World) (ha : Lies w a va) (hb : Lies w b vb) (ra : in16s a) (rb : in16s b) (hla : a.length ≤ 200) (hlb : b.length ≤ 200) (hls : s.size ≤ 500) (hk : Kinds w) :
    Calls Tryd.prog 8 #[va, vb, .string s] w fun e w' => e = .returned (.bool true) ∧ Below w.heap.size w w' := by
  have HA := Lib.hid ha
  have HBb := Lib.hid hb
  obtain ⟨ao1, cap1, b1, o1, rfl, h1⟩ := ha
  obtain ⟨ao2, cap2, b2, o2, rfl, h2⟩ := hb
  have t1 : decide (200 < (a.length : Int)) = false := by simp; omega
  have t2 : decide (200 < (b.length : Int)) = false := by simp; omega
  have t3 : decide (500 < (s.size : Int)) = false := by simp; omega
  have b0 : (s.size : Int) ≤ 500 := by omega
  obtain ⟨q, hq⟩ : ∃ q, q = decS s.data.toList := ⟨_, rfl⟩
  obtain ⟨er, her⟩ : ∃ er, er = decE s.data.toList := ⟨_, rfl⟩
  obtain ⟨sa, hsa⟩ : ∃ st, st = strOfNums (encL a) := ⟨_, rfl⟩
  obtain ⟨sb, hsb⟩ : ∃ st, st = strOfNums (encL b) := ⟨_, rfl⟩
  obtain ⟨sq, hsq⟩ : ∃ st, st = strOfNums (encL q) := ⟨_, rfl⟩
  have hql : q.length ≤ 1000 := by
    rw [hq]; unfold decS
    split
    · rw [decL_len, len_data]; omega
    · simp
  have hrq : in16s q := by
    rw [hq]; unfold decS
    split
    · exact decL_in16 _
    · intro n hn; simp at hn
  have p1 := fun W => decode_any s W (by omega)
  have p0 := fun W => decode_any (strOfNums (encL a)) W (by rw [enc_len]; omega)
  have p3 := fun v W (h : Lies W a v) => encode_any a v W h ra (by omega)
  have p4 := fun v W (h : Lies W b v) => encode_any b v W h rb (by omega)
  have p5 := fun v W (h : Lies W q v) => encode_any q v W h hrq hql
  unfold DecPost at p1 p0
  rw [decS_enc a ra, decE_enc a, ← hsa] at p0
  rw [← hq, ← her] at p1
  rw [← hsa] at p3
  rw [← hsb] at p4
  rw [← hsq] at p5
  have hinj := enc_inj a b ra rb
  rw [← hsa, ← hsb] at hinj
  have hodd : (((s.size : Int) % 2 == 0) = true ∧ (er == 0) = true ∧ (er != 0) = false ∧ (sq.toList == s.toList) = true) ∨ (((s.size : Int) % 2 == 0) = false ∧ (er == 0) = false ∧ (er != 0) = true) := by
    by_cases h : s.size % 2 = 0
    · have e : er = 0 := by rw [her]; unfold decE; rw [len_data, if_pos h]
      have e2 := text_back s h
      rw [← hq, ← hsq] at e2
      exact .inl ⟨by rw [beq_iff_eq]; omega, by rw [e]; rfl, by rw [e]; rfl, by rw [ByteArray.toList_eq, ByteArray.toList_eq, e2]; exact beq_self_eq_true _⟩
    · have e : er = 5 := by rw [her]; unfold decE; rw [len_data, if_neg h]
      exact .inr ⟨by rw [beq_eq_false_iff_ne]; omega, by rw [e]; rfl, by rw [e]; rfl⟩
  obtain ⟨se, hse⟩ : ∃ se, se = (sa.toList == sb.toList) := ⟨_, rfl⟩
  rw [← hse] at hinj
  have hse' : (sa.toList == sb.toList) = se := hse.symm
  have H1 := Lib.hid h1
  have P1 := Lib.hid p1
  clear p1
  have P0 := Lib.hid p0
  clear p0
  have P3 := Lib.hid p3
  clear p3
  have P4 := Lib.hid p4
  clear p4
  have P5 := Lib.hid p5
  clear p5
  have Hk := Lib.hid hk
  clear hk
  have Hql := Lib.hid hql
  clear hql
  have Hla := Lib.hid hla
  clear hla
  have Hlb := Lib.hid hlb
  clear hlb
  have HI := Lib.hid hinj
  clear hinj
  clear h1 h2 ra rb hls hq her hsa hsb hsq hrq hse
  rcases hodd with ⟨y1, y2, y3, y4⟩ | ⟨y1, y2, y3⟩
  all_goals
    go_enter Tryd.func8, Tryd.ntmps8
    go_wp2_with fail
    refine (qof_any a _ _ HA.out (by have := Hla.out; omega)).mono ?_
    rintro e w1 ⟨v1, rfl, hown1, hb1⟩
    have Hl1 := Lib.hid (Lies.own hown1)
    obtain ⟨a1, c1', bb1, oo1, rfl, _, _⟩ := SlAt.owned hown1
    have HB1 := Lib.hid hb1
    clear hb1
    clear hown1
    go_wp2_with fail
    refine (P3.out _ _ Hl1.out).mono ?_
    rintro e w2 ⟨rfl, hb2⟩
    have hB2 := bt HB1.out hb2
    have HB2 := Lib.hid hB2
    clear hB2
    clear hb2
    go_wp2_with fail
    refine (P0.out _).mono ?_
    rintro e w3 ⟨v3, rfl, hf3, hb3⟩
    have Hf3 := Lib.hid hf3.lies
    obtain ⟨a3, c3, bb3, oo3, rfl, _, _⟩ := hf3
    have hB3 := bt HB2.out hb3
    have HB3 := Lib.hid hB3
    clear hB3
    clear hb3
    go_wp2_with fail
    refine (P1.out _).mono ?_
    rintro e w4 ⟨v4, rfl, hf4, hb4⟩
    have c7 := kc hb4 w3.heap.size 0 (.slice a3 a.length c3) (by simp [go_sem])
    have hb4' := bt (ba (bz w3) _) hb4
    have Hf4 := Lib.hid hf4.lies
    have Hf34 := Lib.hid (Hf3.out.below hb4')
    obtain ⟨a4, c4, bb4, oo4, rfl, _, _⟩ := hf4
    have hB4 := bt HB3.out hb4'
    have HB4 := Lib.hid hB4
    clear hB4
    clear hb4 hb4'
    go_wp2_with fail
    refine (qof_any a _ _ (HA.out.below (ba HB4.out _)) (by have := Hla.out; omega)).mono ?_
    rintro e w5 ⟨v5, rfl, hown5, hb5⟩
    have c9 := kc hb5 w4.heap.size 0 (.slice a4 q.length c4) (by simp [go_sem])
    have hb5' := bt (ba (bz w4) _) hb5
    replace c7 := cell_past hb5' c7
    have Hl5 := Lib.hid (Lies.own hown5)
    obtain ⟨a5, c5, bb5, oo5, rfl, _, _⟩ := SlAt.owned hown5
    have hB5 := bt HB4.out hb5'
    have HF4 := Lib.hid (Hf4.out.below hb5')
    have HF34 := Lib.hid (Hf34.out.below hb5')
    have HB5 := Lib.hid hB5
    clear hB5
    clear hown5 hb5 hb5'
    go_wp2_with fail
    refine (qof_any b _ _ (HBb.out.below HB5.out) (by have := Hlb.out; omega)).mono ?_
    rintro e w6 ⟨v6, rfl, hown6, hb6⟩
    replace c7 := cell_past hb6 c7
    replace c9 := cell_past hb6 c9
    have Hl6 := Lib.hid (Lies.own hown6)
    have Hl56 := Lib.hid (Hl5.out.below hb6)
    obtain ⟨a6, c6, bb6, oo6, rfl, _, _⟩ := SlAt.owned hown6
    have hB6 := bt HB5.out hb6
    have hS6 := hb6
    have HB6 := Lib.hid hB6
    clear hB6
    have HS6 := Lib.hid hS6
    clear hS6
    clear hown6 hb6
    go_wp2_with fail
    refine (same_any a b _ _ _ Hl56.out Hl6.out (by have := Hla.out; omega)).mono ?_
    rintro e w7 ⟨rfl, hb7⟩
    rw [HI.out]
    replace c7 := cell_past hb7 c7
    replace c9 := cell_past hb7 c9
    have hB7 := bt HB6.out hb7
    have hS7 := bt HS6.out hb7
    have HB7 := Lib.hid hB7
    clear hB7
    have HS7 := Lib.hid hS7
    clear hS7
    clear hb7
    go_wp2_with fail
    refine (has_any a a _ _ _ _ _ _ (HF34.out.below HS7.out) (H1.out.below HB7.out) (by have := Hla.out; omega)).mono ?_
    rintro e w8 ⟨rfl, hb8⟩
    rw [decide_eq_true (rfl : a = a)]
    replace c9 := cell_past hb8 c9
    have hB8 := bt HB7.out hb8
    have hS8 := bt HS7.out hb8
    have HB8 := Lib.hid hB8
    clear hB8
    have HS8 := Lib.hid hS8
    clear hS8
    clear hb8 c7
    go_wp2_with fail
  · refine (P5.out _ _ (HF4.out.below HS8.out)).mono ?_
    rintro e w9 ⟨rfl, hb9⟩
    have hB9 := bt HB8.out hb9
    have hS9 := bt HS8.out hb9
    have HB9 := Lib.hid hB9
    clear hB9
    have HS9 := Lib.hid hS9
    clear hS9
    clear hb9
    go_wp2_with fail
    refine (qof_any a _ _ (HA.out.below HB9.out) (by have := Hla.out; omega)).mono ?_
    rintro e wA ⟨vA, rfl, hownA, hbA⟩
    have HlA := Lib.hid (Lies.own hownA)
    obtain ⟨aA, cA, bbA, ooA, rfl, _, _⟩ := SlAt.owned hownA
    have hBA := bt HB9.out hbA
    have HBA := Lib.hid hBA
    clear hBA
    clear hownA hbA
    go_wp2_with fail
    refine (P3.out _ _ HlA.out).mono ?_
    rintro e wB ⟨rfl, hbB⟩
    have hBB := bt HBA.out hbB
    have HBB := Lib.hid hBB
    clear hBB
    clear hbB
    go_wp2_with fail
    refine (qof_any b _ _ (HBb.out.below HBB.out) (by have := Hlb.out; omega)).mono ?_
    rintro e wC ⟨vC, rfl, hownC, hbC⟩
    have HlC := Lib.hid (Lies.own hownC)
    obtain ⟨aC, cC, bbC, ooC, rfl, _, _⟩ := SlAt.owned hownC
    have hBC := bt HBB.out hbC
    have HBC := Lib.hid hBC
    clear hBC
    clear hownC hbC
    go_wp2_with fail
    refine (P4.out _ _ HlC.out).mono ?_
    rintro e wD ⟨rfl, hbD⟩
    have hBD := bt HBC.out hbD
    have HBD := Lib.hid hBD
    clear hBD
    clear hbD
    go_wp2_with fail
    refine (works_any _ (Hk.out.below HBD.out)).mono ?_
    rintro e wE ⟨rfl, hbE⟩
    go_wp2
    go_ret
    exact ⟨rfl, bt HBD.out hbE⟩
  · refine (qof_any a _ _ (HA.out.below HB8.out) (by have := Hla.out; omega)).mono ?_
    rintro e wA ⟨vA, rfl, hownA, hbA⟩
    have HlA := Lib.hid (Lies.own hownA)
    obtain ⟨aA, cA, bbA, ooA, rfl, _, _⟩ := SlAt.owned hownA
    have hBA := bt HB8.out hbA
    have HBA := Lib.hid hBA
    clear hBA
    clear hownA hbA
    go_wp2_with fail
    refine (P3.out _ _ HlA.out).mono ?_
    rintro e wB ⟨rfl, hbB⟩
    have hBB := bt HBA.out hbB
    have HBB := Lib.hid hBB
    clear hBB
    clear hbB
    go_wp2_with fail
    refine (qof_any b _ _ (HBb.out.below HBB.out) (by have := Hlb.out; omega)).mono ?_
    rintro e wC ⟨vC, rfl, hownC, hbC⟩
    have HlC := Lib.hid (Lies.own hownC)
    obtain ⟨aC, cC, bbC, ooC, rfl, _, _⟩ := SlAt.owned hownC
    have hBC := bt HBB.out hbC
    have HBC := Lib.hid hBC
    clear hBC
    clear hownC hbC
    go_wp2_with fail
    refine (P4.out _ _ HlC.out).mono ?_
    rintro e wD ⟨rfl, hbD⟩
    have hBD := bt HBC.out hbD
    have HBD := Lib.hid hBD
    clear hBD
    clear hbD
    go_wp2_with fail
    refine (works_any _ (Hk.out.below HBD.out)).mono ?_
    rintro e wE ⟨rfl, hbE⟩
    go_wp2
    go_ret
    exact ⟨rfl, bt HBD.out hbE⟩

theorem back_any (a b : List Int) (va vb : Value) (s : ByteArray) (w : World) (ha : Lies w a va) (hb : Lies w b vb) (ra : in16s a) (rb : in16s b) (hk : Kinds w) :
    Calls Tryd.prog 8 #[va, vb, .string s] w fun e w' => e = .returned (.bool true) ∧ Below w.heap.size w w' := by
  by_cases h : 200 < a.length ∨ 200 < b.length ∨ 500 < s.size
  · exact back_big a b va vb s w ha hb h hk
  · exact back_small a b va vb s w ha hb ra rb (by omega) (by omega) (by omega) hk
end Go.Proofs.YtfaoakahmllpjaaDoor
