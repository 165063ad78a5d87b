/- QueueTexts: any state's text, and the state that any text is, are as the document says. -/
import Derived.Test.YtfaoakahmllpjaaDoorDecode
namespace Go.Proofs.YtfaoakahmllpjaaDoor
open Go.RowKit Go.Um
set_option maxHeartbeats 1000000

theorem texts_big (a b : List Int) (va vb : Value) (s : ByteArray) (w : World) (ha : Lies w a va) (hb : Lies w b vb) (hbig : 200 < a.length ∨ 200 < b.length ∨ 500 < s.size) (hk : Kinds w) :
    Calls Tryd.prog 7 #[va, vb, .string s] w fun e w' => e = .returned (.bool true) ∧ Below w.heap.size w w' := by
  obtain ⟨ao1, cap1, b1, o1, rfl, h1⟩ := ha
  obtain ⟨ao2, cap2, b2, o2, rfl, h2⟩ := hb
  clear h1 h2
  have hc : (decide (200 < (a.length : Int)) = true) ∨ (decide (200 < (a.length : Int)) = false ∧ decide (200 < (b.length : Int)) = true) ∨ (decide (200 < (a.length : Int)) = false ∧ decide (200 < (b.length : Int)) = false ∧ decide (500 < (s.size : Int)) = true) := by
    by_cases h1 : 200 < a.length
    · exact .inl (by simp; omega)
    · by_cases h2 : 200 < b.length
      · exact .inr (.inl ⟨by simp; omega, by simp; omega⟩)
      · exact .inr (.inr ⟨by simp; omega, by simp; omega, by simp; omega⟩)
  clear hbig
  rcases hc with h1 | ⟨h1, h2⟩ | ⟨h1, h2, h3⟩
  all_goals
    go_enter Tryd.func7, Tryd.ntmps7
    go_wp2_with fail
    refine (works_any _ hk).mono ?_
    rintro e w1 ⟨rfl, hb1⟩
    go_wp2
    go_ret
    exact ⟨rfl, hb1⟩

theorem texts_small (a b : List Int) (va vb : Value) (s : ByteArray) (w : World) (ha : Lies w a va) (hb : Lies w b vb) (ra : in16s a) (hla : a.length ≤ 200) (hlb : b.length ≤ 200) (hls : s.size ≤ 500) (hk : Kinds w) :
    Calls Tryd.prog 7 #[va, vb, .string s] w fun e w' => e = .returned (.bool true) ∧ Below w.heap.size w w' := by
  have HA := Lib.hid ha
  have HBb := Lib.hid hb
  obtain ⟨ao1, cap1, b1, o1, rfl, h1⟩ := ha
  obtain ⟨ao2, cap2, b2, o2, rfl, h2⟩ := hb
  have t1 : decide (200 < (a.length : Int)) = false := by simp; omega
  have t2 : decide (200 < (b.length : Int)) = false := by simp; omega
  have t3 : decide (500 < (s.size : Int)) = false := by simp; omega
  obtain ⟨q, hq⟩ : ∃ q, q = decS s.data.toList := ⟨_, rfl⟩
  obtain ⟨er, her⟩ : ∃ er, er = decE s.data.toList := ⟨_, rfl⟩
  obtain ⟨st, hst⟩ : ∃ st, st = strOfNums (encL a) := ⟨_, rfl⟩
  have hql : q.length ≤ 100000 := by
    rw [hq]; unfold decS
    split
    · rw [decL_len, len_data]; omega
    · simp
  have p1 := fun W => decode_any s W (by omega)
  have p2 := fun W => rdecode_any s W (by omega)
  have p3 := fun v W (h : Lies W a v) => encode_any a v W h ra (by omega)
  have p4 := fun W (h : SlAt W 1 a.length (us a) ao1 cap1 b1 o1) => rencode_any a ao1 cap1 b1 o1 W h ra (by omega)
  unfold DecPost at p1
  unfold RDecPost at p2
  rw [← hq, ← her] at p1 p2
  rw [← hst] at p3 p4
  have H1 := Lib.hid h1
  have H2 := Lib.hid h2
  have P1 := Lib.hid p1
  clear p1
  have P2 := Lib.hid p2
  clear p2
  have P3 := Lib.hid p3
  clear p3
  have P4 := Lib.hid p4
  clear p4
  have Hk := Lib.hid hk
  clear hk
  have Hql := Lib.hid hql
  clear hql
  have Hla := Lib.hid hla
  clear hla
  have Hlb := Lib.hid hlb
  clear hlb
  clear h1 h2 ra hls hq her hst
  go_enter Tryd.func7, Tryd.ntmps7
  go_wp2_with fail
  refine (P1.out _).mono ?_
  rintro e w1 ⟨v1, rfl, hf1, hb1⟩
  have Hf1 := Lib.hid hf1.lies
  obtain ⟨aq, capq, bq, oq, rfl, _, _⟩ := hf1
  have HB1 := Lib.hid hb1
  clear hb1
  go_wp2_with fail
  refine (P2.out _).mono ?_
  rintro e w2 ⟨v2, rfl, hown2, hb2⟩
  have c7 := kc hb2 w1.heap.size 0 (.slice aq q.length capq) (by simp [go_sem])
  have hb2' := bt (ba (bz w1) _) hb2
  have Hf2 := Lib.hid (Hf1.out.below hb2')
  have hB2 := bt HB1.out hb2'
  obtain ⟨ar, capr, br, or', rfl, hsr, _⟩ := SlAt.owned hown2
  have HB2 := Lib.hid hB2
  clear hB2
  have HSR := Lib.hid hsr
  clear hsr
  clear hown2 hb2 hb2'
  go_wp2_with fail
  refine (qof_any a _ _ (HA.out.below HB2.out) (by have := Hla.out; omega)).mono ?_
  rintro e w3 ⟨v3, rfl, hown3, hb3⟩
  replace c7 := cell_past hb3 c7
  have Hl3 := Lib.hid (Lies.own hown3)
  obtain ⟨a3, cap3, b3, o3, rfl, _, _⟩ := SlAt.owned hown3
  have hB3 := bt HB2.out hb3
  have HS3 := Lib.hid hb3
  have HB3 := Lib.hid hB3
  clear hB3
  clear hown3 hb3
  go_wp2_with fail
  refine (P3.out _ _ Hl3.out).mono ?_
  rintro e w4 ⟨rfl, hb4⟩
  replace c7 := cell_past hb4 c7
  have hB4 := bt HB3.out hb4
  have hS4 := bt HS3.out hb4
  have HB4 := Lib.hid hB4
  clear hB4
  have HS4 := Lib.hid hS4
  clear hS4
  clear hb4
  go_wp2_with fail
  refine (P4.out _ (H1.out.below HB4.out)).mono ?_
  rintro e w5 ⟨rfl, hb5⟩
  replace c7 := cell_past hb5 c7
  have hB5 := bt HB4.out hb5
  have hS5 := bt HS4.out hb5
  have HB5 := Lib.hid hB5
  clear hB5
  have HS5 := Lib.hid hS5
  clear hS5
  clear hb5
  go_wp2_with fail
  refine (values_any q _ _ (Hf2.out.below HS5.out) Hql.out).mono ?_
  rintro e w6 ⟨v6, rfl, hown6, hb6⟩
  obtain ⟨a6, cap6, b6, o6, rfl, hs6, _⟩ := SlAt.owned hown6
  have hB6 := bt HB5.out hb6
  have hS6 := bt HS5.out hb6
  have HB6 := Lib.hid hB6
  clear hB6
  have HS6 := Lib.hid hS6
  clear hS6
  have HSL6 := Lib.hid hs6
  clear hs6
  clear hown6 hb6 c7
  go_wp2_with fail
  refine (rsame_any q q _ _ _ _ _ _ _ _ _ HSL6.out (HSR.out.below HS6.out) Hql.out).mono ?_
  rintro e w7 ⟨rfl, hb7⟩
  rw [decide_eq_true (rfl : q = q)]
  have hB7 := bt HB6.out hb7
  have HB7 := Lib.hid hB7
  clear hB7
  clear hb7
  go_wp2_with fail
  refine (qof_any a _ _ (HA.out.below HB7.out) (by have := Hla.out; omega)).mono ?_
  rintro e w8 ⟨v8, rfl, hown8, hb8⟩
  have Hl8 := Lib.hid (Lies.own hown8)
  obtain ⟨a8, cap8, b8, o8, rfl, _, _⟩ := SlAt.owned hown8
  have hB8 := bt HB7.out hb8
  have HB8 := Lib.hid hB8
  clear hB8
  clear hown8 hb8
  go_wp2_with fail
  refine (qof_any b _ _ (HBb.out.below HB8.out) (by have := Hlb.out; omega)).mono ?_
  rintro e w9 ⟨v9, rfl, hown9, hb9⟩
  have Hl9 := Lib.hid (Lies.own hown9)
  obtain ⟨a9, cap9, b9, o9, rfl, _, _⟩ := SlAt.owned hown9
  have Hl89 := Lib.hid (Hl8.out.below hb9)
  have hB9 := bt HB8.out hb9
  have HB9 := Lib.hid hB9
  clear hB9
  clear hown9 hb9
  go_wp2_with fail
  refine (same_any a b _ _ _ Hl89.out Hl9.out (by have := Hla.out; omega)).mono ?_
  rintro e wA ⟨rfl, hbA⟩
  have hBA := bt HB9.out hbA
  have HBA := Lib.hid hBA
  clear hBA
  clear hbA
  go_wp2_with fail
  refine (rsame_any a b _ _ _ _ _ _ _ _ _ (H1.out.below HBA.out) (H2.out.below HBA.out) (by have := Hla.out; omega)).mono ?_
  rintro e wB ⟨rfl, hbB⟩
  have hBB := bt HBA.out hbB
  have HBB := Lib.hid hBB
  clear hBB
  clear hbB
  go_wp2_with fail
  refine (works_any _ (Hk.out.below HBB.out)).mono ?_
  rintro e wC ⟨rfl, hbC⟩
  go_wp2
  go_ret
  exact ⟨rfl, bt HBB.out hbC⟩

theorem texts_any (a b : List Int) (va vb : Value) (s : ByteArray) (w : World) (ha : Lies w a va) (hb : Lies w b vb) (ra : in16s a) (hk : Kinds w) :
    Calls Tryd.prog 7 #[va, vb, .string s] w fun e w' => e = .returned (.bool true) ∧ Below w.heap.size w w' := by
  by_cases h : 200 < a.length ∨ 200 < b.length ∨ 500 < s.size
  · exact texts_big a b va vb s w ha hb h hk
  · exact texts_small a b va vb s w ha hb ra (by omega) (by omega) (by omega) hk
end Go.Proofs.YtfaoakahmllpjaaDoor
