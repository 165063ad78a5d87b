/- Decode of Encode is the state; what is decoded has these bytes: the plain law. -/
import Derived.Test.YtoidbmgoofbcfaaDecode
namespace Go.Proofs.Ytoidbmgoofbcfaa
open Go.RowKit Go.Um
set_option linter.unusedSimpArgs false
set_option linter.unusedVariables false

theorem ext2_data (s : ByteArray) (a b : Nat) : (s.extract a b).data.toList = (s.data.toList.drop a).take (b - a) := by
  rw [ByteArray.data_extract]
  simp [Array.toList_extract, List.extract_eq_take_drop]
theorem got_list (t : ByteArray) (r : Rs) (n : Nat) (h : r.e = 0) (hn : r.k + n ≤ t.size) : (r.got t n).data.toList = (t.data.toList.drop r.k).take n := by
  rw [(Rs.fine t r n h hn).2, ext2_data]
  congr 1; omega
theorem next_ok {t : ByteArray} {r : Rs} {n : Nat} (h : (r.next t n).e = 0) : r.e = 0 ∧ r.k + n ≤ t.size ∧ r.next t n = ⟨r.k + n, 0⟩ := by
  by_cases he : r.e = 0
  · by_cases hn : t.size < r.k + n
    · rw [(Rs.torn t r n he hn).1] at h; cases h
    · exact ⟨he, by omega, (Rs.fine t r n he (by omega)).1⟩
  · rw [(Rs.bad t r n he).1] at h; exact absurd h he
def bts (l : List Int) : List UInt8 := l.map fun n => UInt8.ofNat n.toNat
theorem bts_app (a b : List Int) : bts (a ++ b) = bts a ++ bts b := by simp [bts]
theorem bts_len (a : List Int) : (bts a).length = a.length := by simp [bts]
theorem encL_more (s : KV) (k : Nat) : ∀ m, ∃ rest, encL s (k + m) = encL s k ++ rest
  | 0 => ⟨[], by simp⟩
  | m + 1 => by
    obtain ⟨r, hr⟩ := encL_more s k m
    refine ⟨r ++ (if s.has (k + m) then be (s.get (k + m)) 2 else []), ?_⟩
    rw [show k + (m + 1) = k + m + 1 from rfl, encL_succ, hr, List.append_assoc]
theorem encL_pre (s : KV) (k : Nat) (hk : k ≤ 8) : ∃ rest, encL s 8 = encL s k ++ rest := by
  obtain ⟨r, hr⟩ := encL_more s k (8 - k)
  rw [show k + (8 - k) = 8 from by omega] at hr
  exact ⟨r, hr⟩
theorem be2 (v : Int) (hv : 0 ≤ v ∧ v ≤ 65535) : (numL (bts (be v 2)) : Int) = v := by
  simp only [be, byteOf, bts, List.map_cons, List.map_nil, numL, List.foldl_cons, List.foldl_nil, UInt8.toNat_ofNat']
  omega
theorem be2_of (a b : UInt8) : bts (be ((numL [a, b] : Nat) : Int) 2) = [a, b] := by
  have ha := a.toNat_lt
  have hb := b.toNat_lt
  simp only [be, byteOf, bts, List.map_cons, List.map_nil, numL, List.foldl_cons, List.foldl_nil]
  have e1 : ((((0 * 256 + a.toNat) * 256 + b.toNat : Nat) : Int) / 2 ^ (8 * 1) % 256).toNat = a.toNat := by omega
  have e2 : ((((0 * 256 + a.toNat) * 256 + b.toNat : Nat) : Int) / 2 ^ (8 * 0) % 256).toNat = b.toNat := by omega
  rw [e1, e2, UInt8.ofNat_toNat, UInt8.ofNat_toNat]
theorem dec_enc_aux (s : KV) (hs : s.ok) : ∀ k, k ≤ 8 → (dcN (strOfNums (encL s 8)) k).2 = ⟨(encL s k).length, 0⟩ ∧ (dcN (strOfNums (encL s 8)) k).1.h = s.h ∧ ∀ j, j < 8 → (dcN (strOfNums (encL s 8)) k).1.get j = if j < k ∧ s.has j = true then s.get j else 0
  | 0, _ => by
    have hsz : (strOfNums (encL s 8)).size = (encL s 8).length := strOfNums_size _
    obtain ⟨rest, hr⟩ := encL_pre s 0 (by omega)
    have hl : (encL s 8).length = 1 + rest.length := by rw [hr]; simp [encL]; omega
    have hg := got_list (strOfNums (encL s 8)) ⟨0, 0⟩ 1 rfl (by show 0 + 1 ≤ _; omega)
    have hd : (strOfNums (encL s 8)).data.toList = bts (encL s 0) ++ bts rest := by
      rw [strOfNums_data]
      show bts (encL s 8) = _
      rw [hr, bts_app]
    rw [hd] at hg
    have hn : (numB ((⟨0, 0⟩ : Rs).got (strOfNums (encL s 8)) 1) : Int) = s.h := by
      unfold numB
      rw [hg]
      have h1 := hs.h
      simp [encL, numL, bts, UInt8.toNat_ofNat']
      omega
    have hnx : (⟨0, 0⟩ : Rs).next (strOfNums (encL s 8)) 1 = ⟨0 + 1, 0⟩ := (Rs.fine (strOfNums (encL s 8)) ⟨0, 0⟩ 1 rfl (by show 0 + 1 ≤ _; omega)).1
    refine ⟨hnx, hn, fun j hj => ?_⟩
    rcases j with _ | _ | _ | _ | _ | _ | _ | _ | j <;> first | (simp [dcN, KV.get]; done) | omega
  | k + 1, hk => by
    obtain ⟨h1, h2, h3⟩ := dec_enc_aux s hs k (by omega)
    have hh : (dcN (strOfNums (encL s 8)) k).1.has k = s.has k := has_congr h2 k
    unfold dcN
    rw [hh]
    by_cases hq : s.has k = true
    · rw [if_pos hq]
      have he := encL_succ s k
      rw [if_pos hq] at he
      obtain ⟨rest, hr⟩ := encL_pre s (k + 1) hk
      have hsz : (strOfNums (encL s 8)).size = (encL s 8).length := strOfNums_size _
      have hbl : (be (s.get k) 2).length = 2 := rfl
      have hl : (encL s 8).length = (encL s k).length + 2 + rest.length := by rw [hr, he]; simp only [List.length_append]; omega
      have hg := got_list (strOfNums (encL s 8)) (dcN (strOfNums (encL s 8)) k).2 2 (by rw [h1]) (by rw [h1, hsz, hl]; show (encL s k).length + 2 ≤ _; omega)
      have hnx := (Rs.fine (strOfNums (encL s 8)) (dcN (strOfNums (encL s 8)) k).2 2 (by rw [h1]) (by rw [h1, hsz, hl]; show (encL s k).length + 2 ≤ _; omega)).1
      have hv : (numB ((dcN (strOfNums (encL s 8)) k).2.got (strOfNums (encL s 8)) 2) : Int) = s.get k := by
        unfold numB
        rw [hg, strOfNums_data, h1]
        show ((numL (((bts (encL s 8)).drop (encL s k).length).take 2) : Nat) : Int) = _
        rw [hr, he, List.append_assoc, bts_app, List.drop_append_of_le_length (by rw [bts_len]; omega), List.drop_of_length_le (by rw [bts_len]; omega), List.nil_append, bts_app]
        rw [List.take_append_of_le_length (by rw [bts_len]; omega), List.take_of_length_le (by rw [bts_len]; omega)]
        exact be2 _ (hs.v k)
      refine ⟨?_, ?_, fun j hj => ?_⟩
      · show Rs.next _ _ 2 = _
        rw [hnx, h1, he]; simp only [List.length_append]; rw [hbl]
      · show (KV.put _ k _).h = _
        rw [KV.put_h]; exact h2
      · show (KV.put _ k _).get j = _
        rw [KV.get_put _ _ _ _ (by omega), hv, h3 j hj]
        by_cases e : j = k
        · subst e; simp [hq]
        · have : (j < k + 1) = (j < k) := by apply propext; omega
          simp only [this, if_neg e]
    · rw [if_neg hq]
      have he := encL_succ s k
      rw [if_neg hq, List.append_nil] at he
      refine ⟨by rw [he]; exact h1, h2, fun j hj => ?_⟩
      rw [h3 j hj]
      by_cases e : j = k
      · subst e; simp [hq]
      · have : (j < k + 1) = (j < k) := by apply propext; omega
        simp only [this]
theorem dec_enc (s : KV) (hs : s.ok) (hf : s.fine) : decS (strOfNums (encL s 8)) = s ∧ decE (strOfNums (encL s 8)) = 0 := by
  obtain ⟨h1, h2, h3⟩ := dec_enc_aux s hs 8 (by omega)
  have hc : (dcN (strOfNums (encL s 8)) 8).2.close (strOfNums (encL s 8)) = 0 := by
    rw [h1]; simp [Rs.close, strOfNums_size]
  unfold decS decE
  rw [if_pos hc, if_pos hc]
  refine ⟨KV.ext8 h2 fun k hk => ?_, rfl⟩
  rw [h3 k hk]
  by_cases h : s.has k = true
  · simp [h, hk]
  · simp [h, hf k hk (by simpa using h)]
theorem encL_congr {s t : KV} (h : s.h = t.h) : ∀ k, (∀ j, j < k → s.get j = t.get j) → encL s k = encL t k
  | 0, _ => by simp [encL, h]
  | k + 1, hv => by rw [encL_succ, encL_succ, encL_congr h k (fun j hj => hv j (by omega)), has_congr h k, hv k (by omega)]
theorem two_of {l : List UInt8} (h : l.length = 2) : ∃ a b, l = [a, b] := by
  match l, h with
  | [a, b], _ => exact ⟨a, b, rfl⟩
theorem enc_dec_aux (t : ByteArray) : ∀ k, k ≤ 8 → (dcN t k).2.e = 0 → bts (encL (dcN t k).1 k) = t.data.toList.take (dcN t k).2.k ∧ (dcN t k).2.k ≤ t.size ∧ ∀ j, j < 8 → (k ≤ j ∨ (dcN t k).1.has j = false) → (dcN t k).1.get j = 0
  | 0, _, h => by
    obtain ⟨_, h1, h2⟩ := next_ok (r := ⟨0, 0⟩) h
    have hg := got_list t ⟨0, 0⟩ 1 rfl h1
    have e2 : (dcN t 0).2 = ⟨0 + 1, 0⟩ := h2
    have hlen : (t.data.toList.take 1).length = 1 := by
      have : t.data.toList.length = t.size := by simp
      rw [List.length_take]; dsimp only at h1; omega
    obtain ⟨a, ha⟩ : ∃ a, t.data.toList.take 1 = [a] := by
      match hx : t.data.toList.take 1, hlen with
      | [a], _ => exact ⟨a, rfl⟩
    refine ⟨?_, by rw [e2]; exact h1, fun j hj _ => ?_⟩
    · rw [e2]
      show bts [((numB ((⟨0, 0⟩ : Rs).got t 1) : Nat) : Int)] = t.data.toList.take 1
      unfold numB
      rw [hg]
      show bts [((numL ((t.data.toList.drop 0).take 1) : Nat) : Int)] = _
      rw [List.drop_zero, ha]
      simp [bts, numL]
    · rcases j with _ | _ | _ | _ | _ | _ | _ | _ | j <;> first | (simp [dcN, KV.get]; done) | omega
  | k + 1, hk, h => by
    unfold dcN at h ⊢
    by_cases hq : (dcN t k).1.has k = true
    · rw [if_pos hq] at h ⊢
      obtain ⟨h0, h1, h2⟩ := next_ok h
      obtain ⟨a1, a2, a3⟩ := enc_dec_aux t k (by omega) h0
      have hg := got_list t (dcN t k).2 2 h0 h1
      dsimp only at h2 ⊢
      obtain ⟨x, y, hxy⟩ := two_of (l := (t.data.toList.drop (dcN t k).2.k).take 2) (by
        have : t.data.toList.length = t.size := by simp
        rw [List.length_take, List.length_drop]; omega)
      have hv : numB ((dcN t k).2.got t 2) = numL [x, y] := by unfold numB; rw [hg, hxy]
      obtain ⟨S, hS⟩ : ∃ S, S = (dcN t k).1 := ⟨_, rfl⟩
      obtain ⟨R, hR⟩ : ∃ R, R = (dcN t k).2 := ⟨_, rfl⟩
      rw [← hS] at a1 a3 hq ⊢
      rw [← hR] at h0 h1 h2 a1 a2 hg hxy hv ⊢
      rw [hv, h2]
      refine ⟨?_, h1, fun j hj hjk => ?_⟩
      · rw [encL_succ, show (S.put k ((numL [x, y] : Nat) : Int)).has k = true from (has_congr (KV.put_h S k _) k).trans hq, if_pos rfl, KV.get_put _ _ _ _ (by omega), if_pos rfl]
        rw [encL_congr (t := S) (KV.put_h S k _) k (fun j hj => by rw [KV.get_put _ _ _ _ (by omega), if_neg (by omega)]), bts_app, a1, be2_of]
        show _ = t.data.toList.take (R.k + 2)
        rw [List.take_add, hxy]
      · rw [has_congr (KV.put_h S k _) j] at hjk
        rw [KV.get_put _ _ _ _ (by omega)]
        have hne : j ≠ k := by
          intro e; subst e
          rcases hjk with h | h
          · omega
          · rw [hq] at h; cases h
        rw [if_neg hne]
        exact a3 j hj (hjk.imp (by omega) id)
    · rw [if_neg hq] at h ⊢
      obtain ⟨a1, a2, a3⟩ := enc_dec_aux t k (by omega) h
      refine ⟨by rw [encL_succ, if_neg hq, List.append_nil]; exact a1, a2, fun j hj hjk => ?_⟩
      by_cases e : j = k
      · subst e; exact a3 j hj (.inr (by simpa using hq))
      · exact a3 j hj (hjk.imp (by omega) id)
theorem close_zero {t : ByteArray} {r : Rs} (h : r.close t = 0) : r.e = 0 ∧ t.size = r.k := by
  unfold Rs.close at h
  by_cases he : r.e = 0
  · rw [if_pos he] at h
    by_cases hk : t.size = r.k
    · exact ⟨he, hk⟩
    · rw [if_neg hk] at h; cases h
  · rw [if_neg he] at h; exact absurd h he
theorem enc_dec (t : ByteArray) (h : decE t = 0) : (strOfNums (encL (decS t) 8)) = t ∧ (decS t).fine := by
  have hc : (dcN t 8).2.close t = 0 := by
    unfold decE at h
    by_cases hc : (dcN t 8).2.close t = 0
    · exact hc
    · rw [if_neg hc] at h; cases h
  obtain ⟨h1, h2⟩ := close_zero hc
  obtain ⟨a1, a2, a3⟩ := enc_dec_aux t 8 (by omega) h1
  have hd : decS t = (dcN t 8).1 := by unfold decS; rw [if_pos hc]
  rw [hd]
  refine ⟨?_, fun j hj hn => a3 j hj (.inr hn)⟩
  have e : (strOfNums (encL (dcN t 8).1 8)).data.toList = t.data.toList := by
    rw [strOfNums_data]
    show bts _ = _
    rw [a1, List.take_of_length_le (by have : t.data.toList.length = t.size := (by simp); omega)]
  obtain ⟨⟨x⟩⟩ := t
  generalize strOfNums (encL (dcN ⟨⟨x⟩⟩ 8).1 8) = z at e ⊢
  obtain ⟨⟨y⟩⟩ := z
  simp only at e
  rw [e]
theorem enc_inj (a b : KV) (ha : a.ok) (hb : b.ok) (fa : a.fine) (fb : b.fine) : ((strOfNums (encL a 8)).toList == (strOfNums (encL b 8)).toList) = decide (a = b) := by
  by_cases h : a = b
  · subst h; simp
  · have hne : ¬ (strOfNums (encL a 8)).toList = (strOfNums (encL b 8)).toList := fun e => h (by
      have e2 : strOfNums (encL a 8) = strOfNums (encL b 8) := by
        rw [ByteArray.toList_eq, ByteArray.toList_eq] at e
        generalize strOfNums (encL a 8) = x at e ⊢
        generalize strOfNums (encL b 8) = y at e ⊢
        obtain ⟨⟨x⟩⟩ := x
        obtain ⟨⟨y⟩⟩ := y
        simp only at e
        rw [e]
      rw [← (dec_enc a ha fa).1, ← (dec_enc b hb fb).1, e2])
    simp [h, hne]
end Go.Proofs.Ytoidbmgoofbcfaa
