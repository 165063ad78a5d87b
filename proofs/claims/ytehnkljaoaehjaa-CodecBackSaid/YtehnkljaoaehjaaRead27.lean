/- Something that is read back (read, f27). Printed by gen_read27.py. -/
import Derived.Test.YtehnkljaoaehjaaBackp
import Derived.Test.YtehnkljaoaehjaaTk
namespace Go.Proofs.Ytehnkljaoaehjaa
open Go.RowKit Go.Um
set_option linter.unusedSimpArgs false
set_option linter.unusedVariables false
set_option maxHeartbeats 4000000
set_option maxRecDepth 100000
theorem cell_past {a b : World} (h : Below a.heap.size a b) {p : Addr} {v : Value} (hc : a.cell? p = some v) : b.cell? p = some v := by
  rw [h.cell (World.block_lt_of_cell? a p hc)]; exact hc
theorem keep_alloc {w : World} {a : Addr} {v : Value} (h : w.cell? a = some v) (o : Obj) : (w.alloc o).cell? a = some v := cell_past (ba (bz w) o) h
theorem keep_drew {w : World} {a : Addr} {v : Value} (h : w.cell? a = some v) : w.drew.cell? a = some v := h
theorem keep_drewN {w : World} {a : Addr} {v : Value} {n : Nat} (h : w.cell? a = some v) : (w.drewN n).cell? a = some v := h
theorem slat_kept {S : Nat → Prop} {w w' : World} {size n cap b o : Nat} {cs : List Value} {ao : Option Addr} (h : SlAt w size n cs ao cap b o) (hk : Kept S w w') (hS : 0 < cs.length → ¬ S b) : SlAt w' size n cs ao cap b o :=
  ⟨h.len, h.le, h.max, h.addr, fun hp => Nat.lt_of_lt_of_le (h.lt hp) hk.size, fun j u hu => by
    have hp : 0 < cs.length := by have := (List.getElem?_eq_some_iff.1 hu).1; omega
    exact hk.cell (h.cell j u hu) (hS hp)⟩
/-- what a reading call leaves -/
def ReadPost (p : Nat) (s : ByteArray) (R : Rs) (B : Bool) (w : World) (e : Ending) (w' : World) : Prop :=
  e = .returned (.bool B) ∧ RdAt w' p s R ∧ Kept (fun i => i = p) w w'

theorem read_0 (p : Nat) (s : ByteArray) (r : Rs) (kind n : Int) (st : ByteArray) (ao : Option Addr) (len cap : Nat) (w : World) (h : RdAt w p s r) (hs : s.size ≤ 1000000) (hn : 0 ≤ n ∧ n ≤ 4294967295) (hK : Int.tmod kind 5 = 0) :
    Calls Try.prog 27 #[.pointer (some ⟨p, 0, none⟩), .agg #[.int .u8 kind, .int .u32 n, .string st, .slice ao len cap]] w (ReadPost p s (r.next s 1) (((numB (r.got s 1) : Nat) : Int) == n % 256) w) := by
  have HP := Lib.hid (h.below (ba (bz w) (.cells #[.int .u8 kind, .int .u32 n, .string st, .slice ao len cap] 37)))
  have hpl := h.lt
  have hlt := Rs.num_lt s r 1
  have HC := Lib.hid (fun W hW => ru8_any p s r W hW hs)
  unfold TakePost at HC
  obtain ⟨X, hX⟩ : ∃ X, X = numB (r.got s 1) := ⟨_, rfl⟩
  obtain ⟨R, hR⟩ : ∃ R, R = r.next s 1 := ⟨_, rfl⟩
  rw [← hX] at HC hlt ⊢
  rw [← hR] at HC ⊢
  clear hX h hR
  go_enter Try.func27, Try.ntmps27
  go_wp2_with fail
  have x0 : (w.alloc (.cells #[.int .u8 kind, .int .u32 n, .string st, .slice ao len cap] 37)).cell? ⟨w.heap.size, 1, none⟩ = some (.int .u32 n) := by simp [go_sem]
  go_region_held3 (fun w' => w'.cell? ⟨w.heap.size, 1, none⟩ = some (.int .u32 n)) (first | (with_reducible assumption) | (with_reducible exact keep_drew (by assumption)) | exact x0) ((go_at_call 24; refine (HC.out _ (HP.out.below (by repeat (first | (with_reducible exact bz _) | (with_reducible apply Below.drew))))).mono ?_; rintro e w1 ⟨rfl, hr1, hk1⟩; have x1 := hk1.cell (v := .int .u32 n) (show World.cell? _ ⟨w.heap.size, 1, none⟩ = _ by simp) (fun e => by omega); have HR1 := Lib.hid hr1; have HK1 := Lib.hid hk1; clear hr1 hk1))
  all_goals go_wp2
  all_goals go_ret
  all_goals exact ⟨rfl, HR1.out.below (by repeat (first | (with_reducible exact bz _) | (with_reducible apply Below.drew) | (with_reducible apply below_drewN))), Kept.trans (((Kept.refl _ w).alloc (.cells #[.int .u8 kind, .int .u32 n, .string st, .slice ao len cap] 37)).drew) (HK1.out) (fun _ _ e => e)⟩
theorem read_1 (p : Nat) (s : ByteArray) (r : Rs) (kind n : Int) (st : ByteArray) (ao : Option Addr) (len cap : Nat) (w : World) (h : RdAt w p s r) (hs : s.size ≤ 1000000) (hn : 0 ≤ n ∧ n ≤ 4294967295) (hK : Int.tmod kind 5 = 1) :
    Calls Try.prog 27 #[.pointer (some ⟨p, 0, none⟩), .agg #[.int .u8 kind, .int .u32 n, .string st, .slice ao len cap]] w (ReadPost p s (r.next s 2) (((numB (r.got s 2) : Nat) : Int) == n % 65536) w) := by
  have HP := Lib.hid (h.below (ba (bz w) (.cells #[.int .u8 kind, .int .u32 n, .string st, .slice ao len cap] 37)))
  have hpl := h.lt
  have hlt := Rs.num_lt s r 2
  have HC := Lib.hid (fun W hW => ru16_any p s r W hW hs)
  unfold TakePost at HC
  obtain ⟨X, hX⟩ : ∃ X, X = numB (r.got s 2) := ⟨_, rfl⟩
  obtain ⟨R, hR⟩ : ∃ R, R = r.next s 2 := ⟨_, rfl⟩
  rw [← hX] at HC hlt ⊢
  rw [← hR] at HC ⊢
  clear hX h hR
  go_enter Try.func27, Try.ntmps27
  go_wp2_with fail
  have x0 : (w.alloc (.cells #[.int .u8 kind, .int .u32 n, .string st, .slice ao len cap] 37)).cell? ⟨w.heap.size, 1, none⟩ = some (.int .u32 n) := by simp [go_sem]
  go_region_held3 (fun w' => w'.cell? ⟨w.heap.size, 1, none⟩ = some (.int .u32 n)) (first | (with_reducible assumption) | (with_reducible exact keep_drew (by assumption)) | exact x0) ((go_at_call 23; refine (HC.out _ (HP.out.below (by repeat (first | (with_reducible exact bz _) | (with_reducible apply Below.drew))))).mono ?_; rintro e w1 ⟨rfl, hr1, hk1⟩; have x1 := hk1.cell (v := .int .u32 n) (show World.cell? _ ⟨w.heap.size, 1, none⟩ = _ by simp) (fun e => by omega); have HR1 := Lib.hid hr1; have HK1 := Lib.hid hk1; clear hr1 hk1))
  all_goals go_wp2
  all_goals go_ret
  all_goals exact ⟨rfl, HR1.out.below (by repeat (first | (with_reducible exact bz _) | (with_reducible apply Below.drew) | (with_reducible apply below_drewN))), Kept.trans (((Kept.refl _ w).alloc (.cells #[.int .u8 kind, .int .u32 n, .string st, .slice ao len cap] 37)).drew) (HK1.out) (fun _ _ e => e)⟩
theorem read_2 (p : Nat) (s : ByteArray) (r : Rs) (kind n : Int) (st : ByteArray) (ao : Option Addr) (len cap : Nat) (w : World) (h : RdAt w p s r) (hs : s.size ≤ 1000000) (hn : 0 ≤ n ∧ n ≤ 4294967295) (hK : Int.tmod kind 5 = 2) :
    Calls Try.prog 27 #[.pointer (some ⟨p, 0, none⟩), .agg #[.int .u8 kind, .int .u32 n, .string st, .slice ao len cap]] w (ReadPost p s (r.next s 4) (((numB (r.got s 4) : Nat) : Int) == n) w) := by
  have HP := Lib.hid (h.below (ba (bz w) (.cells #[.int .u8 kind, .int .u32 n, .string st, .slice ao len cap] 37)))
  have hpl := h.lt
  have hlt := Rs.num_lt s r 4
  have HC := Lib.hid (fun W hW => ru32_any p s r W hW hs)
  unfold TakePost at HC
  obtain ⟨X, hX⟩ : ∃ X, X = numB (r.got s 4) := ⟨_, rfl⟩
  obtain ⟨R, hR⟩ : ∃ R, R = r.next s 4 := ⟨_, rfl⟩
  rw [← hX] at HC hlt ⊢
  rw [← hR] at HC ⊢
  clear hX h hR
  go_enter Try.func27, Try.ntmps27
  go_wp2_with fail
  have x0 : (w.alloc (.cells #[.int .u8 kind, .int .u32 n, .string st, .slice ao len cap] 37)).cell? ⟨w.heap.size, 1, none⟩ = some (.int .u32 n) := by simp [go_sem]
  go_region_held3 (fun w' => w'.cell? ⟨w.heap.size, 1, none⟩ = some (.int .u32 n)) (first | (with_reducible assumption) | (with_reducible exact keep_drew (by assumption)) | exact x0) ((go_at_call 32; refine (HC.out _ (HP.out.below (by repeat (first | (with_reducible exact bz _) | (with_reducible apply Below.drew))))).mono ?_; rintro e w1 ⟨rfl, hr1, hk1⟩; have x1 := hk1.cell (v := .int .u32 n) (show World.cell? _ ⟨w.heap.size, 1, none⟩ = _ by simp) (fun e => by omega); have HR1 := Lib.hid hr1; have HK1 := Lib.hid hk1; clear hr1 hk1))
  all_goals go_wp2
  all_goals go_ret
  all_goals exact ⟨rfl, HR1.out.below (by repeat (first | (with_reducible exact bz _) | (with_reducible apply Below.drew) | (with_reducible apply below_drewN))), Kept.trans (((Kept.refl _ w).alloc (.cells #[.int .u8 kind, .int .u32 n, .string st, .slice ao len cap] 37)).drew) (HK1.out) (fun _ _ e => e)⟩
theorem read_3 (p : Nat) (s : ByteArray) (r : Rs) (kind n : Int) (st : ByteArray) (ao : Option Addr) (len cap : Nat) (w : World) (h : RdAt w p s r) (hs : s.size ≤ 1000000) (hst : st.size ≤ 100000) (hK : Int.tmod kind 5 = 3) :
    Calls Try.prog 27 #[.pointer (some ⟨p, 0, none⟩), .agg #[.int .u8 kind, .int .u32 n, .string st, .slice ao len cap]] w (ReadPost p s (r.next s st.size) ((r.got s st.size).toList == st.toList) w) := by
  have HP := Lib.hid (h.below (ba (bz w) (.cells #[.int .u8 kind, .int .u32 n, .string st, .slice ao len cap] 37)))
  have hpl := h.lt
  have HC := Lib.hid (fun W hW => raw_any p s r st.size W hW hs)
  unfold RawPost at HC
  obtain ⟨X, hX⟩ : ∃ X, X = r.got s st.size := ⟨_, rfl⟩
  obtain ⟨R, hR⟩ : ∃ R, R = r.next s st.size := ⟨_, rfl⟩
  rw [← hX] at HC ⊢
  rw [← hR] at HC ⊢
  clear hX h hR
  go_enter Try.func27, Try.ntmps27
  go_wp2_with fail
  have x0 : (w.alloc (.cells #[.int .u8 kind, .int .u32 n, .string st, .slice ao len cap] 37)).cell? ⟨w.heap.size, 2, none⟩ = some (.string st) := by simp [go_sem]
  go_region_held3 (fun w' => w'.cell? ⟨w.heap.size, 2, none⟩ = some (.string st)) (first | (with_reducible assumption) | (with_reducible exact keep_drew (by assumption)) | exact x0) ((go_at_call 26; refine (HC.out _ (HP.out.below (by repeat (first | (with_reducible exact bz _) | (with_reducible apply Below.drew))))).mono ?_; rintro e w1 ⟨rfl, hr1, hk1⟩; have x1 := hk1.cell (v := .string st) (show World.cell? _ ⟨w.heap.size, 2, none⟩ = _ by simp) (fun e => by omega); have HR1 := Lib.hid hr1; have HK1 := Lib.hid hk1; clear hr1 hk1))
  all_goals go_wp2
  all_goals go_ret
  all_goals exact ⟨rfl, HR1.out.below (by repeat (first | (with_reducible exact bz _) | (with_reducible apply Below.drew) | (with_reducible apply below_drewN))), Kept.trans (((Kept.refl _ w).alloc (.cells #[.int .u8 kind, .int .u32 n, .string st, .slice ao len cap] 37)).drew) (HK1.out) (fun _ _ e => e)⟩
theorem samel_short (ys : List Int) (n : Nat) (hn : n = ys.length) (hn0 : n ≠ 0) (ao ao' : Option Addr) (cap cap' : Nat) (w : World) :
    Calls Try.prog 34 #[.slice ao 0 cap, .slice ao' n cap'] w fun e w' => e = .returned (.bool false) ∧ Below w.heap.size w w' := by
  have t1 : ((0 : Int) != (n : Int)) = true := by simp; omega
  have t2 : ¬ ((n : Int) = 0) := by omega
  go_enter Try.func34, Try.ntmps34
  go_wp2
  go_ret
  exact ⟨rfl, bz w⟩
theorem samel_or (X l : List Int) (n m : Nat) (hn : n = X.length) (hm : m = l.length) (hv : X = l ∨ X = []) (ao ao' : Option Addr) (cap b o cap' b' o' : Nat) (w : World) (h : SlAt w 1 n (X.map (Value.int .u16)) ao cap b o) (h' : SlAt w 1 m (l.map (Value.int .u16)) ao' cap' b' o') (hlen : l.length ≤ 300) :
    Calls Try.prog 34 #[.slice ao n cap, .slice ao' m cap'] w fun e w' => e = .returned (.bool (decide (X = l))) ∧ Below w.heap.size w w' := by
  by_cases e : X = l
  · subst e
    obtain rfl : n = m := hn.trans hm.symm
    rw [decide_eq_true rfl]
    exact samel_any X n hn ao ao' cap b o cap' b' o' w h h' (by omega)
  · rw [decide_eq_false e]
    rcases hv with hv | hv
    · exact absurd hv e
    · subst hv
      obtain rfl : n = 0 := hn
      exact samel_short l m hm (fun h0 => e (by subst h0; exact (List.eq_nil_of_length_eq_zero hm.symm).symm)) ao ao' cap cap' w
theorem read_4 (p : Nat) (s : ByteArray) (r : Rs) (kind n : Int) (st : ByteArray) (l : List Int) (ao : Option Addr) (cap b o : Nat) (w : World) (h : RdAt w p s r) (hs : s.size ≤ 1000000) (hl : SlAt w 1 l.length (l.map (Value.int .u16)) ao cap b o) (hbp : 0 < l.length → b ≠ p) (hlen : l.length ≤ 300) (hv : listV s r = l ∨ listV s r = []) (hK : Int.tmod kind 5 = 4) :
    Calls Try.prog 27 #[.pointer (some ⟨p, 0, none⟩), .agg #[.int .u8 kind, .int .u32 n, .string st, .slice ao l.length cap]] w (ReadPost p s (listS s r) (decide (listV s r = l)) w) := by
  have HP := Lib.hid (h.below (ba (bz w) (.cells #[.int .u8 kind, .int .u32 n, .string st, .slice ao l.length cap] 37)))
  have HL := Lib.hid (hl.below (ba (bz w) (.cells #[.int .u8 kind, .int .u32 n, .string st, .slice ao l.length cap] 37)))
  have hpl := h.lt
  have HC := Lib.hid (fun W hW => list_any p s r W hW hs)
  unfold ListPost at HC
  obtain ⟨X, hX⟩ : ∃ X, X = listV s r := ⟨_, rfl⟩
  obtain ⟨R, hR⟩ : ∃ R, R = listS s r := ⟨_, rfl⟩
  rw [← hX] at HC hv ⊢
  rw [← hR] at HC ⊢
  obtain ⟨m, hm⟩ : ∃ m, m = l.length := ⟨_, rfl⟩
  have HM := Lib.hid hm
  have HV := Lib.hid hv
  rw [← hm] at HL HP ⊢ hlen hbp
  obtain ⟨Z, hZ⟩ : ∃ Z, Z = (decide (X = l)) := ⟨_, rfl⟩
  rw [← hZ]
  have HZ := Lib.hid hZ
  have hb0 : Hid (0 < m → b < w.heap.size) := Lib.hid (fun e => hl.lt (by simp; omega))
  clear hX h hR hm hv hl hZ
  go_enter Try.func27, Try.ntmps27
  go_wp2_with fail
  have x0 : (w.alloc (.cells #[.int .u8 kind, .int .u32 n, .string st, .slice ao m cap] 37)).cell? ⟨w.heap.size, 3, none⟩ = some (.slice ao m cap) := by simp [go_sem]
  have hbB : 0 < m → b < w.heap.size := fun e => hb0.out e
  have HS : Hid (∀ W n ao' cap' b' o', n = X.length → SlAt W 1 n (X.map (Value.int .u16)) ao' cap' b' o' → SlAt W 1 m (l.map (Value.int .u16)) ao cap b o → Calls Try.prog 34 #[.slice ao' n cap', .slice ao m cap] W (fun e w' => e = .returned (.bool Z) ∧ Below W.heap.size W w')) := Lib.hid (fun W n ao' cap' b' o' hn h1 h2 => by rw [HZ.out]; exact samel_or X l n m hn HM.out HV.out ao' ao cap' b' o' cap b o W h1 h2 (by have := HM.out; omega))
  go_region_held3 (fun w' => w'.cell? ⟨w.heap.size, 3, none⟩ = some (.slice ao m cap)) (first | (with_reducible assumption) | (with_reducible exact keep_drew (by assumption)) | exact x0) ((first | (go_at_call 25; refine (HC.out _ (HP.out.below (by repeat (first | (with_reducible exact bz _) | (with_reducible apply Below.drew))))).mono ?_; rintro e w1 ⟨ao', cap', b', o', rfl, hs1, hr1, hk1, hb1⟩; have x1 := hk1.cell (v := .slice ao m cap) (show World.cell? _ ⟨w.heap.size, 3, none⟩ = _ by simp) (fun e => by omega); have HR1 := Lib.hid hr1; have HK1 := Lib.hid hk1; have HS1 := Lib.hid hs1; obtain ⟨N, hN⟩ : ∃ N, N = X.length := ⟨_, rfl⟩; rw [← hN] at HS1 ⊢; have HN := Lib.hid hN; clear hr1 hk1 hs1 hb1 hN) | (go_at_call 34; refine (HS.out _ N ao' cap' b' o' HN.out (HS1.out.below (by repeat (first | (with_reducible exact bz _) | (with_reducible apply Below.drew)))) ((slat_kept (S := fun i => i = p) (HL.out.below (bz _).drew) HK1.out (fun e => hbp (by have := HM.out; rw [List.length_map] at e; omega))).below (by repeat (first | (with_reducible exact bz _) | (with_reducible apply Below.drew))))).mono ?_; rintro e w2 ⟨rfl, hb2⟩; have x2 := cell_past hb2 (v := .slice ao m cap) (p := ⟨w.heap.size, 3, none⟩) (by with_reducible assumption); have HB2 := Lib.hid (bt (show Below w1.heap.size w1 _ by repeat (first | (with_reducible exact bz _) | (with_reducible apply Below.drew))) hb2); clear hb2)))
  all_goals go_wp2
  all_goals go_ret
  all_goals exact ⟨rfl, HR1.out.below (by repeat (first | (with_reducible exact HB2.out) | (with_reducible apply Below.drew) | (with_reducible apply below_drewN))), Kept.trans (((Kept.refl _ w).alloc (.cells #[.int .u8 kind, .int .u32 n, .string st, .slice ao m cap] 37)).drew) (HK1.out.trans (Kept.of_below HB2.out) (fun i hi e => absurd hi (by have := HK1.out.size; simp at this e ⊢; omega))) (fun _ _ e => e)⟩
end Go.Proofs.Ytehnkljaoaehjaa
