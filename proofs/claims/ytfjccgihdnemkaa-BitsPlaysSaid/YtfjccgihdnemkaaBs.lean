/- bits.Set: may, Has, room, With: contracts. Printed from Bs.tmpl. -/
import Derived.Test.YtfjccgihdnemkaaProg
import Derived.Test.YtfjccgihdnemkaaOpenl
import Derived.Test.YtfjccgihdnemkaaBitn
import Derived.StillTailTactics
import Derived.Laws.CopyOwn
import Derived.BigQuiet
import Derived.KernelRfl
namespace Go.Proofs.Ytfjccgihdnemkaa
open Go.RowKit Go.Um
set_option linter.unusedSimpArgs false
set_option linter.unusedVariables false
set_option maxHeartbeats 2000000
set_option maxRecDepth 100000

def u64s (l : List Nat) : List Value := l.map fun (x : Nat) => Value.int .u64 (x : Int)
theorem u64s_len (l : List Nat) : (u64s l).length = l.length := by simp [u64s]
theorem u64s_at {l : List Nat} {i x : Nat} (h : l[i]? = some x) : (u64s l)[i]? = some (.int .u64 (x : Int)) := by simp [u64s, h]
/-- a set, as a value -/
def SetAt (w : World) (v : Value) (N : Nat) : Prop :=
  ∃ m ao cap b o, v = .agg #[.slice ao m cap] ∧ SlAt w 1 m (u64s (words N m)) ao cap b o ∧ Needs 64 m N ∧ m ≤ 1024
theorem SetAt.below {w w' : World} {v : Value} {N : Nat} (h : SetAt w v N) (hb : Below w.heap.size w w') : SetAt w' v N := by
  obtain ⟨m, ao, cap, b, o, hv, hs, hn, hm⟩ := h
  exact ⟨m, ao, cap, b, o, hv, hs.below hb, hn, hm⟩
theorem SetAt.zero (w : World) : SetAt w (.agg #[.slice none 0 0]) 0 :=
  ⟨0, none, 0, 0, 0, rfl, ⟨rfl, Nat.le_refl _, Nat.zero_le _, fun h => absurd h (by decide), fun h => absurd h (by decide), fun j u hu => by simp [u64s, words] at hu⟩, Needs.zero 64, by decide⟩
theorem info61 : (Try.prog.info? 61).map (fun i => (i.zero, i.size, i.bytes)) = some (some (.int .u64 0), 1, 8) := by kernel_rfl
theorem size61 : (Try.prog.info? 61).map (·.size) = some 1 := by kernel_rfl
theorem run_shr64 (x k : Nat) (hk : k < 64) (w : World) : (binOp .shr 61 (.int .u64 x) (.int .i64 k)).run Try.prog w = .ok (.int .u64 ((x / 2 ^ k : Nat) : Int)) w := by
  have h1 : ¬ ((k : Int) < 0) := by omega
  have h2 : min k 64 = k := by omega
  simp [go_sem, binOp, Op.shift, h1, h2, IntKind.bits]
theorem run_shl64 (k : Nat) (hk : k < 64) (w : World) : (binOp .shl 61 (.int .u64 1) (.int .i64 k)).run Try.prog w = .ok (.int .u64 ((2 ^ k : Nat) : Int)) w := by
  have h1 : ¬ ((k : Int) < 0) := by omega
  have h2 : min k 64 = k := by omega
  have h3 : (2 : Nat) ^ k < 2 ^ 64 := Nat.pow_lt_pow_right (by decide) hk
  have h4 : IntKind.u64.wrap (2 ^ k) = ((2 ^ k : Nat) : Int) := by
    rw [show ((2 : Int) ^ k) = ((2 ^ k : Nat) : Int) by simp]
    generalize 2 ^ k = X at *
    exact wrapu64_in (by omega)
  simp [go_sem, binOp, Op.shift, h1, h2, IntKind.bits]
  simpa using h4
theorem run_and64 (x y : Nat) (hx : x < 2 ^ 64) (hy : y < 2 ^ 64) (w : World) : (binOp .and 61 (.int .u64 x) (.int .u64 y)).run Try.prog w = .ok (.int .u64 ((x &&& y : Nat) : Int)) w := by
  have := bits_and64 x y hx hy
  simp [go_sem, binOp, this]
theorem run_or64 (x y : Nat) (hx : x < 2 ^ 64) (hy : y < 2 ^ 64) (w : World) : (binOp .or 61 (.int .u64 x) (.int .u64 y)).run Try.prog w = .ok (.int .u64 ((x ||| y : Nat) : Int)) w := by
  have := bits_or64 x y hx hy
  simp [go_sem, binOp, this]
/-- may a set have it? -/
def mayB (n : Int) : Bool := decide (0 ≤ n ∧ n ≤ 65535)
theorem may_any (n : Int) (w : World) : Calls Try.prog 32 #[.int .i64 n] w fun e w' => e = .returned (.bool (mayB n)) ∧ w = w' := by
  by_cases h : 0 ≤ n ∧ n ≤ 65535
  · have hm : mayB n = true := decide_eq_true h
    obtain ⟨h1, h2⟩ := h
    rw [hm]
    clear hm
    go_enter Try.func32, Try.ntmps32
    go_wp2
    go_ret
    exact ⟨rfl, rfl⟩
  · have hm : mayB n = false := decide_eq_false h
    rw [hm]
    clear hm
    by_cases h0 : 0 ≤ n
    · have h1 : ¬ n ≤ 65535 := fun e => h ⟨h0, e⟩
      have t1 : decide (n ≤ 65535) = false := by simpa using h1
      clear h
      go_enter Try.func32, Try.ntmps32
      go_wp2
      go_ret
      exact ⟨rfl, rfl⟩
    · have t1 : decide (0 ≤ n) = false := by simpa using h0
      clear h
      go_enter Try.func32, Try.ntmps32
      go_wp2
      go_ret
      exact ⟨rfl, rfl⟩
/-- has a set a number? -/
def hasB (N : Nat) (n : Int) : Bool := mayB n && N.testBit n.toNat
theorem has_out (v : Value) (N : Nat) (n : Int) (w : World) (h : SetAt w v N) (hm : mayB n = false) :
    Calls Try.prog 13 #[v, .int .i64 n] w fun e w' => e = .returned (.bool false) ∧ Below w.heap.size w w' := by
  have HM := Lib.hid (fun W => may_any n W)
  rw [hm] at HM
  obtain ⟨m, ao, cap, b, o, rfl, hs, hn, hm'⟩ := h
  clear hm hs
  go_enter Try.func13, Try.ntmps13
  go_wp2_with fail
  refine (HM.out _).mono ?_
  rintro e w1 ⟨rfl, rfl⟩
  go_wp2
  go_ret
  exact ⟨rfl, ba (bz w) _⟩
theorem has_in (v : Value) (N n : Nat) (w : World) (h : SetAt w v N) (hn : n ≤ 65535) :
    Calls Try.prog 13 #[v, .int .i64 n] w fun e w' => e = .returned (.bool (N.testBit n)) ∧ Below w.heap.size w w' := by
  have hmay : mayB (n : Int) = true := decide_eq_true (by omega)
  have HM := Lib.hid (fun W => may_any (n : Int) W)
  rw [hmay] at HM
  obtain ⟨m, ao, cap, b, o, rfl, hs, hneed, hm'⟩ := h
  have hidx := hs.idx (P := Try.prog) (t := 25) Try.underlying25 size61 (by decide)
  have hwb := word_bit N n
  obtain ⟨q, hq⟩ : ∃ q, q = n / 64 := ⟨_, rfl⟩
  obtain ⟨r, hr⟩ : ∃ r, r = n % 64 := ⟨_, rfl⟩
  rw [← hq, ← hr] at hwb
  have hr64 : r < 64 := by omega
  have hq1 : (n : Int) / 64 = (q : Int) := by omega
  have hr1 : (n : Int) % 64 = (r : Int) := by omega
  have hq0 : (0 : Int) ≤ (q : Int) := by omega
  have hn0 : (0 : Int) ≤ (n : Int) := by omega
  by_cases hlt : q < m
  · have hlt2 : (q : Int) < (m : Int) := by omega
    have g0 := (hs.below (ba (bz w) (.cells #[.slice ao m cap] 27))).cell q _ (u64s_at (words_at N m q hlt))
    have hval : bits BinOp.and IntKind.u64 ((wordN N q : Int) / 2 ^ r) 1 = if N.testBit n then 1 else 0 := by
      have e1 : ((wordN N q : Int) / 2 ^ r) = ((wordN N q / 2 ^ r : Nat) : Int) := by simp
      have e2 := bits_and64 (wordN N q / 2 ^ r) 1 (Nat.lt_of_le_of_lt (Nat.div_le_self _ _) (wordN_lt _ _)) (by decide)
      rw [and_one, hwb] at e2
      rw [e1]
      have e3 : ((1 : Nat) : Int) = 1 := rfl
      rw [e3] at e2
      rw [e2]
      cases N.testBit n <;> rfl
    obtain ⟨Y, hY⟩ : ∃ Y, Y = wordN N q := ⟨_, rfl⟩
    rw [← hY] at hval g0
    cases hb : N.testBit n
    all_goals
      rw [hb] at hval
      simp only [if_true, if_false, Bool.false_eq_true] at hval
      clear hwb hY hb hq hr hmay hs hneed
      go_enter Try.func13, Try.ntmps13
      go_wp2_with fail
      refine (HM.out _).mono ?_
      rintro e w1 ⟨rfl, rfl⟩
      go_wp2
      go_ret
      exact ⟨rfl, ba (bz w) _⟩
  · have hlt2 : ¬ (q : Int) < (m : Int) := by omega
    have hb : N.testBit n = false := testBit_ge hneed.lt (by omega)
    rw [hb]
    clear hwb hb hq hr hmay hs hneed
    go_enter Try.func13, Try.ntmps13
    go_wp2_with fail
    refine (HM.out _).mono ?_
    rintro e w1 ⟨rfl, rfl⟩
    go_wp2
    go_ret
    exact ⟨rfl, ba (bz w) _⟩
theorem has_any (v : Value) (N : Nat) (n : Int) (w : World) (h : SetAt w v N) :
    Calls Try.prog 13 #[v, .int .i64 n] w fun e w' => e = .returned (.bool (hasB N n)) ∧ Below w.heap.size w w' := by
  unfold hasB
  cases hm : mayB n
  · exact has_out v N n w h hm
  · have := of_decide_eq_true hm
    obtain ⟨k, rfl⟩ := Int.eq_ofNat_of_zero_le this.1
    rw [Bool.true_and, Int.toNat_natCast]
    exact has_in v N k w h (by omega)

/-- a row of words that the call owns -/
def RowW (w : World) (base : Nat) (g : Nat) (l : List Nat) : Prop := w.ownsRow base 61 1 (.slice (some ⟨g, 0, none⟩) l.length l.length) l.length (u64s l)
theorem words_room (N m M : Nat) (h : N < 2 ^ (64 * m)) (hM : m ≤ M) : words N M = words N m ++ List.replicate (M - m) 0 := by
  apply List.ext_getElem?
  intro i
  by_cases h1 : i < m
  · rw [words_at _ _ _ (by omega), List.getElem?_append_left (by rw [words_len]; exact h1), words_at _ _ _ h1]
  · by_cases h2 : i < M
    · rw [words_at _ _ _ h2, List.getElem?_append_right (by rw [words_len]; omega), word_none h (by omega)]
      simp [words_len, List.getElem?_replicate]
      omega
    · rw [List.getElem?_eq_none (by rw [words_len]; omega), List.getElem?_eq_none (by simp [words_len]; omega)]
theorem made_one (v : Value) (hv : v.cells = #[v]) (n : Nat) : (madeCells v.cells (n * 1)).toList = List.replicate n v := by
  rw [hv]
  apply List.ext_getElem
  · simp [madeCells]
  · intro i h1 h2
    simp [madeCells, Nat.mod_one]
def RoomPost (N M : Nat) (w : World) (e : Ending) (w' : World) : Prop :=
  ∃ g, e = .returned (.slice (some ⟨g, 0, none⟩) M M) ∧ RowW w' w.heap.size g (words N M) ∧ Below w.heap.size w w' ∧ w.heap.size ≤ g
theorem room_any (m N : Nat) (ao : Option Addr) (cap b o : Nat) (k M : Nat) (w : World) (hs : SlAt w 1 m (u64s (words N m)) ao cap b o) (hlt : N < 2 ^ (64 * m)) (hM : M = max k m) (hM2 : M ≤ 1024) :
    Calls Try.prog 38 #[.agg #[.slice ao m cap], .int .i64 k] w (RoomPost N M w) := by
  obtain ⟨j0, hj, jz0, jz1, jz2⟩ := info_parts info61
  have HW := Lib.hid (words_room N m M hlt (by omega))
  have HS := Lib.hid hs
  have hsz : Hid (∀ (M : Nat), M ≤ 1024 → j0.bytes * M ≤ 281474976710656) := Lib.hid (fun M h => by rw [jz2]; omega)
  have key : ∀ (M : Nat), m ≤ M → M ≤ 1024 → ∀ w6 : World, w6.ownsRow (w.alloc (.cells #[.slice ao m cap] 27)).heap.size 61 1 (.slice (some ⟨(w.alloc (.cells #[.slice ao m cap] 27)).heap.size, 0, none⟩) M M) M (madeCells (Value.int .u64 0).cells (M * 1)).toList →
      ∃ cur : List Value, w6.heap[(w.alloc (.cells #[.slice ao m cap] 27)).heap.size]? = some (.cells cur.toArray 61 (0, 0)) ∧ cur = List.replicate M (.int .u64 0) := by
    intro M _ _ w6 h
    rcases h.2 with ⟨hv, _⟩ | ⟨g, c, cur, hv, _, hg, _, _, hsz, htk⟩
    · cases hv
    · simp only [Value.slice.injEq, Option.some.injEq, Addr.mk.injEq] at hv
      obtain ⟨⟨rfl, _⟩, _, rfl⟩ := hv
      refine ⟨cur.toList, by simpa using hg, ?_⟩
      rw [List.take_of_length_le (by simp [hsz])] at htk
      rw [htk]
      exact made_one _ rfl _
  have HKEY := Lib.hid key
  clear hs key
  by_cases hk : m ≤ k
  · obtain rfl : M = k := by omega
    clear hM
    have hk2 : (m : Int) ≤ (M : Int) := by omega
    go_enter Try.func38, Try.ntmps38
    go_wp2_with (first | (at_make; refine wpList_make_full _ rfl _ _ 25 rfl (w.alloc (.cells #[.slice ao m cap] 27)).heap.size 61 j0 (.int .u64 0) 1 Try.underlying25 hj jz0 jz1 .i64 .i64 M M M rfl rfl rfl rfl (hsz.out M hM2) (by unfold maxLen; omega) (Nat.le_refl _) ?_; intro w6 hown6 hgrow6; obtain ⟨cur, hg6, hcur⟩ := HKEY.out M hk hM2 w6 hown6; have HG6 := Lib.hid hg6; have HCUR := Lib.hid hcur; have HB6 : Hid (Below (w.alloc (.cells #[.slice ao m cap] 27)).heap.size (w.alloc (.cells #[.slice ao m cap] 27)) w6) := Lib.hid ⟨hgrow6.os, hgrow6.tape, hgrow6.output, hgrow6.size, fun k hk => hgrow6.block k hk (by simp)⟩; have x0 := kc HB6.out w.heap.size 0 (.slice ao m cap) (by simp [go_sem]); clear hown6 hgrow6 hg6 hcur) | (with_reducible refine wpList_copy_splice rfl (.tmp 12) (.tmp 14) 25 25 rfl 61 Try.underlying25 size61 (some ⟨w.heap.size + 1, 0, none⟩) ao M M m cap rfl rfl (w.heap.size + 1) 0 cur 61 (by have := HG6.out; rwa [World.size_alloc] at this) (u64s (words N m)) ?ca ?cb ?cc ?cd (w.heap.size + 1) (w.alloc (.cells #[.slice ao m cap] 27)) (by have := HB6.out; rwa [World.size_alloc] at this) (Nat.le_refl _) ?ce))
    case ca => rw [u64s_len, words_len]; exact (Nat.min_eq_left hk).symm
    case cb =>
      intro hp
      refine ⟨⟨b, o, none⟩, HS.out.addr hp, fun j v hj => ?_⟩
      have h1 := (HS.out.below (ba (bz w) (.cells #[.slice ao m cap] 27))).cell j v hj
      have h2 := kc HB6.out b (o + j) v h1
      rw [Addr.add_lit]; exact h2
    case cc => rw [u64s_len, words_len, HCUR.out]; simp; try exact hk
    case cd =>
      intro v hv
      obtain ⟨x, _, rfl⟩ := List.mem_map.1 hv
      rfl
    intro w7 hg7 hb7
    go_wp2
    go_ret
    refine ⟨w.heap.size + 1, rfl, ?_, (ba (bz w) (.cells #[.slice ao m cap] 27)).trans (hb7.mono (by omega)), by omega⟩
    unfold RowW
    rw [words_len]
    refine ⟨by rw [u64s_len, words_len]; omega, .inr ⟨w.heap.size + 1, M, _, rfl, by omega, hg7.out, Nat.le_refl _, by unfold maxLen; omega, ?_, ?_⟩⟩
    · rw [HCUR.out]; simp [splice, u64s_len, words_len]; try omega
    · rw [HCUR.out, HW.out, List.take_of_length_le (by simp [splice, u64s_len, words_len]; try omega)]; simp [splice, u64s, words_len]
  · obtain rfl : M = m := by omega
    clear hM
    have hk' : (k : Int) < (M : Int) := by omega
    have hk : M ≤ M := Nat.le_refl _
    go_enter Try.func38, Try.ntmps38
    go_wp2_with (first | (at_make; refine wpList_make_full _ rfl _ _ 25 rfl (w.alloc (.cells #[.slice ao M cap] 27)).heap.size 61 j0 (.int .u64 0) 1 Try.underlying25 hj jz0 jz1 .i64 .i64 M M M rfl rfl rfl rfl (hsz.out M hM2) (by unfold maxLen; omega) (Nat.le_refl _) ?_; intro w6 hown6 hgrow6; obtain ⟨cur, hg6, hcur⟩ := HKEY.out M hk hM2 w6 hown6; have HG6 := Lib.hid hg6; have HCUR := Lib.hid hcur; have HB6 : Hid (Below (w.alloc (.cells #[.slice ao M cap] 27)).heap.size (w.alloc (.cells #[.slice ao M cap] 27)) w6) := Lib.hid ⟨hgrow6.os, hgrow6.tape, hgrow6.output, hgrow6.size, fun k hk => hgrow6.block k hk (by simp)⟩; have x0 := kc HB6.out w.heap.size 0 (.slice ao M cap) (by simp [go_sem]); clear hown6 hgrow6 hg6 hcur) | (with_reducible refine wpList_copy_splice rfl (.tmp 12) (.tmp 14) 25 25 rfl 61 Try.underlying25 size61 (some ⟨w.heap.size + 1, 0, none⟩) ao M M M cap rfl rfl (w.heap.size + 1) 0 cur 61 (by have := HG6.out; rwa [World.size_alloc] at this) (u64s (words N M)) ?ka ?kb ?kc ?kd (w.heap.size + 1) (w.alloc (.cells #[.slice ao M cap] 27)) (by have := HB6.out; rwa [World.size_alloc] at this) (Nat.le_refl _) ?ke))
    case ka => rw [u64s_len, words_len]; exact (Nat.min_eq_left hk).symm
    case kb =>
      intro hp
      refine ⟨⟨b, o, none⟩, HS.out.addr hp, fun j v hj => ?_⟩
      have h1 := (HS.out.below (ba (bz w) (.cells #[.slice ao M cap] 27))).cell j v hj
      have h2 := kc HB6.out b (o + j) v h1
      rw [Addr.add_lit]; exact h2
    case kc => rw [u64s_len, words_len, HCUR.out]; simp; try exact hk
    case kd =>
      intro v hv
      obtain ⟨x, _, rfl⟩ := List.mem_map.1 hv
      rfl
    intro w7 hg7 hb7
    go_wp2
    go_ret
    refine ⟨w.heap.size + 1, rfl, ?_, (ba (bz w) (.cells #[.slice ao M cap] 27)).trans (hb7.mono (by omega)), by omega⟩
    unfold RowW
    rw [words_len]
    refine ⟨by rw [u64s_len, words_len]; omega, .inr ⟨w.heap.size + 1, M, _, rfl, by omega, hg7.out, Nat.le_refl _, by unfold maxLen; omega, ?_, ?_⟩⟩
    · rw [HCUR.out]; simp [splice, u64s_len, words_len]; try omega
    · rw [HCUR.out, HW.out, List.take_of_length_le (by simp [splice, u64s_len, words_len]; try omega)]; simp [splice, u64s, words_len]

/-- a set with one number more -/
def withN (N : Nat) (n : Int) : Nat := if mayB n then N ||| 2 ^ n.toNat else N
def SetPost (N : Nat) (w : World) (e : Ending) (w' : World) : Prop := ∃ v, e = .returned v ∧ SetAt w' v N ∧ Below w.heap.size w w'
theorem with_same (v : Value) (N : Nat) (n : Int) (w : World) (h : SetAt w v N) (hs : mayB n = false ∨ (mayB n = true ∧ hasB N n = true)) :
    Calls Try.prog 25 #[v, .int .i64 n] w (SetPost N w) := by
  have HM := Lib.hid (fun W => may_any n W)
  have HH := Lib.hid h
  obtain ⟨m, ao, cap, b, o, rfl, hsl, hn, hm'⟩ := h
  have HS : Hid (∀ W, SetAt W (.agg #[.slice ao m cap]) N → Calls Try.prog 13 #[.agg #[.slice ao m cap], .int .i64 n] W fun e w' => e = .returned (.bool (hasB N n)) ∧ Below W.heap.size W w') := Lib.hid (fun W hW => has_any _ N n W hW)
  rcases hs with hs | ⟨hs1, hs2⟩
  · rw [hs] at HM
    clear hs hsl hn
    go_enter Try.func25, Try.ntmps25
    go_wp2_with fail
    refine (HM.out _).mono ?_
    rintro e w1 ⟨rfl, rfl⟩
    go_wp2
    have hbb := (ba (ba (bz w) (.cells #[.slice ao m cap] 27)) (.cells #[.slice ao m cap] 27))
    exact bodyPost_ret (v := .agg #[.slice ao m cap]) (by simp [results, Try.results25, go_sem]) rfl ⟨_, rfl, HH.out.below hbb, hbb⟩
  · rw [hs1] at HM
    rw [hs2] at HS
    clear hs1 hs2 hsl hn
    go_enter Try.func25, Try.ntmps25
    go_wp2_with fail
    refine (HM.out _).mono ?_
    rintro e w1 ⟨rfl, rfl⟩
    go_wp2_with fail
    have hb0 := (ba (bz w) (.cells #[.slice ao m cap] 27)).alloc (by simp) (.cells #[.slice none 0 0] 27)
    refine (HS.out _ (HH.out.below hb0)).mono ?_
    rintro e w2 ⟨rfl, hb2⟩
    have x0 := kc hb2 w.heap.size 0 (.slice ao m cap) (by simp [go_sem])
    have x1 := kc hb2 (w.heap.size + 1) 0 (.slice none 0 0) (by simp [go_sem])
    have f1 := kf hb2 (w.heap.size + 1) 0 (by simp) (by simp [go_sem])
    have HB2 : Hid (Below w.heap.size w w2) := Lib.hid (hb0.trans (hb2.mono (by simp; omega)))
    clear hb2 hb0
    go_wp2
    have hbb := bs HB2.out (p := ⟨w.heap.size + 1, 0, none⟩) (by simp) (.slice ao m cap)
    exact bodyPost_ret (v := .agg #[.slice ao m cap]) (by simp [results, Try.results25, go_sem, x1]) rfl ⟨_, rfl, HH.out.below hbb, hbb⟩
theorem modify_set {α : Type} (l : List α) (i : Nat) (x : α) (f : α → α) (h : l[i]? = some x) : l.modify i f = l.set i (f x) := by
  apply List.ext_getElem?
  intro j
  rw [List.getElem?_modify, List.getElem?_set]
  by_cases e : i = j
  · subst e
    obtain ⟨h1, h2⟩ := List.getElem?_eq_some_iff.1 h
    simp [h1, h2]
  · simp [e]
theorem with_new (v : Value) (N n : Nat) (w : World) (h : SetAt w v N) (hn : n ≤ 65535) (hb : N.testBit n = false) :
    Calls Try.prog 25 #[v, .int .i64 n] w (SetPost (N ||| 2 ^ n) w) := by
  have hmay : mayB (n : Int) = true := decide_eq_true (by omega)
  have HM := Lib.hid (fun W => may_any (n : Int) W)
  rw [hmay] at HM
  have HH := Lib.hid h
  obtain ⟨m, ao, cap, b, o, rfl, hsl, hneed, hm'⟩ := h
  have HS : Hid (∀ W, SetAt W (.agg #[.slice ao m cap]) N → Calls Try.prog 13 #[.agg #[.slice ao m cap], .int .i64 n] W fun e w' => e = .returned (.bool false) ∧ Below W.heap.size W w') := Lib.hid (fun W hW => by rw [← hb]; exact has_in _ N n W hW hn)
  obtain ⟨q, hq⟩ : ∃ q, q = n / 64 := ⟨_, rfl⟩
  obtain ⟨r, hr⟩ : ∃ r, r = n % 64 := ⟨_, rfl⟩
  have hr64 : r < 64 := by omega
  have hq1 : (n : Int) / 64 = (q : Int) := by omega
  have hr1 : (n : Int) % 64 = (r : Int) := by omega
  have hq0 : (0 : Int) ≤ (q : Int) := by omega
  have hn0 : (0 : Int) ≤ (n : Int) := by omega
  obtain ⟨M, hM⟩ : ∃ M, M = max (q + 1) m := ⟨_, rfl⟩
  have hM2 : M ≤ 1024 := by omega
  have hqM : q < M := by omega
  obtain ⟨k1, hk1⟩ : ∃ k, k = q + 1 := ⟨_, rfl⟩
  have hadd : ((q : Int) + 1) = (k1 : Int) := by omega
  have hqM2 : (q : Int) < (M : Int) := by omega
  have HR : Hid (∀ W, SlAt W 1 m (u64s (words N m)) ao cap b o → Calls Try.prog 38 #[.agg #[.slice ao m cap], .int .i64 k1] W (RoomPost N M W)) := Lib.hid (fun W hW => room_any m N ao cap b o k1 M W hW hneed.lt (by rw [hk1]; exact hM) hM2)
  have HNEW : Hid (Needs 64 M (N ||| 2 ^ n) ∧ words (N ||| 2 ^ n) M = (words N M).set q (wordN N q ||| 2 ^ r)) := Lib.hid ⟨by
    have := needs_or (n := n) hneed
    rwa [← hq, Nat.max_comm, ← hM] at this, by
    rw [words_or, ← hq, ← hr]; exact modify_set _ _ _ _ (words_at N M q hqM)⟩
  have HSL := Lib.hid hsl
  have HMY := Lib.hid hM
  clear hmay hsl hneed hq hr hb hM hk1
  go_enter Try.func25, Try.ntmps25
  go_wp2_with fail
  refine (HM.out _).mono ?_
  rintro e w1 ⟨rfl, rfl⟩
  go_wp2_with fail
  have hb0 := (ba (bz w) (.cells #[.slice ao m cap] 27)).alloc (by simp) (.cells #[.slice none 0 0] 27)
  refine (HS.out _ (HH.out.below hb0)).mono ?_
  rintro e w2 ⟨rfl, hb2⟩
  have x0 := kc hb2 w.heap.size 0 (.slice ao m cap) (by simp [go_sem])
  have HB2 : Hid (Below w.heap.size w w2) := Lib.hid (hb0.trans (hb2.mono (by simp; omega)))
  have hs2 := hb2.size
  have X1 := Lib.hid (kc hb2 (w.heap.size + 1) 0 (.slice none 0 0) (by simp [go_sem]))
  have F1 := Lib.hid (kf hb2 (w.heap.size + 1) 0 (by simp) (by simp [go_sem]))
  clear hb2 hb0
  go_wp2_with fail
  refine (HR.out _ (HSL.out.below HB2.out)).mono ?_
  rintro e w3 ⟨g, rfl, hrow, hb3, hg⟩
  have hlen := words_len N M
  unfold RowW at hrow
  rw [hlen] at hrow
  have HROW := Lib.hid hrow
  have gq := (hrow.cellAt q (by omega)).trans (u64s_at (words_at N M q hqM))
  have fq := hrow.frozenAt q
  have x1 := kc hb3 _ _ _ X1.out
  have f1 := kf hb3 _ _ (World.block_lt_of_cell? _ _ X1.out) F1.out
  have HB3 : Hid (Below w.heap.size w w3) := Lib.hid (bt HB2.out hb3)
  have hgs : w.heap.size + 1 < g := by have := World.block_lt_of_cell? _ _ X1.out; simp at this; omega
  have hor := run_or64 (wordN N q) (2 ^ r) (wordN_lt _ _) (Nat.pow_lt_pow_right (by decide) hr64)
  have hsh := run_shl64 r hr64
  obtain ⟨R2, hR2⟩ : ∃ R, R = 2 ^ r := ⟨_, rfl⟩
  obtain ⟨Y, hY⟩ : ∃ Y, Y = wordN N q := ⟨_, rfl⟩
  obtain ⟨Z, hZ⟩ : ∃ Z, Z = wordN N q ||| 2 ^ r := ⟨_, rfl⟩
  have hP : IntKind.u64.wrap (2 ^ r) = (R2 : Int) := by
    have h3 : (2 : Nat) ^ r < 2 ^ 64 := Nat.pow_lt_pow_right (by decide) hr64
    rw [show ((2 : Int) ^ r) = ((2 ^ r : Nat) : Int) by simp, ← hR2]
    rw [← hR2] at h3
    exact wrapu64_in (by omega)
  have hO : bits BinOp.or IntKind.u64 (Y : Int) (R2 : Int) = (Z : Int) := by
    rw [hY, hR2, hZ]; exact bits_or64 _ _ (wordN_lt _ _) (Nat.pow_lt_pow_right (by decide) hr64)
  rw [← hY] at gq
  have HZ := Lib.hid hZ
  have hq2 : IntKind.i64.wrap (q : Int) = (q : Int) := IntWalk.i64_in _ (by omega)
  have hr2 : IntKind.i64.wrap (r : Int) = (r : Int) := IntWalk.i64_in _ (by omega)
  have hr3 : (n : Int).tmod 64 = (r : Int) := by rw [Int.tmod_eq_emod_of_nonneg hn0]; exact hr1
  have hq3 : (n : Int).tdiv 64 = (q : Int) := by rw [Int.tdiv_eq_ediv_of_nonneg hn0]; exact hq1
  clear hlen hrow hb3 x0 X1 F1 hR2 hY hor hsh hZ
  go_wp2_with fail
  go_still_tail 10, (by kernel_rfl)
  change wpList _ _ _ _ _ w3.drew
  have HB4 : Hid (Below w.heap.size w w3.drew) := Lib.hid HB3.out.drew
  have HROW4 : Hid (w3.drew.ownsRow w2.heap.size 61 1 (.slice (some ⟨g, 0, none⟩) M M) M (u64s (words N M))) := Lib.hid HROW.out.drew
  have x1' : w3.drew.cell? ⟨w.heap.size + 1, 0, none⟩ = some (.slice none 0 0) := x1
  have f1' : w3.drew.frozen? ⟨w.heap.size + 1, 0, none⟩ = false := f1
  have gq' : w3.drew.cell? ⟨g, q, none⟩ = some (.int .u64 Y) := gq
  have fq' : w3.drew.frozen? ⟨g, q, none⟩ = false := fq
  generalize w3.drew = w4 at *
  clear x1 f1 gq fq HB3 HROW hP hO hq2 hr2 hr3 hq3
  go_wp2
  have hst := (HROW4.out.stored q (.int .u64 Z)).1
  have hrow5 := own_setCell hst (a := ⟨w.heap.size + 1, 0, none⟩) (by simp [Value.ownBlock]; omega) (.slice (some ⟨g, 0, none⟩) M M)
  have hbel : Below w.heap.size w ((w4.setCell ⟨g, q, none⟩ (.int .u64 Z)).setCell ⟨w.heap.size + 1, 0, none⟩ (.slice (some ⟨g, 0, none⟩) M M)) := bs (bs HB4.out (by simp; omega) _) (by simp) _
  refine bodyPost_ret (v := .agg #[.slice (some ⟨g, 0, none⟩) M M]) (by simp [results, Try.results25, go_sem, x1']) rfl ⟨_, rfl, ?_, hbel⟩
  obtain ⟨ao', cap', b', o', hv, hs', _⟩ := SlAt.owned hrow5
  have hcs : (u64s (words N M)).set q (.int .u64 Z) = u64s (words (N ||| 2 ^ n) M) := by
    rw [HNEW.out.2, ← HZ.out]; simp [u64s, List.map_set]
  rw [hcs] at hs'
  exact ⟨M, ao', cap', b', o', by rw [hv], hs', HNEW.out.1, hM2⟩
theorem with_any (v : Value) (N : Nat) (n : Int) (w : World) (h : SetAt w v N) : Calls Try.prog 25 #[v, .int .i64 n] w (SetPost (withN N n) w) := by
  unfold withN
  cases hm : mayB n
  · exact with_same v N n w h (.inl hm)
  · have := of_decide_eq_true hm
    obtain ⟨k, rfl⟩ := Int.eq_ofNat_of_zero_le this.1
    rw [if_pos rfl, Int.toNat_natCast]
    cases hb : N.testBit k
    · exact with_new v N k w h (by omega) hb
    · have e : N ||| 2 ^ k = N := by
        apply Nat.eq_of_testBit_eq
        intro i
        rw [Nat.testBit_or, Nat.testBit_two_pow]
        by_cases e : k = i
        · subst e; simp [hb]
        · simp [e]
      rw [e]
      exact with_same v N k w h (.inr ⟨hm, by unfold hasB; rw [hm, Int.toNat_natCast, hb]; rfl⟩)
end Go.Proofs.Ytfjccgihdnemkaa
