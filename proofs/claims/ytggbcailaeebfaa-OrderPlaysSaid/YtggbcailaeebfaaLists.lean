/- Lists of numbers: held against one another, cloned, looked through. -/
import Derived.Test.YtggbcailaeebfaaProg
import Derived.Test.YtggbcailaeebfaaGena
import Derived.BigQuiet
import Derived.KernelRfl
namespace Go.Proofs.Ytggbcailaeebfaa
open Go.RowKit Go.Um
set_option maxHeartbeats 1000000

/-- values, as cells -/
def us (l : List Int) : List Value := l.map (Value.int .u16)
theorem us_len (l : List Int) : (us l).length = l.length * 1 := by simp [us]
theorem us_at {l : List Int} {k : Nat} {x : Int} (h : l[k]? = some x) : (us l)[k]? = some (.int .u16 x) := by simp [us, h]
theorem us_one {l : List Int} : ∀ u ∈ us l, u.oneCell' = true := by
  intro u hu
  obtain ⟨n, _, rfl⟩ := List.mem_map.1 hu
  rfl
theorem size37 : (Try.prog.info? 37).map (·.size) = some 1 := by kernel_rfl
theorem info37 : (Try.prog.info? 37).map (fun i => (i.zero, i.size, i.bytes)) = some (some (.int .u16 0), 1, 2) := by kernel_rfl
theorem below_drewN {B : Nat} {a w : World} (h : Below B a w) (n : Nat) : Below B a (w.drewN n) := ⟨h.os, h.tape, h.output, h.size, h.block⟩
theorem val_at {w : World} {l : List Int} {ao : Option Addr} {n cap b o k : Nat} {x : Int} (h : SlAt w 1 n (us l) ao cap b o) (hx : l[k]? = some x) :
    w.cell? ⟨b, o + k, none⟩ = some (.int .u16 x) := h.cell k _ (us_at hx)
theorem no_addr {w : World} {n : Nat} {cs : List Value} {cap b o : Nat} (h : SlAt w 1 n cs none cap b o) : n = 0 := by
  have h1 := h.len
  rcases Nat.eq_zero_or_pos cs.length with h0 | h0
  · omega
  · have := h.addr h0; cases this
/-- a beginning of a slice -/
theorem slat_take {w : World} {l : List Int} {ao : Option Addr} {cap b o : Nat} (h : SlAt w 1 l.length (us l) ao cap b o) (k : Nat) (hk : k ≤ l.length) : SlAt w 1 (l.take k).length (us (l.take k)) ao cap b o := by
  have hlen : (l.take k).length = k := by rw [List.length_take]; omega
  refine ⟨us_len _, by have := h.le; omega, h.max, fun hp => h.addr ?_, fun hp => h.lt ?_, fun j u hu => h.cell j u ?_⟩
  · rw [us_len] at hp ⊢; omega
  · rw [us_len] at hp ⊢; omega
  · have hj : j < k := by have := (List.getElem?_eq_some_iff.1 hu).1; rw [us_len, hlen] at this; omega
    simp only [us, List.getElem?_map, List.getElem?_take, if_pos hj] at hu ⊢
    exact hu
/-- the world is as it was, but for draws -/
def Qt (w w' : World) : Prop := ∃ n, w' = w.drewN n
theorem Qt.refl (w : World) : Qt w w := ⟨0, rfl⟩
theorem Qt.drewN {a w : World} (h : Qt a w) (n : Nat) : Qt a (w.drewN n) := by obtain ⟨m, rfl⟩ := h; exact ⟨m + n, by rw [World.drewN_drewN]⟩
theorem Qt.trans {a b c : World} (h : Qt a b) (k : Qt b c) : Qt a c := by obtain ⟨n, rfl⟩ := k; exact h.drewN n
theorem Qt.below {a w : World} (h : Qt a w) : Below a.heap.size a w := by obtain ⟨m, rfl⟩ := h; exact below_drewN (bz a) m
def SamePost (xs ys : List Int) (w : World) (e : Ending) (w' : World) : Prop := e = .returned (.bool (decide (xs = ys))) ∧ Qt w w'

theorem equal_any (xs ys : List Int) (ao ao' : Option Addr) (cap b o cap' b' o' : Nat) (w : World) (h : SlAt w 1 xs.length (us xs) ao cap b o) (h' : SlAt w 1 ys.length (us ys) ao' cap' b' o') (hlen : xs.length ≤ 100000) :
    Calls Try.prog 25 #[.slice ao xs.length cap, .slice ao' ys.length cap'] w (SamePost xs ys w) := by
  have hidx := h.idx (P := Try.prog) (t := 22) Try.underlying22 size37 (by decide)
  have hidx' := h'.idx (P := Try.prog) (t := 22) Try.underlying22 size37 (by decide)
  by_cases hl : xs.length = ys.length
  · have hl1 : ((xs.length : Int) != (ys.length : Int)) = false := by simp [hl]
    have Hl := Lib.hid hl
    clear hl
    go_enter Try.func25, Try.ntmps25
    go_wp2
    go_loopw [13] (fun t5 wr => ∃ k : Nat, k ≤ xs.length ∧ t5 = .int .i64 k ∧ Hid (xs.take k = ys.take k) ∧ Qt w wr) (fun t5 _ => xs.length - (intOf t5).toNat)
    case atStart => exact ⟨0, Nat.zero_le _, rfl, by simp [Hid], Qt.refl _⟩
    case round =>
      obtain ⟨k, hk, rfl, ht, hbel⟩ := hrel
      by_cases hlt : k < xs.length
      · have hlt' : k < ys.length := by have := Hl.out; omega
        have hwr := h.below hbel.below
        have hwr' := h'.below hbel.below
        obtain ⟨x, hx⟩ : ∃ x, xs[k]? = some x := ⟨_, List.getElem?_eq_getElem hlt⟩
        obtain ⟨y, hy⟩ : ∃ y, ys[k]? = some y := ⟨_, List.getElem?_eq_getElem hlt'⟩
        have g0 := val_at hwr hx
        have g0' := val_at hwr' hy
        have Hx := Lib.hid hx
        have Hy := Lib.hid hy
        clear hx hy
        have b1 : (0 : Int) ≤ (k : Int) := by omega
        have b2 : (k : Int) < (xs.length : Int) := by omega
        have b3 : (k : Int) < (ys.length : Int) := by omega
        by_cases hxy : x = y
        · have t1 : (x != y) = false := by simp [hxy]
          have Hxy := Lib.hid hxy
          clear hxy
          go_wp2_with fail
          go_quiet (fail)
          go_wp2_with fail
          go_roundw
          case rel =>
            refine ⟨k + 1, by omega, by go_num, ?_, hbel.drewN _⟩
            have h1 := ht.out
            have h2 := Hxy.out
            show xs.take (k + 1) = ys.take (k + 1)
            rw [List.take_add_one, List.take_add_one, h1, Hx.out, Hy.out, h2]
          case measure => simp [intOf]; omega
        · have t1 : (x != y) = true := by simp [hxy]
          have Hxy := Lib.hid hxy
          clear hxy
          go_wp2_with fail
          go_quiet (fail)
          go_wp2_with fail
          go_ret
          refine ⟨?_, hbel.drewN _⟩
          have : ¬ xs = ys := fun e => Hxy.out (by have h1 := Hx.out; have h2 := Hy.out; rw [e, h2] at h1; exact (Option.some.inj h1).symm)
          simp [this]
      · have hk' : xs.length = k := by omega
        have Hk := Lib.hid hk'
        clear hk'
        go_wp2
        go_ret
        refine ⟨?_, hbel⟩
        have h1 := ht.out
        have h2 := Hl.out
        have h3 := Hk.out
        rw [List.take_of_length_le (by omega), List.take_of_length_le (by omega)] at h1
        simp [h1]
  · have hl1 : ((xs.length : Int) != (ys.length : Int)) = true := by rw [bne_iff_ne]; omega
    have Hl := Lib.hid hl
    clear hl
    go_enter Try.func25, Try.ntmps25
    go_wp2
    go_ret
    refine ⟨?_, Qt.refl _⟩
    have : ¬ xs = ys := fun e => Hl.out (by rw [e])
    simp [this]

theorem same_any (xs ys : List Int) (ao ao' : Option Addr) (cap b o cap' b' o' : Nat) (w : World) (h : SlAt w 1 xs.length (us xs) ao cap b o) (h' : SlAt w 1 ys.length (us ys) ao' cap' b' o') (hlen : xs.length ≤ 100000) :
    Calls Try.prog 16 #[.slice ao xs.length cap, .slice ao' ys.length cap'] w (SamePost xs ys w) := by
  have hidx := h.idx (P := Try.prog) (t := 22) Try.underlying22 size37 (by decide)
  have hidx' := h'.idx (P := Try.prog) (t := 22) Try.underlying22 size37 (by decide)
  by_cases hl : xs.length = ys.length
  · have hl1 : ((xs.length : Int) != (ys.length : Int)) = false := by simp [hl]
    have Hl := Lib.hid hl
    clear hl
    go_enter Try.func16, Try.ntmps16
    go_wp2
    go_loopw [5] (fun t5 wr => ∃ k : Nat, k ≤ xs.length ∧ t5 = .int .i64 k ∧ Hid (xs.take k = ys.take k) ∧ Qt w wr) (fun t5 _ => xs.length - (intOf t5).toNat)
    case atStart => exact ⟨0, Nat.zero_le _, rfl, by simp [Hid], Qt.refl _⟩
    case round =>
      obtain ⟨k, hk, rfl, ht, hbel⟩ := hrel
      by_cases hlt : k < xs.length
      · have hlt' : k < ys.length := by have := Hl.out; omega
        have hwr := h.below hbel.below
        have hwr' := h'.below hbel.below
        obtain ⟨x, hx⟩ : ∃ x, xs[k]? = some x := ⟨_, List.getElem?_eq_getElem hlt⟩
        obtain ⟨y, hy⟩ : ∃ y, ys[k]? = some y := ⟨_, List.getElem?_eq_getElem hlt'⟩
        have g0 := val_at hwr hx
        have g0' := val_at hwr' hy
        have Hx := Lib.hid hx
        have Hy := Lib.hid hy
        clear hx hy
        have b1 : (0 : Int) ≤ (k : Int) := by omega
        have b2 : (k : Int) < (xs.length : Int) := by omega
        have b3 : (k : Int) < (ys.length : Int) := by omega
        by_cases hxy : x = y
        · have t1 : (x != y) = false := by simp [hxy]
          have Hxy := Lib.hid hxy
          clear hxy
          go_wp2_with fail
          go_quiet (fail)
          go_wp2_with fail
          go_roundw
          case rel =>
            refine ⟨k + 1, by omega, by go_num, ?_, hbel.drewN _⟩
            have h1 := ht.out
            have h2 := Hxy.out
            show xs.take (k + 1) = ys.take (k + 1)
            rw [List.take_add_one, List.take_add_one, h1, Hx.out, Hy.out, h2]
          case measure => simp [intOf]; omega
        · have t1 : (x != y) = true := by simp [hxy]
          have Hxy := Lib.hid hxy
          clear hxy
          go_wp2_with fail
          go_quiet (fail)
          go_wp2_with fail
          go_ret
          refine ⟨?_, hbel.drewN _⟩
          have : ¬ xs = ys := fun e => Hxy.out (by have h1 := Hx.out; have h2 := Hy.out; rw [e, h2] at h1; exact (Option.some.inj h1).symm)
          simp [this]
      · have hk' : xs.length = k := by omega
        have Hk := Lib.hid hk'
        clear hk'
        go_wp2
        go_ret
        refine ⟨?_, hbel⟩
        have h1 := ht.out
        have h2 := Hl.out
        have h3 := Hk.out
        rw [List.take_of_length_le (by omega), List.take_of_length_le (by omega)] at h1
        simp [h1]
  · have hl1 : ((xs.length : Int) != (ys.length : Int)) = true := by rw [bne_iff_ne]; omega
    have Hl := Lib.hid hl
    clear hl
    go_enter Try.func16, Try.ntmps16
    go_wp2
    go_ret
    refine ⟨?_, Qt.refl _⟩
    have : ¬ xs = ys := fun e => Hl.out (by rw [e])
    simp [this]

/-- does a begin b? -/
def bgn (a b : List Int) : Bool := decide (a <+: b)
theorem bgn_take {a b : List Int} (h : a.length ≤ b.length) : bgn a b = decide (a = b.take a.length) := by
  unfold bgn
  exact decide_eq_decide.2 List.prefix_iff_eq_take
theorem bgn_long {a b : List Int} (h : b.length < a.length) : bgn a b = false := by
  unfold bgn
  exact decide_eq_false fun hp => by have := hp.length_le; omega
theorem begins_any (xs ys : List Int) (ao ao' : Option Addr) (cap b o cap' b' o' : Nat) (w : World) (h : SlAt w 1 xs.length (us xs) ao cap b o) (h' : SlAt w 1 ys.length (us ys) ao' cap' b' o') (hlen : xs.length ≤ 100000) :
    Calls Try.prog 10 #[.slice ao xs.length cap, .slice ao' ys.length cap'] w fun e w' => e = .returned (.bool (bgn xs ys)) ∧ Qt w w' := by
  by_cases hl : xs.length ≤ ys.length
  · have t1 : decide (xs.length ≤ ys.length) = true := by simp; omega
    have hle := h'.le
    have p1 : (xs.length : Int) ≤ (cap' : Int) := by omega
    have p0 : (0 : Int) ≤ (xs.length : Int) := by omega
    have hlt : (ys.take xs.length).length = xs.length := by rw [List.length_take]; omega
    have he := equal_any xs (ys.take xs.length) ao ao' cap b o cap' b' o' w h (slat_take h' _ hl) hlen
    rw [hlt] at he
    unfold SamePost at he
    rw [← bgn_take hl] at he
    have HE := Lib.hid he
    clear he hlt hl h h' hle
    go_enter Try.func10, Try.ntmps10
    go_wp2_with fail
    refine HE.out.mono ?_
    rintro e w1 ⟨rfl, hq⟩
    go_wp2
    go_ret
    exact ⟨by simp, hq⟩
  · have t1 : decide (xs.length ≤ ys.length) = false := by simp; omega
    have hb := bgn_long (a := xs) (b := ys) (by omega)
    clear hl h h'
    go_enter Try.func10, Try.ntmps10
    go_wp2
    go_ret
    exact ⟨by rw [hb]; rfl, Qt.refl _⟩
theorem rbegins_any (xs ys : List Int) (ao ao' : Option Addr) (cap b o cap' b' o' : Nat) (w : World) (h : SlAt w 1 xs.length (us xs) ao cap b o) (h' : SlAt w 1 ys.length (us ys) ao' cap' b' o') (hlen : xs.length ≤ 100000) :
    Calls Try.prog 11 #[.slice ao xs.length cap, .slice ao' ys.length cap'] w fun e w' => e = .returned (.bool (bgn xs ys)) ∧ Qt w w' := by
  have hidx := h.idx (P := Try.prog) (t := 22) Try.underlying22 size37 (by decide)
  have hidx' := h'.idx (P := Try.prog) (t := 22) Try.underlying22 size37 (by decide)
  by_cases hl : xs.length ≤ ys.length
  · have t1 : decide (ys.length < xs.length) = false := by simp; omega
    go_enter Try.func11, Try.ntmps11
    go_wp2
    go_loopw [5] (fun t5 wr => ∃ k : Nat, k ≤ xs.length ∧ t5 = .int .i64 k ∧ Hid (xs.take k = ys.take k) ∧ Qt w wr) (fun t5 _ => xs.length - (intOf t5).toNat)
    case atStart => exact ⟨0, Nat.zero_le _, rfl, by simp [Hid], Qt.refl _⟩
    case round =>
      obtain ⟨k, hk, rfl, ht, hbel⟩ := hrel
      by_cases hlt : k < xs.length
      · have hlt' : k < ys.length := by omega
        have hwr := h.below hbel.below
        have hwr' := h'.below hbel.below
        obtain ⟨x, hx⟩ : ∃ x, xs[k]? = some x := ⟨_, List.getElem?_eq_getElem hlt⟩
        obtain ⟨y, hy⟩ : ∃ y, ys[k]? = some y := ⟨_, List.getElem?_eq_getElem hlt'⟩
        have g0 := val_at hwr hx
        have g0' := val_at hwr' hy
        have Hx := Lib.hid hx
        have Hy := Lib.hid hy
        clear hx hy
        have b1 : (0 : Int) ≤ (k : Int) := by omega
        have b2 : (k : Int) < (xs.length : Int) := by omega
        have b3 : (k : Int) < (ys.length : Int) := by omega
        by_cases hxy : x = y
        · have t1 : (x != y) = false := by simp [hxy]
          have Hxy := Lib.hid hxy
          clear hxy
          go_wp2_with fail
          go_quiet (fail)
          go_wp2_with fail
          go_roundw
          case rel =>
            refine ⟨k + 1, by omega, by go_num, ?_, hbel.drewN _⟩
            have h1 := ht.out
            have h2 := Hxy.out
            show xs.take (k + 1) = ys.take (k + 1)
            rw [List.take_add_one, List.take_add_one, h1, Hx.out, Hy.out, h2]
          case measure => simp [intOf]; omega
        · have t1 : (x != y) = true := by simp [hxy]
          have Hxy := Lib.hid hxy
          clear hxy
          go_wp2_with fail
          go_quiet (fail)
          go_wp2_with fail
          go_ret
          refine ⟨?_, hbel.drewN _⟩
          have hne : ¬ xs <+: ys := fun hp => Hxy.out (by
            have h1 := Hx.out
            have h2 := Hy.out
            obtain ⟨r, rfl⟩ := hp
            rw [List.getElem?_append_left hlt, h1] at h2
            exact Option.some.inj h2)
          simp [bgn, hne]
      · have hk' : xs.length = k := by omega
        have Hk := Lib.hid hk'
        clear hk'
        go_wp2
        go_ret
        refine ⟨?_, hbel⟩
        have h1 := ht.out
        have h3 := Hk.out
        rw [List.take_of_length_le (by omega), ← h3] at h1
        have hp : xs <+: ys := List.prefix_iff_eq_take.2 h1
        simp [bgn, hp]
  · have t1 : decide (ys.length < xs.length) = true := by simp; omega
    have hb := bgn_long (a := xs) (b := ys) (by omega)
    clear hl h h'
    go_enter Try.func11, Try.ntmps11
    go_wp2
    go_ret
    exact ⟨by rw [hb]; rfl, Qt.refl _⟩

theorem eql22 (ad : Addr) (n cap : Nat) (w : World) : (binOp .eql 22 (.slice (some ad) n cap) (.slice none 0 0)).run Try.prog w = .ok (.bool false) w := by kernel_rfl
theorem eql22n (n cap : Nat) (w : World) : (binOp .eql 22 (.slice none n cap) (.slice none 0 0)).run Try.prog w = .ok (.bool true) w := by kernel_rfl
/-- the result is the call's own -/
def OwnPost (l : List Int) (w : World) (e : Ending) (w' : World) : Prop := ∃ v, e = .returned v ∧ w'.ownsRow w.heap.size 37 1 v l.length (us l) ∧ Below w.heap.size w w'
theorem clone_any (l : List Int) (ao : Option Addr) (cap b o : Nat) (w : World) (h : SlAt w 1 l.length (us l) ao cap b o) (hlen : l.length ≤ 100000) :
    Calls Try.prog 26 #[.slice ao l.length cap] w (OwnPost l w) := by
  obtain ⟨i0, hi, hz0, hz1, hz2⟩ := info_parts info37
  cases ao with
  | none =>
    have h0 : l.length = 0 := no_addr h
    obtain rfl : l = [] := List.eq_nil_of_length_eq_zero h0
    have hq := eql22n 0 cap
    go_enter Try.func26, Try.ntmps26
    go_wp2
    go_ret
    exact ⟨_, rfl, World.ownsRow_nil _ _ _ _, bz w⟩
  | some ad =>
    rcases Nat.eq_zero_or_pos l.length with h0 | h0
    · obtain rfl : l = [] := List.eq_nil_of_length_eq_zero h0
      have hq := eql22 ad 0 cap
      go_enter Try.func26, Try.ntmps26
      go_wp2
      go_ret
      exact ⟨_, rfl, ⟨rfl, .inr ⟨w.heap.size, 0, #[], rfl, Nat.le_refl _, heap_alloc_new w _, Nat.le_refl _, Nat.zero_le _, rfl, rfl⟩⟩, ba (bz w) _⟩
    · have hn : ∀ j u, (us l)[j]? = some u → w.cell? (ad.add j) = some u := by
        have ha := h.addr (by rw [us_len]; omega)
        obtain rfl := Option.some.inj ha
        intro j u hu
        rw [Addr.add_lit]
        exact h.cell j u hu
      have Hl := Lib.hid (us_len l)
      have hq := eql22 ad l.length cap
      go_enter Try.func26, Try.ntmps26
      go_wp2_with (at_builtin; refine wpList_append_grows _ rfl (.tmp 5) (.tmp 6) 22 rfl 37 i0 (.int .u16 0) 1 2 Try.underlying22 hi hz0 hz1 hz2 rfl (by decide) (some ⟨w.heap.size, 0, none⟩) 0 0 [] rfl (by simp) rfl (by simp) ad l.length cap (us l) rfl Hl.out (fun j u hu => by rw [(Below.refl w.heap.size w |>.alloc (Nat.le_refl _) _).cell (World.block_lt_of_cell? w _ (hn j u hu))]; exact hn j u hu) us_one (by omega) (by unfold maxLen; omega) (by omega) ?_)
      intro v' w' hown hgrow
      go_wp2
      go_ret
      exact ⟨_, rfl, own_base hown (by simp), (ba (bz w) (.cells #[] 37)).grown hgrow (by simp) (fun k hk => by cases hk)⟩
end Go.Proofs.Ytggbcailaeebfaa
