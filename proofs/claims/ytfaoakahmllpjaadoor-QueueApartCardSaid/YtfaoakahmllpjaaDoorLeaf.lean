/- Contracts of the queue's small functions: Clone, Of, Values, New, enq, deq. -/
import Derived.Test.YtfaoakahmllpjaaDoorCheck
import Derived.Deep.RegionLawGrows
import Derived.Deep.Upon
namespace Go.Proofs.YtfaoakahmllpjaaDoor
open Go.RowKit Go.Um
set_option maxHeartbeats 1000000

/-- values, as cells -/
def us (l : List Int) : List Value := l.map (Value.int .u16)
theorem us_len (l : List Int) : (us l).length = l.length * 1 := by simp [us]
theorem us_at {l : List Int} {k : Nat} {x : Int} (h : l[k]? = some x) : (us l)[k]? = some (.int .u16 x) := by simp [us, h]
theorem us_one {l : List Int} : ∀ u ∈ us l, u.oneCell' = true := by
  intro u hu
  obtain ⟨n, _, rfl⟩ := List.mem_map.1 hu
  rfl

theorem size23 : (Tryd.prog.info? 23).map (·.size) = some 1 := by kernel_rfl
theorem info23 : (Tryd.prog.info? 23).map (fun i => (i.zero, i.size, i.bytes)) = some (some (.int .u16 0), 1, 2) := by kernel_rfl

/-- a slice that reads these values -/
def Lies (w : World) (l : List Int) (v : Value) : Prop := ∃ ao cap b o, v = .slice ao l.length cap ∧ SlAt w 1 l.length (us l) ao cap b o
theorem Lies.below {w w' : World} {l : List Int} {v : Value} (h : Lies w l v) (hb : Below w.heap.size w w') : Lies w' l v := by
  obtain ⟨ao, cap, b, o, rfl, hs⟩ := h
  exact ⟨ao, cap, b, o, rfl, hs.below hb⟩
theorem Lies.own {w : World} {base : Nat} {l : List Int} {v : Value} (h : w.ownsRow base 23 1 v l.length (us l)) : Lies w l v := by
  obtain ⟨ao, cap, b, o, rfl, hsl, _⟩ := SlAt.owned h
  exact ⟨ao, cap, b, o, rfl, hsl⟩
/-- the same, in a block of which S holds -/
def Far (S : Nat → Prop) (w : World) (l : List Int) (v : Value) : Prop := ∃ ao cap b o, v = .slice ao l.length cap ∧ SlAt w 1 l.length (us l) ao cap b o ∧ (0 < l.length → S b)
theorem Far.lies {S : Nat → Prop} {w : World} {l : List Int} {v : Value} (h : Far S w l v) : Lies w l v := by
  obtain ⟨ao, cap, b, o, rfl, hs, _⟩ := h
  exact ⟨ao, cap, b, o, rfl, hs⟩
theorem Far.mono {S S' : Nat → Prop} {w : World} {l : List Int} {v : Value} (h : Far S w l v) (k : ∀ b, b < w.heap.size → S b → S' b) : Far S' w l v := by
  obtain ⟨ao, cap, b, o, rfl, hs, hb⟩ := h
  exact ⟨ao, cap, b, o, rfl, hs, fun hp => k b (hs.lt (by rw [us_len]; omega)) (hb hp)⟩
theorem Far.of_lies {w : World} {l : List Int} {v : Value} (h : Lies w l v) : Far (fun b => b < w.heap.size) w l v := by
  obtain ⟨ao, cap, b, o, rfl, hs⟩ := h
  exact ⟨ao, cap, b, o, rfl, hs, fun hp => hs.lt (by rw [us_len]; omega)⟩
theorem Far.below {S : Nat → Prop} {w w' : World} {l : List Int} {v : Value} (h : Far S w l v) (hb : Below w.heap.size w w') : Far S w' l v := by
  obtain ⟨ao, cap, b, o, rfl, hs, k⟩ := h
  exact ⟨ao, cap, b, o, rfl, hs.below hb, k⟩
theorem Far.setCell {S : Nat → Prop} {w : World} {l : List Int} {v : Value} (h : Far S w l v) {p : Addr} (hp : ¬ S p.block) (u : Value) : Far S (w.setCell p u) l v := by
  obtain ⟨ao, cap, b, o, rfl, hs, k⟩ := h
  refine ⟨ao, cap, b, o, rfl, ⟨hs.len, hs.le, hs.max, hs.addr, fun hq => by have := hs.lt hq; simpa [World.setCell] using this, fun j u hu => ?_⟩, k⟩
  have hq : 0 < (us l).length := by have := (List.getElem?_eq_some_iff.1 hu).1; omega
  have hne : b ≠ p.block := fun e => hp (e ▸ k (by rw [us_len] at hq; omega))
  exact (World.cell?_of_block (w := w) (a := ⟨b, o + j, none⟩) (Below.heap_setCell _ _ _ _ hne)).trans (hs.cell j u hu)
theorem Far.own {S : Nat → Prop} {w : World} {base : Nat} {l : List Int} {v : Value} (h : w.ownsRow base 23 1 v l.length (us l)) (k : ∀ b, base ≤ b → S b) : Far S w l v := by
  obtain ⟨ao, cap, b, o, rfl, hsl, hb⟩ := SlAt.owned h
  exact ⟨ao, cap, b, o, rfl, hsl, fun hp => k b (hb (by rw [us_len]; omega))⟩
theorem SlAt.no_addr {w : World} {n : Nat} {cs : List Value} {cap b o : Nat} (h : SlAt w 1 n cs none cap b o) : n = 0 := by
  have h1 := h.len
  rcases Nat.eq_zero_or_pos cs.length with h0 | h0
  · omega
  · have := h.addr h0; cases this

theorem eql22 (ad : Addr) (n cap : Nat) (w : World) : (binOp .eql 22 (.slice (some ad) n cap) (.slice none 0 0)).run Tryd.prog w = .ok (.bool false) w := by kernel_rfl
theorem eql22n (n cap : Nat) (w : World) : (binOp .eql 22 (.slice none n cap) (.slice none 0 0)).run Tryd.prog w = .ok (.bool true) w := by kernel_rfl

/-- the result is the call's own -/
def OwnPost (l : List Int) (w : World) (e : Ending) (w' : World) : Prop := ∃ v, e = .returned v ∧ w'.ownsRow w.heap.size 23 1 v l.length (us l) ∧ Below w.heap.size w w'
def OwnPost1 (l : List Int) (w : World) (e : Ending) (w' : World) : Prop := ∃ v, e = .returned (.agg #[v]) ∧ w'.ownsRow w.heap.size 23 1 v l.length (us l) ∧ Below w.heap.size w w'

theorem clone_any (l : List Int) (ao : Option Addr) (cap b o : Nat) (w : World) (h : SlAt w 1 l.length (us l) ao cap b o) (hlen : l.length ≤ 100000) :
    Calls Tryd.prog 29 #[.slice ao l.length cap] w (OwnPost l w) := by
  obtain ⟨i0, hi, hz0, hz1, hz2⟩ := info_parts info23
  cases ao with
  | none =>
    have h0 : l.length = 0 := SlAt.no_addr h
    obtain rfl : l = [] := List.eq_nil_of_length_eq_zero h0
    have hq := eql22n 0 cap
    go_enter Tryd.func29, Tryd.ntmps29
    go_wp2
    go_ret
    exact ⟨_, rfl, World.ownsRow_nil _ _ _ _, bz w⟩
  | some ad =>
    rcases Nat.eq_zero_or_pos l.length with h0 | h0
    · obtain rfl : l = [] := List.eq_nil_of_length_eq_zero h0
      have hq := eql22 ad 0 cap
      go_enter Tryd.func29, Tryd.ntmps29
      go_wp2
      go_ret
      exact ⟨_, rfl, ⟨rfl, .inr ⟨w.heap.size, 0, #[], rfl, Nat.le_refl _, heap_alloc_new w _, Nat.le_refl _, Nat.zero_le _, rfl, rfl⟩⟩, ba (bz w) _⟩
    · have hn : ∀ j u, (us l)[j]? = some u → w.cell? (ad.add j) = some u := by
        have ha := h.addr (by rw [us_len]; omega)
        obtain rfl := Option.some.inj ha
        intro j u hu
        rw [Addr.add_lit]
        exact h.cell j u hu
      have hm := h.max
      have hle := h.le
      have Hl := Lib.hid (us_len l)
      have hq := eql22 ad l.length cap
      go_enter Tryd.func29, Tryd.ntmps29
      go_wp2_with (at_builtin; refine wpList_append_grows _ rfl (.tmp 5) (.tmp 6) 22 rfl 23 i0 (.int .u16 0) 1 2 Tryd.underlying22 hi hz0 hz1 hz2 rfl (by decide) (some ⟨w.heap.size, 0, none⟩) 0 0 [] rfl (by simp) rfl (by simp) ad l.length cap (us l) rfl Hl.out (fun j u hu => by rw [(Below.refl w.heap.size w |>.alloc (Nat.le_refl _) _).cell (World.block_lt_of_cell? w _ (hn j u hu))]; exact hn j u hu) us_one (by omega) (by unfold maxLen; omega) (by omega) ?_)
      intro v' w' hown hgrow
      go_wp2
      go_ret
      exact ⟨_, rfl, own_base hown (by simp), (ba (bz w) (.cells #[] 23)).grown hgrow (by simp) (fun k hk => by cases hk)⟩

theorem qof_any (l : List Int) (v : Value) (w : World) (h : Lies w l v) (hlen : l.length ≤ 100000) : Calls Tryd.prog 11 #[v] w (OwnPost1 l w) := by
  obtain ⟨ao, cap, b, o, rfl, hs⟩ := h
  go_enter Tryd.func11, Tryd.ntmps11
  go_wp2_with fail
  refine (clone_any l ao cap b o _ (hs.below (ba (bz w) _)) hlen).mono ?_
  rintro e w1 ⟨v, rfl, hown, hb⟩
  obtain ⟨ao1, cap1, b1, o1, rfl, hsl, hbase⟩ := SlAt.owned hown
  have f0 := kf hb w.heap.size 0 (by simp) (by simp [go_sem])
  have c0 := kc hb w.heap.size 0 (.slice none 0 0) (by simp [go_sem])
  have hz : w.heap.size < w1.heap.size := by have := hb.size; simp at this; omega
  have Ho := Lib.hid hown
  clear hown hsl hbase
  go_wp2
  refine bodyPost_ret (by simp [results, Tryd.results11, go_sem, hz, c0] <;> rfl) rfl ⟨_, rfl, ?_, ?_⟩
  · exact own_base (own_setCell Ho.out (fun e => by have := (Ho.out.lt _ e).1; simp at this; omega) _) (by simp)
  · exact bs (bt (ba (bz w) _) hb) (by simp) _

theorem values_any (l : List Int) (v : Value) (w : World) (h : Lies w l v) (hlen : l.length ≤ 100000) : Calls Tryd.prog 15 #[.agg #[v]] w (OwnPost l w) := by
  obtain ⟨ao, cap, b, o, rfl, hs⟩ := h
  go_enter Tryd.func15, Tryd.ntmps15
  go_wp2_with fail
  refine (clone_any l ao cap b o _ (hs.below (ba (bz w) _)) hlen).mono ?_
  rintro e w1 ⟨v, rfl, hown, hb⟩
  go_wp2
  go_ret
  exact ⟨_, rfl, own_base hown (by simp), bt (ba (bz w) _) hb⟩

theorem new_any (w : World) : Calls Tryd.prog 19 #[] w fun e w' => e = .returned (.agg #[.slice none 0 0]) ∧ Below w.heap.size w w' := by
  go_enter Tryd.func19, Tryd.ntmps19
  go_wp2
  refine bodyPost_ret (by simp [results, Tryd.results19, go_sem] <;> rfl) rfl ⟨rfl, ?_⟩
  exact ba (bz w) _
theorem enq_any (a : Int) (w : World) : Calls Tryd.prog 21 #[.int .u16 a] w fun e w' => e = .returned (opV ⟨4, 0, 0, a, 0⟩) ∧ Below w.heap.size w w' := by
  go_enter Tryd.func21, Tryd.ntmps21
  go_wp2
  refine bodyPost_ret (by simp [results, Tryd.results21, go_sem] <;> rfl) rfl ⟨rfl, ?_⟩
  exact ba (bz w) _
theorem deq_any (w : World) : Calls Tryd.prog 27 #[] w fun e w' => e = .returned (opV ⟨5, 0, 0, 0, 0⟩) ∧ Below w.heap.size w w' := by
  go_enter Tryd.func27, Tryd.ntmps27
  go_wp2
  refine bodyPost_ret (by simp [results, Tryd.results27, go_sem] <;> rfl) rfl ⟨rfl, ?_⟩
  exact ba (bz w) _
theorem idle_any (f : Int) (w : World) : Calls Tryd.prog 16 #[.int .u8 f] w fun e w' => e = .returned (.bool false) ∧ w = w' := by
  go_enter Tryd.func16, Tryd.ntmps16
  go_wp2
  go_ret
  exact ⟨rfl, rfl⟩
end Go.Proofs.YtfaoakahmllpjaaDoor
