/- bits.Of and Key: contracts. -/
import Derived.Test.YtfjccgihdnemkaaBs
import Derived.Deep.AppendLies
import Derived.Lib.ConvBytes
namespace Go.Proofs.Ytfjccgihdnemkaa
open Go.RowKit Go.Um
set_option linter.unusedSimpArgs false
set_option linter.unusedVariables false
set_option maxHeartbeats 2000000
set_option maxRecDepth 100000

def ofN (xs : List Int) : Nat := xs.foldl withN 0
theorem ofN_snoc (xs : List Int) (x : Int) : ofN (xs ++ [x]) = withN (ofN xs) x := by simp [ofN]
theorem take_snoc {α : Type} (l : List α) (k : Nat) (x : α) (h : l[k]? = some x) : l.take (k + 1) = l.take k ++ [x] := by rw [List.take_add_one, h]; rfl
theorem info3i : (Try.prog.info? 3).map (fun i => (i.zero, i.size, i.bytes)) = some (some (.int .i64 0), 1, 8) := by kernel_rfl
theorem size3i : (Try.prog.info? 3).map (·.size) = some 1 := by kernel_rfl
/-- a store that hits another kind of cell leaves a row as it is -/
theorem slat_other {w : World} {size n cap b o : Nat} {cs : List Value} {ao : Option Addr} (h : SlAt w size n cs ao cap b o) {p : Addr} {u0 : Value} (hp : w.cell? p = some u0) (hne : ∀ v ∈ cs, v ≠ u0) (u : Value) : SlAt (w.setCell p u) size n cs ao cap b o :=
  ⟨h.len, h.le, h.max, h.addr, fun hq => by have := h.lt hq; simpa [World.setCell] using this, fun j v hj => by
    have h1 := h.cell j v hj
    have hne2 : p ≠ ⟨b, o + j, none⟩ := fun e => hne v (List.mem_of_getElem? hj) (by rw [e, h1] at hp; exact Option.some.inj hp)
    rw [World.cell?_setCell_other (h := hne2)]
    exact h1⟩
theorem set_other {w : World} {v : Value} {N : Nat} (h : SetAt w v N) {p : Addr} {u0 : Value} (hp : w.cell? p = some u0) (hne : ∀ x : Int, Value.int .u64 x ≠ u0) (u : Value) : SetAt (w.setCell p u) v N := by
  obtain ⟨m, ao, cap, b, o, hv, hs, hn, hm⟩ := h
  refine ⟨m, ao, cap, b, o, hv, slat_other hs hp (fun y hy => ?_) u, hn, hm⟩
  obtain ⟨x, _, rfl⟩ := List.mem_map.1 hy
  exact hne _
structure OfInv (w : World) (xs : List Int) (k : Nat) (u : Value) (wr : World) : Prop where
  set : SetAt wr (.agg #[u]) (ofN (xs.take k))
  below : Below w.heap.size w wr
  c2 : wr.cell? ⟨w.heap.size, 0, none⟩ = some (.slice none 0 0)
  f2 : wr.frozen? ⟨w.heap.size, 0, none⟩ = false
  c3 : wr.cell? ⟨w.heap.size + 1, 0, none⟩ = some u
  f3 : wr.frozen? ⟨w.heap.size + 1, 0, none⟩ = false
theorem of_any (xs : List Int) (n : Nat) (hn : n = xs.length) (ao : Option Addr) (cap b o : Nat) (w : World) (hsl : SlAt w 1 n (xs.map (Value.int .i64)) ao cap b o) (hmax : n ≤ 100000) :
    Calls Try.prog 9 #[.slice ao n cap] w (SetPost (ofN xs) w) := by
  have hidx := hsl.idx (P := Try.prog) (t := 22) Try.underlying22 size3i (by decide)
  have HL := Lib.hid hn
  have HS := Lib.hid hsl
  clear hn hsl
  go_enter Try.func9, Try.ntmps9
  go_wp2_with fail
  have HI0 : Hid (OfInv w xs 0 (.slice none 0 0) ((w.alloc (.cells #[.slice none 0 0] 27)).alloc (.cells #[.slice none 0 0] 27))) := Lib.hid ⟨SetAt.zero _, ba (ba (bz w) _) _, by simp [go_sem], by simp [go_sem], by simp [go_sem], by simp [go_sem]⟩
  go_loopw [8] (fun t8 wr => ∃ (k : Nat) (u : Value), k ≤ n ∧ t8 = .int .i64 k ∧ Hid (OfInv w xs k u wr)) (fun t8 _ => n - (intOf t8).toNat)
  case atStart => exact ⟨0, _, Nat.zero_le _, rfl, HI0⟩
  case round =>
    obtain ⟨k, u, hk, rfl, HI⟩ := hrel
    clear HI0
    have c3 := HI.out.c3
    by_cases hlt : k < n
    · have hkl : k < xs.length := by rw [← HL.out]; exact hlt
      obtain ⟨x, hxk⟩ : ∃ x, xs[k]? = some x := ⟨_, List.getElem?_eq_getElem hkl⟩
      have g0 := (HS.out.below HI.out.below).cell k (.int .i64 x) (by simp [hxk])
      have i1 : (0 : Int) ≤ (k : Int) := by omega
      have i2 : (k : Int) < (n : Int) := by omega
      have hof : ofN (xs.take (k + 1)) = withN (ofN (xs.take k)) x := by rw [take_snoc xs k x hxk, ofN_snoc]
      have HOF := Lib.hid hof
      have HC := Lib.hid (with_any (.agg #[u]) (ofN (xs.take k)) x wr HI.out.set)
      rw [← hof] at HC
      clear hxk hkl hof
      go_wp2_with fail
      refine HC.out.mono ?_
      rintro e w1 ⟨v, rfl, hset, hb⟩
      obtain ⟨u', hu'⟩ : ∃ u', v = .agg #[u'] := by obtain ⟨m, ao, cap, b, o, rfl, _⟩ := hset; exact ⟨_, rfl⟩
      subst hu'
      have x3 := kc hb _ _ _ c3
      have y3 := kf hb _ _ (World.block_lt_of_cell? _ _ c3) HI.out.f3
      have x2 := kc hb _ _ _ HI.out.c2
      have y2 := kf hb _ _ (World.block_lt_of_cell? _ _ HI.out.c2) HI.out.f2
      have HB1 := Lib.hid (bt HI.out.below hb)
      have HSET := Lib.hid hset
      have X2 := Lib.hid x2
      have Y2 := Lib.hid y2
      obtain ⟨cell', hcell'⟩ : ∃ c : Nat, u'.cells.size = c := ⟨_, rfl⟩
      obtain ⟨m, aoU, capU, bU, oU, hU, hsU, hnU, hmU⟩ := hset
      simp only [Value.agg.injEq, Array.mk.injEq, List.cons.injEq, and_true] at hU
      subst hU
      clear hb x2 y2 hcell' hsU hnU hmU
      have HU0 : Hid (∃ m ao cap, u = .slice ao m cap) := by
        obtain ⟨m, ao, cap, b, o, hv, _⟩ := HI.out.set
        simp only [Value.agg.injEq, Array.mk.injEq, List.cons.injEq, and_true] at hv
        exact Lib.hid ⟨m, ao, cap, hv⟩
      go_wp2_with fail
      have HI1 : Hid (OfInv w xs (k + 1) (.slice aoU m capU) (w1.setCell ⟨w.heap.size + 1, 0, none⟩ (.slice aoU m capU))) := by
        have hbel : Below w.heap.size w (w1.setCell ⟨w.heap.size + 1, 0, none⟩ (.slice aoU m capU)) := bs HB1.out (by simp) _
        refine Lib.hid ⟨?_, hbel, ?_, ?_, ?_, ?_⟩
        · exact set_other HSET.out x3 (fun x => by obtain ⟨_, _, _, e⟩ := HU0.out; rw [e]; simp) _
        · simp [go_sem, X2.out]
        · simp [go_sem, Y2.out]
        · simp [go_sem, x3]
        · simp [go_sem, y3]
      go_roundw
      case rel => exact ⟨k + 1, _, by omega, by go_num, HI1⟩
      case measure => simp [intOf]; omega
    · have i2 : ¬ (k : Int) < (n : Int) := by omega
      have hkn : k = n := by omega
      subst hkn
      have c2 := HI.out.c2
      have f2 := HI.out.f2
      have HSET : Hid (SetAt wr (.agg #[u]) (ofN xs)) := by
        have := HI.out.set
        rw [HL.out, List.take_length] at this
        exact Lib.hid this
      have hu : ∃ m ao cap, u = .slice ao m cap := by
        obtain ⟨m, ao, cap, b, o, hv, _⟩ := HSET.out
        simp only [Value.agg.injEq, Array.mk.injEq, List.cons.injEq, and_true] at hv
        exact ⟨m, ao, cap, hv⟩
      obtain ⟨mU, aoU, capU, rfl⟩ := hu
      go_wp2
      have hbel : Below w.heap.size w (wr.setCell ⟨w.heap.size, 0, none⟩ (.slice aoU mU capU)) := bs HI.out.below (by simp) _
      refine bodyPost_ret (v := .agg #[.slice aoU mU capU]) (by simp [results, Try.results9, go_sem, c2]) rfl ⟨_, rfl, set_other HSET.out c2 (fun x => by simp) _, hbel⟩

def u8s (l : List Nat) : List Value := l.map fun (x : Nat) => Value.int .u8 (x : Int)
theorem u8s_len (l : List Nat) : (u8s l).length = l.length := by simp [u8s]
theorem u8s_at {l : List Nat} {i x : Nat} (h : l[i]? = some x) : (u8s l)[i]? = some (.int .u8 (x : Int)) := by simp [u8s, h]
/-- a set's key -/
def keyN (N : Nat) (s : ByteArray) : Prop := ∃ l : List Nat, IsKey N l ∧ s = strOfNums (l.map fun (x : Nat) => (x : Int))
theorem keyN.unique {N : Nat} {s s' : ByteArray} (h : keyN N s) (g : keyN N s') : s = s' := by
  obtain ⟨l, h1, rfl⟩ := h
  obtain ⟨l', h2, rfl⟩ := g
  rw [h1.unique h2]
theorem slat_take {w : World} {n cap b o t : Nat} {cs : List Value} {ao : Option Addr} (h : SlAt w 1 n cs ao cap b o) (ht : t ≤ n) : SlAt w 1 t (cs.take t) ao cap b o :=
  ⟨by have := h.len; rw [List.length_take]; omega, by have := h.le; omega, h.max, fun hp => h.addr (by rw [List.length_take] at hp; omega), fun hp => h.lt (by rw [List.length_take] at hp; omega), fun j u hu => by
    rw [List.getElem?_take] at hu
    split at hu
    · exact h.cell j u hu
    · cases hu⟩
theorem bytesN_take (N k t : Nat) (h : t ≤ k) : (bytesN N k).take t = bytesN N t := by
  unfold bytesN; rw [← List.map_take, List.take_range, Nat.min_eq_left h]
structure KyInv (w : World) (N j : Nat) (v : Value) (wr : World) : Prop where
  own : wr.ownsRow (w.heap.size + 1) 5 1 v j (u8s (bytesN N j))
  below : Below w.heap.size w wr
  ge : w.heap.size + 1 ≤ wr.heap.size
theorem info5b : (Try.prog.info? 5).map (fun i => (i.zero, i.size, i.bytes)) = some (some (.int .u8 0), 1, 1) := by kernel_rfl
theorem size5b : (Try.prog.info? 5).map (·.size) = some 1 := by kernel_rfl
theorem key_any (v : Value) (N : Nat) (w : World) (h : SetAt w v N) :
    Calls Try.prog 11 #[v] w fun e w' => ∃ s, e = .returned (.string s) ∧ keyN N s ∧ Below w.heap.size w w' := by
  obtain ⟨m, ao, cap, b, o, rfl, hs, hneed, hm⟩ := h
  have hidx := hs.idx (P := Try.prog) (t := 25) Try.underlying25 size61 (by decide)
  obtain ⟨j0, hj, jz0, jz1, jz2⟩ := info_parts info5b
  have HS := Lib.hid hs
  have HN := Lib.hid hneed
  clear hs hneed
  go_enter Try.func11, Try.ntmps11
  go_wp2_with fail
  have HI0 : Hid (KyInv w N 0 (.slice none 0 0) (w.alloc (.cells #[.slice ao m cap] 27))) := Lib.hid ⟨World.ownsRow_nil _ _ _ _, ba (bz w) _, by simp⟩
  go_loopw [3, 10] (fun t3 t10 wr => ∃ i : Nat, i ≤ m ∧ t10 = .int .i64 i ∧ Hid (KyInv w N (8 * i) t3 wr)) (fun _ t10 _ => m - (intOf t10).toNat)
  case atStart => exact ⟨0, Nat.zero_le _, rfl, HI0⟩
  case round =>
    obtain ⟨i, hi, rfl, HI⟩ := hrel
    clear HI0
    by_cases hlt : i < m
    · have i1 : (0 : Int) ≤ (i : Int) := by omega
      have i2 : (i : Int) < (m : Int) := by omega
      have g0 := (HS.out.below HI.out.below).cell i _ (u64s_at (words_at N m i hlt))
      obtain ⟨Y, hY⟩ : ∃ Y, Y = wordN N i := ⟨_, rfl⟩
      rw [← hY] at g0
      have HY := Lib.hid hY
      clear hY
      go_wp2_with fail
      go_loopw [3, 14] (fun t3 t14 wr => ∃ k : Nat, k ≤ 8 ∧ t14 = .int .i64 k ∧ Hid (KyInv w N (8 * i + k) t3 wr)) (fun _ t14 _ => 8 - (intOf t14).toNat)
      case atStart => exact ⟨0, Nat.zero_le _, rfl, HI⟩
      case round =>
        obtain ⟨k, hk, rfl, HI2⟩ := hrel
        clear HI
        by_cases hlt2 : k < 8
        · have k2 : (k : Int) < 8 := by omega
          obtain ⟨E, hE⟩ : ∃ E, E = 8 * k := ⟨_, rfl⟩
          have hE1 : (8 : Int) * (k : Int) = (E : Int) := by omega
          have hbyte := byte_word N i k hlt2
          rw [← HY.out, ← hE] at hbyte
          obtain ⟨B, hB⟩ : ∃ B, B = byteN N (8 * i + k) := ⟨_, rfl⟩
          have hBl : B < 256 := by rw [hB]; exact byteN_lt _ _
          rw [← hB] at hbyte
          have hv1 : ((Y : Int) / 2 ^ E) % 256 = (B : Int) := by rw [← hbyte]; simp
          have hv2 : IntKind.u8.wrap ((Y : Int) / 2 ^ E) = (B : Int) := by
            rw [← hv1]; simp only [IntKind.wrap, IntKind.signed, IntKind.bits, Bool.false_and, Bool.false_eq_true, if_false]; rfl
          have HB := Lib.hid hB
          have hE64 : E < 64 := by omega
          clear hE hbyte hB
          go_wp2_with (at_builtin; refine wpList_append_lies _ rfl (.tmp 17) (.tmp 23) 63 rfl (w.heap.size + 1) 5 j0 (.int .u8 0) 1 1 Try.underlying63 hj jz0 jz1 jz2 rfl (by decide) _ _ _ rfl (HI2.out.own.alloc _) ⟨wr.heap.size, 0, none⟩ 1 1 [.int .u8 B] rfl rfl (new_cells _ _ _ _ (by simp)) (by simp [Value.oneCell']) (by decide) (by unfold maxLen; omega) (by omega) (by have := HI2.out.ge; simp; omega) _ rfl ?_)
          intro g cap2 wa hown2 hgrow2 hat hlt3
          have HI3 : Hid (KyInv w N (8 * i + (k + 1)) (.slice (some ⟨g, 0, none⟩) (8 * i + k + 1) cap2) wa) := by
            refine Lib.hid ⟨?_, ?_, ?_⟩
            · rw [← Nat.add_assoc, bytesN_succ]
              have : u8s (bytesN N (8 * i + k) ++ [byteN N (8 * i + k)]) = u8s (bytesN N (8 * i + k)) ++ [.int .u8 (B : Int)] := by simp [u8s, HB.out]
              rw [this]; exact hown2
            · exact ((HI2.out.below.alloc HI2.out.below.size (.cells #[.int .u8 B] 5))).grown hgrow2 (by have := HI2.out.ge; simp; omega) (fun g' e => by have := (HI2.out.own.lt g' e).1; omega)
            · have := hgrow2.size; have := HI2.out.ge; simp at *; omega
          clear hown2 hgrow2 hat hlt3
          go_wp2_with fail
          go_roundw
          case rel => exact ⟨k + 1, by omega, by go_num, HI3⟩
          case measure => simp [intOf]; omega
        · have k2 : ¬ (k : Int) < 8 := by omega
          have hk8 : k = 8 := by omega
          subst hk8
          go_wp2_with fail
          go_roundw
          case rel => exact ⟨i + 1, by omega, by go_num, HI2⟩
          case measure => simp [intOf]; omega
    · have i2 : ¬ (i : Int) < (m : Int) := by omega
      have him : m = i := by omega
      subst him
      have hown := HI.out.own
      obtain ⟨ao2, cap2, b2, hv, hs2, hao⟩ : ∃ ao cap b, u3 = .slice ao (8 * m) cap ∧ SlAt wr 1 (8 * m) (u8s (bytesN N (8 * m))) ao cap b 0 ∧ (ao = none ∨ ao = some ⟨b, 0, none⟩) := by
        obtain ⟨ao, cap, b, o, hv, hs, _⟩ := SlAt.owned hown
        rcases hown.2 with ⟨e, e2⟩ | ⟨g, c, cur, e, r⟩
        · rw [hv] at e
          simp only [Value.slice.injEq] at e
          obtain ⟨rfl, _, rfl⟩ := e
          have hm0 : m = 0 := by omega
          subst hm0
          exact ⟨none, 0, 0, hv, ⟨rfl, Nat.le_refl _, Nat.zero_le _, fun h => absurd h (by simp [u8s, bytesN]), fun h => absurd h (by simp [u8s, bytesN]), fun j u hu => by simp [u8s, bytesN] at hu⟩, .inl rfl⟩
        · rw [hv] at e
          simp only [Value.slice.injEq] at e
          obtain ⟨rfl, _, rfl⟩ := e
          refine ⟨_, cap, g, hv, ⟨hs.len, hs.le, hs.max, fun _ => rfl, fun hp => ?_, fun j u hu => ?_⟩, .inr rfl⟩
          · have := hs.addr hp
            simp only [Option.some.injEq, Addr.mk.injEq] at this
            rw [this.1]; exact hs.lt hp
          · have hp : 0 < (u8s (bytesN N (8 * m))).length := by have := (List.getElem?_eq_some_iff.1 hu).1; omega
            have := hs.addr hp
            simp only [Option.some.injEq, Addr.mk.injEq] at this
            rw [this.1, this.2.1]; exact hs.cell j u hu
      subst hv
      have HS2 := Lib.hid hs2
      have HAO := Lib.hid hao
      have HNL : Hid (N < 2 ^ (8 * (8 * m))) := Lib.hid (by have := HN.out.lt; rwa [show 64 * m = 8 * (8 * m) by omega] at this)
      have HBW := Lib.hid HI.out.below
      clear hown hs2 hao HI
      have hcv : ∀ t, t ≤ 8 * m → (convert 63 9 (.slice ao2 t cap2)).run Try.prog wr = .ok (.string (strOfNums ((bytesN N t).map fun (x : Nat) => (x : Int)))) wr := by
        intro t ht
        rcases HAO.out with e | e
        · rw [e]
          have hz : 8 * m = 0 := by
            by_cases h : 8 * m = 0
            · exact h
            · have := HS2.out.addr (by rw [u8s_len, bytesN_len]; omega)
              rw [e] at this; cases this
          have ht0 : t = 0 := by omega
          subst ht0
          exact run_convert_bytes_nil wr 63 5 Try.underlying63 Try.underlying5 0 _ 9 Try.underlying9
        · rw [e]
          exact run_convert_bytes_arg wr 63 5 Try.underlying63 Try.underlying5 b2 0 t cap2 _ (by simp [bytesN_len]) (fun i hi => by
            have h1 := HS2.out.cell i _ (u8s_at (bytesN_at N (8 * m) i (by omega)))
            rw [h1]
            simp [bytesN, hi]) 9 Try.underlying9
      have HCV := Lib.hid hcv
      clear hcv
      go_wp2_with fail
      go_loop [3] (fun t3 => ∃ t : Nat, t ≤ 8 * m ∧ t3 = .slice ao2 t cap2 ∧ Hid (N < 2 ^ (8 * t))) (fun t3 => match t3 with | .slice _ t _ => t | _ => 0)
      case atStart => exact ⟨8 * m, Nat.le_refl _, rfl, HNL⟩
      case round =>
        obtain ⟨t, ht, rfl, HT⟩ := hrel
        clear HNL
        rcases t with _ | t
        · have hcv0 := HCV.out 0 ht
          obtain ⟨S, hS⟩ : ∃ S, S = strOfNums ((bytesN N 0).map fun (x : Nat) => (x : Int)) := ⟨_, rfl⟩
          rw [← hS] at hcv0
          have HSS := Lib.hid hS
          clear hS
          go_wp2
          go_ret
          exact ⟨S, rfl, ⟨bytesN N 0, ⟨0, rfl, HT.out, .inl rfl⟩, HSS.out⟩, HBW.out⟩
        · have hidxt := (slat_take HS2.out ht).idx (P := Try.prog) (t := 63) Try.underlying63 size5b (by decide)
          have g0 := HS2.out.cell t _ (u8s_at (bytesN_at N (8 * m) t (by omega)))
          rw [Nat.zero_add] at g0
          have hcut := needs_cut HT.out
          have e1 : (((t + 1 : Nat) : Int) - 1) = (t : Int) := by omega
          have e2 : (0 : Int) < ((t + 1 : Nat) : Int) := by omega
          obtain ⟨T1, hT1⟩ : ∃ T, T = t + 1 := ⟨_, rfl⟩
          rw [← hT1] at e1 e2 hidxt ht ⊢
          have e3 : (t : Int) < (T1 : Int) := by omega
          have e4 : (0 : Int) ≤ (t : Int) := by omega
          have e5 : (t : Int) ≤ (T1 : Int) := by omega
          have e6 : (t : Int) ≤ (cap2 : Int) := by have := HS2.out.le; omega
          have HT1 := Lib.hid hT1
          obtain ⟨B, hB⟩ : ∃ B, B = byteN N t := ⟨_, rfl⟩
          rw [← hB] at g0 hcut
          clear hT1 hB
          have HCUT := Lib.hid hcut
          clear hcut
          by_cases hz : B = 0
          · have z1 : ((B : Int) == 0) = true := by rw [hz]; rfl
            have HZ := Lib.hid hz
            clear hz
            go_wp2_with fail
            refine ⟨⟨t, by omega, rfl, Lib.hid (HCUT.out.1 HZ.out)⟩, ?_⟩
            show t < T1
            omega
          · have z1 : ((B : Int) == 0) = false := by simpa using hz
            have hcv1 := HCV.out T1 ht
            obtain ⟨S, hS⟩ : ∃ S, S = strOfNums ((bytesN N T1).map fun (x : Nat) => (x : Int)) := ⟨_, rfl⟩
            rw [← hS] at hcv1
            have HSS := Lib.hid hS
            have HZ := Lib.hid hz
            clear hS hz
            go_wp2
            go_ret
            exact ⟨S, rfl, ⟨bytesN N T1, ⟨T1, rfl, by have := HT.out; rwa [← HT1.out] at this, .inr (by have := HCUT.out.2 HZ.out; rwa [show T1 - 1 = t by have := HT1.out; omega])⟩, HSS.out⟩, HBW.out⟩
end Go.Proofs.Ytfjccgihdnemkaa
