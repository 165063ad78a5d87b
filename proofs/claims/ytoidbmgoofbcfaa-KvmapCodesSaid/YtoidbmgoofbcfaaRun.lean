/- Run. -/
import Derived.Test.YtoidbmgoofbcfaaStep
import Derived.Test.YtoidbmgoofbcfaaRunp
import Derived.Deep.AppendLies
import Derived.Deep.RegionLaw
namespace Go.Proofs.Ytoidbmgoofbcfaa
open Go.RowKit Go.Um
set_option linter.unusedSimpArgs false
set_option linter.unusedVariables false
set_option maxHeartbeats 2000000
set_option maxRecDepth 100000

theorem new_at {w : World} {cs : Array Value} {t : TypeId} {n j : Nat} (hn : n = w.heap.size) {v : Value} (h : cs[j]? = some v) : (w.alloc (.cells cs t)).cell? ⟨n, j, none⟩ = some v := by
  subst hn; rw [World.cell?_alloc_new]; exact h
theorem keep_set {w : World} {b o : Nat} {v : Value} {p : Addr} {u : Value} (h : w.cell? ⟨b, o, none⟩ = some v) (hne : b ≠ p.block) : (w.setCell p u).cell? ⟨b, o, none⟩ = some v :=
  (World.cell?_of_block (w := w) (a := ⟨b, o, none⟩) (Below.heap_setCell _ _ _ _ hne)).trans h
theorem KvAt.grown {W w2 : World} {row : Option Nat} {p : Nat} {s : KV} (h : KvAt W p s) (hg : W.grownBy w2 row) (hne : row ≠ some p) : KvAt w2 p s :=
  have hn : some p ≠ row := fun e => hne e.symm
  ⟨hg.cell (a := ⟨p, 0, none⟩) h.c0 hn, hg.cell (a := ⟨p, 1, none⟩) h.c1 hn, hg.cell (a := ⟨p, 2, none⟩) h.c2 hn, hg.cell (a := ⟨p, 3, none⟩) h.c3 hn, hg.cell (a := ⟨p, 4, none⟩) h.c4 hn, hg.cell (a := ⟨p, 5, none⟩) h.c5 hn, hg.cell (a := ⟨p, 6, none⟩) h.c6 hn, hg.cell (a := ⟨p, 7, none⟩) h.c7 hn, hg.cell (a := ⟨p, 8, none⟩) h.c8 hn, (hg.frozen_far ⟨p, 0, none⟩ h.lt hn).trans h.f0, (hg.frozen_far ⟨p, 1, none⟩ h.lt hn).trans h.f1, (hg.frozen_far ⟨p, 2, none⟩ h.lt hn).trans h.f2, (hg.frozen_far ⟨p, 3, none⟩ h.lt hn).trans h.f3, (hg.frozen_far ⟨p, 4, none⟩ h.lt hn).trans h.f4, (hg.frozen_far ⟨p, 5, none⟩ h.lt hn).trans h.f5, (hg.frozen_far ⟨p, 6, none⟩ h.lt hn).trans h.f6, (hg.frozen_far ⟨p, 7, none⟩ h.lt hn).trans h.f7, (hg.frozen_far ⟨p, 8, none⟩ h.lt hn).trans h.f8⟩
theorem KvAt.set9 {w : World} {p : Nat} {s : KV} (h : KvAt w p s) (t : KV) : KvAt (((((((((w.setCell ⟨p, 0, none⟩ (.int .u8 t.h)).setCell ⟨p, 1, none⟩ (.int .u16 t.v0)).setCell ⟨p, 2, none⟩ (.int .u16 t.v1)).setCell ⟨p, 3, none⟩ (.int .u16 t.v2)).setCell ⟨p, 4, none⟩ (.int .u16 t.v3)).setCell ⟨p, 5, none⟩ (.int .u16 t.v4)).setCell ⟨p, 6, none⟩ (.int .u16 t.v5)).setCell ⟨p, 7, none⟩ (.int .u16 t.v6)).setCell ⟨p, 8, none⟩ (.int .u16 t.v7)) p t := by
  obtain ⟨t0, t1, t2, t3, t4, t5, t6, t7, t8, p0, p1, p2, p3, p4, p5, p6, p7, p8⟩ := h
  exact ⟨by simp [go_sem, t0], by simp [go_sem, t1], by simp [go_sem, t2], by simp [go_sem, t3], by simp [go_sem, t4], by simp [go_sem, t5], by simp [go_sem, t6], by simp [go_sem, t7], by simp [go_sem, t8], by simp [go_sem, p0], by simp [go_sem, p1], by simp [go_sem, p2], by simp [go_sem, p3], by simp [go_sem, p4], by simp [go_sem, p5], by simp [go_sem, p6], by simp [go_sem, p7], by simp [go_sem, p8]⟩
theorem kept9 (w : World) (p : Nat) (t : KV) : Kept (fun i => i = p) w (((((((((w.setCell ⟨p, 0, none⟩ (.int .u8 t.h)).setCell ⟨p, 1, none⟩ (.int .u16 t.v0)).setCell ⟨p, 2, none⟩ (.int .u16 t.v1)).setCell ⟨p, 3, none⟩ (.int .u16 t.v2)).setCell ⟨p, 4, none⟩ (.int .u16 t.v3)).setCell ⟨p, 5, none⟩ (.int .u16 t.v4)).setCell ⟨p, 6, none⟩ (.int .u16 t.v5)).setCell ⟨p, 7, none⟩ (.int .u16 t.v6)).setCell ⟨p, 8, none⟩ (.int .u16 t.v7)) := by
  repeat (first | (with_reducible exact Kept.refl _ _) | (with_reducible refine Kept.setCell (S := fun i => i = p) ?_ (fun _ => rfl) _))
theorem own9 {w : World} {base size n : Nat} {e : TypeId} {v : Value} {xs : List Value} (h : w.ownsRow base e size v n xs) (p : Nat) (hp : v.ownBlock ≠ some p) (t : KV) : World.ownsRow (((((((((w.setCell ⟨p, 0, none⟩ (.int .u8 t.h)).setCell ⟨p, 1, none⟩ (.int .u16 t.v0)).setCell ⟨p, 2, none⟩ (.int .u16 t.v1)).setCell ⟨p, 3, none⟩ (.int .u16 t.v2)).setCell ⟨p, 4, none⟩ (.int .u16 t.v3)).setCell ⟨p, 5, none⟩ (.int .u16 t.v4)).setCell ⟨p, 6, none⟩ (.int .u16 t.v5)).setCell ⟨p, 7, none⟩ (.int .u16 t.v6)).setCell ⟨p, 8, none⟩ (.int .u16 t.v7)) base e size v n xs := by
  repeat (first | (with_reducible exact h) | (with_reducible refine own_setCell ?_ hp _))

/-- at the head of a round of Run -/
structure RInv (w : World) (s : KV) (n : Nat) (out : List Value) (t7 : Value) (wr : World) : Prop where
  at_ : KvAt wr w.heap.size s
  res : KvAt wr (w.heap.size + 1) KV.zero
  own : wr.ownsRow (w.heap.size + 2) 39 2 t7 n out
  bel : Below w.heap.size w wr

/-- what Run leaves -/
def RunPost (s : KV) (l : List Op5) (w : World) (e : Ending) (w' : World) : Prop :=
  ∃ v', e = .returned (.tuple #[(stN s l (stopAt l)).val, v', .int .i64 (errAt l)]) ∧
      w'.ownsRow w.heap.size 39 2 v' (stopAt l) ((outN s l (stopAt l)).flatMap resC) ∧ Below w.heap.size w w'
theorem size44 : (Try.prog.info? 44).map (·.size) = some 5 := by kernel_rfl
theorem info39 : (Try.prog.info? 39).map (fun i => (i.zero, i.size, i.bytes)) = some (some (.agg #[.int .u8 0, .int .u16 0]), 2, 4) := by kernel_rfl

theorem run_any (s : KV) (l : List Op5) (ao : Option Addr) (cap b o : Nat) (w : World) (hs : s.ok) (h : SlAt w 5 l.length (l.flatMap Op5.cells) ao cap b o) (hok : ∀ x ∈ l, x.ok) (hlen : l.length ≤ 200) :
    Calls Try.prog 12 #[s.val, .slice ao l.length cap] w (RunPost s l w) := by
  obtain ⟨i0, hi, iz0, iz1, iz2⟩ := info_parts info39
  have hidx := h.idx (P := Try.prog) (t := 26) Try.underlying26 size44 (by decide)
  have Hok := Lib.hid hok
  have Hs := Lib.hid hs
  have K0 := Lib.hid (KvAt.new w s)
  clear hok hs
  unfold KV.val
  go_enter Try.func12, Try.ntmps12
  go_wp2
  go_loopw [7, 15] (fun t7 t15 wr => ∃ k : Nat, k ≤ l.length ∧ k ≤ stopAt l ∧ t15 = .int .i64 k ∧ RInv w (stN s l k) k ((outN s l k).flatMap resC) t7 wr)
    (fun _ t15 _ => l.length - (intOf t15).toNat)
  case atStart =>
    refine ⟨0, Nat.zero_le _, Nat.zero_le _, rfl, ⟨KvAt.below K0.out (ba (bz _) _), ?_, World.ownsRow_nil _ _ _ _, by repeat (first | exact bz w | apply ba)⟩⟩
    exact cast (by simp [KV.zero, KV.cells]) (KvAt.new (w.alloc (.cells s.cells.toArray 25)) KV.zero)
  case round =>
    obtain ⟨k, hk, hks, rfl, hinv⟩ := hrel
    obtain ⟨st, hst⟩ : ∃ st, st = stN s l k := ⟨_, rfl⟩
    rw [← hst] at hinv
    have Hst := Lib.hid hst
    have hso : st.ok := by rw [hst]; exact stN_ok Hs.out Hok.out k
    have HSO := Lib.hid hso
    obtain ⟨OUT, hout⟩ : ∃ z, z = (outN s l k).flatMap resC := ⟨_, rfl⟩
    rw [← hout] at hinv
    have Hout := Lib.hid hout
    clear hst hso hout
    have hbel := hinv.bel
    have Hi := Lib.hid hinv
    obtain ⟨c0, c1, c2, c3, c4, c5, c6, c7, c8, f0, f1, f2, f3, f4, f5, f6, f7, f8⟩ := hinv.at_
    obtain ⟨d0, d1, d2, d3, d4, d5, d6, d7, d8, e0, e1, e2, e3, e4, e5, e6, e7, e8⟩ := hinv.res
    have z : w.heap.size + 1 < wr.heap.size := hinv.res.lt
    have z0 : w.heap.size < wr.heap.size := by omega
    by_cases hlt : k < l.length
    · have hwr := h.below' hbel h.lt
      obtain ⟨x, hx⟩ : ∃ x, l[k]? = some x := ⟨_, List.getElem?_eq_getElem hlt⟩
      obtain ⟨g0, g1, g2, g3, g4⟩ := op_at hwr hx
      have hxo : x.ok := Hok.out x (List.mem_of_getElem? hx)
      have hS := fun W => Step_any st x W HSO.out hxo
      have Hx := Lib.hid hx
      clear hx hxo hwr
      by_cases hkn : known x = true
      · rw [known_err hkn] at hS
        obtain ⟨st', hst'⟩ : ∃ t, t = (stp st x).1 := ⟨_, rfl⟩
        obtain ⟨A, hA⟩ : ∃ t, t = (stp st x).2.1.1 := ⟨_, rfl⟩
        obtain ⟨B, hB⟩ : ∃ t, t = (stp st x).2.1.2 := ⟨_, rfl⟩
        rw [← hst', ← hA, ← hB] at hS
        have HE : Hid (st' = (stp st x).1 ∧ (A, B) = (stp st x).2.1) := ⟨hst', by rw [hA, hB]⟩
        have HS := Lib.hid hS
        unfold KV.val Go.Um.Op5.val at HS
        have Hkn := Lib.hid hkn
        have hown := hinv.own
        clear hkn hst' hA hB hS hinv
        go_wp2_with fail
        refine (HS.out _).mono ?_
        rintro e w1 ⟨rfl, hb1⟩
        have hB1 := bt (ba (bz wr) _) hb1
        have hown1 := own_past hown hB1
        have hlo := hown.lt
        have hs2 : wr.heap.size < w1.heap.size := by have := hb1.size; simp at this; omega
        have HK1 := Lib.hid (Hi.out.at_.below hB1)
        have HZ1 := Lib.hid (Hi.out.res.below hB1)
        have hn1 : some w1.heap.size ≠ u7.ownBlock := fun e => by have := (hlo _ e.symm).2; omega
        have hn2 : some (w1.heap.size + 1) ≠ u7.ownBlock := fun e => by have := (hlo _ e.symm).2; omega
        have hn3 : u7.ownBlock ≠ some w.heap.size := fun e => by have := (hlo _ e).1; omega
        have hn6 : u7.ownBlock ≠ some (w.heap.size + 1) := fun e => by have := (hlo _ e).1; omega
        have HB1 := Lib.hid hB1
        clear hlo hb1 hB1 hown c0 c1 c2 c3 c4 c5 c6 c7 c8 f0 f1 f2 f3 f4 f5 f6 f7 f8 d0 d1 d2 d3 d4 d5 d6 d7 d8 e0 e1 e2 e3 e4 e5 e6 e7 e8
        go_wp2_with fail
        go_region_held3 (fun w' => w'.cell? ⟨w1.heap.size, 0, none⟩ = some (.int .u8 st'.h) ∧ w'.cell? ⟨w1.heap.size, 1, none⟩ = some (.int .u16 st'.v0) ∧ w'.cell? ⟨w1.heap.size, 2, none⟩ = some (.int .u16 st'.v1) ∧ w'.cell? ⟨w1.heap.size, 3, none⟩ = some (.int .u16 st'.v2) ∧ w'.cell? ⟨w1.heap.size, 4, none⟩ = some (.int .u16 st'.v3) ∧ w'.cell? ⟨w1.heap.size, 5, none⟩ = some (.int .u16 st'.v4) ∧ w'.cell? ⟨w1.heap.size, 6, none⟩ = some (.int .u16 st'.v5) ∧ w'.cell? ⟨w1.heap.size, 7, none⟩ = some (.int .u16 st'.v6) ∧ w'.cell? ⟨w1.heap.size, 8, none⟩ = some (.int .u16 st'.v7) ∧ w'.cell? ⟨w1.heap.size + 1, 0, none⟩ = some (.int .u8 A) ∧ w'.cell? ⟨w1.heap.size + 1, 1, none⟩ = some (.int .u16 B))
          (refine ⟨?_, ?_, ?_, ?_, ?_, ?_, ?_, ?_, ?_, ?_, ?_⟩ <;> (repeat (first | (with_reducible assumption) | ((with_reducible refine new_at ?_ ?_); (focus (first | rfl | (simp; done))); (focus rfl)) | (with_reducible apply keep_alloc) | (with_reducible apply keep_drew) | (with_reducible refine keep_set ?_ ?_) | (intro e; dsimp only at e; omega))))
          ((refine step_append_lies _ rfl (.tmp 32) (.tmp 34) 29 rfl (w.heap.size + 2) 39 i0 (.agg #[.int .u8 0, .int .u16 0]) 2 4 Try.underlying29 hi iz0 iz1 iz2 rfl (by decide) u7 k OUT (by simp [Act.eval, Act.put]) (by repeat (first | (with_reducible exact hown1) | (with_reducible apply World.ownsRow.alloc) | (with_reducible apply World.ownsRow.drew) | (with_reducible apply own_setCell _ hn3))) ⟨w1.heap.size + 1 + 1, 0, none⟩ 1 1 [.int .u8 A, .int .u16 B] (by simp [Act.eval, Act.put]) rfl (new_cells _ _ _ _ (by simp)) (by simp [Value.oneCell']) (by decide) (by unfold maxLen; omega) (by omega) (by simp; omega) (w1.heap.size + 1 + 1 + 1) (by simp) ?_; intro g cap3 w2 hown2 hgrow2 hat hlt2; have s0 : w2.cell? ⟨w1.heap.size, 0, none⟩ = some (.int .u8 st'.h) := hgrow2.cell (a := ⟨w1.heap.size, 0, none⟩) (by (repeat (first | (with_reducible assumption) | ((with_reducible refine new_at ?_ ?_); (focus (first | rfl | (simp; done))); (focus rfl)) | (with_reducible apply keep_alloc) | (with_reducible apply keep_drew) | (with_reducible refine keep_set ?_ ?_) | (intro e; dsimp only at e; omega)))) hn1; have s1 : w2.cell? ⟨w1.heap.size, 1, none⟩ = some (.int .u16 st'.v0) := hgrow2.cell (a := ⟨w1.heap.size, 1, none⟩) (by (repeat (first | (with_reducible assumption) | ((with_reducible refine new_at ?_ ?_); (focus (first | rfl | (simp; done))); (focus rfl)) | (with_reducible apply keep_alloc) | (with_reducible apply keep_drew) | (with_reducible refine keep_set ?_ ?_) | (intro e; dsimp only at e; omega)))) hn1; have s2 : w2.cell? ⟨w1.heap.size, 2, none⟩ = some (.int .u16 st'.v1) := hgrow2.cell (a := ⟨w1.heap.size, 2, none⟩) (by (repeat (first | (with_reducible assumption) | ((with_reducible refine new_at ?_ ?_); (focus (first | rfl | (simp; done))); (focus rfl)) | (with_reducible apply keep_alloc) | (with_reducible apply keep_drew) | (with_reducible refine keep_set ?_ ?_) | (intro e; dsimp only at e; omega)))) hn1; have s3 : w2.cell? ⟨w1.heap.size, 3, none⟩ = some (.int .u16 st'.v2) := hgrow2.cell (a := ⟨w1.heap.size, 3, none⟩) (by (repeat (first | (with_reducible assumption) | ((with_reducible refine new_at ?_ ?_); (focus (first | rfl | (simp; done))); (focus rfl)) | (with_reducible apply keep_alloc) | (with_reducible apply keep_drew) | (with_reducible refine keep_set ?_ ?_) | (intro e; dsimp only at e; omega)))) hn1; have s4 : w2.cell? ⟨w1.heap.size, 4, none⟩ = some (.int .u16 st'.v3) := hgrow2.cell (a := ⟨w1.heap.size, 4, none⟩) (by (repeat (first | (with_reducible assumption) | ((with_reducible refine new_at ?_ ?_); (focus (first | rfl | (simp; done))); (focus rfl)) | (with_reducible apply keep_alloc) | (with_reducible apply keep_drew) | (with_reducible refine keep_set ?_ ?_) | (intro e; dsimp only at e; omega)))) hn1; have s5 : w2.cell? ⟨w1.heap.size, 5, none⟩ = some (.int .u16 st'.v4) := hgrow2.cell (a := ⟨w1.heap.size, 5, none⟩) (by (repeat (first | (with_reducible assumption) | ((with_reducible refine new_at ?_ ?_); (focus (first | rfl | (simp; done))); (focus rfl)) | (with_reducible apply keep_alloc) | (with_reducible apply keep_drew) | (with_reducible refine keep_set ?_ ?_) | (intro e; dsimp only at e; omega)))) hn1; have s6 : w2.cell? ⟨w1.heap.size, 6, none⟩ = some (.int .u16 st'.v5) := hgrow2.cell (a := ⟨w1.heap.size, 6, none⟩) (by (repeat (first | (with_reducible assumption) | ((with_reducible refine new_at ?_ ?_); (focus (first | rfl | (simp; done))); (focus rfl)) | (with_reducible apply keep_alloc) | (with_reducible apply keep_drew) | (with_reducible refine keep_set ?_ ?_) | (intro e; dsimp only at e; omega)))) hn1; have s7 : w2.cell? ⟨w1.heap.size, 7, none⟩ = some (.int .u16 st'.v6) := hgrow2.cell (a := ⟨w1.heap.size, 7, none⟩) (by (repeat (first | (with_reducible assumption) | ((with_reducible refine new_at ?_ ?_); (focus (first | rfl | (simp; done))); (focus rfl)) | (with_reducible apply keep_alloc) | (with_reducible apply keep_drew) | (with_reducible refine keep_set ?_ ?_) | (intro e; dsimp only at e; omega)))) hn1; have s8 : w2.cell? ⟨w1.heap.size, 8, none⟩ = some (.int .u16 st'.v7) := hgrow2.cell (a := ⟨w1.heap.size, 8, none⟩) (by (repeat (first | (with_reducible assumption) | ((with_reducible refine new_at ?_ ?_); (focus (first | rfl | (simp; done))); (focus rfl)) | (with_reducible apply keep_alloc) | (with_reducible apply keep_drew) | (with_reducible refine keep_set ?_ ?_) | (intro e; dsimp only at e; omega)))) hn1; have r0 : w2.cell? ⟨w1.heap.size + 1, 0, none⟩ = some (.int .u8 A) := hgrow2.cell (a := ⟨w1.heap.size + 1, 0, none⟩) (by (repeat (first | (with_reducible assumption) | ((with_reducible refine new_at ?_ ?_); (focus (first | rfl | (simp; done))); (focus rfl)) | (with_reducible apply keep_alloc) | (with_reducible apply keep_drew) | (with_reducible refine keep_set ?_ ?_) | (intro e; dsimp only at e; omega)))) hn2; have r1 : w2.cell? ⟨w1.heap.size + 1, 1, none⟩ = some (.int .u16 B) := hgrow2.cell (a := ⟨w1.heap.size + 1, 1, none⟩) (by (repeat (first | (with_reducible assumption) | ((with_reducible refine new_at ?_ ?_); (focus (first | rfl | (simp; done))); (focus rfl)) | (with_reducible apply keep_alloc) | (with_reducible apply keep_drew) | (with_reducible refine keep_set ?_ ?_) | (intro e; dsimp only at e; omega)))) hn2; have K2 : Hid (KvAt w2 w.heap.size st) := Lib.hid (KvAt.grown (HK1.out.below (by repeat (first | (with_reducible exact bz w1) | (with_reducible apply ba) | (with_reducible apply Below.drew)))) hgrow2 hn3); have Z2 : Hid (KvAt w2 (w.heap.size + 1) KV.zero) := Lib.hid (KvAt.grown (HZ1.out.below (by repeat (first | (with_reducible exact bz w1) | (with_reducible apply ba) | (with_reducible apply Below.drew)))) hgrow2 hn6); obtain ⟨t0, t1, t2, t3, t4, t5, t6, t7, t8, p0, p1, p2, p3, p4, p5, p6, p7, p8⟩ := K2.out; have hz2 : w1.heap.size + 1 < w2.heap.size := (by have := hgrow2.size; simp at this; omega); have Hg := Lib.hid hgrow2; have Ho := Lib.hid hown2; have Ha := Lib.hid hat; clear hgrow2 hown2 hat))
        all_goals go_wp2_with fail
        have HBW : Hid (Below w.heap.size w w2) := Lib.hid ((hbel.trans ((ba (ba (ba HB1.out _) _) _).drew.mono hbel.size)).grown Hg.out (by have := hbel.size; simp; omega) (fun k hk => by have := (Hi.out.own.lt k hk).1; omega))
        have hgl := (Ho.out.lt g rfl).1
        have hR : RInv w st' (k + 1) (OUT ++ [.int .u8 A, .int .u16 B]) (.slice (some ⟨g, 0, none⟩) (k + 1) cap3) _ := ⟨KvAt.set9 K2.out st', Z2.out.kept (kept9 w2 w.heap.size st') (by omega), own9 Ho.out w.heap.size (by simp [Value.ownBlock]; omega) st', by repeat (first | (with_reducible exact HBW.out) | (with_reducible refine bs ?_ (by first | (simp; done) | (simp; omega)) _) | (with_reducible apply Below.drew) | (with_reducible refine ba ?_ _))⟩
        have HR := Lib.hid hR
        clear hR
        go_roundw
        case rel =>
          refine ⟨k + 1, by omega, stopAt_lt Hx.out hks Hkn.out, by go_num, ?_⟩
          rw [stN_succ Hx.out, outN_succ Hx.out, ← Hst.out, List.flatMap_append, ← Hout.out, ← HE.out.1, ← HE.out.2]
          exact HR.out
        case measure => simp [intOf]; omega
      · have hkn' : known x = false := by simpa using hkn
        rw [foreign hkn'] at hS
        have HS := Lib.hid hS
        unfold KV.val Go.Um.Op5.val at HS
        have Hkn := Lib.hid hkn'
        clear hkn hkn' hS hinv
        go_wp2_with fail
        refine (HS.out _).mono ?_
        rintro e w1 ⟨rfl, hb1⟩
        have hB1 := bt (ba (bz wr) _) hb1
        have HB1 := Lib.hid hB1
        have hz1 : w.heap.size + 1 < w1.heap.size := by have := hB1.size; omega
        have hz0 : w.heap.size < w1.heap.size := by omega
        have HK1 := Hi.out.at_.below hB1
        have HZ1 := Hi.out.res.below hB1
        clear hb1 hB1 c0 c1 c2 c3 c4 c5 c6 c7 c8 f0 f1 f2 f3 f4 f5 f6 f7 f8 d0 d1 d2 d3 d4 d5 d6 d7 d8 e0 e1 e2 e3 e4 e5 e6 e7 e8
        obtain ⟨c0, c1, c2, c3, c4, c5, c6, c7, c8, f0, f1, f2, f3, f4, f5, f6, f7, f8⟩ := HK1
        obtain ⟨d0, d1, d2, d3, d4, d5, d6, d7, d8, e0, e1, e2, e3, e4, e5, e6, e7, e8⟩ := HZ1
        go_wp2
        have hst' : stopAt l = k := stopAt_eq Hx.out hks Hkn.out
        have e0' : errAt l = 10 := by rw [errAt, hst', if_neg (by omega)]
        have hlo := Hi.out.own.lt
        have HBW : Hid (Below w.heap.size w w1) := Lib.hid (hbel.trans (HB1.out.mono hbel.size))
        have HOW : Hid (w1.ownsRow (w.heap.size + 2) 39 2 u7 k OUT) := Lib.hid (own_past Hi.out.own HB1.out)
        refine bodyPost_ret (by simp [results, Try.results12, go_sem, d0, d1, d2, d3, d4, d5, d6, d7, d8, hz1, hz0] <;> rfl) rfl ⟨u7, ?_, ?_, ?_⟩
        · rw [e0', hst', ← Hst.out]; rfl
        · rw [hst', ← Hout.out]
          refine own_base (base := w.heap.size + 2) ?_ (by omega)
          repeat (first | (with_reducible exact HOW.out) | (with_reducible apply World.ownsRow.alloc) | (with_reducible apply World.ownsRow.drew) | (with_reducible refine own_setCell ?_ (fun e => by have := (hlo _ e).1; dsimp only at this; omega) _))
        · repeat (first | (with_reducible exact HBW.out) | (with_reducible refine bs ?_ (by first | (simp; done) | (simp; omega)) _) | (with_reducible apply Below.drew) | (with_reducible refine ba ?_ _))
    · have hk' : l.length = k := by omega
      have hst' : stopAt l = k := by have := stopAt_le l; omega
      have HKk := Lib.hid hk'
      have Hst' := Lib.hid hst'
      clear hk' hst' hinv
      go_wp2
      have e0' : errAt l = 0 := by rw [errAt, Hst'.out, if_pos HKk.out.symm]
      have hlo := Hi.out.own.lt
      have HBW : Hid (Below w.heap.size w wr) := Lib.hid hbel
      refine bodyPost_ret (by simp [results, Try.results12, go_sem, d0, d1, d2, d3, d4, d5, d6, d7, d8, z, z0] <;> rfl) rfl ⟨u7, ?_, ?_, ?_⟩
      · rw [e0', Hst'.out, ← Hst.out]; rfl
      · rw [Hst'.out, ← Hout.out]
        refine own_base (base := w.heap.size + 2) ?_ (by omega)
        repeat (first | (with_reducible exact Hi.out.own) | (with_reducible apply World.ownsRow.alloc) | (with_reducible apply World.ownsRow.drew) | (with_reducible refine own_setCell ?_ (fun e => by have := (hlo _ e).1; dsimp only at this; omega) _))
      · repeat (first | (with_reducible exact HBW.out) | (with_reducible refine bs ?_ (by first | (simp; done) | (simp; omega)) _) | (with_reducible apply Below.drew) | (with_reducible refine ba ?_ _))
end Go.Proofs.Ytoidbmgoofbcfaa
