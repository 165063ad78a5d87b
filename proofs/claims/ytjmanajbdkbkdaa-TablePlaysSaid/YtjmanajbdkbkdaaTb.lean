/- The table: rows, the state, and the small contracts. -/
import Derived.Test.YtjmanajbdkbkdaaProg
import Derived.Test.YtjmanajbdkbkdaaGena
import Derived.Test.YtjmanajbdkbkdaaOpenl
import Derived.Test.YtjmanajbdkbkdaaTake
import Derived.WalkKit
import Derived.Deep.RegionHeld3
import Derived.Deep.RegionLaw
import Derived.Deep.AppendLies
namespace Go.Proofs.Ytjmanajbdkbkdaa
open Go.RowKit Go.Um
set_option linter.unusedSimpArgs false
set_option linter.unusedVariables false
set_option maxHeartbeats 4000000
set_option maxRecDepth 100000
/-- a row -/
structure Rw where
  cl : Int
  id : Int
  f : Int
  ob : Int
  ke : Int
  a : Int
  b : Int
  k : Int
  v : Int
  st : Int
  fr : Int
  to : Int
deriving DecidableEq
def Rw.cells (x : Rw) : List Value := [.int .u8 x.cl, .int .u16 x.id, .int .u8 x.f, .int .u8 x.ob, .int .u8 x.ke, .int .u16 x.a, .int .u16 x.b, .int .u8 x.k, .int .u16 x.v, .int .u8 x.st, .int .i64 x.fr, .int .i64 x.to]
def Rw.val (x : Rw) : Value := .agg #[.int .u8 x.cl, .int .u16 x.id, .int .u8 x.f, .int .u8 x.ob, .int .u8 x.ke, .int .u16 x.a, .int .u16 x.b, .int .u8 x.k, .int .u16 x.v, .int .u8 x.st, .int .i64 x.fr, .int .i64 x.to]
theorem Rw.twelve (x : Rw) : x.cells.length = 12 := rfl
theorem Rw.one (x : Rw) : ∀ u ∈ x.cells, u.oneCell' = true := by
  intro u hu
  simp [Rw.cells] at hu
  rcases hu with rfl | rfl | rfl | rfl | rfl | rfl | rfl | rfl | rfl | rfl | rfl | rfl <;> rfl
def Rw.zero : Rw := ⟨0, 0, 0, 0, 0, 0, 0, 0, 0, 0, 0, 0⟩
theorem size41 : (Try.prog.info? 41).map (·.size) = some 12 := by kernel_rfl
theorem info41 : (Try.prog.info? 41).map (fun i => (i.zero, i.size, i.bytes)) = some (some Rw.zero.val, 12, 40) := by kernel_rfl

theorem kept_new {a b c : World} {S : Nat → Prop} (h : Below a.heap.size a b) (k : Kept S b c) (hS : ∀ i, i < a.heap.size → ¬ S i) : Below a.heap.size a c :=
  h.trans (k.below (fun i hi _ => hS i hi) h.size)
theorem cell_past {w W : World} (hb : Below w.heap.size w W) {a : Addr} {u : Value} (h : w.cell? a = some u) : W.cell? a = some u := by
  rw [hb.cell (World.block_lt_of_cell? w _ h)]; exact h
theorem keep_alloc {w : World} {a : Addr} {v : Value} (h : w.cell? a = some v) (o : Obj) : (w.alloc o).cell? a = some v := cell_past (ba (bz w) o) h
theorem keep_drew {w : World} {a : Addr} {v : Value} (h : w.cell? a = some v) : w.drew.cell? a = some v := h
theorem keep_set {w : World} {b o : Nat} {v : Value} {p : Addr} {u : Value} (h : w.cell? ⟨b, o, none⟩ = some v) (hne : b ≠ p.block) : (w.setCell p u).cell? ⟨b, o, none⟩ = some v :=
  (World.cell?_of_block (w := w) (a := ⟨b, o, none⟩) (Below.heap_setCell _ _ _ _ hne)).trans h
theorem own_lt {w : World} {base size n g : Nat} {e : TypeId} {v : Value} {xs : List Value} (h : w.ownsRow base e size v n xs) (hg : v.ownBlock = some g) : base ≤ g ∧ g < w.heap.size := by
  rcases h.2 with ⟨rfl, _⟩ | ⟨g', cap, cur, rfl, hb, hh, _⟩
  · simp [Value.ownBlock] at hg
  · simp only [Value.ownBlock, Option.some.injEq] at hg
    subst hg
    exact ⟨hb, (Array.getElem?_eq_some_iff.1 hh).1⟩
theorem slat_kept {S : Nat → Prop} {w w' : World} {size n cap b o : Nat} {cs : List Value} {ao : Option Addr} (h : SlAt w size n cs ao cap b o) (hk : Kept S w w') (hS : 0 < cs.length → ¬ S b) : SlAt w' size n cs ao cap b o :=
  ⟨h.len, h.le, h.max, h.addr, fun hp => Nat.lt_of_lt_of_le (h.lt hp) hk.size, fun j u hu => by
    have hp : 0 < cs.length := by have := (List.getElem?_eq_some_iff.1 hu).1; omega
    exact hk.cell (h.cell j u hu) (hS hp)⟩
/-- the twelve cells of a row -/
structure RowC (w : World) (b o : Nat) (x : Rw) : Prop where
  c0 : w.cell? ⟨b, o, none⟩ = some (.int .u8 x.cl)
  c1 : w.cell? ⟨b, o + 1, none⟩ = some (.int .u16 x.id)
  c2 : w.cell? ⟨b, o + 2, none⟩ = some (.int .u8 x.f)
  c3 : w.cell? ⟨b, o + 3, none⟩ = some (.int .u8 x.ob)
  c4 : w.cell? ⟨b, o + 4, none⟩ = some (.int .u8 x.ke)
  c5 : w.cell? ⟨b, o + 5, none⟩ = some (.int .u16 x.a)
  c6 : w.cell? ⟨b, o + 6, none⟩ = some (.int .u16 x.b)
  c7 : w.cell? ⟨b, o + 7, none⟩ = some (.int .u8 x.k)
  c8 : w.cell? ⟨b, o + 8, none⟩ = some (.int .u16 x.v)
  c9 : w.cell? ⟨b, o + 9, none⟩ = some (.int .u8 x.st)
  c10 : w.cell? ⟨b, o + 10, none⟩ = some (.int .i64 x.fr)
  c11 : w.cell? ⟨b, o + 11, none⟩ = some (.int .i64 x.to)
theorem row_at {w : World} {l : List Rw} {ao : Option Addr} {n cap b o k : Nat} {x : Rw} (h : SlAt w 12 n (l.flatMap Rw.cells) ao cap b o) (hx : l[k]? = some x) : RowC w b (o + k * 12) x := by
  have g := fun j (hj : j < 12) u (hu : x.cells[j]? = some u) => h.cell (k * 12 + j) u ((cell_of Rw.twelve l k x hx j hj).trans hu)
  exact ⟨g 0 (by omega) _ rfl, g 1 (by omega) _ rfl, g 2 (by omega) _ rfl, g 3 (by omega) _ rfl, g 4 (by omega) _ rfl, g 5 (by omega) _ rfl, g 6 (by omega) _ rfl, g 7 (by omega) _ rfl, g 8 (by omega) _ rfl, g 9 (by omega) _ rfl, g 10 (by omega) _ rfl, g 11 (by omega) _ rfl⟩
/-- the first row that has an ID, or below 0 -/
def ixF (L : List Rw) (id : Int) : Int := match L.findIdx? (fun x => x.id == id) with | some i => (i : Int) | none => -1
theorem where1_any (x : Rw) (B : Nat) (id : Int) (w : World) (h : w.cell? ⟨B, 0, none⟩ = some (.int .u16 id)) :
    Calls Try.prog 44 #[x.val, .pointer (some ⟨B, 0, none⟩)] w fun e w' => e = .returned (.bool (x.id == id)) ∧ Below w.heap.size w w' := by
  have hB := World.block_lt_of_cell? w _ h
  unfold Rw.val
  go_enter Try.func44, Try.ntmps44
  go_wp2
  go_ret
  exact ⟨rfl, ba (bz w) _⟩
/-! ### the table -/
structure TabAt (base : Nat) (w : World) (p : Nat) (v : Value) (L : List Rw) (nx : Int) : Prop where
  c0 : w.cell? ⟨p, 0, none⟩ = some v
  f0 : w.frozen? ⟨p, 0, none⟩ = false
  c1 : w.cell? ⟨p, 1, none⟩ = some (.int .i64 nx)
  f1 : w.frozen? ⟨p, 1, none⟩ = false
  c2 : w.cell? ⟨p, 2, none⟩ = some (.bool true)
  own : w.ownsRow base 41 12 v L.length (L.flatMap Rw.cells)
  ne : v.ownBlock ≠ some p
theorem TabAt.lt {base : Nat} {w : World} {p : Nat} {v : Value} {L : List Rw} {nx : Int} (h : TabAt base w p v L nx) : p < w.heap.size := World.block_lt_of_cell? w _ h.c0
theorem TabAt.below {base : Nat} {w W : World} {p : Nat} {v : Value} {L : List Rw} {nx : Int} (h : TabAt base w p v L nx) (hb : Below w.heap.size w W) : TabAt base W p v L nx :=
  ⟨kc hb _ _ _ h.c0, kf hb _ _ h.lt h.f0, kc hb _ _ _ h.c1, kf hb _ _ h.lt h.f1, kc hb _ _ _ h.c2, own_past h.own hb, h.ne⟩
theorem is_tab {base : Nat} {w : World} {p : Nat} {v : Value} {L : List Rw} {nx : Int} (h : TabAt base w p v L nx) : Calls Try.prog 33 #[.pointer (some ⟨p, 0, none⟩)] w fun e w' => e = .returned (.bool true) ∧ w = w' := by
  have c2 := h.c2
  go_enter Try.func33, Try.ntmps33
  go_wp2
  go_ret
  exact ⟨rfl, rfl⟩
/-- why something can't happen then -/
def moE (nx a : Int) : Int := if a < nx ∨ 2305843009213693952 < a then 2 else 0
theorem moment_any {base : Nat} {w : World} {p : Nat} {v : Value} {L : List Rw} {nx : Int} (a : Int) (h : TabAt base w p v L nx) :
    Calls Try.prog 31 #[.pointer (some ⟨p, 0, none⟩), .int .i64 a] w fun e w' => e = .returned (.int .i64 (moE nx a)) ∧ w = w' := by
  have HI := Lib.hid (is_tab h)
  have c1 := h.c1
  clear h
  by_cases h1 : a < nx
  · have d1 : decide (a < nx) = true := decide_eq_true h1
    rw [show moE nx a = 2 from if_pos (.inl h1)]
    go_enter Try.func31, Try.ntmps31
    go_wp2_with fail
    refine HI.out.mono ?_
    rintro e w1 ⟨rfl, rfl⟩
    go_wp2
    go_ret
    exact ⟨rfl, rfl⟩
  · have d1 : decide (a < nx) = false := decide_eq_false h1
    by_cases h2 : 2305843009213693952 < a
    · have d2 : decide (2305843009213693952 < a) = true := decide_eq_true h2
      rw [show moE nx a = 2 from if_pos (.inr h2)]
      go_enter Try.func31, Try.ntmps31
      go_wp2_with fail
      refine HI.out.mono ?_
      rintro e w1 ⟨rfl, rfl⟩
      go_wp2
      go_ret
      exact ⟨rfl, rfl⟩
    · have d2 : decide (2305843009213693952 < a) = false := decide_eq_false h2
      rw [show moE nx a = 0 from if_neg (by omega)]
      go_enter Try.func31, Try.ntmps31
      go_wp2_with fail
      refine HI.out.mono ?_
      rintro e w1 ⟨rfl, rfl⟩
      go_wp2
      go_ret
      exact ⟨rfl, rfl⟩
end Go.Proofs.Ytjmanajbdkbkdaa
