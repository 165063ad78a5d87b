/- What is written of any things is the document's (CodecWrites, f3). -/
import Derived.Test.YtehnkljaoaehjaaPuts
import Derived.Test.YtehnkljaoaehjaaAwake
namespace Go.Proofs.Ytehnkljaoaehjaa
open Go.RowKit Go.Um
set_option linter.unusedSimpArgs false
set_option linter.unusedVariables false
set_option maxHeartbeats 4000000
set_option maxRecDepth 100000

/-- at the head of a round -/
structure WsInv (w : World) (p : Nat) (v : Value) (bs : List Int) (er : Int) (i : Nat) (wr : World) : Prop where
  a : WrAt wr p (p + 1) v bs er
  err : er = 0 ∨ er = 3
  len : bs.length ≤ 905 * i
  below : Below w.heap.size w wr
theorem thing_below {w w' : World} {x : Thing2} (h : x.ok w) (hb : Below w.heap.size w w') : x.ok w' := ⟨h.kind, h.n, h.l.below hb, h.u⟩
theorem wbytes_size (bs : List Int) (er : Int) : (wbytes bs er).size ≤ bs.length := by
  unfold wbytes; split
  · rw [strOfNums_size]; exact Nat.le_refl _
  · exact Nat.zero_le _

theorem writes_any (l : List Thing2) (n : Nat) (hn : n = l.length) (ao : Option Addr) (cap b o : Nat) (w : World) (hsl : SlAt w 4 n (l.flatMap Thing2.cells) ao cap b o) (hx : ∀ x ∈ l, x.ok w) :
    Calls Try.prog 3 #[.slice ao n cap] w fun e w' => e = .returned (.bool true) ∧ Below w.heap.size w w' := by
  have hidx := hsl.idx (P := Try.prog) (t := 22) (e := 37) (by kernel_rfl) size37 (by decide)
  have HL := Lib.hid hn
  have HS := Lib.hid hsl
  have HX := Lib.hid hx
  clear hn hsl hx
  go_enter Try.func3, Try.ntmps3
  go_wp2_with fail
  refine (few_any l n HL.out ao cap b o _ HS.out).mono ?_
  rintro e w0 ⟨B, rfl, hb0, hB⟩
  have HB0 := Lib.hid hb0
  have HFew := Lib.hid hB
  clear hb0 hB
  cases B
  · go_wp2_with fail
    refine (awake_any _).mono ?_
    rintro e w1 ⟨rfl, hb1⟩
    go_wp2
    go_ret
    exact ⟨rfl, bt HB0.out hb1⟩
  · have h50 : n ≤ 50 := by rw [HL.out]; exact (HFew.out (by first | rfl | trivial)).1
    go_wp2_with fail
    have HI0 : Hid (WsInv w w0.heap.size (.slice none 0 0) [] 0 0 (w0.alloc (.cells #[.int .i64 0, .slice none 0 0] 31))) := Lib.hid ⟨WrAt.new w0 _, .inl rfl, by simp, ba HB0.out _⟩
    have HQ := Lib.hid (HB0.out.size)
    obtain ⟨p, hp⟩ : ∃ p, p = w0.heap.size := ⟨_, rfl⟩
    have HP : Hid (w.heap.size ≤ p) := Lib.hid (by rw [hp]; exact HQ.out)
    rw [← hp] at HI0 ⊢
    obtain ⟨Y, hY⟩ : ∃ Y, Y = w0.alloc (.cells #[.int .i64 0, .slice none 0 0] 31) := ⟨_, rfl⟩
    rw [← hY] at HI0 ⊢
    clear hY hp HQ HB0
    go_loopw [4, 5, 6] (fun t4 t5 t6 wr => ∃ (i : Nat) (v : Value) (bs : List Int) (er : Int), i ≤ n ∧ t6 = .int .i64 i ∧ t5 = .int .i64 er ∧ t4 = .string (wbytes bs er) ∧ Hid (WsInv w p v bs er i wr)) (fun _ _ t6 _ => n - (intOf t6).toNat)
    case atStart => exact ⟨0, .slice none 0 0, [], 0, Nat.zero_le _, rfl, rfl, rfl, HI0⟩
    case round =>
      obtain ⟨i, v, bs, er, hi, rfl, rfl, rfl, hI⟩ := hrel
      clear HI0
      by_cases hlt : i < n
      · have i1 : (0 : Int) ≤ (i : Int) := by omega
        have i2 : (i : Int) < (n : Int) := by omega
        have hkl : i < l.length := by rw [← HL.out]; exact hlt
        obtain ⟨x, hxk⟩ : ∃ x, l[i]? = some x := ⟨_, List.getElem?_eq_getElem hkl⟩
        have SB := HS.out.below hI.out.below
        have g0 := SB.cell (i * 4 + 0) (.int .u8 x.kind) (by rw [cell_of Thing2.four l i x hxk 0 (by decide)]; rfl)
        have g1 := SB.cell (i * 4 + 1) (.int .u32 x.n) (by rw [cell_of Thing2.four l i x hxk 1 (by decide)]; rfl)
        have g2 := SB.cell (i * 4 + 2) (.string x.s) (by rw [cell_of Thing2.four l i x hxk 2 (by decide)]; rfl)
        have g3 := SB.cell (i * 4 + 3) (.slice x.ao x.l.length x.cap) (by rw [cell_of Thing2.four l i x hxk 3 (by decide)]; rfl)
        rw [Nat.add_zero] at g0
        rw [← Nat.add_assoc] at g1 g2 g3
        have hfew := HFew.out (by first | rfl | trivial)
        have hsm := hfew.2 i x hxk
        have hok := HX.out x (List.mem_of_getElem? hxk)
        have hlen := hI.out.len
        have HI := Lib.hid hI.out
        have HBB : Hid (0 < x.l.length → x.b ≠ p ∧ v.ownBlock ≠ some x.b) := Lib.hid (fun e => by
          have h1 := hok.l.lt (by simpa using e)
          have h2 := HP.out
          exact ⟨by omega, fun e2 => by have := (HI.out.a.own.lt _ e2).1; omega⟩)
        have hpw : p + 1 ≤ wr.heap.size := HI.out.a.lt
        have HC : Hid (Calls Try.prog 9 #[.pointer (some ⟨p, 0, none⟩), .agg #[.int .u8 x.kind, .int .u32 x.n, .string x.s, .slice x.ao x.l.length x.cap]] wr (PutsPost p (p + 1) v bs er wr)) :=
          Lib.hid (puts_any p (p + 1) v bs er x wr HI.out.a HI.out.err (thing_below hok HI.out.below) hsm.1 hsm.2 HBB.out (by omega) hpw (by omega))
        have hXs := wbytes_size bs er
        have hsX : ((wbytes bs er).size : Int) ≤ 8388608 := by omega
        have HLen : Hid (bs.length ≤ 905 * i) := Lib.hid hlen
        have HErr := Lib.hid HI.out.err
        have HB := Lib.hid HI.out.below
        have HPQ : Hid (∀ g, v.ownBlock = some g → p < g) := Lib.hid (fun g e => by have := (HI.out.a.own.lt _ e).1; omega)
        clear SB hxk hkl hfew hsm hok hlen hI HI HBB hXs
        obtain ⟨X, hX⟩ : ∃ X, X = wbytes bs er := ⟨_, rfl⟩
        rw [← hX] at hsX ⊢
        have HXE := Lib.hid hX
        clear hX
        go_wp2_with fail
        refine HC.out.mono ?_
        rintro e w1 ⟨v', bs', er', S, E, hrel, rfl, hw1, hk1⟩
        have HI1 : Hid (WsInv w p v' bs' er' (i + 1) w1) := Lib.hid ⟨hw1, hrel.err, by have := hrel.len; have := HLen.out; omega, HB.out.trans (hk1.below (fun k hk _ e => by have := HP.out; rcases e with e | e; (· omega); (· have := HPQ.out k e; omega)) HB.out.size)⟩
        have HBY : Hid (Calls Try.prog 10 #[.pointer (some ⟨p, 0, none⟩)] w1 fun e w' => e = .returned (.tuple #[.string (wbytes bs' er'), .int .i64 er']) ∧ ∃ n, w' = w1.drewN n) := Lib.hid (bytes_any p (p + 1) v' bs' er' w1 hw1)
        have hsS : (S.size : Int) ≤ 8388608 := by have := hrel.size; omega
        have HR := Lib.hid hrel
        clear hw1 hk1 hrel HC
        have hdone : ∀ m, Hid (WsInv w p v' bs' er' (i + 1) (w1.drewN m)) := fun m => Lib.hid ⟨HI1.out.a.below (below_drewN (bz _) _), HI1.out.err, HI1.out.len, below_drewN HI1.out.below m⟩
        rcases HErr.out with he | he
        · subst he
          obtain ⟨hE, hcat⟩ := HR.out.new rfl
          rcases HR.out.err with he' | he'
          · subst he'
            subst hE
            have hT : X ++ S = wbytes bs' 0 := by rw [HXE.out]; unfold wbytes; rw [if_pos rfl, if_pos rfl]; exact hcat rfl
            obtain ⟨T, hT2⟩ : ∃ T, T = wbytes bs' 0 := ⟨_, rfl⟩
            rw [← hT2] at hT HBY
            clear hcat
            have HT2 := Lib.hid hT2
            clear hT2
            go_wp2_with fail
            refine HBY.out.mono ?_
            rintro e w2 ⟨rfl, m, rfl⟩
            go_wp2_with fail
            go_roundw
            case rel => exact ⟨i + 1, v', bs', 0, by omega, by go_num, rfl, by rw [HT2.out], hdone m⟩
            case measure => simp [intOf]; omega
          · subst he'
            subst hE
            have hT : wbytes bs' 3 = ⟨#[]⟩ := rfl
            rw [hT] at HBY
            clear hcat hT
            go_wp2_with fail
            refine HBY.out.mono ?_
            rintro e w2 ⟨rfl, m, rfl⟩
            go_wp2_with fail
            go_roundw
            case rel => exact ⟨i + 1, v', bs', 3, by omega, by go_num, rfl, rfl, hdone m⟩
            case measure => simp [intOf]; omega
        · subst he
          have hold := HR.out.old (by decide)
          subst hold
          have hT : wbytes bs' 3 = ⟨#[]⟩ := rfl
          rw [hT] at HBY
          clear hT
          go_wp2_with fail
          refine HBY.out.mono ?_
          rintro e w2 ⟨rfl, m, rfl⟩
          go_wp2_with fail
          go_roundw
          case rel => exact ⟨i + 1, v', bs', 3, by omega, by go_num, rfl, rfl, hdone m⟩
          case measure => simp [intOf]; omega
      · have i2 : ¬ (i : Int) < (n : Int) := by omega
        go_wp2_with fail
        refine (awake_any _).mono ?_
        rintro e w1 ⟨rfl, hb1⟩
        go_wp2
        go_ret
        exact ⟨rfl, bt hI.out.below hb1⟩
end Go.Proofs.Ytehnkljaoaehjaa
