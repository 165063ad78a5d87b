/- The table: IndexFunc, where. -/
import Derived.Test.YtjmanajbdkbkdaaTb
namespace Go.Proofs.Ytjmanajbdkbkdaa
open Go.RowKit Go.Um
set_option linter.unusedSimpArgs false
set_option linter.unusedVariables false
set_option maxHeartbeats 4000000
set_option maxRecDepth 100000
theorem take_snoc {α : Type} {l : List α} {i : Nat} {x : α} (h : l[i]? = some x) : l.take (i + 1) = l.take i ++ [x] := by
  rw [List.take_add_one, h]; rfl
theorem ixF_hit {L : List Rw} {id : Int} {i : Nat} {x : Rw} (hx : L[i]? = some x) (he : x.id = id) (hn : ∀ y ∈ L.take i, y.id ≠ id) : ixF L id = (i : Int) := by
  have : L.findIdx? (fun x => x.id == id) = some i := by
    obtain ⟨hi, e⟩ := List.getElem?_eq_some_iff.1 hx
    rw [List.findIdx?_eq_some_iff_getElem]
    refine ⟨hi, by rw [e]; simpa using he, fun j hj => ?_⟩
    have hm : L[j] ∈ L.take i := by
      rw [List.mem_iff_getElem]
      exact ⟨j, by rw [List.length_take]; omega, by rw [List.getElem_take]⟩
    simpa using hn _ hm
  unfold ixF
  rw [this]
theorem ixF_none {L : List Rw} {id : Int} (hn : ∀ y ∈ L, y.id ≠ id) : ixF L id = -1 := by
  have : L.findIdx? (fun x => x.id == id) = none := by
    rw [List.findIdx?_eq_none_iff]
    intro x hx
    simpa using hn x hx
  unfold ixF
  rw [this]
theorem index_any (L : List Rw) (ao : Option Addr) (cap b o B : Nat) (id : Int) (w : World) (hs : SlAt w 12 L.length (L.flatMap Rw.cells) ao cap b o) (hB : w.cell? ⟨B, 0, none⟩ = some (.int .u16 id)) (hlen : L.length ≤ 100000) :
    Calls Try.prog 43 #[.slice ao L.length cap, .func (.func 44) #[] #[.pointer (some ⟨B, 0, none⟩)]] w fun e w' => e = .returned (.int .i64 (ixF L id)) ∧ Below w.heap.size w w' := by
  have hidx := hs.idx (P := Try.prog) (t := 38) (e := 41) (by kernel_rfl) size41 (by decide)
  obtain ⟨n, hn⟩ : ∃ n, n = L.length := ⟨_, rfl⟩
  rw [← hn] at hidx hlen ⊢
  have HS := Lib.hid hs
  have HN := Lib.hid hn
  have HB := Lib.hid hB
  obtain ⟨R, hR⟩ : ∃ R, R = ixF L id := ⟨_, rfl⟩
  rw [← hR]
  have HR := Lib.hid hR
  clear hs hn hB hR
  go_enter Try.func43, Try.ntmps43
  go_wp2_with fail
  go_loopw [8] (fun t8 wr => ∃ i : Nat, i ≤ n ∧ t8 = .int .i64 i ∧ Hid (∀ y ∈ L.take i, y.id ≠ id) ∧ Hid (Below w.heap.size w wr)) (fun t8 _ => n - (intOf t8).toNat)
  case atStart => exact ⟨0, Nat.zero_le _, rfl, Lib.hid (by simp), Lib.hid (bz w)⟩
  case round =>
    obtain ⟨i, hi, rfl, hno, hbel⟩ := hrel
    by_cases hlt : i < n
    · have i1 : (0 : Int) ≤ (i : Int) := by omega
      have i2 : (i : Int) < (n : Int) := by omega
      have i3 : decide ((i : Int) < (n : Int)) = true := decide_eq_true i2
      obtain ⟨x, hx⟩ : ∃ x, L[i]? = some x := ⟨_, List.getElem?_eq_getElem (by rw [← HN.out]; exact hlt)⟩
      obtain ⟨g0, g1, g2, g3, g4, g5, g6, g7, g8, g9, g10, g11⟩ := row_at (HS.out.below hbel.out) hx
      have HX := Lib.hid hx
      have HC := Lib.hid (where1_any x B id wr (cell_past hbel.out HB.out))
      unfold Rw.val at HC
      clear hx
      go_wp2_with fail
      refine HC.out.mono ?_
      rintro e w2 ⟨rfl, hb2⟩
      have HB2 := Lib.hid (hbel.out.trans (hb2.mono hbel.out.size))
      clear hb2 HC
      by_cases he : x.id = id
      · have t1 : (x.id == id) = true := by simpa using he
        have HE := Lib.hid he
        clear he
        go_wp2
        go_ret
        exact ⟨by rw [HR.out, ixF_hit HX.out HE.out hno.out]; rfl, HB2.out⟩
      · have t1 : (x.id == id) = false := by simpa using he
        have HE := Lib.hid he
        clear he
        go_wp2_with fail
        go_roundw
        case rel =>
          refine ⟨i + 1, by omega, by go_num, Lib.hid ?_, HB2⟩
          rw [take_snoc HX.out]
          intro y hy
          rcases List.mem_append.1 hy with hy | hy
          · exact hno.out y hy
          · rw [List.mem_singleton.1 hy]; exact HE.out
        case measure => simp [intOf]; omega
    · have i2 : ¬ (i : Int) < (n : Int) := by omega
      have i3 : decide ((i : Int) < (n : Int)) = false := decide_eq_false i2
      have HI := Lib.hid (show i = n by omega)
      go_wp2
      go_ret
      have h1 := hno.out
      rw [HI.out, HN.out, List.take_length] at h1
      exact ⟨by rw [HR.out, ixF_none h1]; rfl, hbel.out⟩
theorem TabAt.slat {base : Nat} {w : World} {p : Nat} {v : Value} {L : List Rw} {nx : Int} (h : TabAt base w p v L nx) : ∃ ao cap b o, v = .slice ao L.length cap ∧ SlAt w 12 L.length (L.flatMap Rw.cells) ao cap b o := by
  obtain ⟨ao, cap, b, o, e, hs, _⟩ := SlAt.owned h.own
  exact ⟨ao, cap, b, o, e, hs⟩
theorem where_any {base : Nat} {w : World} {p : Nat} {v : Value} {L : List Rw} {nx : Int} (id : Int) (h : TabAt base w p v L nx) (hlen : L.length ≤ 100000) :
    Calls Try.prog 32 #[.pointer (some ⟨p, 0, none⟩), .int .u16 id] w fun e w' => e = .returned (.int .i64 (ixF L id)) ∧ Below w.heap.size w w' := by
  obtain ⟨ao, cap, b, o, rfl, hs⟩ := h.slat
  have c0 := h.c0
  have HI := Lib.hid (fun W (hb : Below w.heap.size w W) => is_tab (h.below hb))
  have HX := Lib.hid (fun W (hb : Below w.heap.size w W) B (hB : W.cell? ⟨B, 0, none⟩ = some (.int .u16 id)) => index_any L ao cap b o B id W (hs.below hb) hB hlen)
  have hW : (w.alloc (.cells #[.int .u16 id] 27)).cell? ⟨w.heap.size, 0, none⟩ = some (.int .u16 id) := by simp [go_sem]
  have HW := Lib.hid hW
  clear h hs hW
  go_enter Try.func32, Try.ntmps32
  go_wp2_with fail
  refine (HI.out _ (ba (bz w) _)).mono ?_
  rintro e w1 ⟨rfl, rfl⟩
  have d0 := cell_past (ba (bz w) (.cells #[.int .u16 id] 27)) c0
  go_wp2_with fail
  refine (HX.out _ (ba (bz w) _) w.heap.size HW.out).mono ?_
  rintro e w2 ⟨rfl, hb2⟩
  go_wp2
  go_ret
  exact ⟨rfl, bt (ba (bz w) _) hb2⟩
end Go.Proofs.Ytjmanajbdkbkdaa
