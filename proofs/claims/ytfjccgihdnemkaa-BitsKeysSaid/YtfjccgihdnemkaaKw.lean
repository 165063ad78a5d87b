/- umpirelaw15's BitsKeys: the set that any text is the key of is the document's. Printed from Kw.tmpl. -/
import Derived.Test.YtfjccgihdnemkaaAw
import Derived.Test.YtfjccgihdnemkaaFr
namespace Go.Proofs.Ytfjccgihdnemkaa
open Go.RowKit Go.Um
set_option linter.unusedSimpArgs false
set_option linter.unusedVariables false
set_option maxHeartbeats 4000000
set_option maxRecDepth 100000
theorem keys_any (s : ByteArray) (w : World) : Calls Try.prog 4 #[.string s] w fun e w' => e = .returned (.bool true) ∧ Below w.heap.size w w' := by
  by_cases h : 10000 < s.size
  · have h1 : (10000 : Int) < (s.size : Int) := by omega
    have HA := Lib.hid (awake_any w)
    go_enter Try.func4, Try.ntmps4
    go_wp2_with fail
    refine HA.out.mono ?_
    rintro e w1 ⟨rfl, hb⟩
    have HB := Lib.hid hb
    clear hb
    go_wp2
    go_ret
    exact ⟨rfl, HB.out⟩
  · have h1 : ¬ (10000 : Int) < (s.size : Int) := by omega
    have HF := Lib.hid (fromkey_any s w)
    go_enter Try.func4, Try.ntmps4
    go_wp2_with fail
    refine HF.out.mono ?_
    rintro e w1 ⟨v, E, rfl, hb1, hc1⟩
    have key : ∃ N, SetAt w1 v N ∧ ((goodKey s ∧ E = 0 ∧ N = setOf s) ∨ (¬ goodKey s ∧ E = 4 ∧ N = 0)) := by
      rcases hc1 with ⟨g, e, h⟩ | ⟨g, e, h⟩
      · exact ⟨_, h, .inl ⟨g, e, rfl⟩⟩
      · exact ⟨_, h, .inr ⟨g, e, rfl⟩⟩
    obtain ⟨N, hset, hN⟩ := key
    have HSET := Lib.hid hset
    obtain ⟨m, ao, cap, b, o, rfl, _, _, hm⟩ := hset
    have HB1 := Lib.hid hb1
    clear hb1 hc1
    go_wp2_with fail
    obtain ⟨w2, hw2⟩ : ∃ w2, w2 = w1.alloc (.cells #[Value.slice ao m cap] 27) := ⟨_, rfl⟩
    have x2 : w2.cell? ⟨w1.heap.size, 0, none⟩ = some (.slice ao m cap) := by rw [hw2]; simp [go_sem]
    have hS2 : SetAt w2 (.agg #[.slice ao m cap]) N := by rw [hw2]; exact HSET.out.below (ba (bz w1) _)
    have hB2 : Below w.heap.size w w2 := by rw [hw2]; exact HB1.out.alloc HB1.out.size _
    rw [← hw2]
    have HR := rfk_any s w2
    refine HR.mono ?_
    rintro e w3 ⟨u, F, rfl, hb3, hc3⟩
    have key : ∃ L, LisAt w3 u L ∧ E = F ∧ L = allN N ∧ L.length ≤ 100000 := by
      rcases hc3 with ⟨g, e, h⟩ | ⟨g, e, h⟩
      · rcases hN with ⟨g', e', h'⟩ | ⟨g', e', h'⟩
        · exact ⟨_, h, by rw [e, e'], by rw [h'], by have := upto_len (setOf s) 65536; unfold allN; omega⟩
        · exact absurd g g'
      · rcases hN with ⟨g', e', h'⟩ | ⟨g', e', h'⟩
        · exact absurd g' g
        · exact ⟨_, h, by rw [e, e'], by rw [h', allN_small (t := 0) (by decide) (by decide)]; rfl, by simp⟩
    obtain ⟨L, hl, rfl, hL, hLl⟩ := key
    have x3 := kc hb3 _ _ _ x2
    have HS3 := Lib.hid (hS2.below hb3)
    have HB3 := Lib.hid (bt hB2 hb3)
    have HI := Lib.hid (is_any HS3.out hl hLl true ⟨fun _ => hL, fun _ => rfl⟩)
    obtain ⟨aoL, capL, bL, oL, rfl, _⟩ := hl
    obtain ⟨nL, hnL⟩ : ∃ n, n = L.length := ⟨_, rfl⟩
    rw [← hnL] at HI ⊢
    clear hw2 x2 hS2 hB2 hb3 HR hc3 hL hN hnL hLl
    go_wp2_with fail
    refine HI.out.mono ?_
    rintro e w4 ⟨rfl, hb4⟩
    have HB4 := Lib.hid (bt HB3.out hb4)
    clear hb4
    go_wp2_with fail
    refine (awake_any w4).mono ?_
    rintro e w5 ⟨rfl, hb5⟩
    have HB5 := Lib.hid (bt HB4.out hb5)
    clear hb5
    go_wp2
    go_ret
    exact ⟨rfl, HB5.out⟩
end Go.Proofs.Ytfjccgihdnemkaa
