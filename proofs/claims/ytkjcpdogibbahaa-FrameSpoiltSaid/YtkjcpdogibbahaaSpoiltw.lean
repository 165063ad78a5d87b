/- FrameSpoilt: a frame in which one byte was changed is not cut. -/
import Derived.Test.YtkjcpdogibbahaaSpoilt
import Derived.Test.YtkjcpdogibbahaaPieces
import Derived.Deep.RegionWith
namespace Go.Proofs.Ytkjcpdogibbahaa
open Go.RowKit Go.Um
set_option maxHeartbeats 0

theorem conv1d (a : Int) (w : World) : (convert 23 9 (.slice (some ⟨w.heap.size, 0, none⟩) 1 1)).run Try.prog (w.alloc (.cells #[.int .u8 a] 5)).drew = .ok (.string (strOfNums [a])) (w.alloc (.cells #[.int .u8 a] 5)).drew :=
  run_convert_bytes_arg (P := Try.prog) (w.alloc (.cells #[.int .u8 a] 5)).drew 23 5 Try.underlying23 Try.underlying5 w.heap.size 0 1 1 [a] rfl (fun i hi => by
    have : i = 0 := by omega
    subst this
    simp [go_sem]) 9 Try.underlying9

theorem spoilt_early (s : ByteArray) (a b : Int) (w : World) (h : s.size = 0 ∨ 600 < s.size ∨ b = 0) : Calls Try.prog 7 #[.string s, .int .u16 a, .int .u8 b] w fun e w' => e = .returned (.bool true) ∧ Below w.heap.size w w' := by
  have p1 := fun W => put_any s.data.toList W
  have hl := len_data s
  obtain ⟨f, hf⟩ : ∃ f, f = (putR s.data.toList).1 := ⟨_, rfl⟩
  obtain ⟨er, her⟩ : ∃ er, er = (putR s.data.toList).2 := ⟨_, rfl⟩
  rw [← hf, ← her, ← strV_eq] at p1
  unfold strV at p1
  have hc : ((er != 0) = true ∧ ((s.size : Int) == 0) = true) ∨ ((er != 0) = true ∧ ((s.size : Int) == 0) = false ∧ decide (600 < (s.size : Int)) = true) ∨ ((er != 0) = false ∧ ((s.size : Int) == 0) = false ∧ decide (600 < (s.size : Int)) = false ∧ (b == 0) = true) := by
    by_cases h0 : s.size = 0
    · have e : er = 2 := by rw [her]; unfold putR; rw [hl, if_pos h0]
      exact .inl ⟨by rw [e]; rfl, by simp [h0]⟩
    · have z : ((s.size : Int) == 0) = false := by rw [beq_eq_false_iff_ne]; omega
      by_cases h6 : 600 < s.size
      · have e : er = 3 := by rw [her]; unfold putR; rw [hl, if_neg h0, if_pos h6]
        exact .inr (.inl ⟨by rw [e]; rfl, z, by simp; omega⟩)
      · have e : er = 0 := by rw [her]; unfold putR; rw [hl, if_neg h0, if_neg h6]
        have hb : b = 0 := by omega
        exact .inr (.inr ⟨by rw [e]; rfl, z, by simp; omega, by simp [hb]⟩)
  have P1 := Lib.hid p1
  clear p1 hl hf her h
  rcases hc with ⟨t1, t2⟩ | ⟨t1, t2, t3⟩ | ⟨t1, t2, t3, t4⟩
  all_goals
    go_enter Try.func7, Try.ntmps7
    go_wp2_with fail
    refine (P1.out _).mono ?_
    rintro e w1 ⟨rfl, hb1⟩
    go_wp2_with fail
    refine (works_any _).mono ?_
    rintro e w2 ⟨rfl, hb2⟩
    go_wp2
    go_ret
    exact ⟨rfl, bt hb1 hb2⟩

theorem spoilt_late (s : ByteArray) (a b : Int) (w : World) (h0 : 0 < s.size) (h6 : s.size ≤ 600) (ha : 0 ≤ a ∧ a ≤ 65535) (hb : 0 < b ∧ b ≤ 255) :
    Calls Try.prog 7 #[.string s, .int .u16 a, .int .u8 b] w fun e w' => e = .returned (.bool true) ∧ Below w.heap.size w w' := by
  have hl := len_data s
  have p1 := fun W => put_any s.data.toList W
  have e : putR s.data.toList = (putF s.data.toList, 0) := by unfold putR; rw [hl, if_neg (by omega), if_neg (by omega)]
  rw [e, ← strV_eq] at p1
  have hpf := put_facts s.data.toList (by omega)
  obtain ⟨F, hF⟩ : ∃ F : ByteArray, F.data.toList = putF s.data.toList := ⟨⟨(putF s.data.toList).toArray⟩, rfl⟩
  have p1' : ∀ W, Calls Try.prog 17 #[.string s] W fun e w' => e = .returned (.tuple #[.string F, .int .i64 0]) ∧ Below W.heap.size W w' := by
    intro W
    have h := p1 W
    rw [← hF, ← strV_eq] at h
    exact h
  rw [← hF] at hpf
  have hFs : F.size = s.size + 6 := by rw [← len_data, hpf.len, hl]
  obtain ⟨a0, a1⟩ := ha
  obtain ⟨b0, b1⟩ := hb
  have m0 : (0 : Int) ≤ a % (F.size : Int) := Int.emod_nonneg _ (by omega)
  have m1 : a % (F.size : Int) < (F.size : Int) := Int.emod_lt_of_pos _ (by omega)
  obtain ⟨j, hj⟩ : ∃ j : Nat, a % (F.size : Int) = (j : Int) := ⟨(a % (F.size : Int)).toNat, by omega⟩
  have hjF : j < F.size := by omega
  have hjF' : (j : Int) < (F.size : Int) := by omega
  have hjn : (0 : Int) ≤ (j : Int) := by omega
  have t1 : ((s.size : Int) == 0) = false := by rw [beq_eq_false_iff_ne]; omega
  have t2 : decide (600 < (s.size : Int)) = false := by simp; omega
  have t3 : (b == 0) = false := by rw [beq_eq_false_iff_ne]; omega
  have t4 : ((F.size : Int) == 0) = false := by rw [beq_eq_false_iff_ne]; omega
  have f1 : (0 : Int) < (F.size : Int) := by omega
  have f2 : (F.size : Int) ≤ 606 := by omega
  have P1 := Lib.hid p1'
  have HPF := Lib.hid hpf
  have HJ := Lib.hid hj
  have f0 := F[j].toNat_lt
  have hxor : bits .xor .u8 (F[j].toNat : Int) b = ((F[j].toNat ^^^ b.toNat : Nat) : Int) := by
    rw [u8_xor _ _ (by omega) (by omega) (by omega) (by omega)]; simp
  obtain ⟨N, hN⟩ : ∃ N : Nat, N = F[j].toNat ^^^ b.toNat := ⟨_, rfl⟩
  have hN2 : N < 256 := by rw [hN]; exact Nat.xor_lt_two_pow (n := 8) (by omega) (by omega)
  have hN3 : N ≠ F[j].toNat := by
    intro e
    have h1 : F[j].toNat ^^^ N = b.toNat := by rw [hN, ← Nat.xor_assoc, Nat.xor_self, Nat.zero_xor]
    rw [e, Nat.xor_self] at h1
    omega
  rw [← hN] at hxor
  have HX := Lib.hid hxor
  have HN3 := Lib.hid hN3
  have HFS := Lib.hid hFs
  clear p1 p1' hpf e hF hl hj hxor hN hN3 hFs
  go_enter Try.func7, Try.ntmps7
  go_wp2_with fail
  refine (P1.out _).mono ?_
  rintro e w1 ⟨rfl, hb1⟩
  go_wp2_with fail
  rw [HJ.out]
  go_quiet (fail)
  rw [HX.out]
  obtain ⟨c, hc⟩ : ∃ c, c = F[j].toNat := ⟨_, rfl⟩
  rw [← hc]
  rw [← hc] at HN3 f0
  have Hc := Lib.hid hc
  clear hc
  have hcase : (((c : Int) + (N : Int)) % 256 = 255 ∧ ((c : Int) == 0) = true) ∨ (((c : Int) + (N : Int)) % 256 = 255 ∧ ((c : Int) == 0) = false ∧ ((N : Int) == 0) = true) ∨
      (¬ (c + N = 255 ∧ (c = 0 ∨ N = 0)) ∧ ((((c : Int) + (N : Int)) % 256 = 255 ∧ ((c : Int) == 0) = false ∧ ((N : Int) == 0) = false) ∨ ¬ ((c : Int) + (N : Int)) % 256 = 255)) := by
    by_cases y1 : ((c : Int) + (N : Int)) % 256 = 255
    · by_cases y2 : c = 0
      · exact .inl ⟨y1, by simp [y2]⟩
      · by_cases y3 : N = 0
        · exact .inr (.inl ⟨y1, by simp; omega, by simp [y3]⟩)
        · exact .inr (.inr ⟨by omega, .inl ⟨y1, by simp; omega, by simp; omega⟩⟩)
    · exact .inr (.inr ⟨by omega, .inr y1⟩)
  rcases hcase with ⟨y1, y2⟩ | ⟨y1, y2, y3⟩ | ⟨hx, ⟨y1, y2, y3⟩ | y1⟩
  · go_wp2_with fail
    refine (works_any _).mono ?_
    rintro e w2 ⟨rfl, hb2⟩
    go_wp2
    go_ret
    exact ⟨rfl, bt (below_drewN hb1 _) hb2⟩
  · go_wp2_with fail
    refine (works_any _).mono ?_
    rintro e w2 ⟨rfl, hb2⟩
    go_wp2
    go_ret
    exact ⟨rfl, bt (below_drewN hb1 _) hb2⟩
  all_goals
    have HXX := Lib.hid hx
    clear hx
    have x1 : IntKind.i64.wrap ((j : Int) + 1) = (j : Int) + 1 := IntWalk.i64_in _ (by omega)
    have x2 : (0 : Int) ≤ (j : Int) + 1 := by omega
    have x3 : (j : Int) + 1 ≤ (F.size : Int) := by omega
    have x4 : ((j : Int) + 1).toNat = j + 1 := by omega
    go_wp2_with fail
    refine (cut_new _).mono ?_
    rintro e w2 ⟨rfl, hc2, hb2, hz2⟩
    have hB2 := bt (below_drewN hb1 nq) hb2
    have HC2 := Lib.hid hc2
    have HB2 := Lib.hid hB2
    have HZ2 := Lib.hid hz2
    clear hc2 hb2 hz2 hB2
    obtain ⟨p, hp⟩ : ∃ p, p = w1.heap.size := ⟨_, rfl⟩
    have hcv := fun W => conv1d (N : Int) W
    obtain ⟨Q, hQ⟩ : ∃ Q, Q = strOfNums [(N : Int)] := ⟨_, rfl⟩
    rw [← hQ] at hcv
    have hQs : Q.size = 1 := by rw [hQ, strOfNums_size]; rfl
    have z1 : ((F.extract 0 j).size : Int) ≤ 8388608 := by rw [← len_data, ext2_data, List.length_take, List.length_drop, len_data]; omega
    have z2 : (Q.size : Int) ≤ 8388608 := by omega
    have z3 : ((F.extract (j + 1) F.size).size : Int) ≤ 8388608 := by rw [ext_size]; omega
    have z4 : ((F.extract 0 j ++ Q).size : Int) ≤ 8388608 := by rw [ByteArray.size_append, ← len_data (F.extract 0 j), ext2_data, List.length_take, List.length_drop, len_data]; omega
    have hG : (F.extract 0 j ++ Q ++ F.extract (j + 1) F.size).data.toList = F.data.toList.set j (UInt8.ofNat N) := by
      rw [app_data, app_data, ext_data, ext2_data, List.drop_zero, Nat.sub_zero, hQ, strOfNums_data, List.set_eq_take_append_cons_drop, if_pos (by rw [len_data]; exact hjF)]
      simp
    obtain ⟨G, hGG⟩ : ∃ G, G = F.extract 0 j ++ Q ++ F.extract (j + 1) F.size := ⟨_, rfl⟩
    rw [← hGG] at hG
    have hGs : G.size = F.size := by rw [← len_data, hG, List.length_set, len_data]
    have hfd : ∀ W, (fresh []).At W w1.heap.size → Calls Try.prog 12 #[.pointer (some ⟨w1.heap.size, 0, none⟩), .string (F.extract 0 j ++ Q ++ F.extract (j + 1) F.size)] W fun e w' => e = .returned (.tuple #[]) ∧ (fresh G.data.toList).At w' w1.heap.size ∧ Kept (fun k => k = w1.heap.size) W w' := by
      intro W hW
      rw [← hGG]
      exact cut_feed (fresh []) G.data.toList w1.heap.size W hW (by decide) (by rw [len_data]; omega)
    have hsp : (lookF G.data.toList).1 ≠ 1 := by
      rw [hG]
      have hjs : F.data.toList.getD j 0 = F[j] := getD_data F j hjF
      have hnt : (UInt8.ofNat N).toNat = N := by rw [UInt8.toNat_ofNat', Nat.mod_eq_of_lt hN2]
      refine spoilt s.data.toList F.data.toList (by rw [len_data]; omega) HPF.out j (by rw [len_data]; exact hjF) (UInt8.ofNat N) (fun e => ?_) (fun e => ?_)
      · have := congrArg UInt8.toNat e
        rw [hnt, hjs, ← Hc.out] at this
        exact HN3.out this
      · rw [hnt, hjs, ← Hc.out] at e
        refine HXX.out ⟨e.1, e.2.imp (fun h => ?_) (fun h => ?_)⟩
        · rw [Hc.out, h]; rfl
        · have := congrArg UInt8.toNat h
          rw [hnt] at this
          exact this
    have hcc : ∀ W, Below w2.heap.size w2 W → (fresh []).At W w1.heap.size := fun W hb => HC2.out.below hb
    have hfd2 := fun W hb => hfd W (hcc W hb)
    have HFD := Lib.hid hfd2
    have HSP := Lib.hid hsp
    have HGS := Lib.hid hGs
    clear hp hQ hQs hG hGG hfd hfd2 hcc hsp hGs
    go_wp2_with fail
    go_region_with (go_at_call 12; refine (HFD.out _ ((ba (bz w2) _).drew)).mono ?_; rintro e w3 ⟨rfl, hc3, k3⟩)
    all_goals
      have hk := kept_new HB2.out (((Kept.refl (fun k => k = w1.heap.size) w2).alloc (.cells #[.int .u8 N] 5)).drew.trans k3 (fun i _ h => h)) (fun i hi e => by have := hb1.size; omega)
      have HC3 := Lib.hid hc3
      have HK := Lib.hid hk
      clear hc3 k3 hk
      have hn := cut_next (fresh G.data.toList) w1.heap.size _ HC3.out (by show G.data.toList.length ≤ _; rw [len_data, HGS.out]; omega) ⟨Int.le_refl 0, by show (0 : Int) ≤ 1000000; decide⟩
      obtain ⟨A, hA⟩ : ∃ A, A = (fresh G.data.toList).tell.1 := ⟨_, rfl⟩
      obtain ⟨B, hB⟩ : ∃ B, B = (fresh G.data.toList).tell.2.1 := ⟨_, rfl⟩
      obtain ⟨D, hD⟩ : ∃ D, D = (fresh G.data.toList).tell.2.2 := ⟨_, rfl⟩
      have hD1 : (D != 1) = true := by
        rw [hD, bne_iff_ne]
        intro e
        unfold Cut.tell at e
        split at e
        · rename_i h; exact HSP.out h.2
        · unfold stopSt at e
          split at e
          · simp at e
          · exact HSP.out e
      rw [← hA, ← hB, ← hD] at hn
      unfold strV at hn
      have HN := Lib.hid hn
      clear hA hB hD hn
      go_wp2_with fail
      refine HN.out.mono ?_
      rintro e w4 ⟨rfl, _, k4⟩
      have hB4 := kept_new HK.out k4 (fun i hi e => by have := hb1.size; omega)
      go_wp2_with fail
      refine (works_any _).mono ?_
      rintro e w5 ⟨rfl, hb5⟩
      go_wp2
      go_ret
      exact ⟨rfl, bt hB4 hb5⟩

theorem spoilt_any (s : ByteArray) (a b : Int) (w : World) (ha : 0 ≤ a ∧ a ≤ 65535) (hb : 0 ≤ b ∧ b ≤ 255) :
    Calls Try.prog 7 #[.string s, .int .u16 a, .int .u8 b] w fun e w' => e = .returned (.bool true) ∧ Below w.heap.size w w' := by
  by_cases h : s.size = 0 ∨ 600 < s.size ∨ b = 0
  · exact spoilt_early s a b w h
  · exact spoilt_late s a b w (by omega) (by omega) ha (by omega)
end Go.Proofs.Ytkjcpdogibbahaa
