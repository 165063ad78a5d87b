/- The memo's map: keys of two strings, counts; lookup and count-up. -/
import Derived.Test.YtgpfnlbhclefgaaRk
import Derived.Maps.Keyed
import Derived.DeepKeys4
namespace Go.Proofs.Ytgpfnlbhclefgaa
open Go.RowKit Go.Um Go.MapKept
open Go.Maps (Keyed)
set_option linter.unusedSimpArgs false
set_option linter.unusedVariables false
set_option maxHeartbeats 2000000
set_option maxRecDepth 100000
theorem nodup_idx {α : Type} {l : List α} (h : l.Nodup) {i j : Nat} {x : α} (hi : l[i]? = some x) (hj : l[j]? = some x) : i = j := by
  obtain ⟨a, b⟩ := List.getElem?_eq_some_iff.1 hi
  obtain ⟨c, d⟩ := List.getElem?_eq_some_iff.1 hj
  have hp := List.pairwise_iff_getElem.1 h
  rcases Nat.lt_trichotomy i j with e | e | e
  · exact absurd (b.trans d.symm) (hp i j a c e)
  · exact e
  · exact absurd (d.trans b.symm) (hp j i c a e)
abbrev Cfg := ByteArray × ByteArray
def keyV (k : Cfg) : Value := .agg #[.string k.1, .string k.2]
theorem laidOut : laidOutB Try.prog = true := by kernel_rfl
theorem row55 : (55 : TypeId) < Try.prog.types.size := of_decide_eq_true (by kernel_rfl)
theorem wide55 : (match Try.prog.underlying 55 with | some (.array _ _) | some (.struct _) => true | _ => false) = true := by rw [Try.underlying55]
theorem law55 : Keyed Try.prog 55 := Keyed.of_law (deep_law_laid laidOut (m := 2) (by omega) row55 (by kernel_rfl) wide55)
theorem keyOf55 (k : Cfg) (h1 : k.1.size ≤ maxLen) (h2 : k.2.size ≤ maxLen) : ∃ l, keyOf Try.prog 55 (keyV k) = some l := by
  have hf : (keyV k).formed Try.prog 55 = true := by simp [keyV, Value.formed, Try.underlying55, show Try.prog.cellsOf 55 = 2 by kernel_rfl]
  have hk : Try.prog.keyType 55 = true := by kernel_rfl
  unfold keyOf
  rw [Try.underlying55]
  dsimp only
  rw [hk, hf]
  simp only [Bool.and_self, if_true]
  have hs : ∀ (d : Nat) (s : ByteArray), s.size ≤ maxLen → ∃ ls, Try.prog.keyLits (d + 1) 9 [.string s] = some ls := by
    intro d s hs
    simp [Program.keyLits, Try.underlying9, hs]
  have hd : ∃ d, Try.prog.types.size = d + 1 := ⟨Try.prog.types.size - 1, (Nat.sub_add_cancel (Nat.lt_of_le_of_lt (Nat.zero_le _) row55)).symm⟩
  obtain ⟨d, hd⟩ := hd
  obtain ⟨l1, e1⟩ := hs d k.1 h1
  obtain ⟨l2, e2⟩ := hs d k.2 h2
  rw [hd]
  have : ∃ ls, Try.prog.keyLits (d + 1 + 1) 55 (keyV k).cells.toList = some ls := by
    have c55 : Try.prog.cellsOf 55 = 2 := by kernel_rfl
    have c9 : Try.prog.cellsOf 9 = 1 := by kernel_rfl
    rw [Program.keyLits.eq_def]
    dsimp only
    rw [Try.underlying55]
    simp [keyV, Value.cells, c55, c9, e1, e2]
  obtain ⟨ls, e⟩ := this
  rw [e]
  exact ⟨_, rfl⟩
theorem keyV_inj {k k' : Cfg} (h : keyV k = keyV k') : k = k' := by
  simp only [keyV, Value.agg.injEq, Array.mk.injEq, List.cons.injEq, Value.string.injEq, and_true] at h
  exact Prod.ext h.1 h.2
/-- a map's block: its keys in order, each counted at least once -/
structure MkEs (ks : List Cfg) (T : Nat) (es : Array MapEntry) (clock : Nat) : Prop where
  keys : es.toList.map (·.key) = ks.map keyV
  vals : ∀ e ∈ es.toList, ∃ n : Nat, e.val = .int .i64 n ∧ 1 ≤ n ∧ n ≤ T
  old : ∀ e ∈ es.toList, e.born < clock
  born : es.toList.Pairwise (fun e f => e.born ≠ f.born)
  nodup : ks.Nodup
  small : ∀ k ∈ ks, k.1.size ≤ maxLen ∧ k.2.size ≤ maxLen
def MkAt (w : World) (b : Nat) (ks : List Cfg) (T : Nat) : Prop := ∃ es clock, w.heap[b]? = some (.map es clock) ∧ MkEs ks T es clock
theorem MkAt.block {w w' : World} {b : Nat} {ks : List Cfg} {T : Nat} (h : MkAt w b ks T) (hb : w'.heap[b]? = w.heap[b]?) : MkAt w' b ks T := by
  obtain ⟨es, c, h1, h2⟩ := h
  exact ⟨es, c, hb.trans h1, h2⟩
theorem MkAt.lt {w : World} {b : Nat} {ks : List Cfg} {T : Nat} (h : MkAt w b ks T) : b < w.heap.size := by
  obtain ⟨es, c, h1, h2⟩ := h
  exact (Array.getElem?_eq_some_iff.1 h1).1
theorem MkAt.mono {w : World} {b : Nat} {ks : List Cfg} {T T' : Nat} (h : MkAt w b ks T) (hT : T ≤ T') : MkAt w b ks T' := by
  obtain ⟨es, c, h1, h2⟩ := h
  exact ⟨es, c, h1, h2.keys, fun e he => by obtain ⟨n, a, b, c⟩ := h2.vals e he; exact ⟨n, a, b, Nat.le_trans c hT⟩, h2.old, h2.born, h2.nodup, h2.small⟩
theorem MkEs.len {ks : List Cfg} {T : Nat} {es : Array MapEntry} {clock : Nat} (h : MkEs ks T es clock) : es.size = ks.length := by
  have := congrArg List.length h.keys
  simpa using this
theorem mk_new (w : World) (b : Nat) (hb : b = w.heap.size) : MkAt (w.alloc (.map #[] 0)) b [] 0 := by
  subst hb
  exact ⟨#[], 0, (MapKept.heap_alloc w _).1, rfl, by simp, by simp, by simp, List.nodup_nil, by simp⟩
theorem MkEs.keyOk {ks : List Cfg} {T : Nat} {es : Array MapEntry} {clock : Nat} (h : MkEs ks T es clock) : ∀ e ∈ es.toList, ∃ l, keyOf Try.prog 55 e.key = some l := by
  intro e he
  have : e.key ∈ ks.map keyV := by rw [← h.keys]; exact List.mem_map.2 ⟨e, he, rfl⟩
  obtain ⟨k, hk, e2⟩ := List.mem_map.1 this
  rw [← e2]
  exact keyOf55 k (h.small k hk).1 (h.small k hk).2
theorem MkEs.mem {ks : List Cfg} {T : Nat} {es : Array MapEntry} {clock : Nat} (h : MkEs ks T es clock) (k : Cfg) : k ∈ ks ↔ ∃ e ∈ es.toList, e.key = keyV k := by
  constructor
  · intro hk
    have : keyV k ∈ es.toList.map (·.key) := by rw [h.keys]; exact List.mem_map.2 ⟨k, hk, rfl⟩
    obtain ⟨e, he, e2⟩ := List.mem_map.1 this
    exact ⟨e, he, e2⟩
  · rintro ⟨e, he, e2⟩
    have : e.key ∈ ks.map keyV := by rw [← h.keys]; exact List.mem_map.2 ⟨e, he, rfl⟩
    obtain ⟨k', hk, e3⟩ := List.mem_map.1 this
    rw [e2] at e3
    rwa [← keyV_inj e3]
theorem zero3 (w : World) : (zeroValue 3).run Try.prog w = .ok (.int .i64 0) w := by kernel_rfl
theorem lookup_run {W : World} {b : Nat} {es : Array MapEntry} {clock : Nat} {ks : List Cfg} {T : Nat} (hb : W.heap[b]? = some (.map es clock)) (h : MkEs ks T es clock) (k : Cfg) (h1 : k.1.size ≤ maxLen) (h2 : k.2.size ≤ maxLen) :
    (k ∉ ks ∧ (Instr.lookup 45 (.map (some b)) (keyV k) false).run Try.prog W = .ok (.int .i64 0) W) ∨
    ∃ e, e ∈ es.toList ∧ e.key = keyV k ∧ (Instr.lookup 45 (.map (some b)) (keyV k) false).run Try.prog W = .ok e.val W := by
  obtain ⟨l, hl⟩ := keyOf55 k h1 h2
  rcases law55.find W hl es.toList h.keyOk with ⟨hr, hno⟩ | ⟨j, e, hr, hj, hk⟩
  · refine .inl ⟨fun hk => ?_, ?_⟩
    · obtain ⟨e, he, e2⟩ := (h.mem k).1 hk
      exact hno e he e2
    · simp [Instr.lookup, run_underlying Try.underlying45, MapKept.run_getObj_map hb, law55.check W _ hl, hr, zero3, Result.andThen]
  · exact .inr ⟨e, List.mem_of_getElem? hj, hk, by simp [Instr.lookup, run_underlying Try.underlying45, MapKept.run_getObj_map hb, law55.check W _ hl, hr, Result.andThen]⟩
theorem lookup_of {W : World} {b : Nat} {es : Array MapEntry} {clock : Nat} (hb : W.heap[b]? = some (.map es clock)) (hok : ∀ e ∈ es.toList, ∃ l, keyOf Try.prog 55 e.key = some l) (k : Cfg) (h1 : k.1.size ≤ maxLen) (h2 : k.2.size ≤ maxLen) {v : Value}
    (hval : ∀ e ∈ es.toList, e.key = keyV k → e.val = v) (hex : ∃ e ∈ es.toList, e.key = keyV k) : (Instr.lookup 45 (.map (some b)) (keyV k) false).run Try.prog W = .ok v W := by
  obtain ⟨l, hl⟩ := keyOf55 k h1 h2
  rcases law55.find W hl es.toList hok with ⟨hr, hno⟩ | ⟨j, e, hr, hj, hk⟩
  · obtain ⟨e, he, hk⟩ := hex
    exact absurd hk (hno e he)
  · have := hval e (List.mem_of_getElem? hj) hk
    rw [← this]
    simp [Instr.lookup, run_underlying Try.underlying45, MapKept.run_getObj_map hb, law55.check W _ hl, hr, Result.andThen]
/-- how often a configuration was told -/
theorem mk_lookup {w : World} {b : Nat} {ks : List Cfg} {T : Nat} (h : MkAt w b ks T) (k : Cfg) (h1 : k.1.size ≤ maxLen) (h2 : k.2.size ≤ maxLen) :
    ∃ n : Nat, n ≤ T ∧ (n = 0 ↔ k ∉ ks) ∧ ∀ W : World, W.heap[b]? = w.heap[b]? → (Instr.lookup 45 (.map (some b)) (keyV k) false).run Try.prog W = .ok (.int .i64 n) W := by
  obtain ⟨es, c, hb, hE⟩ := h
  rcases lookup_run hb hE k h1 h2 with ⟨hn, _⟩ | ⟨e, he, hk, _⟩
  · refine ⟨0, Nat.zero_le _, ⟨fun _ => hn, fun _ => rfl⟩, fun W hW => ?_⟩
    rcases lookup_run (hW.trans hb) hE k h1 h2 with ⟨_, hr⟩ | ⟨e, he, hk, _⟩
    · exact hr
    · exact absurd ((hE.mem k).2 ⟨e, he, hk⟩) hn
  · obtain ⟨n, hv, hn1, hn2⟩ := hE.vals e he
    have hin := (hE.mem k).2 ⟨e, he, hk⟩
    refine ⟨n, hn2, ⟨fun h0 => by omega, fun h0 => absurd hin h0⟩, fun W hW => ?_⟩
    rcases lookup_run (hW.trans hb) hE k h1 h2 with ⟨hn, _⟩ | ⟨e', he', hk', hr⟩
    · exact absurd hin hn
    · have : e' = e := by
        have hnd : (es.toList.map (·.key)).Nodup := by
          rw [hE.keys]
          refine List.Pairwise.map _ (fun a b hab e => hab (keyV_inj e)) hE.nodup
        obtain ⟨i, hi⟩ := List.getElem?_of_mem he
        obtain ⟨i', hi'⟩ := List.getElem?_of_mem he'
        have q1 : (es.toList.map (·.key))[i]? = some (keyV k) := by rw [List.getElem?_map, hi]; simp [hk]
        have q2 : (es.toList.map (·.key))[i']? = some (keyV k) := by rw [List.getElem?_map, hi']; simp [hk']
        have : i = i' := by
          exact nodup_idx hnd q1 q2
        subst this
        rw [hi] at hi'
        exact (Option.some.inj hi').symm
      rw [hr, this, hv]
open Classical in
noncomputable def addK (ks : List Cfg) (k : Cfg) : List Cfg := if k ∈ ks then ks else ks ++ [k]
theorem set_self {α : Type} (l : List α) (j : Nat) (x : α) (h : l[j]? = some x) : l.set j x = l := by
  obtain ⟨h1, h2⟩ := List.getElem?_eq_some_iff.1 h
  rw [← h2]; exact List.set_getElem_self h1
open Go.ChangeMaps (setBlock heap_setBlock_same heap_setBlock_other) in
theorem kept_setBlock (w : World) (b : Nat) (o : Obj) {es : Array MapEntry} {c : Nat} (hb : w.heap[b]? = some (.map es c)) : Kept (fun i => i = b) w (setBlock w b o) :=
  ⟨rfl, rfl, rfl, by simp [setBlock], fun i _ hi => heap_setBlock_other hb _ (fun e => hi e)⟩
theorem find_born {es : Array MapEntry} {j : Nat} {e : MapEntry} (hj : es.toList[j]? = some e) (hd : es.toList.Pairwise (fun e f => e.born ≠ f.born)) : es.findIdx? (fun x => (x.born : Int) == (e.born : Int)) = some j := by
  obtain ⟨h1, h2⟩ := List.getElem?_eq_some_iff.1 hj
  obtain ⟨l⟩ := es
  simp only [List.findIdx?_toArray] at *
  rw [List.findIdx?_eq_some_iff_getElem]
  refine ⟨h1, by rw [h2]; simp, fun i hi => ?_⟩
  have := List.pairwise_iff_getElem.1 hd i j (Nat.lt_trans hi h1) h1 hi
  rw [h2] at this
  simp
  omega
open Go.ChangeMaps (setBlock heap_setBlock_same heap_setBlock_other modify_eq_set) in
theorem mk_bump {w : World} {b : Nat} {ks : List Cfg} {T : Nat} (h : MkAt w b ks T) (k : Cfg) (h1 : k.1.size ≤ maxLen) (h2 : k.2.size ≤ maxLen) (n0 : Nat) (hn0 : n0 = 0 ↔ k ∉ ks)
    (hlook : ∀ W : World, W.heap[b]? = w.heap[b]? → (Instr.lookup 45 (.map (some b)) (keyV k) false).run Try.prog W = .ok (.int .i64 n0) W) :
    ∃ (v : Value) (s : Nat) (w5 : World), (Instr.mapEntry 45 (.map (some b)) (keyV k)).run Try.prog w = .ok (.tuple #[v, .int .i64 s]) w5 ∧ Kept (fun i => i = b) w w5 ∧
      (∀ W : World, W.heap[b]? = w5.heap[b]? → (Instr.lookup 45 (.map (some b)) (keyV k) false).run Try.prog W = .ok (.int .i64 n0) W) ∧
      ∀ n : Nat, 1 ≤ n → n ≤ T + 1 → ∃ w6, (Instr.entryStore 45 (.map (some b)) (.int .i64 s) (.int .i64 n)).run Try.prog w5 = .ok () w6 ∧ MkAt w6 b (addK ks k) (T + 1) ∧ Kept (fun i => i = b) w w6 ∧
        ∀ W : World, W.heap[b]? = w6.heap[b]? → (Instr.lookup 45 (.map (some b)) (keyV k) false).run Try.prog W = .ok (.int .i64 n) W := by
  obtain ⟨es, c, hb, hE⟩ := h
  obtain ⟨l, hl⟩ := keyOf55 k h1 h2
  rcases law55.find w hl es.toList hE.keyOk with ⟨hr, hno⟩ | ⟨j, e, hr, hj, hk⟩
  · have hn : k ∉ ks := fun hk => by
      obtain ⟨e, he, e2⟩ := (hE.mem k).1 hk
      exact hno e he e2
    have hb5 : (setBlock w b (.map (es.push ⟨keyV k, .int .i64 0, c⟩) (c + 1))).heap[b]? = some (.map (es.push ⟨keyV k, .int .i64 0, c⟩) (c + 1)) := heap_setBlock_same hb _
    refine ⟨.int .i64 0, c, setBlock w b (.map (es.push ⟨keyV k, .int .i64 0, c⟩) (c + 1)), ?_, kept_setBlock w b _ hb, fun W hW => ?_, fun n hn1 hn2 => ?_⟩
    rotate_left
    · have h0 := hn0.2 hn
      subst h0
      refine lookup_of (hW.trans hb5) (fun e he => ?_) k h1 h2 (fun e he hk => ?_) ⟨⟨keyV k, .int .i64 0, c⟩, by simp, rfl⟩
      · simp only [Array.toList_push, List.mem_append, List.mem_singleton] at he
        rcases he with he | rfl
        · exact hE.keyOk e he
        · exact ⟨l, hl⟩
      · simp only [Array.toList_push, List.mem_append, List.mem_singleton] at he
        rcases he with he | rfl
        · exact absurd hk (hno e he)
        · rfl
    rotate_left
    · simp [Instr.mapEntry, run_underlying Try.underlying45, MapKept.run_getObj_map hb, law55.check w _ hl, hr, zero3, MapKept.run_setObj_map _ hb, Result.andThen, setBlock, goInt]
    · have hlast : (es.push ⟨keyV k, .int .i64 0, c⟩).toList[es.size]? = some ⟨keyV k, .int .i64 0, c⟩ := by simp
      have hdis : (es.push ⟨keyV k, .int .i64 0, c⟩).toList.Pairwise (fun e f => e.born ≠ f.born) := by
        rw [Array.toList_push, List.pairwise_append]
        refine ⟨hE.born, by simp, fun x hx y hy => ?_⟩
        simp at hy
        subst hy
        have := hE.old x hx
        simp; omega
      have hfi := find_born hlast hdis
      have hmod : (es.push ⟨keyV k, .int .i64 0, c⟩).modify es.size (fun e => { e with val := .int .i64 n }) = es.push ⟨keyV k, .int .i64 n, c⟩ := by
        apply Array.toList_inj.1
        rw [Array.toList_modify, modify_eq_set _ _ _ _ hlast]
        simp
      have hb6 : (setBlock (setBlock w b (.map (es.push ⟨keyV k, .int .i64 0, c⟩) (c + 1))) b (.map (es.push ⟨keyV k, .int .i64 n, c⟩) (c + 1))).heap[b]? = some (.map (es.push ⟨keyV k, .int .i64 n, c⟩) (c + 1)) := heap_setBlock_same hb5 _
      have hE6 : MkEs (ks ++ [k]) (T + 1) (es.push ⟨keyV k, .int .i64 n, c⟩) (c + 1) := by
        refine ⟨by simp [hE.keys], fun x hx => ?_, fun x hx => ?_, ?_, ?_, ?_⟩
        · simp only [Array.toList_push, List.mem_append, List.mem_singleton] at hx
          rcases hx with hx | rfl
          · obtain ⟨m, a, b, c⟩ := hE.vals x hx; exact ⟨m, a, b, by omega⟩
          · exact ⟨n, rfl, hn1, hn2⟩
        · simp only [Array.toList_push, List.mem_append, List.mem_singleton] at hx
          rcases hx with hx | rfl
          · have := hE.old x hx; omega
          · simp
        · rw [Array.toList_push, List.pairwise_append]
          refine ⟨hE.born, by simp, fun x hx y hy => ?_⟩
          simp at hy
          subst hy
          have := hE.old x hx
          simp; omega
        · rw [List.nodup_append]
          exact ⟨hE.nodup, by simp, fun a ha b' hb' e => by simp at hb'; subst hb'; exact hn (e ▸ ha)⟩
        · intro k' hk'
          simp only [List.mem_append, List.mem_singleton] at hk'
          rcases hk' with hk' | rfl
          · exact hE.small k' hk'
          · exact ⟨h1, h2⟩
      refine ⟨_, ?_, ⟨_, _, hb6, ?_⟩, (kept_setBlock w b _ hb).trans (kept_setBlock _ b _ hb5) (fun _ _ e => e), fun W hW => ?_⟩
      · generalize setBlock w b (.map (es.push ⟨keyV k, .int .i64 0, c⟩) (c + 1)) = w5 at hb5 ⊢
        simp [Instr.entryStore, MapKept.run_getObj_map hb5, asInt, asIntOf, hfi, hmod, MapKept.run_setObj_map _ hb5, Result.andThen, setBlock]
      · unfold addK; rw [if_neg hn]; exact hE6
      · rcases lookup_run (hW.trans hb6) hE6 k h1 h2 with ⟨hno2, _⟩ | ⟨e', he', hk', hr'⟩
        · exact absurd (by simp) hno2
        · rw [hr']
          simp only [Array.toList_push, List.mem_append, List.mem_singleton] at he'
          rcases he' with he' | rfl
          · exact absurd hk' (hno e' he')
          · rfl
  · have hin : k ∈ ks := (hE.mem k).2 ⟨e, List.mem_of_getElem? hj, hk⟩
    have hj2 : es[j]? = some e := by simpa using hj
    have hme : es.modify j (fun e => { e with key := keyV k }) = es := by
      apply Array.toList_inj.1
      rw [Array.toList_modify, modify_eq_set _ _ _ _ hj]
      have : ({ e with key := keyV k } : MapEntry) = e := by rw [← hk]
      rw [this]
      exact set_self _ _ _ hj
    have hb5 : (setBlock w b (.map es c)).heap[b]? = some (.map es c) := heap_setBlock_same hb _
    refine ⟨e.val, e.born, setBlock w b (.map es c), ?_, kept_setBlock w b _ hb, fun W hW => hlook W (hW.trans (hb5.trans hb.symm)), fun n hn1 hn2 => ?_⟩
    · simp [Instr.mapEntry, run_underlying Try.underlying45, MapKept.run_getObj_map hb, law55.check w _ hl, hr, hj2, hk, law55.stays w hl, hme, MapKept.run_setObj_map _ hb, Result.andThen, setBlock, goInt]
    · have hfi := find_born hj hE.born
      have hlist : (es.modify j (fun e => { e with val := .int .i64 n })).toList = es.toList.set j { e with val := .int .i64 n } := by rw [Array.toList_modify, modify_eq_set _ _ _ _ hj]
      have hb6 : (setBlock (setBlock w b (.map es c)) b (.map (es.modify j (fun e => { e with val := .int .i64 n })) c)).heap[b]? = some (.map (es.modify j (fun e => { e with val := .int .i64 n })) c) := heap_setBlock_same hb5 _
      have hjl : j < es.toList.length := (List.getElem?_eq_some_iff.1 hj).1
      have hE6 : MkEs ks (T + 1) (es.modify j (fun e => { e with val := .int .i64 n })) c := by
        refine ⟨?_, fun x hx => ?_, fun x hx => ?_, ?_, hE.nodup, hE.small⟩
        · rw [hlist, List.map_set, ← hE.keys]
          exact set_self _ _ _ (by rw [List.getElem?_map, hj]; rfl)
        · rw [hlist] at hx
          rcases List.mem_or_eq_of_mem_set hx with hx | rfl
          · obtain ⟨m, a, b, c⟩ := hE.vals x hx; exact ⟨m, a, b, by omega⟩
          · exact ⟨n, rfl, hn1, hn2⟩
        · rw [hlist] at hx
          rcases List.mem_or_eq_of_mem_set hx with hx | rfl
          · exact hE.old x hx
          · exact hE.old e (List.mem_of_getElem? hj)
        · have hm : ∀ (l : List MapEntry), l.Pairwise (fun e f => e.born ≠ f.born) ↔ (l.map (·.born)).Nodup := fun l => by
            rw [List.nodup_iff_pairwise_ne, List.pairwise_map]
          rw [hlist, hm, List.map_set]
          have : (es.toList.map (·.born)).set j e.born = es.toList.map (·.born) := set_self _ _ _ (by rw [List.getElem?_map, hj]; rfl)
          rw [show ({ e with val := .int .i64 n } : MapEntry).born = e.born from rfl, this, ← hm]
          exact hE.born
      refine ⟨_, ?_, ⟨_, _, hb6, ?_⟩, (kept_setBlock w b _ hb).trans (kept_setBlock _ b _ hb5) (fun _ _ e => e), fun W hW => ?_⟩
      · generalize setBlock w b (.map es c) = w5 at hb5 ⊢
        simp [Instr.entryStore, MapKept.run_getObj_map hb5, asInt, asIntOf, hfi, MapKept.run_setObj_map _ hb5, Result.andThen, setBlock]
      · unfold addK; rw [if_pos hin]; exact hE6
      · rcases lookup_run (hW.trans hb6) hE6 k h1 h2 with ⟨hno2, _⟩ | ⟨e', he', hk', hr'⟩
        · exact absurd hin hno2
        · rw [hr']
          obtain ⟨i', hi'⟩ := List.getElem?_of_mem he'
          have q1 : (es.toList.map (·.key))[j]? = some (keyV k) := by rw [List.getElem?_map, hj]; simp [hk]
          have hkeys : ((es.modify j (fun e => { e with val := .int .i64 n })).toList.map (·.key)) = es.toList.map (·.key) := by rw [hE6.keys, hE.keys]
          have q2 : (es.toList.map (·.key))[i']? = some (keyV k) := by rw [← hkeys, List.getElem?_map, hi']; simp [hk']
          have hnd : (es.toList.map (·.key)).Nodup := by
            rw [hE.keys]
            exact List.Pairwise.map _ (fun a b hab e => hab (keyV_inj e)) hE.nodup
          have : j = i' := nodup_idx hnd q1 q2
          subst this
          rw [hlist, List.getElem?_set_self hjl] at hi'
          rw [← Option.some.inj hi']
theorem mk_clear {w : World} {b : Nat} {ks : List Cfg} {T : Nat} (h : MkAt w b ks T) : ∃ w6, (Builtin.clear_ #[45] 0 #[.map (some b)]).run Try.prog w = .ok (.tuple #[]) w6 ∧ MkAt w6 b [] 0 ∧ Kept (fun i => i = b) w w6 := by
  obtain ⟨es, c, hb, hE⟩ := h
  refine ⟨Go.ChangeMaps.setBlock w b (.map #[] c), ?_, ⟨#[], c, Go.ChangeMaps.heap_setBlock_same hb _, rfl, by simp, by simp, by simp, List.nodup_nil, by simp⟩, kept_setBlock w b _ hb⟩
  simp [Builtin.clear_, run_underlying Try.underlying45, MapKept.run_getObj_map hb, MapKept.run_setObj_map _ hb, Result.andThen, Go.ChangeMaps.setBlock]
theorem mk_len {w : World} {b : Nat} {ks : List Cfg} {T : Nat} (h : MkAt w b ks T) (ty : TypeId) : (Builtin.len_ #[45] ty #[.map (some b)]).run Try.prog w = .ok (.int .i64 ks.length) w := by
  obtain ⟨es, c, hb, hE⟩ := h
  simp [Builtin.len_, run_underlying Try.underlying45, MapKept.run_getObj_map hb, Result.andThen, goInt, hE.len]
end Go.Proofs.Ytgpfnlbhclefgaa
