/- A region that draws its order, whose operations ahead of the last ones leave the world as it is, inside a fence and a round. No program in sight. Printed from Stt.tmpl. -/
import Derived.StillTailTactics
import Derived.OwnWalkIn
import Derived.RegionIn
import Derived.OrdersHeld
import Derived.RangeFuncCalls
namespace Go
set_option linter.unusedSimpArgs false
set_option linter.unusedVariables false
def plainOp (o : Oper) : Bool :=
  match o.op with
  | .move _ | .assign _ | .load .. | .binOp .. | .convert .. | .fieldAddr .. | .indexAddr .. | .index .. => true
  | _ => false
theorem plain_about {P : Program} {o : Oper} (h : plainOp o = true) (w : World) (ρ : Operand → Value) : o.about P w ρ = none := by
  unfold plainOp at h
  unfold Oper.about
  cases ho : o.op <;> rw [ho] at h <;> first | rfl | (simp at h)
theorem plain_defer {o : Oper} (h : plainOp o = true) : ∀ c, o.op ≠ .defer c := by
  intro c hc
  unfold plainOp at h
  rw [hc] at h
  simp at h
theorem plain_select {o : Oper} (h : plainOp o = true) {P : Program} {ρ : Operand → Value} {w : World} {f : FuncId} {args : Array Value} {w' : World} : (execOp ρ o).run P w ≠ .ok (.enter f args) w' := by
  have key : ∀ s : Sem Value, (do pure (Next.value (← s)) : Sem Next).run P w ≠ .ok (.enter f args) w' := by
    intro s e
    rw [Sem.run_bind] at e
    cases hr : s.run P w with
    | ok v w1 => rw [hr] at e; simp [Result.andThen] at e
    | halt x w1 => rw [hr] at e; simp [Result.andThen] at e
  unfold plainOp at h
  cases ho : o.op <;> rw [ho] at h <;> first | (simp at h; done) | (simp only [execOp, ho]; exact key _) | (simp only [execOp, ho]; intro e; simp at e)
section
variable {P : Program} {ops : Array Oper} {md : Region.Mode} {w : World} {F : Fence} {nn : Nat}
theorem wpOpIn_of_stOp {Q : Exit → Act → World → Prop} {i : Nat} {a : Act} {K : Act → Prop} {K' : Act → World → Prop} (hKK : ∀ a, K a → K' a w) (hp : ∀ o, ops[i]? = some o → plainOp o = true) (h : stOp P ops w i K a) : wpOpIn F nn P ops Q i K' a w := by
  unfold wpOpIn
  cases hi : ops[i]? with
  | none => simp only; unfold stOp at h; rw [hi] at h; exact hKK _ h
  | some o =>
    simp only
    have hpo := hp o hi
    obtain ⟨v, hy, hK⟩ := yieldsAt_of_stOp hi h
    rcases hy with ⟨hw, hv | ⟨hv, rfl⟩ | ⟨f, args, hv, _⟩⟩ | ⟨hw, rfl⟩
    · rw [if_pos hw]
      refine ⟨fun f hf => (by rw [plain_about hpo] at hf; cases hf), ?_⟩
      rw [Oper.semAt_plain F _ _ (plain_defer hpo), hv]
      exact hKK _ hK
    · rw [if_pos hw]
      refine ⟨fun f hf => (by rw [plain_about hpo] at hf; cases hf), ?_⟩
      rw [Oper.semAt_plain F _ _ (plain_defer hpo), hv]
      exact hKK _ hK
    · exact absurd hv (plain_select hpo)
    · rw [if_neg (by rw [hw]; simp)]
      exact ⟨fun f hf => (by rw [plain_about hpo] at hf; cases hf), hKK _ hK⟩
theorem wpAnyIn_of_head {n g : Nat} {L : Array Bool → Act → Prop} {Q' : Exit → Act → World → Prop} (hp : ∀ i o, i < n → ops[i]? = some o → plainOp o = true) (hL : ∀ listed a, L listed a → wpAnyIn F nn P md ops Q' g listed a w) :
    ∀ (f : Nat) (listed : Array Bool) (a : Act), wpAnyL P md ops w n L f listed a → wpAnyIn F nn P md ops Q' (f + g) listed a w
  | 0, listed, a, h => by rw [Nat.zero_add]; exact hL _ _ h
  | f + 1, listed, a, h => by
    rw [show f + 1 + g = (f + g) + 1 by omega]
    exact ⟨fun h0 => absurd h0 h.1, fun i hi => wpOpIn_of_stOp (fun a' h' => wpAnyIn_of_head hp hL f _ a' h') (fun o ho => hp i o (h.2 i hi).1 ho) (h.2 i hi).2⟩
theorem wpAnyIn_of_seq {Q' : Exit → Act → World → Prop} : ∀ (l : List Oper) (k : Nat) (listed : Array Bool) (a : Act) (w : World), (∀ j, l[j]? = ops[k + j]?) →
    Region.seqB md ops l.length k listed = true → wpListIn F nn P ops Q' l a w → wpAnyIn F nn P md ops Q' l.length listed a w
  | [], _, _, _, _, _, hB, h => ⟨by simpa [Region.seqB] using hB, h⟩
  | o :: l, k, listed, a, w, hl, hB, h => by
    have h0 : ops[k]? = some o := by simpa using (hl 0).symm
    simp only [List.length_cons, Region.seqB, Bool.and_eq_true, decide_eq_true_eq] at hB
    refine ⟨fun h1 => (by rw [hB.1] at h1; cases h1), fun i hi => ?_⟩
    rw [hB.1] at hi
    have hik : i = k := by simpa using hi
    subst hik
    have hw : wpOpIn F nn P ops Q' i (wpListIn F nn P ops Q' l) a w := by unfold wpOpIn; simp only [h0]; exact h
    exact wpOpIn_mono (fun a' w' h' => wpAnyIn_of_seq l (i + 1) _ a' w' (fun j => by have := hl (j + 1); simpa [Nat.add_assoc, Nat.add_comm 1 j] using this) hB.2 h') hw
theorem wpIn_region_still_tail {id : Nat} {Q : Exit → Act → World → Prop} {a : Act} {w : World} {l : List Oper} (n : Nat) (hm : P.follows .mixedOrders = true) (hB : Region.lexTailB .any l.toArray n = true) (hp : (l.take n).all plainOp = true)
    (h : wpStill P l.toArray { w with drawn := w.drawn + 1 } (fun a' => wpListIn F nn P l.toArray Q (l.drop n) a' { w with drawn := w.drawn + 1 }) (l.take n) a) : (Code.region id l.toArray true).wpIn F nn P Q a w := by
  simp only [Region.lexTailB, Bool.and_eq_true, decide_eq_true_eq] at hB
  obtain ⟨⟨⟨⟨hsel, hn⟩, hs⟩, hc⟩, hlex⟩ := hB
  have hn' : n < l.length := by simpa using hn
  have htl : (l.take n).length = n := by simp; omega
  have hdl : (l.drop n).length = l.toArray.size - n := by simp
  have inv0 : HeadInv .any l.toArray n (Array.replicate l.toArray.size false) :=
    ⟨by simp, fun j oj _ hl => (by rw [getD_replicate_false] at hl; cases hl), fun t _ ht => getD_in (by simpa using ht) (getD_replicate_false _ _)⟩
  have H := wpAnyL_lex (md := .any) (g := l.toArray.size - n) hsel hs hc hn (l.take n) 0 _ a (fun j hj => by
    have hj' : j < n := by rw [htl] at hj; exact hj
    simp [hj']) (by simpa using htl) inv0 (by rw [htl]; exact hlex) h
  refine wpIn_region_any hm ?_
  have := wpAnyIn_of_head (F := F) (nn := nn) (Q' := Q) (g := l.toArray.size - n) (fun i o hi ho => by
    refine List.all_eq_true.1 hp o ?_
    have h1 : (l.take n)[i]? = some o := by rw [List.getElem?_take_of_lt hi]; simpa using ho
    exact List.mem_of_getElem? h1) (fun listed a' hL => by
    have := wpAnyIn_of_seq (F := F) (nn := nn) (md := .any) (Q' := Q) (l.drop n) n listed a' { w with drawn := w.drawn + 1 } (fun j => by simp [List.getElem?_drop]) (by rw [hdl]; exact hL.1) hL.2
    rwa [hdl] at this) _ _ _ H
  rw [htl, show n + (l.toArray.size - n) = l.toArray.size by omega] at this
  exact this
/-- what goes in the open goes in a round of the wide fence, where no operation defers -/
theorem rows_round {l : Nat} {row : String} {args : Array Value} {R : Value → World → Prop} (h : Rows P row args w R) : RowsIn (Fence.wide.inRound l) nn P row args w R :=
  fun c cs _ => let ⟨v, w', r, s⟩ := h c cs; ⟨v, w', r, by rw [fenced_inRound]; exact stepsIn_wide.2 s⟩
theorem wpIn_of_wp_round {l : Nat} {o : Oper} {Q : Exit → Act → World → Prop} {a : Act} {K : Act → World → Prop} (hd : ∀ c, o.op ≠ .defer c) (h : o.wp P a w K Q) : o.wpIn (Fence.wide.inRound l) nn P a w K Q := by
  refine ⟨fun _ _ => trivial, ?_⟩
  rw [Oper.semAt_plain _ _ _ hd]
  unfold Oper.wp at h
  generalize (execOp a.eval o).run P w = r at *
  cases r with
  | ok x w' =>
    cases x with
    | value v => exact h
    | skip => exact h
    | defer d => exact h
    | enter f args => exact ⟨(fun e => by cases e), CallsIn.inRound l (callsIn_wide.2 h)⟩
    | row r args => exact ⟨(fun e => by cases e), rows_round h⟩
    | _ => exact h.elim
  | halt x w' => cases x <;> first | exact h | exact h.elim
theorem wpAnyIn_of_wpAny {l : Nat} {Q : Exit → Act → World → Prop} (hd : ∀ (i : Nat) (o : Oper), ops[i]? = some o → ∀ c, o.op ≠ .defer c) (hlet : ¬ LetsOut Q) :
    ∀ (f : Nat) (listed : Array Bool) (a : Act) (w : World), wpAny P md ops Q f listed a w → wpAnyIn (Fence.wide.inRound l) nn P md ops Q f listed a w
  | 0, _, _, _, h => h
  | f + 1, listed, a, w, h => ⟨h.1, fun i hi => by
    have h2 := h.2 i hi
    unfold wpOp at h2
    unfold wpOpIn
    cases ho : ops[i]? with
    | none => rw [ho] at h2; exact wpAnyIn_of_wpAny hd hlet f _ _ _ h2
    | some o =>
      rw [ho] at h2
      simp only at h2 ⊢
      split at h2
      · rename_i hw
        rw [if_pos hw]
        rcases h2 with h2 | h2
        · exact wpIn_of_wp_round (hd i o ho) (Oper.wp_mono (fun a' w' h' => wpAnyIn_of_wpAny hd hlet f _ a' w' h') h2)
        · exact absurd h2.2 hlet
      · rename_i hw
        rw [if_neg hw]
        exact ⟨fun _ _ => trivial, wpAnyIn_of_wpAny hd hlet f _ _ _ h2⟩⟩
def noDefer (l : List Oper) : Bool := l.all fun o => match o.op with | .defer _ => false | _ => true
theorem wpIn_region_held_round {l id : Nat} {S : World → Prop} {Q : Exit → Act → World → Prop} {a : Act} (hm : P.follows .mixedOrders = true) (hd : noDefer ops.toList = true) (hlet : ¬ LetsOut Q) (hS : S w.drew)
    (h : S w.drew → wpAnyH P .any ops Q S ops.size (Array.replicate ops.size false) a w.drew) : (Code.region id ops true).wpIn (Fence.wide.inRound l) nn P Q a w := by
  refine wpIn_region_any hm (wpAnyIn_of_wpAny (fun i o ho c hc => ?_) hlet _ _ _ _ (wpAny_of_held _ _ _ _ (h hS)))
  have := List.all_eq_true.1 hd o (by
    have := Array.mem_of_getElem? ho
    exact Array.mem_toList_iff.2 this)
  rw [hc] at this
  simp at this
end
end Go
