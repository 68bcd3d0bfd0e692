/- A region that draws its order, inside a round of a loop over a function, at the wide fence: its walk outside rounds serves (a 'defer' apart). Over any program. -/
import Derived.Test.YteojodddfanepaaMem
import Derived.StillTailTactics
import Derived.RangeFuncCalls
import Derived.OwnWalkIn
namespace Go.Proofs.Yteojodddfanepaa
set_option linter.unusedVariables false
open Go.RowKit

section
variable {P : Program} {ops : Array Oper} {Q : Exit → Act → World → Prop}
theorem uponIn_of_upon {l n : Nat} {o : Oper} {a : Act} {K K' : Act → World → Prop} (hK : ∀ a w, K a w → K' a w) : ∀ (r : Result Next), o.upon P a K Q r → o.uponIn (Fence.wide.inRound l) n P a K' Q r
  | .ok (.value v) w', h => hK _ _ h
  | .ok .skip w', h => hK _ _ h
  | .ok (.defer d) w', h => hK _ _ h
  | .ok (.enter f args) w', h => by
    refine ⟨fun h => (by cases h), CallsIn.inRound l (callsIn_wide.2 (Calls.mono h ?_))⟩
    rintro (v | c | _) w'' hh
    · exact hK _ _ hh
    · exact hh
    · exact hh
  | .ok (.row row args) w', h => by
    refine ⟨fun h => (by cases h), fun c cs _ => ?_⟩
    obtain ⟨v, w'', hh, hs⟩ := h c cs
    exact ⟨v, w'', hK _ _ hh, stepsIn_wide.2 hs⟩
  | .ok (.round _ _ _ _ _) w', h => h.elim
  | .halt x w', h => by
    cases x <;> first | exact h | exact False.elim h

theorem wpOpsIn_of_wpOps {l n : Nat} (hQ : ¬ LetsOut Q) (hd : ∀ (i : Nat) (o : Oper), ops[i]? = some o → ∀ c, o.op ≠ .defer c) : ∀ (is : List Nat) (a : Act) (w : World), wpOps P ops Q is a w → wpOpsIn (Fence.wide.inRound l) n P ops Q is a w
  | [], a, w, h => h
  | i :: rest, a, w, h => by
    unfold wpOps at h
    unfold wpOpsIn
    cases ho : ops[i]? with
    | none => rw [ho] at h; exact wpOpsIn_of_wpOps hQ hd rest a w h
    | some o =>
      rw [ho] at h
      simp only at h ⊢
      split
      · rename_i hw
        rw [if_pos hw] at h
        rcases h with h | h
        · refine ⟨fun f _ => trivial, ?_⟩
          rw [Oper.semAt_plain _ _ _ (hd i o ho)]
          exact uponIn_of_upon (fun a w hh => wpOpsIn_of_wpOps hQ hd rest a w hh) _ h
        · exact absurd h.2 hQ
      · rename_i hw
        rw [if_neg hw] at h
        exact ⟨fun f _ => trivial, wpOpsIn_of_wpOps hQ hd rest _ w h⟩

/-- no 'defer' among them -/
def noDefer (ops : Array Oper) : Bool := ops.all fun o => match o.op with | .defer _ => false | _ => true
theorem noDefer_spec (h : noDefer ops = true) : ∀ (i : Nat) (o : Oper), ops[i]? = some o → ∀ c, o.op ≠ .defer c := by
  intro i o ho c hc
  have := Array.all_eq_true'.1 h o (Array.mem_of_getElem? ho)
  rw [hc] at this
  cases this

theorem region_round_any {id l n : Nat} {a : Act} {w : World} (hQ : ∀ a w, ¬ Q .outgrown a w) (hd : noDefer ops = true) (hm : P.follows .mixedOrders = true)
    (h : wpAny P .any ops Q ops.size (Array.replicate ops.size false) a { w with drawn := w.drawn + 1 }) : (Code.region id ops true).wpIn (Fence.wide.inRound l) n P Q a w :=
  wpIn_region_draw fun t => by
    simp only [Region.schedule, hm, Bool.true_or, if_true]
    exact wpOpsIn_of_wpOps (fun ⟨a, w, hh⟩ => hQ a w hh) (noDefer_spec hd) _ _ _ (wpAny_sound ops.size t _ a _ h)

/-- loads, then stores in a chain -/
theorem region_round_tail {id l0 k : Nat} {a : Act} {w : World} {l : List Oper} (n : Nat) (hQ : ∀ a w, ¬ Q .outgrown a w) (hd : noDefer l.toArray = true) (hm : P.follows .mixedOrders = true) (hB : Region.lexTailB .any l.toArray n = true)
    (h : wpStill P l.toArray w.drew (fun a' => wpList P l.toArray Q (l.drop n) a' w.drew) (l.take n) a) : (Code.region id l.toArray true).wpIn (Fence.wide.inRound l0) k P Q a w := by
  simp only [Region.lexTailB, Bool.and_eq_true, decide_eq_true_eq] at hB
  obtain ⟨⟨⟨⟨hsel, hn⟩, hs⟩, hc⟩, hlex⟩ := hB
  have h0 : n < l.length := by simpa using hn
  have e1 : (l.take n).length = n := by simp; omega
  have e2 : (l.drop n).length = l.toArray.size - n := by simp
  refine region_round_any hQ hd hm ?_
  have inv : HeadInv .any l.toArray n (Array.replicate l.toArray.size false) :=
    { size := by simp, closed := fun j oj _ hl => by (rw [getD_replicate_false] at hl; cases hl), tail := fun t _ ht => getD_in (by simpa using ht) (getD_replicate_false _ _) }
  have hL := wpAnyL_lex (md := .any) (g := l.toArray.size - n) hsel hs hc hn (l.take n) 0 _ a (by
    intro j hj
    rw [e1] at hj
    simp [hj]) (by omega) inv (by rw [e1]; exact hlex) h
  have hA := wpAny_of_head (Q' := Q) (g := l.toArray.size - n) (by
    intro listed a' hh
    have := wpAny_of_seq (md := .any) (Q' := Q) (l.drop n) n listed a' w.drew (fun j => by simp [List.getElem?_drop]) (by rw [e2]; exact hh.1) hh.2
    rwa [e2] at this) _ _ _ hL
  rw [e1, show n + (l.toArray.size - n) = l.toArray.size by omega] at hA
  exact hA
end
end Go.Proofs.Yteojodddfanepaa
