/- From a walk of a law to its given statement: an argument that is a slice of structs of two fields. -/
import Derived.Test.YteojodddfanepaaFrame
import Derived.Deep.SlicePairs
namespace Go.Proofs.Yteojodddfanepaa
open Go.ChangeShapes Go.WideShapes Go.ChangeAt Go.RowKit
set_option linter.unusedVariables false

/-- rows of two cells an element -/
def cells2 {α : Type} (f g : α → Value) (l : List α) : List Value := l.flatMap fun s => [f s, g s]
theorem cells2_at {α : Type} (f g : α → Value) : ∀ (l : List α) (i : Nat) (h : i < l.length), (cells2 f g l)[i * 2]? = some (f l[i]) ∧ (cells2 f g l)[i * 2 + 1]? = some (g l[i]) := by
  intro l
  induction l with
  | nil => intro i h; cases h
  | cons s l ih =>
    intro i h
    have e : cells2 f g (s :: l) = f s :: g s :: cells2 f g l := rfl
    rw [e]
    cases i with
    | zero => exact ⟨rfl, rfl⟩
    | succ i =>
      have := ih i (by simp at h; omega)
      rw [show (i + 1) * 2 = i * 2 + 1 + 1 by omega]
      exact this
theorem cells2_length {α : Type} (f g : α → Value) (l : List α) : (cells2 f g l).length = l.length * 2 := by
  induction l with
  | nil => rfl
  | cons s l ih =>
    have e : cells2 f g (s :: l) = f s :: g s :: cells2 f g l := rfl
    rw [e]
    simp only [List.length_cons, ih]
    omega
section
variable {H : Type} {enc : TypeId × Value → H} {P : Program}
variable {W : World} {base : Nat} {sp : Nat → Bool} {held : Bool} {r : Reach} {b0 : Nat} {t : TypeId} {v : Value} {d : DataW H} {ps : List MemPlace}
theorem arg_pairs {α : Type} (f g : α → Value) (ok : α → Prop) {e : TypeId} {f0 f1 : Field} (ht : P.underlying t = some (.slice e)) (he : P.underlying e = some (.struct #[f0, f1]))
    (ce : P.cellsOf e = 2) (o0 : f0.offset = 0) (o1 : f1.offset = 1) (c0 : P.cellsOf f0.type = 1) (c1 : P.cellsOf f1.type = 1)
    (hdec : ∀ n x y V0 V1, DataW.trod enc P W base sp held n f0.type [V0] = some x → DataW.trod enc P W base sp held n f1.type [V1] = some y → ∃ s : α, V0 = f s ∧ V1 = g s ∧ ok s)
    (hval : Value.okWide P W r b0 t v) (hd : DataW.Trod enc P W base sp held t v d ps) :
    ∃ l : List α, (∀ s ∈ l, ok s) ∧ Rd W v l.length (cells2 f g l) := by
  obtain ⟨a, len, cap, rfl⟩ := okWide_slice ht hval
  obtain ⟨fuel, hf⟩ := hd
  rcases Go.Deep.open_slice_pairs ht he ce o0 o1 c0 c1 hf with ⟨hcs, _⟩ | ⟨x, l, c, m, n, V0, V1, D0, D1, P0, P1, hcs, _, hlc, hm, hmm, _, hcell⟩
  · simp [Value.cells] at hcs
    obtain ⟨rfl, rfl, rfl⟩ := hcs
    exact ⟨[], by simp, ⟨none, 0, rfl, Nat.le_refl _, Nat.zero_le _, fun j u h => by simp [cells2] at h⟩⟩
  · simp [Value.cells] at hcs
    obtain ⟨rfl, rfl, rfl⟩ := hcs
    have hlm : len ≤ m := by rw [hmm]; split <;> omega
    have hex : ∀ i : Fin len, ∃ s : α, V0 i = f s ∧ V1 i = g s ∧ ok s := fun i => by
      have hi : i.val < m := by have := i.isLt; omega
      obtain ⟨_, _, h1, h2⟩ := hcell i hi
      exact hdec n _ _ _ _ h1 h2
    let L : List α := List.ofFn fun i : Fin len => Classical.choose (hex i)
    have hL : L.length = len := List.length_ofFn
    have hat : ∀ i (h : i < L.length) (h' : i < len), V0 i = f L[i] ∧ V1 i = g L[i] ∧ ok L[i] := fun i h h' => by
      have e : L[i] = Classical.choose (hex ⟨i, h'⟩) := List.getElem_ofFn ..
      rw [e]
      exact Classical.choose_spec (hex ⟨i, h'⟩)
    refine ⟨L, fun s hs => ?_, ?_⟩
    · obtain ⟨i, hi, rfl⟩ := List.mem_iff_getElem.1 hs
      exact (hat i hi (by rw [← hL]; exact hi)).2.2
    · rw [hL]
      refine ⟨_, cap, rfl, hlc, hm, fun j u hu => ?_⟩
      have hj : j < len * 2 := by
        have := (List.getElem?_eq_some_iff.1 hu).1
        rw [cells2_length, hL] at this
        exact this
      have hq : j / 2 < len := by omega
      obtain ⟨g0, g1, _, _⟩ := hcell (j / 2) (by omega)
      obtain ⟨e0, e1, _⟩ := hat (j / 2) (by rw [hL]; exact hq) hq
      obtain ⟨k0, k1⟩ := cells2_at f g L (j / 2) (by rw [hL]; exact hq)
      have hspot : x.spot = none := by
        have hc0 := World.cell?_spot (hcell 0 (by omega)).1
        simpa [Addr.add] using hc0
      obtain ⟨b, o, s⟩ := x
      subst hspot
      refine ⟨b, o, rfl, ?_⟩
      rw [Addr.add_lit] at g0 g1
      rcases (show j % 2 = 0 ∨ j % 2 = 1 by omega) with hh | hh
      · have ej : j = j / 2 * 2 := by omega
        rw [ej] at hu ⊢
        rw [k0] at hu
        rw [g0, e0]
        exact hu
      · have ej : j = j / 2 * 2 + 1 := by omega
        rw [ej] at hu ⊢
        rw [k1] at hu
        rw [g1, e1]
        exact hu
end
end Go.Proofs.Yteojodddfanepaa
