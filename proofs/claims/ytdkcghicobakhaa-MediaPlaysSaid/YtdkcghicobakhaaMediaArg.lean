/- Chapter 3: rows of bools, and scripts, opened. -/
import Derived.Test.YtdkcghicobakhaaMediaD
import Derived.Test.YtdkcghicobakhaaFrame
import Derived.Deep.Slices
namespace Go.Proofs.Ytdkcghicobakhaa
open Go.ChangeShapes Go.WideShapes Go.ChangeAt Go.RowKit
set_option linter.unusedVariables false

section
variable {H : Type} {enc : TypeId × Value → H} {P : Program}
variable {W : World} {base : Nat} {sp : Nat → Bool} {held : Bool} {r : Reach} {b0 : Nat} {t : TypeId} {v : Value} {d : DataW H} {ps : List MemPlace}
theorem list_of {α : Type} {len : Nat} {p : Nat → α → Prop} (h : ∀ i, i < len → ∃ a, p i a) : ∃ l : List α, l.length = len ∧ ∀ i (hi : i < l.length), p i l[i] := by
  have hex : ∀ i : Fin len, ∃ a, p i.val a := fun i => h i.val i.isLt
  refine ⟨List.ofFn fun i : Fin len => Classical.choose (hex i), List.length_ofFn, fun i hi => ?_⟩
  rw [List.length_ofFn] at hi
  have e : (List.ofFn fun i : Fin len => Classical.choose (hex i))[i]'(by rw [List.length_ofFn]; exact hi) = Classical.choose (hex ⟨i, hi⟩) := List.getElem_ofFn ..
  rw [e]
  exact Classical.choose_spec (hex ⟨i, hi⟩)
theorem bools_of_trod {e : TypeId} {fuel : Nat} {x : DataW H × List MemPlace} (ht : P.underlying t = some (.slice e)) (he : P.underlying e = some .bool) (hc : P.cellsOf e = 1) (h : DataW.trod enc P W base sp held fuel t [v] = some x) :
    ∃ l : List Bool, Rd W v l.length (bools l) := by
  rcases Go.Deep.open_slice1 ht hc h with ⟨hcs, _⟩ | ⟨a, len, cap, m, n, V, D, Pl, hcs, _, hlc, hm, hmm, _, hcell⟩
  · injection hcs with hcs _
    subst hcs
    exact ⟨[], Rd.nil W⟩
  · injection hcs with hcs _
    subst hcs
    have hlm : len ≤ m := by rw [hmm]; split <;> omega
    obtain ⟨l, hl, hat⟩ := list_of (α := Bool) (len := len) (p := fun i b => W.cell? (a.add i) = some (.bool b)) (fun i hi => by
      obtain ⟨h1, h2⟩ := hcell i (by omega)
      obtain ⟨b, hb, _⟩ := DataW.trod_bool he h2
      injection hb with hb _
      exact ⟨b, by rw [h1, hb]⟩)
    refine ⟨l, _, cap, by rw [hl], by omega, hm, fun j u hu => ?_⟩
    have hj : j < l.length := by
      have := (List.getElem?_eq_some_iff.1 hu).1
      simpa [bools] using this
    have hcj := hat j hj
    have hspot : a.spot = none := by
      have := World.cell?_spot (hat 0 (by omega))
      simpa [Addr.add] using this
    obtain ⟨b, o, s⟩ := a
    subst hspot
    refine ⟨b, o, rfl, ?_⟩
    rw [Addr.add_lit] at hcj
    rw [hcj]
    have e1 : (bools l)[j]? = some (.bool l[j]) := by simp [bools, hj]
    rw [e1] at hu
    exact hu
/-- a row of bools -/
theorem arg_bools {e : TypeId} (ht : P.underlying t = some (.slice e)) (he : P.underlying e = some .bool) (hc : P.cellsOf e = 1) (hval : Value.okWide P W r b0 t v) (hd : DataW.Trod enc P W base sp held t v d ps) :
    ∃ l : List Bool, Rd W v l.length (bools l) := by
  obtain ⟨a, len, cap, rfl⟩ := okWide_slice ht hval
  obtain ⟨fuel, hf⟩ := hd
  exact bools_of_trod ht he hc hf
end

/-- a step of a script; kv: the value of the row of its choices -/
structure Stp where
  d : Int
  a : Int
  w : Nat
  kv : Value
  keep : List Bool
def scell (s : Stp) : List Value := [.int .i64 s.d, .int .i64 s.a, .int .u64 s.w, s.kv]
def scells (l : List Stp) : List Value := l.flatMap scell
theorem scells_length (l : List Stp) : (scells l).length = l.length * 4 := by
  induction l with
  | nil => rfl
  | cons x L ih => simp only [scells, List.flatMap_cons, List.length_append, List.length_cons] at *; rw [ih]; simp [scell]; omega
theorem scells_at : ∀ (l : List Stp) (i : Nat) (h : i < l.length), (scells l)[i * 4]? = some (.int .i64 l[i].d) ∧ (scells l)[i * 4 + 1]? = some (.int .i64 l[i].a) ∧ (scells l)[i * 4 + 2]? = some (.int .u64 l[i].w) ∧ (scells l)[i * 4 + 3]? = some l[i].kv := by
  intro l
  induction l with
  | nil => intro i h; cases h
  | cons x L ih =>
    intro i h
    have e : scells (x :: L) = .int .i64 x.d :: .int .i64 x.a :: .int .u64 x.w :: x.kv :: scells L := rfl
    rw [e]
    cases i with
    | zero => exact ⟨rfl, rfl, rfl, rfl⟩
    | succ i =>
      have := ih i (by simp at h; omega)
      rw [show (i + 1) * 4 = i * 4 + 1 + 1 + 1 + 1 by omega]
      exact this
def I64s (n : Int) : Prop := -9223372036854775808 ≤ n ∧ n ≤ 9223372036854775807
def OkS (W : World) (s : Stp) : Prop := I64s s.d ∧ I64s s.a ∧ s.w < 18446744073709551616 ∧ Rd W s.kv s.keep.length (bools s.keep)
section
variable {H : Type} {enc : TypeId × Value → H}
variable {W : World} {base : Nat} {sp : Nat → Bool} {held : Bool} {r : Reach} {b0 : Nat} {v : Value} {d : DataW H} {ps : List MemPlace}
theorem arg_msteps (hval : Value.okWide Try.prog W r b0 22 v) (hd : DataW.Trod enc Try.prog W base sp held 22 v d ps) :
    ∃ l : List Stp, (∀ s ∈ l, OkS W s) ∧ Rd W v l.length (scells l) := by
  obtain ⟨a, len, cap, rfl⟩ := okWide_slice Try.underlying22 hval
  obtain ⟨fuel, hf⟩ := hd
  have ce : Try.prog.cellsOf 35 = 4 := by kernel_rfl
  rcases Go.Deep.open_slice Try.underlying22 hf with ⟨hcs, _⟩ | ⟨a, len, cap, m, n, D, Pl, hcs, _, hlc, hm, hmm, _, hx⟩
  · simp [Value.cells] at hcs
    obtain ⟨rfl, rfl, rfl⟩ := hcs
    exact ⟨[], by simp, ⟨none, 0, rfl, Nat.le_refl _, Nat.zero_le _, fun j u h => by simp [scells] at h⟩⟩
  · simp [Value.cells] at hcs
    obtain ⟨rfl, rfl, rfl⟩ := hcs
    have hlm : len ≤ m := by rw [hmm]; split <;> omega
    obtain ⟨l, hl, hat⟩ := list_of (α := Stp) (len := len) (p := fun i s => OkS W s ∧ W.cell? (a.add (i * 4)) = some (.int .i64 s.d) ∧ W.cell? (a.add (i * 4 + 1)) = some (.int .i64 s.a) ∧ W.cell? (a.add (i * 4 + 2)) = some (.int .u64 s.w) ∧ W.cell? (a.add (i * 4 + 3)) = some s.kv) (fun i hi => by
      obtain ⟨cs', h1, h2⟩ := hx i (by omega)
      rw [ce] at h1
      obtain ⟨_, hlen, hcell⟩ := World.cells?_some h1
      obtain ⟨xs, k, hk, hxy, _, hxl, hfl⟩ := DataW.trod_struct Try.underlying35 h2
      match xs, hxl, cs', hlen with
      | [y0, y1, y2, y3], _, [v0, v1, v2, v3], _ =>
        have g0 := hfl 0 _ rfl
        have g1 := hfl 1 _ rfl
        have g2 := hfl 2 _ rfl
        have g3 := hfl 3 _ rfl
        have k0 : Try.prog.cellsOf 3 = 1 := by kernel_rfl
        have k1 : Try.prog.cellsOf 32 = 1 := by kernel_rfl
        have k2 : Try.prog.cellsOf 33 = 1 := by kernel_rfl
        simp [k0, k1, k2] at g0 g1 g2 g3
        have e0 := hcell 0 (by omega)
        have e1 := hcell 1 (by omega)
        have e2 := hcell 2 (by omega)
        have e3 := hcell 3 (by omega)
        rw [Go.Deep.add_add] at e0 e1 e2 e3
        obtain ⟨n0, hn0, _, w0⟩ := DataW.trod_int Try.underlying3 g0
        obtain ⟨n1, hn1, _, w1⟩ := DataW.trod_int Try.underlying3 g1
        obtain ⟨n2, hn2, _, w2⟩ := DataW.trod_int Try.underlying32 g2
        obtain ⟨kl, hkl⟩ := bools_of_trod Try.underlying33 Try.underlying4 (by kernel_rfl) g3
        injection hn0 with hn0 _
        injection hn1 with hn1 _
        injection hn2 with hn2 _
        subst hn0; subst hn1; subst hn2
        have q0 : IntKind.min .i64 ≤ n0 ∧ n0 ≤ IntKind.max .i64 := by simpa [Lit.wf] using w0
        have q1 : IntKind.min .i64 ≤ n1 ∧ n1 ≤ IntKind.max .i64 := by simpa [Lit.wf] using w1
        have q2 : 0 ≤ n2 ∧ n2 ≤ 18446744073709551615 := by simpa [Lit.wf, IntKind.min, IntKind.max, IntKind.signed, IntKind.bits] using w2
        obtain ⟨m2, rfl⟩ := Int.eq_ofNat_of_zero_le q2.1
        exact ⟨⟨n0, n1, m2, v3, kl⟩, ⟨q0, q1, by have := q2.2; show m2 < 18446744073709551616; omega, hkl⟩, by simpa using e0, by simpa using e1, by simpa using e2, by simpa using e3⟩)
    refine ⟨l, fun s hs => ?_, ?_⟩
    · obtain ⟨i, hi, rfl⟩ := List.mem_iff_getElem.1 hs
      exact (hat i hi).1
    · refine ⟨_, cap, by rw [hl], by omega, hm, fun j u hu => ?_⟩
      have hj : j < l.length * 4 := by
        have := (List.getElem?_eq_some_iff.1 hu).1
        rw [scells_length] at this
        exact this
      have hq : j / 4 < l.length := by omega
      obtain ⟨_, g0, g1, g2, g3⟩ := hat (j / 4) hq
      obtain ⟨k0, k1, k2, k3⟩ := scells_at l (j / 4) hq
      have hspot : a.spot = none := by
        have := World.cell?_spot (hat 0 (by omega)).2.1
        simpa [Addr.add] using this
      obtain ⟨b, o, s⟩ := a
      subst hspot
      refine ⟨b, o, rfl, ?_⟩
      rw [Addr.add_lit] at g0 g1 g2 g3
      rcases (show j % 4 = 0 ∨ j % 4 = 1 ∨ j % 4 = 2 ∨ j % 4 = 3 by omega) with hh | hh | hh | hh
      · have ej : j = j / 4 * 4 := by omega
        rw [ej] at hu ⊢
        rw [k0] at hu
        rw [g0]; exact hu
      · have ej : j = j / 4 * 4 + 1 := by omega
        rw [ej] at hu ⊢
        rw [k1] at hu
        rw [g1]; exact hu
      · have ej : j = j / 4 * 4 + 2 := by omega
        rw [ej] at hu ⊢
        rw [k2] at hu
        rw [g2]; exact hu
      · have ej : j = j / 4 * 4 + 3 := by omega
        rw [ej] at hu ⊢
        rw [k3] at hu
        rw [g3]; exact hu
end
end Go.Proofs.Ytdkcghicobakhaa
