/- Lists of entries, opened. -/
import Derived.Test.YtlfnpjdnfkcigaaDoorRedoPlain
import Derived.Test.YtlfnpjdnfkcigaaDoorFrame
import Derived.Deep.Slices
namespace Go.Proofs.YtlfnpjdnfkcigaaDoor
open Go.ChangeShapes Go.WideShapes Go.ChangeAt Go.RowKit
set_option linter.unusedVariables false

theorem list_of {α : Type} {len : Nat} {p : Nat → α → Prop} (h : ∀ i, i < len → ∃ a, p i a) : ∃ l : List α, l.length = len ∧ ∀ i (hi : i < l.length), p i l[i] := by
  have hex : ∀ i : Fin len, ∃ a, p i.val a := fun i => h i.val i.isLt
  refine ⟨List.ofFn fun i : Fin len => Classical.choose (hex i), List.length_ofFn, fun i hi => ?_⟩
  rw [List.length_ofFn] at hi
  have e : (List.ofFn fun i : Fin len => Classical.choose (hex i))[i]'(by rw [List.length_ofFn]; exact hi) = Classical.choose (hex ⟨i, hi⟩) := List.getElem_ofFn ..
  rw [e]
  exact Classical.choose_spec (hex ⟨i, hi⟩)
section
variable {H : Type} {enc : TypeId × Value → H}
variable {W : World} {base : Nat} {sp : Nat → Bool} {held : Bool} {r : Reach} {b0 : Nat} {v : Value} {d : DataW H} {ps : List MemPlace}
set_option maxRecDepth 100000 in
theorem arg_redos (hval : Value.okWide Tryd.prog W r b0 22 v) (hd : DataW.Trod enc Tryd.prog W base sp held 22 v d ps) :
    ∃ l : List Rdo, (∀ s ∈ l, OkR s) ∧ Rd W v l.length (rcells l) := by
  obtain ⟨a, len, cap, rfl⟩ := okWide_slice Tryd.underlying22 hval
  obtain ⟨fuel, hf⟩ := hd
  have ce : Tryd.prog.cellsOf 45 = 2 := by kernel_rfl
  rcases Go.Deep.open_slice Tryd.underlying22 hf with ⟨hcs, _⟩ | ⟨a, len, cap, m, n, D, Pl, hcs, _, hlc, hm, hmm, _, hx⟩
  · simp [Value.cells] at hcs
    obtain ⟨rfl, rfl, rfl⟩ := hcs
    exact ⟨[], by simp, ⟨none, 0, rfl, Nat.le_refl _, Nat.zero_le _, fun j u h => by simp [rcells] at h⟩⟩
  · simp [Value.cells] at hcs
    obtain ⟨rfl, rfl, rfl⟩ := hcs
    have hlm : len ≤ m := by rw [hmm]; split <;> omega
    obtain ⟨l, hl, hat⟩ := list_of (α := Rdo) (len := len) (p := fun i s => OkR s ∧ W.cell? (a.add (i * 2)) = some (.int .i64 s.a) ∧ W.cell? (a.add (i * 2 + 1)) = some (.int .u64 (s.w : Nat))) (fun i hi => by
      obtain ⟨cs', h1, h2⟩ := hx i (by omega)
      rw [ce] at h1
      obtain ⟨_, hlen, hcell⟩ := World.cells?_some h1
      obtain ⟨xs, k, hk, hxy, _, hxl, hfl⟩ := DataW.trod_struct Tryd.underlying45 h2
      match xs, hxl, cs', hlen with
      | [y0, y1], _, [v0, v1], _ =>
        have g0 := hfl 0 _ rfl
        have g1 := hfl 1 _ rfl
        have k0 : Tryd.prog.cellsOf 3 = 1 := by kernel_rfl
        have k1 : Tryd.prog.cellsOf 26 = 1 := by kernel_rfl
        simp [k0, k1] at g0 g1
        have e0 := hcell 0 (by omega)
        have e1 := hcell 1 (by omega)
        rw [Go.Deep.add_add] at e0 e1
        obtain ⟨n0, hn0, _, w0⟩ := DataW.trod_int Tryd.underlying3 g0
        obtain ⟨n1, hn1, _, w1⟩ := DataW.trod_int Tryd.underlying26 g1
        injection hn0 with hn0 _
        injection hn1 with hn1 _
        subst hn0; subst hn1
        have q0 : IntKind.min .i64 ≤ n0 ∧ n0 ≤ IntKind.max .i64 := by simpa [Lit.wf] using w0
        have q1 : 0 ≤ n1 ∧ n1 ≤ 18446744073709551615 := by simpa [Lit.wf, IntKind.min, IntKind.max, IntKind.signed, IntKind.bits] using w1
        obtain ⟨m1, rfl⟩ := Int.eq_ofNat_of_zero_le q1.1
        exact ⟨⟨n0, m1⟩, ⟨q0, by have := q1.2; show m1 < 18446744073709551616; omega⟩, by simpa using e0, by simpa using e1⟩)
    refine ⟨l, fun s hs => ?_, ?_⟩
    · obtain ⟨i, hi, rfl⟩ := List.mem_iff_getElem.1 hs
      exact (hat i hi).1
    · refine ⟨_, cap, by rw [hl], by omega, hm, fun j u hu => ?_⟩
      have hj : j < l.length * 2 := by
        have := (List.getElem?_eq_some_iff.1 hu).1
        rw [rcells_length] at this
        exact this
      have hq : j / 2 < l.length := by omega
      obtain ⟨_, g0, g1⟩ := hat (j / 2) hq
      obtain ⟨k0, k1⟩ := rcells_at l (j / 2) hq
      have hspot : a.spot = none := by
        have := World.cell?_spot (hat 0 (by omega)).2.1
        simpa [Addr.add] using this
      obtain ⟨b, o, s⟩ := a
      subst hspot
      refine ⟨b, o, rfl, ?_⟩
      rw [Addr.add_lit] at g0 g1
      rcases (show j % 2 = 0 ∨ j % 2 = 1 by omega) with hh | hh
      · have ej : j = j / 2 * 2 := by omega
        rw [ej] at hu ⊢
        rw [k0] at hu
        rw [g0]; exact hu
      · have ej : j = j / 2 * 2 + 1 := by omega
        rw [ej] at hu ⊢
        rw [k1] at hu
        rw [g1]; exact hu
end
end Go.Proofs.YtlfnpjdnfkcigaaDoor
