/- A record by value, opened. -/
import Derived.Test.YtnpmepklgakaiaaDoorInodeE
import Derived.Test.YtnpmepklgakaiaaDoorFrame
import Derived.Lib.SmallJoins
import Derived.Laws.IdiomArrays
namespace Go.Proofs.YtnpmepklgakaiaaDoor
open Go.ChangeShapes Go.WideShapes Go.ChangeAt Go.RowKit Go.Joins
set_option linter.unusedVariables false
section
variable {H : Type} {enc : TypeId × Value → H}
variable {W : World} {base : Nat} {sp : Nat → Bool} {held : Bool} {r : Reach} {b0 : Nat} {v : Value} {d : DataW H} {ps : List MemPlace}
set_option maxRecDepth 100000 in
set_option maxHeartbeats 4000000 in
theorem arg_inode (hval : Value.okWide Tryd.prog W r b0 25 v) (hd : DataW.Trod enc Tryd.prog W base sp held 25 v d ps) :
    ∃ x : Ino, v = iv x ∧ OkI x := by
  obtain ⟨cs, rfl, hsz⟩ := okWide_struct Tryd.underlying25 hval
  have hC : Tryd.prog.cellsOf 25 = 13 := by kernel_rfl
  have z8 : Tryd.prog.cellsOf 5 = 1 := by kernel_rfl
  have z32 : Tryd.prog.cellsOf 22 = 1 := by kernel_rfl
  have zi : Tryd.prog.cellsOf 3 = 1 := by kernel_rfl
  have z64 : Tryd.prog.cellsOf 2 = 1 := by kernel_rfl
  have z4 : Tryd.prog.cellsOf 23 = 4 := by kernel_rfl
  rw [hC] at hsz
  obtain ⟨l⟩ := cs
  have hl : l.length = 13 := hsz
  match l, hl with
  | [c0, c1, c2, c3, c4, c5, c6, c7, c8, c9, c10, c11, c12], _ =>
  obtain ⟨fuel, hf⟩ := hd
  obtain ⟨xs, n, _, _, _, hlen, hx⟩ := DataW.trod_struct Tryd.underlying25 hf
  match xs, hlen with
  | [y0, y1, y2, y3, y4, y5, y6, y7, y8, y9], _ =>
  have t0 := hx 0 _ rfl
  have t1 := hx 1 _ rfl
  have t2 := hx 2 _ rfl
  have t3 := hx 3 _ rfl
  have t4 := hx 4 _ rfl
  have t5 := hx 5 _ rfl
  have t6 := hx 6 _ rfl
  have t7 := hx 7 _ rfl
  have t8 := hx 8 _ rfl
  have t9 := hx 9 _ rfl
  replace t0 : DataW.trod enc Tryd.prog W base sp held n 5 [c0] = some y0 := by simpa [Value.cells, z8, z32, zi, z64, z4] using t0
  replace t1 : DataW.trod enc Tryd.prog W base sp held n 3 [c1] = some y1 := by simpa [Value.cells, z8, z32, zi, z64, z4] using t1
  replace t2 : DataW.trod enc Tryd.prog W base sp held n 22 [c2] = some y2 := by simpa [Value.cells, z8, z32, zi, z64, z4] using t2
  replace t3 : DataW.trod enc Tryd.prog W base sp held n 2 [c3] = some y3 := by simpa [Value.cells, z8, z32, zi, z64, z4] using t3
  replace t4 : DataW.trod enc Tryd.prog W base sp held n 3 [c4] = some y4 := by simpa [Value.cells, z8, z32, zi, z64, z4] using t4
  replace t5 : DataW.trod enc Tryd.prog W base sp held n 3 [c5] = some y5 := by simpa [Value.cells, z8, z32, zi, z64, z4] using t5
  replace t6 : DataW.trod enc Tryd.prog W base sp held n 23 [c6, c7, c8, c9] = some y6 := by simpa [Value.cells, z8, z32, zi, z64, z4] using t6
  replace t7 : DataW.trod enc Tryd.prog W base sp held n 3 [c10] = some y7 := by simpa [Value.cells, z8, z32, zi, z64, z4] using t7
  replace t8 : DataW.trod enc Tryd.prog W base sp held n 2 [c11] = some y8 := by simpa [Value.cells, z8, z32, zi, z64, z4] using t8
  replace t9 : DataW.trod enc Tryd.prog W base sp held n 2 [c12] = some y9 := by simpa [Value.cells, z8, z32, zi, z64, z4] using t9
  obtain ⟨u0, u1, u2, u3, m, _, a0, a1, a2, a3⟩ := trod_array4 Tryd.underlying23 zi t6
  obtain ⟨i0, e0, _, w0⟩ := DataW.trod_int Tryd.underlying5 t0
  obtain ⟨i1, e1, _, w1⟩ := DataW.trod_int Tryd.underlying3 t1
  obtain ⟨i2, e2, _, w2⟩ := DataW.trod_int Tryd.underlying22 t2
  obtain ⟨i3, e3, _, w3⟩ := DataW.trod_int Tryd.underlying2 t3
  obtain ⟨i4, e4, _, w4⟩ := DataW.trod_int Tryd.underlying3 t4
  obtain ⟨i5, e5, _, w5⟩ := DataW.trod_int Tryd.underlying3 t5
  obtain ⟨i6, e6, _, w6⟩ := DataW.trod_int Tryd.underlying3 a0
  obtain ⟨i7, e7, _, w7⟩ := DataW.trod_int Tryd.underlying3 a1
  obtain ⟨i8, e8, _, w8⟩ := DataW.trod_int Tryd.underlying3 a2
  obtain ⟨i9, e9, _, w9⟩ := DataW.trod_int Tryd.underlying3 a3
  obtain ⟨i10, e10, _, w10⟩ := DataW.trod_int Tryd.underlying3 t7
  obtain ⟨i11, e11, _, w11⟩ := DataW.trod_int Tryd.underlying2 t8
  obtain ⟨i12, e12, _, w12⟩ := DataW.trod_int Tryd.underlying2 t9
  injection e0 with e0
  injection e1 with e1
  injection e2 with e2
  injection e3 with e3
  injection e4 with e4
  injection e5 with e5
  injection e6 with e6
  injection e7 with e7
  injection e8 with e8
  injection e9 with e9
  injection e10 with e10
  injection e11 with e11
  injection e12 with e12
  subst e0 e1 e2 e3 e4 e5 e6 e7 e8 e9 e10 e11 e12
  have k0 : IntKind.min .u8 ≤ i0 ∧ i0 ≤ IntKind.max .u8 := by simpa [Lit.wf] using w0
  have k1 : IntKind.min .i64 ≤ i1 ∧ i1 ≤ IntKind.max .i64 := by simpa [Lit.wf] using w1
  have k2 : IntKind.min .u32 ≤ i2 ∧ i2 ≤ IntKind.max .u32 := by simpa [Lit.wf] using w2
  have k3 : IntKind.min .i64 ≤ i3 ∧ i3 ≤ IntKind.max .i64 := by simpa [Lit.wf] using w3
  have k4 : IntKind.min .i64 ≤ i4 ∧ i4 ≤ IntKind.max .i64 := by simpa [Lit.wf] using w4
  have k5 : IntKind.min .i64 ≤ i5 ∧ i5 ≤ IntKind.max .i64 := by simpa [Lit.wf] using w5
  have k6 : IntKind.min .i64 ≤ i6 ∧ i6 ≤ IntKind.max .i64 := by simpa [Lit.wf] using w6
  have k7 : IntKind.min .i64 ≤ i7 ∧ i7 ≤ IntKind.max .i64 := by simpa [Lit.wf] using w7
  have k8 : IntKind.min .i64 ≤ i8 ∧ i8 ≤ IntKind.max .i64 := by simpa [Lit.wf] using w8
  have k9 : IntKind.min .i64 ≤ i9 ∧ i9 ≤ IntKind.max .i64 := by simpa [Lit.wf] using w9
  have k10 : IntKind.min .i64 ≤ i10 ∧ i10 ≤ IntKind.max .i64 := by simpa [Lit.wf] using w10
  have k11 : IntKind.min .i64 ≤ i11 ∧ i11 ≤ IntKind.max .i64 := by simpa [Lit.wf] using w11
  have k12 : IntKind.min .i64 ≤ i12 ∧ i12 ≤ IntKind.max .i64 := by simpa [Lit.wf] using w12
  simp only [IntKind.min, IntKind.max, IntKind.signed, IntKind.bits] at k0 k1 k2 k3 k4 k5 k6 k7 k8 k9 k10 k11 k12
  obtain ⟨i0, rfl⟩ := Int.eq_ofNat_of_zero_le (a := i0) (by simpa using k0.1)
  obtain ⟨i2, rfl⟩ := Int.eq_ofNat_of_zero_le (a := i2) (by simpa using k2.1)
  refine ⟨⟨i0, i1, i2, i3, i4, i5, i6, i7, i8, i9, i10, i11, i12⟩, rfl, ?_⟩
  unfold OkI Z64
  dsimp only
  simp at k0 k1 k2 k3 k4 k5 k6 k7 k8 k9 k10 k11 k12
  omega
end
end Go.Proofs.YtnpmepklgakaiaaDoor
