/- inode.of's closure. inode.of: its state, a put in it. -/
import Derived.Test.YtnpmepklgakaiaaDoorInodePlain
import Derived.Test.YtnpmepklgakaiaaDoorWordPut
import Derived.Test.YtnpmepklgakaiaaDoorInodeC
namespace Go.Proofs.YtnpmepklgakaiaaDoor
section
open Go.RowKit
set_option linter.unusedVariables false

/-- has a number room in a field of n bits? -/
def roomB (v : Int) (n : Nat) : Bool := decide (0 ≤ v) && decide (v < 2 ^ n)
/-- a word with a number put, 0 where it has no room -/
def putI (x a n : Nat) (v : Int) : Nat := if roomB v n = true then putW x a n v.toNat else 0

set_option maxRecDepth 100000 in
set_option maxHeartbeats 8000000 in
theorem put_any (tb q ib : Nat) (hne : tb ≠ ib) (x a n : Nat) (h1 : 1 ≤ n) (h2 : n ≤ 63) (h3 : a + n ≤ 64) (hx : x < 18446744073709551616) (v : Int) (hv1 : -9223372036854775808 ≤ v) (hv2 : v ≤ 9223372036854775807) (b : Bool) (w : World)
    (c0 : w.cell? ⟨tb, q, none⟩ = some (.int .u64 (x : Nat))) (f0 : w.frozen? ⟨tb, q, none⟩ = false) (c1 : w.cell? ⟨ib, 0, none⟩ = some (.bool b)) (f1 : w.frozen? ⟨ib, 0, none⟩ = false) :
    Calls Tryd.prog 27 #[.pointer (some ⟨tb, q, none⟩), .int .i64 (a : Nat), .int .i64 (n : Nat), .int .i64 v, .pointer (some ⟨ib, 0, none⟩)] w fun e w' => e = .returned (.tuple #[]) ∧
      w' = (w.setCell ⟨ib, 0, none⟩ (.bool (b && roomB v n))).setCell ⟨tb, q, none⟩ (.int .u64 (putI x a n v : Nat)) := by
  have hF : Fld (a : Int) (n : Int) := by unfold Fld; omega
  have hn2 : ¬ ib = tb := fun h => hne h.symm
  have hpw : (2 : Nat) ^ n ≤ 9223372036854775808 := Nat.pow_le_pow_right (n := 2) (j := 63) (by decide) h2
  by_cases hv : 0 ≤ v
  case neg =>
    have hw : IntKind.u64.wrap v = (((v + 18446744073709551616).toNat : Nat) : Int) := by rw [IntKind.wrap_u64]; omega
    have HP := Lib.hid (fun W => Put_big x (v + 18446744073709551616).toNat (a : Int) (n : Int) hF (by rw [Int.toNat_natCast]; omega) W)
    have hd : decide (v ≥ 0) = false := by simp; omega
    have hr : roomB v n = false := by unfold roomB; rw [decide_eq_false hv]; rfl
    have hp : putI x a n v = 0 := by unfold putI; rw [hr]; rfl
    rw [hr, hp]
    generalize (v + 18446744073709551616).toNat = u at *
    clear hr hp hpw hv
    cases b
    · go_enter Tryd.func27, Tryd.ntmps27
      go_wp2_with fail
      refine (HP.out _).mono ?_
      rintro e w' ⟨rfl, rfl⟩
      go_wp2
      go_end0
      exact ⟨rfl, rfl⟩
    · go_enter Tryd.func27, Tryd.ntmps27
      go_wp2_with fail
      refine (HP.out _).mono ?_
      rintro e w' ⟨rfl, rfl⟩
      go_wp2
      go_end0
      exact ⟨rfl, rfl⟩
  obtain ⟨u, rfl⟩ := Int.eq_ofNat_of_zero_le hv
  have hw : IntKind.u64.wrap (u : Int) = (u : Int) := by rw [IntKind.wrap_u64]; omega
  have hd : decide ((u : Int) ≥ 0) = true := by simp
  have hcast : ((u : Int) < 2 ^ n) ↔ u < 2 ^ n := by
    rw [show ((2 : Int) ^ n) = ((2 ^ n : Nat) : Int) by simp]
    omega
  by_cases hu : u < 2 ^ n
  · have HP := Lib.hid (fun W => Put_yes x u (a : Int) (n : Int) hF hx (by rw [Int.toNat_natCast]; exact hu) W)
    rw [Int.toNat_natCast, Int.toNat_natCast] at HP
    have hr : roomB (u : Int) n = true := by unfold roomB; rw [decide_eq_true hv, decide_eq_true (hcast.2 hu)]; rfl
    have hp : putI x a n (u : Int) = putW x a n u := by unfold putI; rw [if_pos hr, Int.toNat_natCast]
    rw [hr, hp]
    generalize putW x a n u = y at *
    clear hr hp hpw hv hcast hu
    cases b
    · go_enter Tryd.func27, Tryd.ntmps27
      go_wp2_with fail
      refine (HP.out _).mono ?_
      rintro e w' ⟨rfl, rfl⟩
      go_wp2
      go_end0
      exact ⟨rfl, rfl⟩
    · go_enter Tryd.func27, Tryd.ntmps27
      go_wp2_with fail
      refine (HP.out _).mono ?_
      rintro e w' ⟨rfl, rfl⟩
      go_wp2
      go_end0
      exact ⟨rfl, rfl⟩
  · have HP := Lib.hid (fun W => Put_big x u (a : Int) (n : Int) hF (by rw [Int.toNat_natCast]; exact hu) W)
    have hr : roomB (u : Int) n = false := by unfold roomB; rw [decide_eq_false (fun h => hu (hcast.1 h)), Bool.and_false]
    have hp : putI x a n (u : Int) = 0 := by unfold putI; rw [hr]; rfl
    rw [hr, hp]
    clear hr hp hpw hv hcast hu
    cases b
    · go_enter Tryd.func27, Tryd.ntmps27
      go_wp2_with fail
      refine (HP.out _).mono ?_
      rintro e w' ⟨rfl, rfl⟩
      go_wp2
      go_end0
      exact ⟨rfl, rfl⟩
    · go_enter Tryd.func27, Tryd.ntmps27
      go_wp2_with fail
      refine (HP.out _).mono ?_
      rintro e w' ⟨rfl, rfl⟩
      go_wp2
      go_end0
      exact ⟨rfl, rfl⟩
end
section
open Go.RowKit
set_option linter.unusedVariables false

/-- a record -/
structure Ino where
  k : Nat
  ln : Int
  gn : Nat
  sz : Int
  ar : Int
  mp : Int
  h0 : Int
  h1 : Int
  h2 : Int
  h3 : Int
  pa : Int
  mt : Int
  ct : Int
def icells (x : Ino) : Array Value := #[.int .u8 (x.k : Nat), .int .i64 x.ln, .int .u32 (x.gn : Nat), .int .i64 x.sz, .int .i64 x.ar, .int .i64 x.mp, .int .i64 x.h0, .int .i64 x.h1, .int .i64 x.h2, .int .i64 x.h3, .int .i64 x.pa, .int .i64 x.mt, .int .i64 x.ct]
def iv (x : Ino) : Value := .agg (icells x)
def Z64 (n : Int) : Prop := -9223372036854775808 ≤ n ∧ n ≤ 9223372036854775807
def OkI (x : Ino) : Prop := x.k < 256 ∧ Z64 x.ln ∧ x.gn < 4294967296 ∧ Z64 x.sz ∧ Z64 x.ar ∧ Z64 x.mp ∧ Z64 x.h0 ∧ Z64 x.h1 ∧ Z64 x.h2 ∧ Z64 x.h3 ∧ Z64 x.pa ∧ Z64 x.mt ∧ Z64 x.ct
/-- the three boxes of a call of 'of': the record, the words, whether all has room -/
structure OfSt (W w : World) (x : Ino) (T : List Nat) (b : Bool) : Prop where
  rec_ : w.heap[W.heap.size]? = some (.cells (icells x) 25 (0, 0))
  wds : w.heap[W.heap.size + 1]? = some (.cells (u64s T).toArray 48 (0, 0))
  isb : w.heap[W.heap.size + 2]? = some (.cells #[.bool b] 4 (0, 0))
  len : T.length = 7
  wd : ∀ y ∈ T, y < 18446744073709551616
  bel : Below W.heap.size W w
theorem putI_lt {x a n : Nat} {v : Int} (hx : x < 18446744073709551616) (h : a + n ≤ 64) : putI x a n v < 18446744073709551616 := by
  unfold putI
  split
  · exact putW_lt hx h
  · decide
theorem putS_any {W w : World} {x : Ino} {T : List Nat} {b : Bool} (h : OfSt W w x T b) (q : Nat) (hq : q < 7) (a n : Nat) (h1 : 1 ≤ n) (h2 : n ≤ 63) (h3 : a + n ≤ 64) (v : Int) (hv : Z64 v) :
    Calls Tryd.prog 27 #[.pointer (some ⟨W.heap.size + 1, q, none⟩), .int .i64 (a : Nat), .int .i64 (n : Nat), .int .i64 v, .pointer (some ⟨W.heap.size + 2, 0, none⟩)] w fun e w' => e = .returned (.tuple #[]) ∧
      OfSt W w' x (T.set q (putI (T.getD q 0) a n v)) (b && roomB v n) := by
  have hqT : q < T.length := by rw [h.len]; exact hq
  have hgd : T.getD q 0 = T[q] := by simp [List.getD, hqT]
  have hx : T.getD q 0 < 18446744073709551616 := by rw [hgd]; exact h.wd _ (List.getElem_mem hqT)
  have c0 : w.cell? ⟨W.heap.size + 1, q, none⟩ = some (.int .u64 (T.getD q 0 : Nat)) := by
    rw [cell_of_row w (W.heap.size + 1) q _ _ _ h.wds, hgd]
    simpa using u64s_at hqT
  have f0 : w.frozen? ⟨W.heap.size + 1, q, none⟩ = false := by simp [World.frozen?, h.wds]
  refine (put_any (W.heap.size + 1) q (W.heap.size + 2) (by omega) (T.getD q 0) a n h1 h2 h3 hx v hv.1 hv.2 b w c0 f0 (cell_of_one h.isb) (free_of_one h.isb)).mono ?_
  rintro e w' ⟨h4, rfl⟩
  refine ⟨h4, ⟨?_, ?_, ?_, by rw [List.length_set]; exact h.len, fun y hy => ?_, (h.bel.setCell (p := ⟨W.heap.size + 2, 0, none⟩) (by show W.heap.size ≤ W.heap.size + 2; omega) _).setCell (p := ⟨W.heap.size + 1, q, none⟩) (by show W.heap.size ≤ W.heap.size + 1; omega) _⟩⟩
  · rw [Below.heap_setCell _ _ _ _ (by show W.heap.size ≠ W.heap.size + 1; omega), Below.heap_setCell _ _ _ _ (by show W.heap.size ≠ W.heap.size + 2; omega)]
    exact h.rec_
  · have e1 : (w.setCell ⟨W.heap.size + 2, 0, none⟩ (.bool (b && roomB v n))).heap[W.heap.size + 1]? = some (.cells (u64s T).toArray 48 (0, 0)) := by
      rw [Below.heap_setCell _ _ _ _ (by show W.heap.size + 1 ≠ W.heap.size + 2; omega)]; exact h.wds
    have e2 := heap_setCell_same _ (W.heap.size + 1) q _ _ (.int .u64 (putI (T.getD q 0) a n v : Nat)) e1
    rw [e2, ← u64s_setAt]
    simp
  · rw [Below.heap_setCell _ _ _ _ (by show W.heap.size + 2 ≠ W.heap.size + 1; omega)]
    exact one_setCell h.isb
  · rcases List.mem_or_eq_of_mem_set hy with hy | rfl
    · exact h.wd y hy
    · exact putI_lt hx h3
end
end Go.Proofs.YtnpmepklgakaiaaDoor
