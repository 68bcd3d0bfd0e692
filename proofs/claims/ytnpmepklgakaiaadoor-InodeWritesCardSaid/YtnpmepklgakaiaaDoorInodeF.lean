/- inode.of. -/
import Derived.Test.YtnpmepklgakaiaaDoorInodeE
import Derived.ChangeKeysEq
namespace Go.Proofs.YtnpmepklgakaiaaDoor
open Go.RowKit
set_option linter.unusedVariables false

theorem blk13 {W : World} {b : Nat} {v0 v1 v2 v3 v4 v5 v6 v7 v8 v9 v10 v11 v12 : Value} {t : TypeId} (h : W.heap[b]? = some (.cells #[v0, v1, v2, v3, v4, v5, v6, v7, v8, v9, v10, v11, v12] t (0, 0))) :
    W.cell? ⟨b, 0, none⟩ = some v0 ∧ W.cell? ⟨b, 1, none⟩ = some v1 ∧ W.cell? ⟨b, 2, none⟩ = some v2 ∧ W.cell? ⟨b, 3, none⟩ = some v3 ∧ W.cell? ⟨b, 4, none⟩ = some v4 ∧ W.cell? ⟨b, 5, none⟩ = some v5 ∧ W.cell? ⟨b, 6, none⟩ = some v6 ∧ W.cell? ⟨b, 7, none⟩ = some v7 ∧ W.cell? ⟨b, 8, none⟩ = some v8 ∧ W.cell? ⟨b, 9, none⟩ = some v9 ∧ W.cell? ⟨b, 10, none⟩ = some v10 ∧ W.cell? ⟨b, 11, none⟩ = some v11 ∧ W.cell? ⟨b, 12, none⟩ = some v12 := by
  refine ⟨?_, ?_, ?_, ?_, ?_, ?_, ?_, ?_, ?_, ?_, ?_, ?_, ?_⟩ <;> simp [World.cell?, h]
/-- are the heads and the map in their place? -/
def ofIs0 (x : Ino) : Bool := if x.k = 2 then decide (x.mp = 0) else (decide (x.h0 = 0) && (decide (x.h1 = 0) && (decide (x.h2 = 0) && decide (x.h3 = 0))))
/-- a put: a word, a place, a width, a number -/
def stepI (s : List Nat × Bool) (p : Nat × Nat × Nat × Int) : List Nat × Bool := (s.1.set p.1 (putI (s.1.getD p.1 0) p.2.1 p.2.2.1 p.2.2.2), s.2 && roomB p.2.2.2 p.2.2.1)
def putsI (x : Ino) : List (Nat × Nat × Nat × Int) := [(0, 0, 8, (x.k : Int)), (0, 8, 8, x.ln), (0, 32, 32, (x.gn : Int)), (1, 0, 63, x.sz), (2, 0, 63, x.ar), (3, 0, 63, x.mp), (4, 0, 63, x.pa), (5, 0, 63, x.mt), (6, 0, 63, x.ct)]
def headsI (x : Ino) : List (Nat × Nat × Nat × Int) := if x.k = 2 then [(3, 0, 8, x.h0), (3, 8, 8, x.h1), (3, 16, 8, x.h2), (3, 24, 8, x.h3)] else []
/-- what 'of' tells of a record -/
def ofI (x : Ino) : List Nat × Bool := (headsI x).foldl stepI ((putsI x).foldl stepI (List.replicate 7 0, ofIs0 x))

theorem OfSt.open7 {W w : World} {x : Ino} {T : List Nat} {b : Bool} (h : OfSt W w x T b) : ∃ t0 t1 t2 t3 t4 t5 t6, T = [t0, t1, t2, t3, t4, t5, t6] := by
  have hl := h.len
  match T, hl with
  | [t0, t1, t2, t3, t4, t5, t6], _ => exact ⟨t0, t1, t2, t3, t4, t5, t6, rfl⟩
theorem frz7 {W : World} {b : Nat} {cs : Array Value} {t : TypeId} (h : W.heap[b]? = some (.cells cs t (0, 0))) :
    W.frozen? ⟨b, 0, none⟩ = false ∧ W.frozen? ⟨b, 1, none⟩ = false ∧ W.frozen? ⟨b, 2, none⟩ = false ∧ W.frozen? ⟨b, 3, none⟩ = false ∧ W.frozen? ⟨b, 4, none⟩ = false ∧ W.frozen? ⟨b, 5, none⟩ = false ∧ W.frozen? ⟨b, 6, none⟩ = false := by
  refine ⟨?_, ?_, ?_, ?_, ?_, ?_, ?_⟩ <;> simp [World.frozen?, h]
theorem ofSt_new (x : Ino) (W : World) (b : Bool) : OfSt W (((W.alloc (.cells (icells x) 25)).alloc (.cells #[.int .u64 0, .int .u64 0, .int .u64 0, .int .u64 0, .int .u64 0, .int .u64 0, .int .u64 0] 48)).alloc (.cells #[.bool b] 4)) x (List.replicate 7 0) b := by
  refine ⟨?_, ?_, ?_, rfl, fun y hy => by rw [List.eq_of_mem_replicate hy]; decide, (((Below.refl _ _).alloc (Nat.le_refl _) _).alloc (by simp) _).alloc (by simp; omega) _⟩
  · rw [heap_alloc_old _ _ (by simp; omega), heap_alloc_old _ _ (by simp)]; exact heap_alloc_new W _
  · rw [heap_alloc_old _ _ (by simp)]
    have := heap_alloc_new (W.alloc (.cells (icells x) 25)) (.cells #[.int .u64 0, .int .u64 0, .int .u64 0, .int .u64 0, .int .u64 0, .int .u64 0, .int .u64 0] 48)
    rw [World.size_alloc] at this
    exact this
  · have := heap_alloc_new ((W.alloc (.cells (icells x) 25)).alloc (.cells #[.int .u64 0, .int .u64 0, .int .u64 0, .int .u64 0, .int .u64 0, .int .u64 0, .int .u64 0] 48)) (.cells #[.bool b] 4)
    rw [World.size_alloc, World.size_alloc] at this
    exact this

theorem run_eq4In (w : World) (D : Nat) (a b c d a' b' c' d' : Int) : (Op.equalIn (D + 2) 23 (.agg #[.int .i64 a, .int .i64 b, .int .i64 c, .int .i64 d]) (.agg #[.int .i64 a', .int .i64 b', .int .i64 c', .int .i64 d'])).run Tryd.prog w = .ok (a == a' && (b == b' && (c == c' && d == d'))) w := by
  have hu : Tryd.prog.underlying 23 = some (.array 4 3) := by kernel_rfl
  have hi : (Tryd.prog.info? 3).isSome = true := by kernel_rfl
  obtain ⟨i, hi⟩ := Option.isSome_iff_exists.1 hi
  have hc : Tryd.prog.cellsOf 3 = 1 := by kernel_rfl
  have he : Tryd.prog.underlying 3 = some (.int .i64) := by kernel_rfl
  rw [run_equalIn_array w (D + 1) _ _ hu hi, hc]
  have hp : ∀ (xs : Array Value) (n : Nat) (v : Int), xs[n]? = some (.int .i64 v) → (part 3 xs n).run Tryd.prog w = .ok (.int .i64 v) w := fun xs n v h => by
    simp [part, isAgg, run_underlying he, h]
  have hs : ∀ (xs ys : Array Value) (n : Nat) (is : List Nat) (v v' : Int), xs[n]? = some (.int .i64 v) → ys[n]? = some (.int .i64 v') →
      (Op.eqItems (D + 1) 3 1 xs ys (n :: is)).run Tryd.prog w = if (v == v') = true then (Op.eqItems (D + 1) 3 1 xs ys is).run Tryd.prog w else .ok false w := fun xs ys n is v v' h h' => by
    simp only [Op.eqItems, Sem.run_bind, Nat.mul_one]
    rw [hp xs n v h, Result.andThen_ok, hp ys n v' h', Result.andThen_ok, run_equalIn_int w D _ _ _ _ _ he, Result.andThen_ok]
    cases v == v' <;> simp
  rw [show List.range 4 = [0, 1, 2, 3] from rfl, hs _ _ 0 _ a a' rfl rfl, hs _ _ 1 _ b b' rfl rfl, hs _ _ 2 _ c c' rfl rfl, hs _ _ 3 _ d d' rfl rfl]
  cases a == a' <;> cases b == b' <;> cases c == c' <;> cases d == d' <;> simp [Op.eqItems]
/-- a put as a step of 'of' -/
theorem putP {W w : World} {x : Ino} {s : List Nat × Bool} (h : OfSt W w x s.1 s.2) (q : Nat) (hq : q < 7) (a n : Nat) (h1 : 1 ≤ n) (h2 : n ≤ 63) (h3 : a + n ≤ 64) (v : Int) (hv : Z64 v) :
    Calls Tryd.prog 27 #[.pointer (some ⟨W.heap.size + 1, q, none⟩), .int .i64 (a : Nat), .int .i64 (n : Nat), .int .i64 v, .pointer (some ⟨W.heap.size + 2, 0, none⟩)] w fun e w' => e = .returned (.tuple #[]) ∧
      ∃ s', Hid (s' = stepI s (q, a, n, v)) ∧ OfSt W w' x s'.1 s'.2 :=
  (putS_any h q hq a n h1 h2 h3 v hv).mono fun e w' ⟨he, hs⟩ => ⟨he, _, Lib.hid rfl, hs⟩

/-- '==' of two rows of four numbers -/
theorem run_eq4 (w : World) (a b c d a' b' c' d' : Int) : (binOp .eql 23 (.agg #[.int .i64 a, .int .i64 b, .int .i64 c, .int .i64 d]) (.agg #[.int .i64 a', .int .i64 b', .int .i64 c', .int .i64 d'])).run Tryd.prog w = .ok (.bool (a == a' && (b == b' && (c == c' && d == d')))) w := by
  rw [run_eql_struct, show (10000 : Nat) = 9999 + 1 from rfl, run_eq4In]
  rfl
theorem guard_eq4 : Tryd.prog.eqGuardType Tryd.prog.depth 23 = false := by kernel_rfl
end Go.Proofs.YtnpmepklgakaiaaDoor
