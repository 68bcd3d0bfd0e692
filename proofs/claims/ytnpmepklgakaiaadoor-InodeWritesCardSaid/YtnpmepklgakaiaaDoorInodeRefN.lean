/- parcloseref06.May of a record whose numbers have room. -/
import Derived.Test.YtnpmepklgakaiaaDoorInodeRefM
import Derived.Test.YtnpmepklgakaiaaDoorInodeBackA
namespace Go.Proofs.YtnpmepklgakaiaaDoor
open Go.RowKit
set_option linter.unusedVariables false

theorem keepH {w0 W' : World} {b g : Nat} {v0 v1 v2 v3 v4 v5 v6 v7 v8 v9 v10 v11 v12 u0 u1 u2 : Value} (h : (w0.cell? ⟨b, 0, none⟩ = some (v0) ∧ w0.cell? ⟨b, 1, none⟩ = some (v1) ∧ w0.cell? ⟨b, 2, none⟩ = some (v2) ∧ w0.cell? ⟨b, 3, none⟩ = some (v3) ∧ w0.cell? ⟨b, 4, none⟩ = some (v4) ∧ w0.cell? ⟨b, 5, none⟩ = some (v5) ∧ w0.cell? ⟨b, 6, none⟩ = some (v6) ∧ w0.cell? ⟨b, 7, none⟩ = some (v7) ∧ w0.cell? ⟨b, 8, none⟩ = some (v8) ∧ w0.cell? ⟨b, 9, none⟩ = some (v9) ∧ w0.cell? ⟨b, 10, none⟩ = some (v10) ∧ w0.cell? ⟨b, 11, none⟩ = some (v11) ∧ w0.cell? ⟨b, 12, none⟩ = some (v12))) (h' : (w0.cell? ⟨g, 0, none⟩ = some (u0) ∧ w0.cell? ⟨g, 1, none⟩ = some (u1) ∧ w0.cell? ⟨g, 2, none⟩ = some (u2))) (hb : Below w0.heap.size w0 W') : (W'.cell? ⟨b, 0, none⟩ = some (v0) ∧ W'.cell? ⟨b, 1, none⟩ = some (v1) ∧ W'.cell? ⟨b, 2, none⟩ = some (v2) ∧ W'.cell? ⟨b, 3, none⟩ = some (v3) ∧ W'.cell? ⟨b, 4, none⟩ = some (v4) ∧ W'.cell? ⟨b, 5, none⟩ = some (v5) ∧ W'.cell? ⟨b, 6, none⟩ = some (v6) ∧ W'.cell? ⟨b, 7, none⟩ = some (v7) ∧ W'.cell? ⟨b, 8, none⟩ = some (v8) ∧ W'.cell? ⟨b, 9, none⟩ = some (v9) ∧ W'.cell? ⟨b, 10, none⟩ = some (v10) ∧ W'.cell? ⟨b, 11, none⟩ = some (v11) ∧ W'.cell? ⟨b, 12, none⟩ = some (v12)) ∧ (W'.cell? ⟨g, 0, none⟩ = some (u0) ∧ W'.cell? ⟨g, 1, none⟩ = some (u1) ∧ W'.cell? ⟨g, 2, none⟩ = some (u2)) ∧ Below w0.heap.size w0 W' := by
  have K : ∀ (p : Addr) (v : Value), w0.cell? p = some v → W'.cell? p = some v := fun p v hv => (hb.cell (World.block_lt_of_cell? _ _ hv)).trans hv
  exact ⟨keep13 h hb, ⟨K _ _ h'.1, K _ _ h'.2.1, K _ _ h'.2.2⟩, hb⟩
theorem right_of2 {a b c : Prop} (h : a ∧ b ∧ c) : c := h.2.2
theorem below_set2 {w a : World} {b : Nat} {v0 v1 : Value} (h : Below w.heap.size w a) (hb : w.heap.size ≤ b) : Below w.heap.size w ((a.setCell ⟨b, 0, none⟩ v0).setCell ⟨b, 1, none⟩ v1) := by
  repeat (refine Below.setCell ?_ (by dsimp only; omega) _)
  exact h
/-- blocks behind a call, by the world ahead of it -/
theorem ny {t : TypeId} {Y wN : World} {cs : Array Value} (hb : Below (Y.alloc (.cells cs t)).heap.size (Y.alloc (.cells cs t)) wN) : wN.heap[Y.heap.size]? = some (.cells cs t (0, 0)) :=
  blk_below (heap_alloc_new Y _) hb
theorem ny_drew {t : TypeId} {Y wN : World} {cs : Array Value} (hb : Below (Y.alloc (.cells cs t)).drew.heap.size (Y.alloc (.cells cs t)).drew wN) : wN.heap[Y.heap.size]? = some (.cells cs t (0, 0)) :=
  blk_below (W := (Y.alloc (.cells cs t)).drew) (heap_alloc_new Y _) hb
theorem oy {t t' : TypeId} {Y wN : World} {cs cs' : Array Value} (hb : Below ((Y.alloc (.cells cs t)).alloc (.cells cs' t')).heap.size ((Y.alloc (.cells cs t)).alloc (.cells cs' t')) wN) : wN.heap[Y.heap.size]? = some (.cells cs t (0, 0)) :=
  blk_below ((heap_alloc_old _ _ (by simp)).trans (heap_alloc_new Y _)) hb
theorem oy_drew {t t' : TypeId} {Y wN : World} {cs cs' : Array Value} (hb : Below ((Y.alloc (.cells cs t)).alloc (.cells cs' t')).drew.heap.size ((Y.alloc (.cells cs t)).alloc (.cells cs' t')).drew wN) : wN.heap[Y.heap.size]? = some (.cells cs t (0, 0)) :=
  blk_below (W := ((Y.alloc (.cells cs t)).alloc (.cells cs' t')).drew) ((heap_alloc_old _ _ (by simp)).trans (heap_alloc_new Y _)) hb
theorem ky {t' : TypeId} {Y wN : World} {b : Nat} {o : Obj} {cs' : Array Value} (h : Y.heap[b]? = some o) (hb : Below (Y.alloc (.cells cs' t')).heap.size (Y.alloc (.cells cs' t')) wN) : wN.heap[b]? = some o :=
  blk_below ((heap_alloc_old _ _ (lt_of_block h)).trans h) hb
/-- the two boxes behind the call of Decode, and what lay ahead -/
def EndI (w0 wx : World) (b7 b8 : Nat) (y : Ino) (er : Int) : Prop := BoxI wx b7 y ∧ wx.cell? ⟨b8, 1, none⟩ = some (.int .i64 er) ∧ Below w0.heap.size w0 wx
theorem endI_1 {k gn : Nat} {ln sz ar mp h0 h1 h2 h3 pa mt ct a' er : Int} {w0 V : World} (hB : Below w0.heap.size w0 V) : EndI w0 ((V.alloc (.cells #[.int .u8 (k : Nat), .int .i64 ln, .int .u32 (gn : Nat), .int .i64 sz, .int .i64 ar, .int .i64 mp, .int .i64 h0, .int .i64 h1, .int .i64 h2, .int .i64 h3, .int .i64 pa, .int .i64 mt, .int .i64 ct] 25)).alloc (.cells #[.int .i64 a', .int .i64 er] 52)) V.heap.size (V.heap.size + 1) ⟨k, ln, gn, sz, ar, mp, h0, h1, h2, h3, pa, mt, ct⟩ er := by
  have h := heap_alloc_new (V.alloc (.cells #[.int .u8 (k : Nat), .int .i64 ln, .int .u32 (gn : Nat), .int .i64 sz, .int .i64 ar, .int .i64 mp, .int .i64 h0, .int .i64 h1, .int .i64 h2, .int .i64 h3, .int .i64 pa, .int .i64 mt, .int .i64 ct] 25)) (.cells #[.int .i64 a', .int .i64 er] 52)
  rw [World.size_alloc] at h
  exact ⟨blk13 ((heap_alloc_old _ _ (by simp)).trans (heap_alloc_new V _)), (blk2 h).2.1, (hB.alloc hB.size _).alloc (by rw [World.size_alloc]; exact Nat.le_succ_of_le hB.size) _⟩
theorem endI_2 {k gn : Nat} {ln sz ar mp h0 h1 h2 h3 pa mt ct a' er : Int} {w0 V : World} (hB : Below w0.heap.size w0 V) : EndI w0 ((V.alloc (.cells #[.int .i64 a', .int .i64 er] 52)).alloc (.cells #[.int .u8 (k : Nat), .int .i64 ln, .int .u32 (gn : Nat), .int .i64 sz, .int .i64 ar, .int .i64 mp, .int .i64 h0, .int .i64 h1, .int .i64 h2, .int .i64 h3, .int .i64 pa, .int .i64 mt, .int .i64 ct] 25)) (V.heap.size + 1) V.heap.size ⟨k, ln, gn, sz, ar, mp, h0, h1, h2, h3, pa, mt, ct⟩ er := by
  have h := heap_alloc_new (V.alloc (.cells #[.int .i64 a', .int .i64 er] 52)) (.cells #[.int .u8 (k : Nat), .int .i64 ln, .int .u32 (gn : Nat), .int .i64 sz, .int .i64 ar, .int .i64 mp, .int .i64 h0, .int .i64 h1, .int .i64 h2, .int .i64 h3, .int .i64 pa, .int .i64 mt, .int .i64 ct] 25)
  rw [World.size_alloc] at h
  exact ⟨blk13 h, (blk2 ((heap_alloc_old _ _ (by simp)).trans (heap_alloc_new V _))).2.1, (hB.alloc hB.size _).alloc (by rw [World.size_alloc]; exact Nat.le_succ_of_le hB.size) _⟩
theorem endI_3 {k gn : Nat} {ln sz ar mp h0 h1 h2 h3 pa mt ct a' er : Int} {w0 V : World} {a : Nat} {u0 u1 u2 u3 u4 u5 u6 u7 u8 u9 u10 u11 u12 : Value} (hB : Below w0.heap.size w0 V) (z0 : V.cell? ⟨a, 0, none⟩ = some u0) (z1 : V.cell? ⟨a, 1, none⟩ = some u1) (z2 : V.cell? ⟨a, 2, none⟩ = some u2) (z3 : V.cell? ⟨a, 3, none⟩ = some u3) (z4 : V.cell? ⟨a, 4, none⟩ = some u4) (z5 : V.cell? ⟨a, 5, none⟩ = some u5) (z6 : V.cell? ⟨a, 6, none⟩ = some u6) (z7 : V.cell? ⟨a, 7, none⟩ = some u7) (z8 : V.cell? ⟨a, 8, none⟩ = some u8) (z9 : V.cell? ⟨a, 9, none⟩ = some u9) (z10 : V.cell? ⟨a, 10, none⟩ = some u10) (z11 : V.cell? ⟨a, 11, none⟩ = some u11) (z12 : V.cell? ⟨a, 12, none⟩ = some u12) (hlt : a < V.heap.size) (ha : w0.heap.size ≤ a) : EndI w0 ((((((((((((((V.setCell ⟨a, 0, none⟩ (.int .u8 (k : Nat))).setCell ⟨a, 1, none⟩ (.int .i64 ln)).setCell ⟨a, 2, none⟩ (.int .u32 (gn : Nat))).setCell ⟨a, 3, none⟩ (.int .i64 sz)).setCell ⟨a, 4, none⟩ (.int .i64 ar)).setCell ⟨a, 5, none⟩ (.int .i64 mp)).setCell ⟨a, 6, none⟩ (.int .i64 h0)).setCell ⟨a, 7, none⟩ (.int .i64 h1)).setCell ⟨a, 8, none⟩ (.int .i64 h2)).setCell ⟨a, 9, none⟩ (.int .i64 h3)).setCell ⟨a, 10, none⟩ (.int .i64 pa)).setCell ⟨a, 11, none⟩ (.int .i64 mt)).setCell ⟨a, 12, none⟩ (.int .i64 ct)).alloc (.cells #[.int .i64 a', .int .i64 er] 52)) a V.heap.size ⟨k, ln, gn, sz, ar, mp, h0, h1, h2, h3, pa, mt, ct⟩ er := by
  have h := box_set13 (v0 := .int .u8 (k : Nat)) (v1 := .int .i64 ln) (v2 := .int .u32 (gn : Nat)) (v3 := .int .i64 sz) (v4 := .int .i64 ar) (v5 := .int .i64 mp) (v6 := .int .i64 h0) (v7 := .int .i64 h1) (v8 := .int .i64 h2) (v9 := .int .i64 h3) (v10 := .int .i64 pa) (v11 := .int .i64 mt) (v12 := .int .i64 ct) z0 z1 z2 z3 z4 z5 z6 z7 z8 z9 z10 z11 z12
  have hb := below_set13 (v0 := .int .u8 (k : Nat)) (v1 := .int .i64 ln) (v2 := .int .u32 (gn : Nat)) (v3 := .int .i64 sz) (v4 := .int .i64 ar) (v5 := .int .i64 mp) (v6 := .int .i64 h0) (v7 := .int .i64 h1) (v8 := .int .i64 h2) (v9 := .int .i64 h3) (v10 := .int .i64 pa) (v11 := .int .i64 mt) (v12 := .int .i64 ct) hB ha
  have e : (((((((((((((V.setCell ⟨a, 0, none⟩ (.int .u8 (k : Nat))).setCell ⟨a, 1, none⟩ (.int .i64 ln)).setCell ⟨a, 2, none⟩ (.int .u32 (gn : Nat))).setCell ⟨a, 3, none⟩ (.int .i64 sz)).setCell ⟨a, 4, none⟩ (.int .i64 ar)).setCell ⟨a, 5, none⟩ (.int .i64 mp)).setCell ⟨a, 6, none⟩ (.int .i64 h0)).setCell ⟨a, 7, none⟩ (.int .i64 h1)).setCell ⟨a, 8, none⟩ (.int .i64 h2)).setCell ⟨a, 9, none⟩ (.int .i64 h3)).setCell ⟨a, 10, none⟩ (.int .i64 pa)).setCell ⟨a, 11, none⟩ (.int .i64 mt)).setCell ⟨a, 12, none⟩ (.int .i64 ct)).heap.size = V.heap.size := by simp
  generalize (((((((((((((V.setCell ⟨a, 0, none⟩ (.int .u8 (k : Nat))).setCell ⟨a, 1, none⟩ (.int .i64 ln)).setCell ⟨a, 2, none⟩ (.int .u32 (gn : Nat))).setCell ⟨a, 3, none⟩ (.int .i64 sz)).setCell ⟨a, 4, none⟩ (.int .i64 ar)).setCell ⟨a, 5, none⟩ (.int .i64 mp)).setCell ⟨a, 6, none⟩ (.int .i64 h0)).setCell ⟨a, 7, none⟩ (.int .i64 h1)).setCell ⟨a, 8, none⟩ (.int .i64 h2)).setCell ⟨a, 9, none⟩ (.int .i64 h3)).setCell ⟨a, 10, none⟩ (.int .i64 pa)).setCell ⟨a, 11, none⟩ (.int .i64 mt)).setCell ⟨a, 12, none⟩ (.int .i64 ct)) = W1 at *
  have hn := heap_alloc_new W1 (.cells #[.int .i64 a', .int .i64 er] 52)
  rw [e] at hn
  exact ⟨keep13 h ((Below.refl _ _).alloc (Nat.le_refl _) _), (blk2 hn).2.1, hb.alloc hb.size _⟩
theorem endI_5 {k gn : Nat} {ln sz ar mp h0 h1 h2 h3 pa mt ct a' er : Int} {w0 V : World} {b : Nat} {r0 r1 : Value} (hB : Below w0.heap.size w0 V) (y0 : V.cell? ⟨b, 0, none⟩ = some r0) (y1 : V.cell? ⟨b, 1, none⟩ = some r1) (ha : w0.heap.size ≤ b) : EndI w0 (((V.setCell ⟨b, 0, none⟩ (.int .i64 a')).setCell ⟨b, 1, none⟩ (.int .i64 er)).alloc (.cells #[.int .u8 (k : Nat), .int .i64 ln, .int .u32 (gn : Nat), .int .i64 sz, .int .i64 ar, .int .i64 mp, .int .i64 h0, .int .i64 h1, .int .i64 h2, .int .i64 h3, .int .i64 pa, .int .i64 mt, .int .i64 ct] 25)) V.heap.size b ⟨k, ln, gn, sz, ar, mp, h0, h1, h2, h3, pa, mt, ct⟩ er := by
  have h : ((V.setCell ⟨b, 0, none⟩ (.int .i64 a')).setCell ⟨b, 1, none⟩ (.int .i64 er)).cell? ⟨b, 1, none⟩ = some (.int .i64 er) := by go_simp
  have hb := below_set2 (v0 := .int .i64 a') (v1 := .int .i64 er) hB ha
  have e : ((V.setCell ⟨b, 0, none⟩ (.int .i64 a')).setCell ⟨b, 1, none⟩ (.int .i64 er)).heap.size = V.heap.size := by simp
  generalize ((V.setCell ⟨b, 0, none⟩ (.int .i64 a')).setCell ⟨b, 1, none⟩ (.int .i64 er)) = W1 at *
  have hn := heap_alloc_new W1 (.cells #[.int .u8 (k : Nat), .int .i64 ln, .int .u32 (gn : Nat), .int .i64 sz, .int .i64 ar, .int .i64 mp, .int .i64 h0, .int .i64 h1, .int .i64 h2, .int .i64 h3, .int .i64 pa, .int .i64 mt, .int .i64 ct] 25)
  rw [e] at hn
  exact ⟨blk13 hn, (((Below.refl _ _).alloc (Nat.le_refl _) _).cell (World.block_lt_of_cell? _ _ h)).trans h, hb.alloc hb.size _⟩
theorem endI_4 {k gn : Nat} {ln sz ar mp h0 h1 h2 h3 pa mt ct a' er : Int} {w0 V : World} {a b : Nat} {u0 u1 u2 u3 u4 u5 u6 u7 u8 u9 u10 u11 u12 r0 r1 : Value} (hB : Below w0.heap.size w0 V) (z0 : V.cell? ⟨a, 0, none⟩ = some u0) (z1 : V.cell? ⟨a, 1, none⟩ = some u1) (z2 : V.cell? ⟨a, 2, none⟩ = some u2) (z3 : V.cell? ⟨a, 3, none⟩ = some u3) (z4 : V.cell? ⟨a, 4, none⟩ = some u4) (z5 : V.cell? ⟨a, 5, none⟩ = some u5) (z6 : V.cell? ⟨a, 6, none⟩ = some u6) (z7 : V.cell? ⟨a, 7, none⟩ = some u7) (z8 : V.cell? ⟨a, 8, none⟩ = some u8) (z9 : V.cell? ⟨a, 9, none⟩ = some u9) (z10 : V.cell? ⟨a, 10, none⟩ = some u10) (z11 : V.cell? ⟨a, 11, none⟩ = some u11) (z12 : V.cell? ⟨a, 12, none⟩ = some u12) (y0 : V.cell? ⟨b, 0, none⟩ = some r0) (y1 : V.cell? ⟨b, 1, none⟩ = some r1) (hab : a ≠ b) (ha : w0.heap.size ≤ a) (hb : w0.heap.size ≤ b) : EndI w0 (((((((((((((((V.setCell ⟨a, 0, none⟩ (.int .u8 (k : Nat))).setCell ⟨a, 1, none⟩ (.int .i64 ln)).setCell ⟨a, 2, none⟩ (.int .u32 (gn : Nat))).setCell ⟨a, 3, none⟩ (.int .i64 sz)).setCell ⟨a, 4, none⟩ (.int .i64 ar)).setCell ⟨a, 5, none⟩ (.int .i64 mp)).setCell ⟨a, 6, none⟩ (.int .i64 h0)).setCell ⟨a, 7, none⟩ (.int .i64 h1)).setCell ⟨a, 8, none⟩ (.int .i64 h2)).setCell ⟨a, 9, none⟩ (.int .i64 h3)).setCell ⟨a, 10, none⟩ (.int .i64 pa)).setCell ⟨a, 11, none⟩ (.int .i64 mt)).setCell ⟨a, 12, none⟩ (.int .i64 ct)).setCell ⟨b, 0, none⟩ (.int .i64 a')).setCell ⟨b, 1, none⟩ (.int .i64 er)) a b ⟨k, ln, gn, sz, ar, mp, h0, h1, h2, h3, pa, mt, ct⟩ er := by
  have h := box_set13 (v0 := .int .u8 (k : Nat)) (v1 := .int .i64 ln) (v2 := .int .u32 (gn : Nat)) (v3 := .int .i64 sz) (v4 := .int .i64 ar) (v5 := .int .i64 mp) (v6 := .int .i64 h0) (v7 := .int .i64 h1) (v8 := .int .i64 h2) (v9 := .int .i64 h3) (v10 := .int .i64 pa) (v11 := .int .i64 mt) (v12 := .int .i64 ct) z0 z1 z2 z3 z4 z5 z6 z7 z8 z9 z10 z11 z12
  have hbl := below_set13 (v0 := .int .u8 (k : Nat)) (v1 := .int .i64 ln) (v2 := .int .u32 (gn : Nat)) (v3 := .int .i64 sz) (v4 := .int .i64 ar) (v5 := .int .i64 mp) (v6 := .int .i64 h0) (v7 := .int .i64 h1) (v8 := .int .i64 h2) (v9 := .int .i64 h3) (v10 := .int .i64 pa) (v11 := .int .i64 mt) (v12 := .int .i64 ct) hB ha
  have y0' : (((((((((((((V.setCell ⟨a, 0, none⟩ (.int .u8 (k : Nat))).setCell ⟨a, 1, none⟩ (.int .i64 ln)).setCell ⟨a, 2, none⟩ (.int .u32 (gn : Nat))).setCell ⟨a, 3, none⟩ (.int .i64 sz)).setCell ⟨a, 4, none⟩ (.int .i64 ar)).setCell ⟨a, 5, none⟩ (.int .i64 mp)).setCell ⟨a, 6, none⟩ (.int .i64 h0)).setCell ⟨a, 7, none⟩ (.int .i64 h1)).setCell ⟨a, 8, none⟩ (.int .i64 h2)).setCell ⟨a, 9, none⟩ (.int .i64 h3)).setCell ⟨a, 10, none⟩ (.int .i64 pa)).setCell ⟨a, 11, none⟩ (.int .i64 mt)).setCell ⟨a, 12, none⟩ (.int .i64 ct)).cell? ⟨b, 0, none⟩ = some r0 := by
    repeat (rw [World.cell?_setCell_far _ _ _ _ (by dsimp only; omega)])
    exact y0
  have y1' : (((((((((((((V.setCell ⟨a, 0, none⟩ (.int .u8 (k : Nat))).setCell ⟨a, 1, none⟩ (.int .i64 ln)).setCell ⟨a, 2, none⟩ (.int .u32 (gn : Nat))).setCell ⟨a, 3, none⟩ (.int .i64 sz)).setCell ⟨a, 4, none⟩ (.int .i64 ar)).setCell ⟨a, 5, none⟩ (.int .i64 mp)).setCell ⟨a, 6, none⟩ (.int .i64 h0)).setCell ⟨a, 7, none⟩ (.int .i64 h1)).setCell ⟨a, 8, none⟩ (.int .i64 h2)).setCell ⟨a, 9, none⟩ (.int .i64 h3)).setCell ⟨a, 10, none⟩ (.int .i64 pa)).setCell ⟨a, 11, none⟩ (.int .i64 mt)).setCell ⟨a, 12, none⟩ (.int .i64 ct)).cell? ⟨b, 1, none⟩ = some r1 := by
    repeat (rw [World.cell?_setCell_far _ _ _ _ (by dsimp only; omega)])
    exact y1
  generalize (((((((((((((V.setCell ⟨a, 0, none⟩ (.int .u8 (k : Nat))).setCell ⟨a, 1, none⟩ (.int .i64 ln)).setCell ⟨a, 2, none⟩ (.int .u32 (gn : Nat))).setCell ⟨a, 3, none⟩ (.int .i64 sz)).setCell ⟨a, 4, none⟩ (.int .i64 ar)).setCell ⟨a, 5, none⟩ (.int .i64 mp)).setCell ⟨a, 6, none⟩ (.int .i64 h0)).setCell ⟨a, 7, none⟩ (.int .i64 h1)).setCell ⟨a, 8, none⟩ (.int .i64 h2)).setCell ⟨a, 9, none⟩ (.int .i64 h3)).setCell ⟨a, 10, none⟩ (.int .i64 pa)).setCell ⟨a, 11, none⟩ (.int .i64 mt)).setCell ⟨a, 12, none⟩ (.int .i64 ct)) = W1 at *
  have K : ∀ p : Addr, p.block = a → ((W1.setCell ⟨b, 0, none⟩ (.int .i64 a')).setCell ⟨b, 1, none⟩ (.int .i64 er)).cell? p = W1.cell? p := fun p hp => by
    rw [World.cell?_setCell_far _ _ _ _ (by rw [hp]; dsimp only; omega), World.cell?_setCell_far _ _ _ _ (by rw [hp]; dsimp only; omega)]
  refine ⟨⟨(K _ rfl).trans h.1, (K _ rfl).trans h.2.1, (K _ rfl).trans h.2.2.1, (K _ rfl).trans h.2.2.2.1, (K _ rfl).trans h.2.2.2.2.1, (K _ rfl).trans h.2.2.2.2.2.1, (K _ rfl).trans h.2.2.2.2.2.2.1, (K _ rfl).trans h.2.2.2.2.2.2.2.1, (K _ rfl).trans h.2.2.2.2.2.2.2.2.1, (K _ rfl).trans h.2.2.2.2.2.2.2.2.2.1, (K _ rfl).trans h.2.2.2.2.2.2.2.2.2.2.1, (K _ rfl).trans h.2.2.2.2.2.2.2.2.2.2.2.1, (K _ rfl).trans h.2.2.2.2.2.2.2.2.2.2.2.2⟩, ?_, below_set2 hbl hb⟩
  go_simp
/-- what the document's Decode answers of the record's own words -/
theorem rdec_may (x : Ino) (hx : OkI x) (h : SmallI x) (P I B : Int) (v : Value) (W : World) (hr : Rd W v 8 (u64s (sealed (wordsI x)))) :
    Calls Tryd.prog 18 #[v, gv P I B] W fun e w' => ∃ (k : Nat) (ln : Int) (gn : Nat) (sz ar mp h0 h1 h2 h3 pa mt ct a er : Int), e = .returned (.tuple #[.agg #[.int .u8 k, .int .i64 ln, .int .u32 gn, .int .i64 sz, .int .i64 ar, .int .i64 mp, .int .i64 h0, .int .i64 h1, .int .i64 h2, .int .i64 h3, .int .i64 pa, .int .i64 mt, .int .i64 ct], .agg #[.int .i64 a, .int .i64 er]]) ∧
      ((mayI x P I B = true ∧ ⟨k, ln, gn, sz, ar, mp, h0, h1, h2, h3, pa, mt, ct⟩ = x ∧ er = 0) ∨ (mayI x P I B = false ∧ er ≠ 0)) ∧ Below W.heap.size W w' := by
  refine (rdec_any v (sealed (wordsI x)) P I B W (sealed_wd (wordsI_wd x hx h)) (by show 8 ≤ 65536; decide) hr).mono ?_
  rintro e w' (⟨hd, rfl, hb⟩ | ⟨a, er, hd, rfl, hb⟩)
  · have hm := may_dec x hx h P I B hd
    obtain ⟨_, d1, d2⟩ := dec_enc x hx P I B hm
    rw [d1, d2]
    exact ⟨_, _, _, _, _, _, _, _, _, _, _, _, _, _, _, rfl, .inl ⟨hm, rfl, rfl⟩, hb⟩
  · refine ⟨_, _, _, _, _, _, _, _, _, _, _, _, _, _, _, rfl, .inr ⟨?_, decF_er hd⟩, hb⟩
    cases hm : mayI x P I B with
    | false => rfl
    | true => rw [(dec_enc x hx P I B hm).1] at hd; cases hd

set_option maxRecDepth 100000 in
set_option maxHeartbeats 16000000 in
theorem refMay_good (x : Ino) (hx : OkI x) (h : SmallI x) (P I B : Int) (W : World) :
    Calls Tryd.prog 8 #[iv x, gv P I B] W fun e W' => e = .returned (.bool (mayI x P I B)) ∧ Below W.heap.size W W' := by
  have HE := Lib.hid (refEncode_any x hx h)
  have HD := Lib.hid (rdec_may x hx h P I B)
  have HB0 := Lib.hid (((Below.refl W.heap.size W).alloc (Nat.le_refl _) (.cells (icells x) 25)).alloc (by simp) (.cells #[.int .i64 P, .int .i64 I, .int .i64 B] 27))
  obtain ⟨hB1, hB2⟩ := boxes2 x P I B W
  generalize hmm : mayI x P I B = may at *
  generalize hll : sealed (wordsI x) = L at *
  clear hmm hll hx
  obtain ⟨k, ln, gn, sz, ar, mp, h0, h1, h2, h3, pa, mt, ct⟩ := x
  obtain ⟨⟨s1, s1'⟩, s2, s3, s4, s5, s6, s7, ⟨s8, s8'⟩, ⟨s9, s9'⟩, ⟨s10, s10'⟩, ⟨s11, s11'⟩, s12, s13⟩ := h
  unfold iv icells at HE
  unfold gv at HD
  unfold icells at HB0 hB1 hB2
  unfold iv gv icells
  dsimp only at HE HD HB0 hB1 hB2 s1 s1' s2 s3 s4 s5 s6 s7 s8 s8' s9 s9' s10 s10' s11 s11' s12 s13 ⊢
  have d0 : decide (ln ≥ 0) = true := by simp; omega
  have d1 : decide (ln < 256) = true := by simp; omega
  have d2 : decide (ar ≥ 0) = true := by simp; omega
  have d3 : decide (mp ≥ 0) = true := by simp; omega
  have d4 : decide (pa ≥ 0) = true := by simp; omega
  have d5 : decide (sz ≥ 0) = true := by simp; omega
  have d6 : decide (mt ≥ 0) = true := by simp; omega
  have d7 : decide (ct ≥ 0) = true := by simp; omega
  have d8 : decide (h0 ≥ 0) = true := by simp; omega
  have d9 : decide (h0 < 256) = true := by simp; omega
  have d10 : decide (h1 ≥ 0) = true := by simp; omega
  have d11 : decide (h1 < 256) = true := by simp; omega
  have d12 : decide (h2 ≥ 0) = true := by simp; omega
  have d13 : decide (h2 < 256) = true := by simp; omega
  have d14 : decide (h3 ≥ 0) = true := by simp; omega
  have d15 : decide (h3 < 256) = true := by simp; omega
  have HS2 := Lib.hid s12
  have HS3 := Lib.hid s13
  have HX0 := Lib.hid hB1
  have HG0 := Lib.hid hB2
  clear s1 s1' s2 s3 s4 s5 s6 s7 s8 s8' s9 s9' s10 s10' s11 s11' s12 s13 hB1 hB2
  go_enter Tryd.func8, Tryd.ntmps8
  go_wp2
  refine wp_loop_rounds 5 ?_
  rw [rounds_succ]
  go_wp2
  rw [rounds_succ]
  go_wp2
  rw [rounds_succ]
  go_wp2
  rw [rounds_succ]
  go_wp2
  rw [rounds_succ]
  go_upto_region 6 with (fail)
  generalize (W.alloc (.cells #[.int .u8 (k : Nat), .int .i64 ln, .int .u32 (gn : Nat), .int .i64 sz, .int .i64 ar, .int .i64 mp, .int .i64 h0, .int .i64 h1, .int .i64 h2, .int .i64 h3, .int .i64 pa, .int .i64 mt, .int .i64 ct] 25)).alloc (.cells #[.int .i64 P, .int .i64 I, .int .i64 B] 27) = w0 at *
  clear d0 d1 d2 d3 d4 d5 d6 d7 d8 d9 d10 d11 d12 d13 d14 d15
  go_cut [88] from 66 to 87 (fun s88 wx => s88 = .bool false ∧ wx = w0)
  case first =>
    obtain ⟨c0, c1, c2, c3, c4, c5, c6, c7, c8, c9, c10, c11, c12⟩ := blk13 HX0.out
    by_cases hk : k = 2
    · have q2 : ((k : Int) == 2) = true := by simp; omega
      have q3 : ((k : Int) != 2) = false := by simp; omega
      have q4 : (mp != 0) = false := by simp [HS2.out hk]
      clear hk
      go_wp2
      go_meet
      exact ⟨rfl, rfl⟩
    · have q2 : ((k : Int) == 2) = false := beq_false_of_ne (by omega)
      have q3 : ((k : Int) != 2) = true := by simp; omega
      have q4 : ∀ w, (binOp .neq 23 (.agg #[.int .i64 h0, .int .i64 h1, .int .i64 h2, .int .i64 h3]) (.agg #[.int .i64 0, .int .i64 0, .int .i64 0, .int .i64 0])).run Tryd.prog w = .ok (.bool false) w := fun w => by
        obtain ⟨e0, e1, e2, e3⟩ := HS3.out hk
        rw [run_ne4, e0, e1, e2, e3]
        rfl
      have hg4 := guard_eq4
      clear hk
      go_wp2
      go_meet
      exact ⟨rfl, rfl⟩
  case rest =>
    obtain ⟨rfl, rfl⟩ := hcut
    go_upto_region 8 with (fail)
    generalize hw0 : wc = w0 at *
    clear hw0
    have hc13 := blk13 HX0.out
    have hc3 := blk3 HG0.out
    have HK1 := Lib.hid hc13
    have HK2 := Lib.hid (And.intro hc3.1 (And.intro hc3.2.1 hc3.2.2.1))
    clear hc13 hc3 HS2 HS3
    go_cut [7, 8] from 89 to 95 (fun s7 s8 wx => ∃ b7 b8 : Nat, s7 = .pointer (some ⟨b7, 0, none⟩) ∧ s8 = .pointer (some ⟨b8, 0, none⟩) ∧ ∃ (y : Ino) (er : Int), ((may = true ∧ y = ⟨k, ln, gn, sz, ar, mp, h0, h1, h2, h3, pa, mt, ct⟩ ∧ er = 0) ∨ (may = false ∧ er ≠ 0)) ∧ EndI w0 wx b7 b8 y er)
    case first =>
      clear HX0 HG0 HB0
      go_region_held3 (fun w' => (w'.cell? ⟨W.heap.size, 0, none⟩ = some (.int .u8 (k : Nat)) ∧ w'.cell? ⟨W.heap.size, 1, none⟩ = some (.int .i64 ln) ∧ w'.cell? ⟨W.heap.size, 2, none⟩ = some (.int .u32 (gn : Nat)) ∧ w'.cell? ⟨W.heap.size, 3, none⟩ = some (.int .i64 sz) ∧ w'.cell? ⟨W.heap.size, 4, none⟩ = some (.int .i64 ar) ∧ w'.cell? ⟨W.heap.size, 5, none⟩ = some (.int .i64 mp) ∧ w'.cell? ⟨W.heap.size, 6, none⟩ = some (.int .i64 h0) ∧ w'.cell? ⟨W.heap.size, 7, none⟩ = some (.int .i64 h1) ∧ w'.cell? ⟨W.heap.size, 8, none⟩ = some (.int .i64 h2) ∧ w'.cell? ⟨W.heap.size, 9, none⟩ = some (.int .i64 h3) ∧ w'.cell? ⟨W.heap.size, 10, none⟩ = some (.int .i64 pa) ∧ w'.cell? ⟨W.heap.size, 11, none⟩ = some (.int .i64 mt) ∧ w'.cell? ⟨W.heap.size, 12, none⟩ = some (.int .i64 ct)) ∧ (w'.cell? ⟨W.heap.size + 1, 0, none⟩ = some (.int .i64 P) ∧ w'.cell? ⟨W.heap.size + 1, 1, none⟩ = some (.int .i64 I) ∧ w'.cell? ⟨W.heap.size + 1, 2, none⟩ = some (.int .i64 B)) ∧ Below w0.heap.size w0 w')
        (with_reducible refine keepH HK1.out HK2.out ?_; with_reducible repeat (first | exact right_of2 (by assumption) | exact HBD.out | exact HBN.out | exact Below.refl _ _ | exact Nat.le_refl _ | refine Below.drew ?_ | refine Below.alloc ?_ ?_ _ | refine below_set13 ?_ ?_ | refine below_set2 ?_ ?_ | exact HBD.out.size | exact Nat.le_succ_of_le HBD.out.size | exact HBN.out.size | exact Nat.le_succ_of_le HBN.out.size | refine Below.size (B := w0.heap.size) ?_ | exact Nat.le_succ _ | refine Nat.le_succ_of_le ?_ | refine below_then ?_ hbN))
        (first
          | ((go_at_call 12; (with_reducible refine (HE.out _).mono ?_); rintro e wN ⟨A1, c1, rfl, ho1, hbN⟩); have HR1 := Lib.hid (Rd.of_own ho1); clear ho1; (have HBN : Hid (Below w0.heap.size w0 wN) := Lib.hid (below_then (by first | exact right_of2 (by assumption) | exact Below.drew (right_of2 (by assumption))) hbN)); (first | (with_reducible have hxa := ny (t := 25) hbN) | (with_reducible have hxa := ny_drew (t := 25) hbN) | (with_reducible have hxa := oy (t := 25) hbN) | (with_reducible have hxa := oy_drew (t := 25) hbN) | (with_reducible have hxa := blk_below Hxa.out hbN) | (with_reducible have hxa := ky Hxa.out hbN) | skip); (try simp only [World.size_alloc] at hxa); (first | (with_reducible have hxb := ny (t := 52) hbN) | (with_reducible have hxb := ny_drew (t := 52) hbN) | (with_reducible have hxb := oy (t := 52) hbN) | (with_reducible have hxb := oy_drew (t := 52) hbN) | (with_reducible have hxb := blk_below Hxb.out hbN) | (with_reducible have hxb := ky Hxb.out hbN) | skip); (try simp only [World.size_alloc] at hxb); (try have hltA0 := lt_of_block hxa); (try have hltB0 := lt_of_block hxb); (try have Hxa := Lib.hid hxa); (try have Hxb := Lib.hid hxb); (try clear hxa); (try clear hxb))
          | ((go_at_call 18; (with_reducible refine (HD.out _ _ (by repeat (first | exact HR1.out | refine Rd.drew ?_ | refine Rd.alloc ?_ _))).mono ?_); rintro e wD ⟨k', ln', gn', sz', ar', mp', h0', h1', h2', h3', pa', mt', ct', a', er', rfl, hR, hbN⟩); have HR := Lib.hid hR; clear hR; (have HBD : Hid (Below w0.heap.size w0 wD) := Lib.hid (below_then (right_of2 (by assumption)) hbN)); (first | (with_reducible have hxa := ny (t := 25) hbN) | (with_reducible have hxa := ny_drew (t := 25) hbN) | (with_reducible have hxa := oy (t := 25) hbN) | (with_reducible have hxa := oy_drew (t := 25) hbN) | (with_reducible have hxa := blk_below Hxa.out hbN) | (with_reducible have hxa := ky Hxa.out hbN) | skip); (try simp only [World.size_alloc] at hxa); (first | (with_reducible have hxb := ny (t := 52) hbN) | (with_reducible have hxb := ny_drew (t := 52) hbN) | (with_reducible have hxb := oy (t := 52) hbN) | (with_reducible have hxb := oy_drew (t := 52) hbN) | (with_reducible have hxb := blk_below Hxb.out hbN) | (with_reducible have hxb := ky Hxb.out hbN) | skip); (try simp only [World.size_alloc] at hxb); (first | (obtain ⟨z0, z1, z2, z3, z4, z5, z6, z7, z8, z9, z10, z11, z12⟩ := blk13 hxa; obtain ⟨f0, f1, f2, f3, f4, f5, f6, f7, f8, f9, f10, f11, f12⟩ := frz13 hxa; have hltA := lt_of_block hxa; clear hxa) | skip); (first | (obtain ⟨y0, y1, p0, p1⟩ := blk2 hxb; have hltB := lt_of_block hxb; clear hxb) | skip)))
      all_goals go_wp2_with fail
      all_goals go_meet
      all_goals refine ⟨_, _, rfl, rfl, ⟨k', ln', gn', sz', ar', mp', h0', h1', h2', h3', pa', mt', ct'⟩, er', HR.out, ?_⟩
      all_goals first
        | with_reducible exact endI_1 HBD.out
        | with_reducible exact endI_2 HBD.out
        | with_reducible exact endI_5 HBD.out y0 y1 (by first | with_reducible exact Nat.le_refl _ | with_reducible exact HBN.out.size)
        | with_reducible exact endI_4 HBD.out z0 z1 z2 z3 z4 z5 z6 z7 z8 z9 z10 z11 z12 y0 y1 (by omega) (by first | with_reducible exact Nat.le_refl _ | with_reducible exact Nat.le_succ _ | with_reducible exact HBN.out.size | with_reducible exact Nat.le_succ_of_le HBN.out.size) (by first | with_reducible exact Nat.le_refl _ | with_reducible exact Nat.le_succ _ | with_reducible exact HBN.out.size | with_reducible exact Nat.le_succ_of_le HBN.out.size)
        | exact endI_3 HBD.out z0 z1 z2 z3 z4 z5 z6 z7 z8 z9 z10 z11 z12 hltA (by first | exact Nat.le_refl _ | exact Nat.le_succ _ | exact HBN.out.size | exact Nat.le_succ_of_le HBN.out.size)
    case rest =>
      obtain ⟨b7, b8, rfl, rfl, y, er, hR, hE3⟩ := hcut
      obtain ⟨y0, y1, y2, y3, y4, y5, y6, y7, y8, y9, y10, y11, y12⟩ := hE3.1
      have t1 := hE3.2.1
      have HB3 := Lib.hid (below_then HB0.out hE3.2.2)
      obtain ⟨c0, c1, c2, c3, c4, c5, c6, c7, c8, c9, c10, c11, c12⟩ := blk13 (blk_below HX0.out hE3.2.2)
      clear hE3 HE HD HK1 HK2
      have hq := run_eqI_self
      have hgd := guard_eqI
      rcases hR with ⟨rfl, rfl, rfl⟩ | ⟨rfl, her⟩
      · dsimp only at y0 y1 y2 y3 y4 y5 y6 y7 y8 y9 y10 y11 y12
        go_wp2
        go_ret
        exact ⟨rfl, HB3.out⟩
      · have he : (er == 0) = false := beq_false_of_ne her
        clear her
        go_wp2
        go_ret
        exact ⟨rfl, HB3.out⟩
end Go.Proofs.YtnpmepklgakaiaaDoor
