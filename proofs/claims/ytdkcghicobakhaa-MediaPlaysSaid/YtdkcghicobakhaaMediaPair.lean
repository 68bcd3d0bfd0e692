/- A device beside the document's own; what both hand out. -/
import Derived.Test.YtdkcghicobakhaaMediaTwo
import Derived.Test.YtdkcghicobakhaaMediaCr
namespace Go.Proofs.Ytdkcghicobakhaa
open Go.RowKit
set_option linter.unusedVariables false

/-- a device, and the document's, behind world W -/
def Pair (W w : World) (gd gr m : Nat) (x y : List Nat × List Pd) : Prop :=
  ∃ S T, At w gd S m x.1 x.2 ∧ RDev w gr T y.1 y.2 ∧ (∀ b, S b → ¬ T b) ∧ (∀ b, S b → W.heap.size ≤ b) ∧ (∀ b, T b → W.heap.size ≤ b) ∧ Below W.heap.size W w
section
variable {W w w' : World} {gd gr m : Nat} {S T : Nat → Prop} {x y : List Nat × List Pd}
theorem pair_left (h1 : At w gd S m x.1 x.2) (h2 : RDev w gr T y.1 y.2) (h3 : ∀ b, S b → ¬ T b) (h4 : ∀ b, S b → W.heap.size ≤ b) (h5 : ∀ b, T b → W.heap.size ≤ b) (h6 : Below W.heap.size W w) {K : List Nat} {L : List Pd}
    (hg : GoAt w w' gd S m K L) : Pair W w' gd gr m (K, L) y := by
  obtain ⟨S', hd, ht, hs⟩ := hg
  have hT := h2.lt
  refine ⟨S', T, hd, h2.touch ht h3, fun b hb ht' => ?_, fun b hb => ?_, h5, h6.trans (ht.below h6.size h4)⟩
  · rcases hs b hb with h | h
    · exact h3 b h ht'
    · have := hT b ht'; omega
  · rcases hs b hb with h | h
    · exact h4 b h
    · exact Nat.le_trans h6.size h
theorem pair_right (h1 : At w gd S m x.1 x.2) (h2 : RDev w gr T y.1 y.2) (h3 : ∀ b, S b → ¬ T b) (h4 : ∀ b, S b → W.heap.size ≤ b) (h5 : ∀ b, T b → W.heap.size ≤ b) (h6 : Below W.heap.size W w) {K : List Nat} {L : List Pd}
    (hg : RGoes w w' gr T K L) : Pair W w' gd gr m x (K, L) := by
  obtain ⟨T', hd, ht, hs⟩ := hg
  have hS := h1.lt
  refine ⟨S, T', h1.touch ht (fun b hb hs' => h3 b hs' hb), hd, fun b hb ht' => ?_, h4, fun b hb => ?_, h6.trans (ht.below h6.size h5)⟩
  · rcases hs b ht' with h | h
    · exact h3 b hb h
    · have := hS b hb; omega
  · rcases hs b hb with h | h
    · exact h5 b h
    · exact Nat.le_trans h6.size h
theorem pair_below (h : Pair W w gd gr m x y) (hb : Below w.heap.size w w') : Pair W w' gd gr m x y := by
  obtain ⟨S, T, h1, h2, h3, h4, h5, h6⟩ := h
  exact ⟨S, T, h1.below hb, h2.below hb, h3, h4, h5, below_then h6 hb⟩
end
abbrev SpT := 35
/-- both, and a script's step in a box -/
def Trio (W w : World) (gd gr m : Nat) (x y : List Nat × List Pd) (gx : Nat) (cs : Array Value) : Prop :=
  ∃ S T, At w gd S m x.1 x.2 ∧ RDev w gr T y.1 y.2 ∧ (∀ b, S b → ¬ T b) ∧ (∀ b, S b → W.heap.size ≤ b) ∧ (∀ b, T b → W.heap.size ≤ b) ∧ Below W.heap.size W w ∧ ¬ S gx ∧ ¬ T gx ∧ w.heap[gx]? = some (.cells cs SpT (0, 0))
section
variable {W w w' : World} {gd gr m gx : Nat} {S T : Nat → Prop} {x y : List Nat × List Pd} {cs : Array Value}
theorem Trio.pair (h : Trio W w gd gr m x y gx cs) : Pair W w gd gr m x y := by
  obtain ⟨S, T, h1, h2, h3, h4, h5, h6, _⟩ := h
  exact ⟨S, T, h1, h2, h3, h4, h5, h6⟩
theorem trio_alloc (h1 : At w gd S m x.1 x.2) (h2 : RDev w gr T y.1 y.2) (h3 : ∀ b, S b → ¬ T b) (h4 : ∀ b, S b → W.heap.size ≤ b) (h5 : ∀ b, T b → W.heap.size ≤ b) (h6 : Below W.heap.size W w) :
    Trio W (w.alloc (.cells cs SpT)) gd gr m x y w.heap.size cs := by
  have hb : Below w.heap.size w (w.alloc (.cells cs SpT)) := (Below.refl _ _).alloc (Nat.le_refl _) _
  refine ⟨S, T, h1.below hb, h2.below hb, h3, h4, h5, below_then h6 hb, fun h => ?_, fun h => ?_, heap_alloc_new w _⟩
  · have := h1.lt _ h; omega
  · have := h2.lt _ h; omega
theorem trio_left (h1 : At w gd S m x.1 x.2) (h2 : RDev w gr T y.1 y.2) (h3 : ∀ b, S b → ¬ T b) (h4 : ∀ b, S b → W.heap.size ≤ b) (h5 : ∀ b, T b → W.heap.size ≤ b) (h6 : Below W.heap.size W w) (h7 : ¬ S gx) (h8 : ¬ T gx) (h9 : w.heap[gx]? = some (.cells cs SpT (0, 0)))
    {K : List Nat} {L : List Pd} (hg : GoAt w w' gd S m K L) : Trio W w' gd gr m (K, L) y gx cs := by
  obtain ⟨S', hd, ht, hs⟩ := hg
  have hT := h2.lt
  have hgx : gx < w.heap.size := (Array.getElem?_eq_some_iff.1 h9).1
  refine ⟨S', T, hd, h2.touch ht h3, fun b hb ht' => ?_, fun b hb => ?_, h5, h6.trans (ht.below h6.size h4), fun h => ?_, h8, (ht.block gx hgx h7).trans h9⟩
  · rcases hs b hb with h | h
    · exact h3 b h ht'
    · have := hT b ht'; omega
  · rcases hs b hb with h | h
    · exact h4 b h
    · exact Nat.le_trans h6.size h
  · rcases hs _ h with h | h
    · exact h7 h
    · omega
theorem box_cells {c0 c1 c2 c3 : Value} (h9 : w.heap[gx]? = some (.cells #[c0, c1, c2, c3] SpT (0, 0))) : w.cell? ⟨gx, 0, none⟩ = some c0 ∧ w.cell? ⟨gx, 1, none⟩ = some c1 ∧ w.cell? ⟨gx, 2, none⟩ = some c2 ∧ w.cell? ⟨gx, 3, none⟩ = some c3 :=
  ⟨by rw [cell_of_row w gx 0 _ SpT (0, 0) h9]; rfl, by rw [cell_of_row w gx 1 _ SpT (0, 0) h9]; rfl, by rw [cell_of_row w gx 2 _ SpT (0, 0) h9]; rfl, by rw [cell_of_row w gx 3 _ SpT (0, 0) h9]; rfl⟩
end
/-- what a call hands out beside wc -/
def OutRd (wc W : World) (n : Nat) (xs : List Value) (e : Ending) (w' : World) : Prop := ∃ A c, e = .returned (.slice A n c) ∧ Rd w' (.slice A n c) n xs ∧ Below wc.heap.size wc w' ∧ Below W.heap.size W w'
theorem hands_out {wc W : World} {et : TypeId} {size n : Nat} {xs : List Value} (hb : Below wc.heap.size wc W) (e : Ending) (w' : World) (h : Hands W et size n xs e w') : OutRd wc W n xs e w' := by
  obtain ⟨A, c, he, ho, hw⟩ := h
  exact ⟨A, c, he, Rd.of_own ho, below_then hb hw, hw⟩
def OutYes (wc W : World) (e : Ending) (w' : World) : Prop := e = .returned (.bool true) ∧ Below wc.heap.size wc w' ∧ Below W.heap.size W w'
theorem yes_out {wc W : World} (hb : Below wc.heap.size wc W) (e : Ending) (w' : World) (h : e = .returned (.bool true) ∧ Below W.heap.size W w') : OutYes wc W e w' := ⟨h.1, below_then hb h.2, h.2⟩
/-- both cells of the document's device, and what is as it was -/
theorem held_of {wr W : World} {gr : Nat} {vk vw : Value} (h : Below wr.heap.size wr W) (h0 : wr.cell? ⟨gr, 0, none⟩ = some vk) (h1 : wr.cell? ⟨gr, 1, none⟩ = some vw) :
    W.cell? ⟨gr, 0, none⟩ = some vk ∧ W.cell? ⟨gr, 1, none⟩ = some vw ∧ Below wr.heap.size wr W :=
  ⟨(h.cell (World.block_lt_of_cell? _ _ h0)).trans h0, (h.cell (World.block_lt_of_cell? _ _ h1)).trans h1, h⟩
end Go.Proofs.Ytdkcghicobakhaa
