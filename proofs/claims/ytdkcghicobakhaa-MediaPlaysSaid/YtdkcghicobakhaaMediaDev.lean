/- A device in memory: its struct, its rows; what becomes of it where a cell is stored. -/
import Derived.Test.YtdkcghicobakhaaRowMem
import Derived.Test.YtdkcghicobakhaaTypes
import Derived.Test.YtdkcghicobakhaaMediaPlain
namespace Go.Proofs.Ytdkcghicobakhaa
set_option linter.unusedVariables false
open Go.RowKit

theorem infoPd : (Try.prog.info? 61).map (fun i => (i.zero, i.size, i.bytes)) = some (some (.agg #[.int .i64 0, .int .u64 0, .bool false]), 3, 24) := by kernel_rfl
def pend (x : Pd) : List Value := [.int .i64 x.p, .int .u64 x.w, .bool x.f]
def pends (L : List Pd) : List Value := L.flatMap pend
theorem pends_length (L : List Pd) : (pends L).length = L.length * 3 := by
  induction L with
  | nil => rfl
  | cons x L ih => simp only [pends, List.flatMap_cons, List.length_append, List.length_cons] at *; rw [ih]; simp [pend]; omega
theorem pends_append (L M : List Pd) : pends (L ++ M) = pends L ++ pends M := List.flatMap_append
theorem pends_one (x : Pd) : pends [x] = pend x := by simp [pends]
theorem pends_oneCell (L : List Pd) : ∀ u ∈ pends L, u.oneCell' = true := by
  intro u hu
  obtain ⟨x, _, hx⟩ := List.mem_flatMap.1 hu
  simp only [pend, List.mem_cons, List.mem_nil_iff, or_false] at hx
  rcases hx with rfl | rfl | rfl <;> rfl
theorem pends_at : ∀ (L : List Pd) (i : Nat) (h : i < L.length), (pends L)[i * 3]? = some (.int .i64 L[i].p) ∧ (pends L)[i * 3 + 1]? = some (.int .u64 L[i].w) ∧ (pends L)[i * 3 + 2]? = some (.bool L[i].f) := by
  intro L
  induction L with
  | nil => intro i h; cases h
  | cons x L ih =>
    intro i h
    have e : pends (x :: L) = .int .i64 x.p :: .int .u64 x.w :: .bool x.f :: pends L := rfl
    rw [e]
    cases i with
    | zero => exact ⟨rfl, rfl, rfl⟩
    | succ i =>
      have := ih i (by simp at h; omega)
      rw [show (i + 1) * 3 = i * 3 + 1 + 1 + 1 by omega]
      exact this
theorem pends_setF : ∀ (L : List Pd) (i : Nat) (h : i < L.length) (f : Bool), (pends L).set (i * 3 + 2) (.bool f) = pends (L.set i (L[i].mark f)) := by
  intro L
  induction L with
  | nil => intro i h; cases h
  | cons x L ih =>
    intro i h f
    have e : ∀ x L, pends (x :: L) = .int .i64 x.p :: .int .u64 x.w :: .bool x.f :: pends L := fun _ _ => rfl
    cases i with
    | zero => rfl
    | succ i =>
      rw [e, show (i + 1) * 3 + 2 = (i * 3 + 2) + 1 + 1 + 1 by omega, List.set_cons_succ, List.set_cons_succ, List.set_cons_succ, ih i (by simp at h; omega), List.set_cons_succ, e]
      rfl
abbrev W64 := 32
/-- a device at block g -/
def DevB (w : World) (D : TypeId) (g kb nb : Nat) (wb : Option Nat) (vk vn vw : Value) (K N : List Nat) (L : List Pd) : Prop :=
  w.heap[g]? = some (.cells #[vk, vn, vw] D (0, 0)) ∧ Row w kb 32 1 vk K.length (u64s K) ∧ Row w nb 32 1 vn N.length (u64s N) ∧ WRow w wb 61 3 vw L.length (pends L) ∧ kb ≠ nb ∧
    D ≠ 32 ∧ D ≠ 61
def foot (g kb nb : Nat) (wb : Option Nat) (b : Nat) : Prop := b = g ∨ b = kb ∨ b = nb ∨ wb = some b
section
variable {w w' : World} {D : TypeId} {g kb nb : Nat} {wb : Option Nat} {vk vn vw : Value} {K N : List Nat} {L : List Pd}
theorem DevB.cell (h : DevB w D g kb nb wb vk vn vw K N L) : w.cell? ⟨g, 0, none⟩ = some vk ∧ w.cell? ⟨g, 1, none⟩ = some vn ∧ w.cell? ⟨g, 2, none⟩ = some vw := by
  obtain ⟨hg, _⟩ := h
  refine ⟨?_, ?_, ?_⟩
  · rw [cell_of_row w g 0 _ D (0, 0) hg]; rfl
  · rw [cell_of_row w g 1 _ D (0, 0) hg]; rfl
  · rw [cell_of_row w g 2 _ D (0, 0) hg]; rfl
theorem DevB.frozen (h : DevB w D g kb nb wb vk vn vw K N L) (o : Nat) : w.frozen? ⟨g, o, none⟩ = false := by
  obtain ⟨hg, _⟩ := h
  simp [World.frozen?, hg]
theorem DevB.lt (h : DevB w D g kb nb wb vk vn vw K N L) : ∀ b, foot g kb nb wb b → b < w.heap.size := by
  obtain ⟨hg, hk, hn, hw, _⟩ := h
  intro b hb
  rcases hb with rfl | rfl | rfl | hb
  · exact (Array.getElem?_eq_some_iff.1 hg).1
  · exact hk.lt
  · exact hn.lt
  · exact hw.lt b hb
theorem DevB.ne (h : DevB w D g kb nb wb vk vn vw K N L) : kb ≠ g ∧ nb ≠ g ∧ wb ≠ some g ∧ wb ≠ some kb ∧ wb ≠ some nb := by
  obtain ⟨hg, hk, hn, hw, hkn, h1, h2⟩ := h
  exact ⟨hk.ne_block hg h1.symm, hn.ne_block hg h1.symm, hw.ne_block hg h2.symm, hw.ne hk (by decide), hw.ne hn (by decide)⟩
theorem DevB.kept (h : DevB w D g kb nb wb vk vn vw K N L) (hb : ∀ b, foot g kb nb wb b → w'.heap[b]? = w.heap[b]?) : DevB w' D g kb nb wb vk vn vw K N L := by
  obtain ⟨hg, hk, hn, hw, hkn, h1, h2⟩ := h
  exact ⟨(hb g (.inl rfl)).trans hg, hk.kept (hb kb (.inr (.inl rfl))), hn.kept (hb nb (.inr (.inr (.inl rfl)))), hw.kept (fun b e => hb b (.inr (.inr (.inr e)))), hkn, h1, h2⟩
theorem DevB.touch {T : Nat → Prop} (h : DevB w D g kb nb wb vk vn vw K N L) (ht : Touch T w w') (hd : ∀ b, T b → ¬ foot g kb nb wb b) : DevB w' D g kb nb wb vk vn vw K N L :=
  h.kept fun b hb => ht.block b (h.lt b hb) (fun hh => hd b hh hb)
theorem DevB.below (h : DevB w D g kb nb wb vk vn vw K N L) (hb : Below w.heap.size w w') : DevB w' D g kb nb wb vk vn vw K N L := h.kept fun b hh => hb.block b (h.lt b hh)
/-- a word is stored -/
theorem DevB.setN (h : DevB w D g kb nb wb vk vn vw K N L) (j x : Nat) : DevB (w.setCell ⟨nb, j, none⟩ (.int .u64 (x : Nat))) D g kb nb wb vk vn vw K (N.set j x) L := by
  obtain ⟨h1, h2, h3, h4, h5⟩ := h.ne
  obtain ⟨hg, hk, hn, hw, hkn, d1, d2⟩ := h
  have hst := hn.stored j (.int .u64 (x : Nat))
  have e : (u64s N).set j (.int .u64 (x : Nat)) = u64s (N.set j x) := by simp [u64s, List.map_set]
  rw [e, ← (List.length_set : (N.set j x).length = N.length)] at hst
  refine ⟨(Below.heap_setCell _ _ _ g h2.symm).trans hg, hk.kept (Below.heap_setCell _ _ _ kb hkn), hst, hw.kept (fun b hb => Below.heap_setCell _ _ _ b (fun e2 => h5 (by rw [hb, e2]))), hkn, d1, d2⟩
theorem DevB.setK (h : DevB w D g kb nb wb vk vn vw K N L) (j x : Nat) : DevB (w.setCell ⟨kb, j, none⟩ (.int .u64 (x : Nat))) D g kb nb wb vk vn vw (K.set j x) N L := by
  obtain ⟨h1, h2, h3, h4, h5⟩ := h.ne
  obtain ⟨hg, hk, hn, hw, hkn, d1, d2⟩ := h
  have hst := hk.stored j (.int .u64 (x : Nat))
  have e : (u64s K).set j (.int .u64 (x : Nat)) = u64s (K.set j x) := by simp [u64s, List.map_set]
  rw [e, ← (List.length_set : (K.set j x).length = K.length)] at hst
  refine ⟨(Below.heap_setCell _ _ _ g h1.symm).trans hg, hst, hn.kept (Below.heap_setCell _ _ _ nb hkn.symm), hw.kept (fun b hb => Below.heap_setCell _ _ _ b (fun e2 => h4 (by rw [hb, e2]))), hkn, d1, d2⟩
/-- another row waits -/
theorem DevB.setW (h : DevB w D g kb nb wb vk vn vw K N L) {wb' : Option Nat} {v' : Value} {L' : List Pd} (hw' : WRow w wb' 61 3 v' L'.length (pends L')) :
    DevB (w.setCell ⟨g, 2, none⟩ v') D g kb nb wb' vk vn v' K N L' := by
  obtain ⟨h1, h2, h3, h4, h5⟩ := h.ne
  obtain ⟨hg, hk, hn, hw, hkn, d1, d2⟩ := h
  have h3' := hw'.ne_block hg d2.symm
  refine ⟨?_, hk.kept (Below.heap_setCell _ _ _ kb h1), hn.kept (Below.heap_setCell _ _ _ nb h2), hw'.kept (fun b hb => Below.heap_setCell _ _ _ b (fun e2 => h3' (by rw [hb, e2]))), hkn, d1, d2⟩
  have := heap_setCell_same w g 2 _ D v' hg
  exact this
/-- an append turned the row that waits; it is laid into the struct -/
theorem DevB.grow (h : DevB w D g kb nb wb vk vn vw K N L) (ht : Touch (fun b => wb = some b) w w') {wb' : Option Nat} {v' : Value} {L' : List Pd} (hw' : WRow w' wb' 61 3 v' L'.length (pends L')) :
    DevB (w'.setCell ⟨g, 2, none⟩ v') D g kb nb wb' vk vn v' K N L' := by
  obtain ⟨h1, h2, h3, h4, h5⟩ := h.ne
  have hlt := h.lt
  obtain ⟨hg, hk, hn, hw, hkn, d1, d2⟩ := h
  have hg' := (ht.block g (hlt g (.inl rfl)) h3).trans hg
  have hk' := hk.kept (ht.block kb hk.lt h4)
  have hn' := hn.kept (ht.block nb hn.lt h5)
  have h3' := hw'.ne_block hg' d2.symm
  exact ⟨heap_setCell_same w' g 2 _ D v' hg', hk'.kept (Below.heap_setCell _ _ _ kb h1), hn'.kept (Below.heap_setCell _ _ _ nb h2), hw'.kept (fun b hb => Below.heap_setCell _ _ _ b (fun e2 => h3' (by rw [hb, e2]))), hkn, d1, d2⟩
theorem DevB.cell2 (h : DevB w D g kb nb wb vk vn vw K N L) (ht : Touch (fun b => wb = some b) w w') : w'.cell? ⟨g, 2, none⟩ = some vw := ht.cell h.ne.2.2.1 h.cell.2.2
theorem DevB.frozen2 (h : DevB w D g kb nb wb vk vn vw K N L) (ht : Touch (fun b => wb = some b) w w') : w'.frozen? ⟨g, 2, none⟩ = false := by
  have h1 := (ht.block g (h.lt g (.inl rfl)) h.ne.2.2.1).trans h.1
  simp [World.frozen?, h1]
/-- one that waits is marked -/
theorem DevB.setF {b : Nat} (h : DevB w D g kb nb (some b) vk vn vw K N L) {i : Nat} (hi : i < L.length) (f : Bool) :
    DevB (w.setCell ⟨b, i * 3 + 2, none⟩ (.bool f)) D g kb nb (some b) vk vn vw K N (L.set i (L[i].mark f)) := by
  obtain ⟨h1, h2, h3, h4, h5⟩ := h.ne
  obtain ⟨hg, hk, hn, hw, hkn, d1, d2⟩ := h
  have hst := Row.stored hw (i * 3 + 2) (.bool f)
  rw [pends_setF L i hi f, ← (List.length_set : (L.set i (L[i].mark f)).length = L.length)] at hst
  refine ⟨(Below.heap_setCell _ _ _ g (fun e => h3 (by rw [e]))).trans hg, hk.kept (Below.heap_setCell _ _ _ kb (fun e => h4 (by rw [e]))), hn.kept (Below.heap_setCell _ _ _ nb (fun e => h5 (by rw [e]))), hst, hkn, d1, d2⟩
end
/-- the footprint hidden -/
def Dev (w : World) (D : TypeId) (g : Nat) (S : Nat → Prop) (K N : List Nat) (L : List Pd) : Prop :=
  ∃ kb nb wb vk vn vw, DevB w D g kb nb wb vk vn vw K N L ∧ ∀ b, S b ↔ foot g kb nb wb b
/-- what becomes of it -/
def Goes (w w' : World) (D : TypeId) (g : Nat) (S : Nat → Prop) (K N : List Nat) (L : List Pd) : Prop :=
  ∃ S', Dev w' D g S' K N L ∧ Touch S w w' ∧ ∀ b, S' b → S b ∨ w.heap.size ≤ b
section
variable {w w' : World} {D : TypeId} {g : Nat} {S T : Nat → Prop} {K N : List Nat} {L : List Pd}
theorem Dev.lt (h : Dev w D g S K N L) : ∀ b, S b → b < w.heap.size := by
  obtain ⟨kb, nb, wb, vk, vn, vw, h, hs⟩ := h
  exact fun b hb => h.lt b ((hs b).1 hb)
theorem Dev.touch (h : Dev w D g S K N L) (ht : Touch T w w') (hd : ∀ b, T b → ¬ S b) : Dev w' D g S K N L := by
  obtain ⟨kb, nb, wb, vk, vn, vw, h, hs⟩ := h
  exact ⟨kb, nb, wb, vk, vn, vw, h.touch ht (fun b hb hh => hd b hb ((hs b).2 hh)), hs⟩
theorem Dev.below (h : Dev w D g S K N L) (hb : Below w.heap.size w w') : Dev w' D g S K N L := by
  obtain ⟨kb, nb, wb, vk, vn, vw, h, hs⟩ := h
  exact ⟨kb, nb, wb, vk, vn, vw, h.below hb, hs⟩
theorem Dev.goes (h : Dev w D g S K N L) : Goes w w D g S K N L := ⟨S, h, Touch.refl _ _, fun b hb => .inl hb⟩
end
end Go.Proofs.Ytdkcghicobakhaa
