/- Two devices beside each other; what a crash keeps, as plain data. -/
import Derived.Test.YtdkcghicobakhaaMediaX
import Derived.Test.YtdkcghicobakhaaMediaOfWalk
namespace Go.Proofs.Ytdkcghicobakhaa
open Go.RowKit
set_option linter.unusedVariables false

/-- behind stores each word is what it was, or what one of them said -/
theorem crash_word (a : Nat) : ∀ (T : List Pd) (K : List Nat), (∀ x ∈ T, x.p < K.length) → wd (apP K T) a = wd K a ∨ ∃ x ∈ T, x.p = a ∧ x.w = wd (apP K T) a := by
  intro T
  induction T with
  | nil => intro K _; exact .inl rfl
  | cons x T ih =>
    intro K h
    rw [apP_cons]
    rcases ih (K.set x.p x.w) (fun y hy => by rw [List.length_set]; exact h y (by simp [hy])) with h1 | ⟨y, hy, h1, h2⟩
    · rw [getD_setP _ _ _ _ (h x (by simp))] at h1
      by_cases hx : x.p = a
      · rw [if_pos hx] at h1
        exact .inr ⟨x, by simp, hx, h1.symm⟩
      · rw [if_neg hx] at h1
        exact .inl h1
    · exact .inr ⟨y, by simp [hy], h1, h2⟩
theorem takes_all (n : Nat) : ∀ (L : List Pd) (i : Nat), i + L.length ≤ n → takes (isK (List.replicate n true)) i L = L := by
  intro L
  induction L with
  | nil => intro i _; rfl
  | cons x L ih =>
    intro i h
    simp only [List.length_cons] at h
    have hi : isK (List.replicate n true) i x = true := by
      unfold isK
      rw [List.length_replicate, decide_eq_true (by omega : i < n)]
      simp [List.getD, show i < n by omega]
    simp only [takes]
    rw [if_pos hi, ih (i + 1) (by omega)]
/-- is a word what it was, or what one of the first j said? -/
def fineTo (k c a : Nat) (L : List Pd) (j : Nat) : Bool := (c == k) || (L.take j).any fun x => x.p == a && x.w == c
theorem fineTo_zero (k c a : Nat) (L : List Pd) : fineTo k c a L 0 = (c == k) := by simp [fineTo]
theorem fineTo_succ (k c a : Nat) (L : List Pd) (j : Nat) (h : j < L.length) : fineTo k c a L (j + 1) = (fineTo k c a L j || (L[j].p == a && L[j].w == c)) := by
  unfold fineTo
  rw [List.take_succ_eq_append_getElem h, List.any_append]
  simp [Bool.or_assoc]
theorem fineTo_all {k c a : Nat} {L : List Pd} (h : c = k ∨ ∃ x ∈ L, x.p = a ∧ x.w = c) : fineTo k c a L L.length = true := by
  unfold fineTo
  rw [List.take_length]
  rcases h with h | ⟨x, hx, h1, h2⟩
  · simp [h]
  · simp only [Bool.or_eq_true, List.any_eq_true]
    right
    exact ⟨x, hx, by simp [h1, h2]⟩

/-- two devices beside each other, behind world W -/
def Two (W w : World) (gd gf m : Nat) (x y : List Nat × List Pd) : Prop :=
  ∃ S T, At w gd S m x.1 x.2 ∧ At w gf T m y.1 y.2 ∧ (∀ b, S b → ¬ T b) ∧ (∀ b, S b → W.heap.size ≤ b) ∧ (∀ b, T b → W.heap.size ≤ b) ∧ Below W.heap.size W w
section
variable {W w w' : World} {gd gf m : Nat} {S T : Nat → Prop} {x y : List Nat × List Pd}
theorem Two.below (h : Two W w gd gf m x y) (hb : Below w.heap.size w w') : Two W w' gd gf m x y := by
  obtain ⟨S, T, h1, h2, h3, h4, h5, h6⟩ := h
  exact ⟨S, T, h1.below hb, h2.below hb, h3, h4, h5, below_then h6 hb⟩
theorem two_left (h1 : At w gd S m x.1 x.2) (h2 : At w gf T m y.1 y.2) (h3 : ∀ b, S b → ¬ T b) (h4 : ∀ b, S b → W.heap.size ≤ b) (h5 : ∀ b, T b → W.heap.size ≤ b) (h6 : Below W.heap.size W w) {K : List Nat} {L : List Pd}
    (hg : GoAt w w' gd S m K L) : Two W w' gd gf m (K, L) y := by
  obtain ⟨S', hd, ht, hs⟩ := hg
  have hT := h2.lt
  refine ⟨S', T, hd, h2.touch ht h3, fun b hb ht' => ?_, fun b hb => ?_, h5, h6.trans (ht.below h6.size h4)⟩
  · rcases hs b hb with h | h
    · exact h3 b h ht'
    · have := hT b ht'; omega
  · rcases hs b hb with h | h
    · exact h4 b h
    · exact Nat.le_trans h6.size h
theorem two_right (h1 : At w gd S m x.1 x.2) (h2 : At w gf T m y.1 y.2) (h3 : ∀ b, S b → ¬ T b) (h4 : ∀ b, S b → W.heap.size ≤ b) (h5 : ∀ b, T b → W.heap.size ≤ b) (h6 : Below W.heap.size W w) {K : List Nat} {L : List Pd}
    (hg : GoAt w w' gf T m K L) : Two W w' gd gf m x (K, L) := by
  obtain ⟨T', hd, ht, hs⟩ := hg
  have hS := h1.lt
  refine ⟨S, T', h1.touch ht (fun b hb hs' => h3 b hs' hb), hd, fun b hb ht' => ?_, h4, fun b hb => ?_, h6.trans (ht.below h6.size h5)⟩
  · rcases hs b ht' with h | h
    · exact h3 b hb h
    · have := hS b hb; omega
  · rcases hs b hb with h | h
    · exact h5 b h
    · exact Nat.le_trans h6.size h
theorem two_touch (h1 : At w gd S m x.1 x.2) (h4 : ∀ b, S b → W.heap.size ≤ b) (h6 : Below W.heap.size W w) {B : Nat} (hB : B ≤ W.heap.size) (ht : Touch S w w') : Below B w w' := ht.below (Nat.le_trans hB h6.size) (fun b hb => Nat.le_trans hB (h4 b hb))
end
/-- the cells of a script's step, in whatever later world -/
theorem step_cells {w : World} {A : Option Addr} {c : Nat} {l : List Stp} (h : Rd w (.slice A l.length c) l.length (scells l)) {j : Nat} (hj : j < l.length) :
    ∃ b o, A = some ⟨b, o, none⟩ ∧ ∀ W : World, Below w.heap.size w W → W.cell? ⟨b, o + j * 4, none⟩ = some (.int .i64 l[j].d) ∧ W.cell? ⟨b, o + j * 4 + 1, none⟩ = some (.int .i64 l[j].a) ∧ W.cell? ⟨b, o + j * 4 + 2, none⟩ = some (.int .u64 l[j].w) ∧ W.cell? ⟨b, o + j * 4 + 3, none⟩ = some l[j].kv := by
  obtain ⟨p0, p1, p2, p3⟩ := scells_at l j hj
  obtain ⟨b, o, hA, q0⟩ := h.at_ p0
  subst hA
  obtain ⟨b3, o3, hB, q1⟩ := h.at_ p1
  injection hB with hB
  injection hB with e1 e2
  subst e1; subst e2
  obtain ⟨b3, o3, hB, q2⟩ := h.at_ p2
  injection hB with hB
  injection hB with e1 e2
  subst e1; subst e2
  obtain ⟨b3, o3, hB, q3⟩ := h.at_ p3
  injection hB with hB
  injection hB with e1 e2
  subst e1; subst e2
  rw [← Nat.add_assoc] at q1 q2 q3
  exact ⟨b, o, rfl, fun W hb => ⟨(hb.cell (World.block_lt_of_cell? _ _ q0)).trans q0, (hb.cell (World.block_lt_of_cell? _ _ q1)).trans q1, (hb.cell (World.block_lt_of_cell? _ _ q2)).trans q2, (hb.cell (World.block_lt_of_cell? _ _ q3)).trans q3⟩⟩
theorem runP_len (m : Nat) (l : List Stp) (x : List Nat × List Pd) : ∀ j, j ≤ l.length → (runP m (l.take j) x).2.length ≤ x.2.length + j := by
  intro j
  induction j with
  | zero => intro _; simp [runP]
  | succ j ih =>
    intro h
    rw [runP_take m l x j (by omega)]
    have := stepP_len m l[j] (runP m (l.take j) x).1 (runP m (l.take j) x).2
    have := ih (by omega)
    omega
end Go.Proofs.Ytdkcghicobakhaa
