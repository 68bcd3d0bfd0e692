/- A device as plain data: what scripts make of it. No program. -/
import Derived.Test.YtdkcghicobakhaaMediaPlain
namespace Go.Proofs.Ytdkcghicobakhaa
set_option linter.unusedVariables false

theorem rests_sub (is : Nat → Pd → Bool) : ∀ (L : List Pd) (i : Nat), (rests is i L).Sublist L := by
  intro L
  induction L with
  | nil => intro i; exact List.Sublist.refl _
  | cons x L ih =>
    intro i
    simp only [rests]
    split
    · exact (ih (i + 1)).cons x
    · exact (ih (i + 1)).cons_cons x
/-- of one line, what is flushed stands ahead of what is not -/
def Ord (L : List Pd) : Prop := L.Pairwise fun x y => x.p / 8 = y.p / 8 → y.f = true → x.f = true
structure Inv (m : Nat) (K : List Nat) (L : List Pd) : Prop where
  len : K.length = 8 * m
  ok : ∀ x ∈ L, OkP (8 * m) x
  ord : Ord L
theorem set_apP (x : Pd) : ∀ (T : List Pd) (K : List Nat), (∀ y ∈ T, y.p ≠ x.p) → (apP K T).set x.p x.w = apP (K.set x.p x.w) T := by
  intro T
  induction T with
  | nil => intro K _; rfl
  | cons y T ih =>
    intro K h
    rw [apP_cons, apP_cons, ih _ (fun z hz => h z (by simp [hz])), List.set_comm _ _ (h y (by simp))]
theorem takes_f : ∀ (L : List Pd) (i : Nat) (y : Pd), y ∈ takes isF i L → y.f = true := by
  intro L
  induction L with
  | nil => intro i y h; simp [takes] at h
  | cons x L ih =>
    intro i y h
    simp only [takes] at h
    by_cases hx : isF i x = true
    · rw [if_pos hx] at h
      rcases List.mem_cons.1 h with h | h
      · rw [h]; exact hx
      · exact ih _ _ h
    · rw [if_neg hx] at h
      exact ih _ _ h
/-- a fence turns no word -/
theorem fence_now : ∀ (L : List Pd) (i : Nat) (K : List Nat), Ord L → apP (apP K (takes isF i L)) (rests isF i L) = apP K L := by
  intro L
  induction L with
  | nil => intro i K _; rfl
  | cons x L ih =>
    intro i K ho
    unfold Ord at ho
    rw [List.pairwise_cons] at ho
    obtain ⟨h1, h2⟩ := ho
    simp only [takes, rests]
    by_cases hx : isF i x = true
    · rw [if_pos hx, if_pos hx, apP_cons, apP_cons]
      exact ih (i + 1) _ h2
    · rw [if_neg hx, if_neg hx, apP_cons, apP_cons, set_apP x _ K ?_]
      · exact ih (i + 1) _ h2
      · intro y hy he
        exact hx (h1 y (takes_mem isF L (i + 1) y hy) (by rw [he]) (takes_f L (i + 1) y hy))
theorem flush_now (a : Int) : ∀ (L : List Pd) (K : List Nat), apP K (L.map (flushes a)) = apP K L := by
  intro L
  induction L with
  | nil => intro K; rfl
  | cons x L ih => intro K; rw [List.map_cons, apP_cons, apP_cons, ih]; rfl
theorem Inv.store {m : Nat} {K : List Nat} {L : List Pd} (h : Inv m K L) (a x : Nat) (ha : a < 8 * m) (hx : x < 18446744073709551616) : Inv m K (L ++ [⟨a, x, false⟩]) := by
  obtain ⟨h1, h2, h3⟩ := h
  refine ⟨h1, fun y hy => ?_, ?_⟩
  · rcases List.mem_append.1 hy with hy | hy
    · exact h2 y hy
    · rw [List.mem_singleton.1 hy]; exact ⟨ha, hx⟩
  · unfold Ord
    rw [List.pairwise_append]
    refine ⟨h3, List.pairwise_singleton _ _, fun y _ z hz _ hf => ?_⟩
    rw [List.mem_singleton.1 hz] at hf
    cases hf
theorem Inv.flush {m : Nat} {K : List Nat} {L : List Pd} (h : Inv m K L) (a : Int) : Inv m K (L.map (flushes a)) := by
  obtain ⟨h1, h2, h3⟩ := h
  refine ⟨h1, fun y hy => ?_, ?_⟩
  · obtain ⟨z, hz, rfl⟩ := List.mem_map.1 hy
    exact h2 z hz
  · unfold Ord
    rw [List.pairwise_map]
    refine List.Pairwise.imp (fun {x y} hxy hl hf => ?_) h3
    unfold flushes Pd.mark at hl hf ⊢
    simp only [Bool.or_eq_true, beq_iff_eq] at hl hf ⊢
    rcases hf with hf | hf
    · exact .inl (hxy hl hf)
    · right; rw [hl]; exact hf
theorem Inv.fence {m : Nat} {K : List Nat} {L : List Pd} (h : Inv m K L) : Inv m (apP K (takes isF 0 L)) (rests isF 0 L) := by
  obtain ⟨h1, h2, h3⟩ := h
  exact ⟨by rw [apP_length, h1], fun x hx => h2 x (rests_mem _ _ _ _ hx), List.Pairwise.sublist (rests_sub _ _ _) h3⟩
theorem Inv.crash {m : Nat} {K : List Nat} {L : List Pd} (h : Inv m K L) (is : Nat → Pd → Bool) : Inv m (apP K (takes is 0 L)) [] := by
  obtain ⟨h1, h2, h3⟩ := h
  exact ⟨by rw [apP_length, h1], fun x hx => by simp at hx, List.Pairwise.nil⟩
theorem Inv.new (m : Nat) : Inv m (List.replicate (8 * m) 0) [] := ⟨by simp, fun x hx => by simp at hx, List.Pairwise.nil⟩
end Go.Proofs.Ytdkcghicobakhaa
