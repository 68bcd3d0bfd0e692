/- Chapter 15, plainly: nobody has a number that another one has. No program. -/
import Derived.Test.YteojodddfanepaaPoolBackPlain
namespace Go.Proofs.Yteojodddfanepaa
set_option linter.unusedVariables false

/-- whose the numbers are: some places of a row set -/
def setO (O : List Int) (is : List Nat) (v : Int) : List Int := is.foldl (fun o x => o.set (x + 1) v) O
theorem setO_snoc (O : List Int) (is : List Nat) (x : Nat) (v : Int) : setO O (is ++ [x]) v = (setO O is v).set (x + 1) v := by simp [setO]
theorem setO_length (O : List Int) (is : List Nat) (v : Int) : (setO O is v).length = O.length := by
  induction is generalizing O with
  | nil => rfl
  | cons i is ih =>
    have e : setO O (i :: is) v = setO (O.set (i + 1) v) is v := rfl
    rw [e, ih, List.length_set]
theorem setO_getD (is : List Nat) (v : Int) (j : Nat) : ∀ O : List Int, j + 1 < O.length → (setO O is v).getD (j + 1) 0 = if j ∈ is then v else O.getD (j + 1) 0 := by
  induction is with
  | nil => intro O _; simp [setO]
  | cons i is ih =>
    intro O h
    have e : setO O (i :: is) v = setO (O.set (i + 1) v) is v := rfl
    rw [e, ih _ (by rw [List.length_set]; exact h)]
    by_cases h1 : j ∈ is
    · rw [if_pos h1, if_pos (by simp [h1])]
    · rw [if_neg h1]
      by_cases h2 : j = i
      · subst h2
        rw [if_pos (by simp)]
        simp [List.getD_eq_getElem?_getD, h]
      · rw [if_neg (by simp [h1, h2])]
        rw [List.getD_eq_getElem?_getD, List.getElem?_set, if_neg (by omega), ← List.getD_eq_getElem?_getD]

structure Apart (n : Nat) (R : List Nat) (O : List Int) (Ts : List (List Nat)) : Prop where
  hn : n ≤ 255
  hR : R.length = 4
  hW : Wd64 R
  nd : Ts.flatten.Nodup
  lt : ∀ i ∈ Ts.flatten, i < n
  bit : ∀ i, i < 256 → bitOf R i = decide (i ∈ Ts.flatten)
  hO : O.length = 256
  zero : ∀ i, i < 255 → i ∉ Ts.flatten → O.getD (i + 1) 0 = 0

theorem filter_mem_length {n : Nat} : ∀ {L : List Nat}, L.Nodup → (∀ i ∈ L, i < n) → ((List.range n).filter fun i => decide (i ∈ L)).length = L.length := by
  intro L hd hl
  apply List.Perm.length_eq
  rw [List.perm_ext_iff_of_nodup (List.Pairwise.filter _ List.nodup_range) hd]
  intro a
  rw [List.mem_filter, List.mem_range, decide_eq_true_eq]
  exact ⟨fun h => h.2, fun h => ⟨hl a h, h⟩⟩
theorem filter_split {α : Type} (p : α → Bool) : ∀ l : List α, (l.filter p).length + (l.filter fun x => !p x).length = l.length := by
  intro l
  induction l with
  | nil => rfl
  | cons a l ih =>
    rw [List.filter_cons, List.filter_cons]
    cases p a <;> simp <;> omega
section
variable {n : Nat} {R : List Nat} {O : List Int} {Ts : List (List Nat)}
theorem Apart.count (h : Apart n R O Ts) : (frees R n).length + Ts.flatten.length = n := by
  have h1 : frees R n = (List.range n).filter fun i => !decide (i ∈ Ts.flatten) := by
    unfold frees
    refine List.filter_congr fun x hx => ?_
    have := List.mem_range.1 hx
    rw [h.bit x (by have := h.hn; omega)]
  have h2 := filter_split (fun i => decide (i ∈ Ts.flatten)) (List.range n)
  rw [filter_mem_length h.nd h.lt, List.length_range] at h2
  rw [h1]
  omega
theorem Apart.start (n : Nat) (h : n ≤ 255) : Apart n (List.replicate 4 0) (List.replicate 256 0) [] where
  hn := h
  hR := List.length_replicate ..
  hW := by intro x hx; have := List.eq_of_mem_replicate hx; omega
  nd := by simp
  lt := by simp
  bit := by
    intro i hi
    unfold bitOf
    rw [List.getD_eq_getElem?_getD, List.getElem?_replicate, if_pos (by omega)]
    simp
  hO := List.length_replicate ..
  zero := by
    intro i hi _
    rw [List.getD_eq_getElem?_getD, List.getElem?_replicate, if_pos (by omega)]
    rfl
theorem Apart.free (h : Apart n R O Ts) {k i : Nat} (hi : i ∈ takes R n k) : i < n ∧ i ∉ Ts.flatten := by
  have h1 := takes_lt hi
  have h2 := takes_bit hi
  rw [h.bit i (by have := h.hn; omega), decide_eq_false_iff_not] at h2
  exact ⟨h1, h2⟩
theorem Apart.take (h : Apart n R O Ts) (k : Nat) (v : Int) : Apart n (setAll R (takes R n k)) (setO O (takes R n k) v) (Ts ++ [takes R n k]) where
  hn := h.hn
  hR := by rw [setAll_length, h.hR]
  hW := setAll_wd h.hW _
  nd := by
    rw [List.flatten_append, List.flatten_singleton, List.nodup_append]
    refine ⟨h.nd, takes_nodup _ _ _, ?_⟩
    intro a ha b hb e
    subst e
    exact (h.free hb).2 ha
  lt := by
    intro i hi
    rw [List.flatten_append, List.flatten_singleton, List.mem_append] at hi
    rcases hi with hi | hi
    · exact h.lt i hi
    · exact (h.free hi).1
  bit := by
    intro i hi
    rw [bitOf_setAll _ _ _ (fun x hx => by have := (h.free hx).1; have := h.hn; rw [h.hR]; omega), h.bit i hi, List.flatten_append, List.flatten_singleton]
    rw [Bool.eq_iff_iff]
    simp
  hO := by rw [setO_length, h.hO]
  zero := by
    intro i hi hm
    rw [List.flatten_append, List.flatten_singleton, List.mem_append] at hm
    rw [setO_getD _ _ _ _ (by rw [h.hO]; omega), if_neg (fun hh => hm (.inr hh))]
    exact h.zero i hi (fun hh => hm (.inl hh))
theorem nodup_take_not {T : List Nat} (h : T.Nodup) {i : Nat} (hi : i < T.length) : T[i] ∉ T.take i := by
  intro hm
  obtain ⟨j, hj, e⟩ := List.mem_iff_getElem.1 hm
  rw [List.getElem_take] at e
  rw [List.length_take] at hj
  have := (List.getElem_inj h).1 e
  omega
theorem Apart.owner_zero (h : Apart n R O Ts) {k i : Nat} (v : Int) (hi : i < (takes R n k).length) : (setO O ((takes R n k).take i) v).getD ((takes R n k)[i] + 1) 0 = 0 := by
  have hm := List.getElem_mem hi
  have hf := h.free hm
  have hn := h.hn
  rw [setO_getD _ _ _ _ (by rw [h.hO]; omega), if_neg (nodup_take_not (takes_nodup _ _ _) hi)]
  exact h.zero _ (by omega) hf.2

theorem split_at (Ts : List (List Nat)) (k : Nat) (hk : k < Ts.length) : Ts.flatten = (Ts.take k).flatten ++ (Ts[k] ++ (Ts.drop (k + 1)).flatten) ∧ (Ts.eraseIdx k).flatten = (Ts.take k).flatten ++ (Ts.drop (k + 1)).flatten := by
  constructor
  · conv => lhs; rw [← List.take_append_drop k Ts, List.drop_eq_getElem_cons hk]
    rw [List.flatten_append, List.flatten_cons]
  · rw [List.eraseIdx_eq_take_drop_succ, List.flatten_append]
theorem erase_length (Ts : List (List Nat)) (k : Nat) (hk : k < Ts.length) : (Ts.eraseIdx k).flatten.length + Ts[k].length = Ts.flatten.length := by
  obtain ⟨h1, h2⟩ := split_at Ts k hk
  rw [h1, h2]
  simp only [List.length_append]
  omega
theorem Apart.mem_at (h : Apart n R O Ts) {k : Nat} (hk : k < Ts.length) {i : Nat} (hi : i ∈ Ts[k]) : i ∈ Ts.flatten := List.mem_flatten.2 ⟨_, List.getElem_mem hk, hi⟩
theorem Apart.mem_erase (h : Apart n R O Ts) {k : Nat} (hk : k < Ts.length) (i : Nat) : i ∈ (Ts.eraseIdx k).flatten ↔ i ∈ Ts.flatten ∧ i ∉ Ts[k] := by
  obtain ⟨h1, h2⟩ := split_at Ts k hk
  have hd := h.nd
  rw [h1] at hd
  obtain ⟨_, d2, d3⟩ := List.nodup_append.1 hd
  obtain ⟨_, _, d4⟩ := List.nodup_append.1 d2
  rw [h1, h2]
  simp only [List.mem_append]
  constructor
  · rintro (ha | ha)
    · exact ⟨.inl ha, fun hh => d3 i ha i (List.mem_append.2 (.inl hh)) rfl⟩
    · exact ⟨.inr (.inr ha), fun hh => d4 i hh i ha rfl⟩
  · rintro ⟨ha | ha | ha, hb⟩
    · exact .inl ha
    · exact absurd ha hb
    · exact .inr ha
theorem Apart.nodup_at (h : Apart n R O Ts) {k : Nat} (hk : k < Ts.length) : Ts[k].Nodup := by
  obtain ⟨h1, _⟩ := split_at Ts k hk
  have hd := h.nd
  rw [h1] at hd
  exact (List.nodup_append.1 (List.nodup_append.1 hd).2.1).1
theorem Apart.drop (h : Apart n R O Ts) {k : Nat} (hk : k < Ts.length) : Apart n (clearAll R Ts[k]) (setO O Ts[k] 0) (Ts.eraseIdx k) where
  hn := h.hn
  hR := by rw [clearAll_length, h.hR]
  hW := clearAll_wd h.hW _
  nd := by
    obtain ⟨h1, h2⟩ := split_at Ts k hk
    have hd := h.nd
    rw [h1] at hd
    rw [h2]
    obtain ⟨d1, d2, d3⟩ := List.nodup_append.1 hd
    refine List.nodup_append.2 ⟨d1, (List.nodup_append.1 d2).2.1, fun a ha b hb => d3 a ha b (List.mem_append.2 (.inr hb))⟩
  lt := fun i hi => h.lt i ((h.mem_erase hk i).1 hi).1
  bit := by
    intro i hi
    rw [bitOf_clearAll _ _ _ (fun x hx => by have := h.lt x (h.mem_at hk hx); have := h.hn; rw [h.hR]; omega), h.bit i hi, Bool.eq_iff_iff]
    have := h.mem_erase hk i
    simp only [Bool.and_eq_true, decide_eq_true_eq, Bool.not_eq_true', decide_eq_false_iff_not]
    rw [this]
  hO := by rw [setO_length, h.hO]
  zero := by
    intro i hi hm
    rw [setO_getD _ _ _ _ (by rw [h.hO]; omega)]
    split
    · rfl
    · rename_i hn
      exact h.zero i hi (fun hh => hm ((h.mem_erase hk i).2 ⟨hh, hn⟩))
theorem Apart.drops (h : Apart n R O Ts) {k : Nat} (hk : k < Ts.length) : drops R (nums Ts[k]) = some (clearAll R Ts[k]) :=
  drops_clear _ _ (h.nodup_at hk) (fun i hi => by have := h.lt i (h.mem_at hk hi); have := h.hn; rw [h.hR]; omega)
    (fun i hi => by have := h.lt i (h.mem_at hk hi); have := h.hn; rw [h.bit i (by omega)]; simp only [decide_eq_true_eq]; exact h.mem_at hk hi)
end
end Go.Proofs.Yteojodddfanepaa
