/- What is laid in a slot, what is read of it, what it is to apply a list twice: plain data. -/
import Derived.Test.YtlfnpjdnfkcigaaDoorRedoF
import Derived.Test.YtlfnpjdnfkcigaaDoorRedoD
import Derived.Test.YtlfnpjdnfkcigaaDoorSame
namespace Go.Proofs.YtlfnpjdnfkcigaaDoor
open Go.RowKit
set_option linter.unusedVariables false

theorem getD_set (l : List Nat) (i j x : Nat) (hj : j < l.length) : (l.set i x).getD j 0 = if i = j then x else l.getD j 0 := by
  rw [List.getD_eq_getElem?_getD, List.getD_eq_getElem?_getD, List.getElem?_set]
  by_cases h : i = j
  · subst h; simp [hj]
  · simp [h]
theorem ext_getD {a b : List Nat} (hl : a.length = b.length) (h : ∀ i, i < a.length → a.getD i 0 = b.getD i 0) : a = b := upto_all hl h
theorem wd_getD {l : List Nat} (h : Wd l) (i : Nat) : l.getD i 0 < 2 ^ 64 := by
  rw [List.getD_eq_getElem?_getD]
  cases hh : l[i]? with
  | none => simp
  | some x => simpa using h x (List.mem_of_getElem? hh)
theorem wd_of_getD {l : List Nat} (h : ∀ i, i < l.length → l.getD i 0 < 2 ^ 64) : Wd l := by
  intro x hx
  obtain ⟨i, hi, rfl⟩ := List.mem_iff_getElem.1 hx
  have := h i hi
  simpa [List.getD, hi] using this
/-- the first j words of b put into s from place o on -/
def putTo (s : List Nat) (o : Nat) (b : List Nat) : Nat → List Nat
  | 0 => s
  | j + 1 => (putTo s o b j).set (o + j) (b.getD j 0)
theorem putTo_length (s : List Nat) (o : Nat) (b : List Nat) (j : Nat) : (putTo s o b j).length = s.length := by
  induction j with
  | zero => rfl
  | succ j ih => simp [putTo, ih]
theorem putTo_getD (s : List Nat) (o : Nat) (b : List Nat) (i : Nat) (hi : i < s.length) : ∀ j, (putTo s o b j).getD i 0 = if o ≤ i ∧ i < o + j then b.getD (i - o) 0 else s.getD i 0 := by
  intro j
  induction j with
  | zero => rw [if_neg (by omega)]; rfl
  | succ j ih =>
    show ((putTo s o b j).set (o + j) (b.getD j 0)).getD i 0 = _
    rw [getD_set _ _ _ _ (by rw [putTo_length]; exact hi), ih]
    by_cases h : o + j = i
    · rw [if_pos h, if_pos (by omega), show i - o = j by omega]
    · rw [if_neg h]
      by_cases h2 : o ≤ i ∧ i < o + j
      · rw [if_pos h2, if_pos (by omega)]
      · rw [if_neg h2, if_neg (by omega)]
theorem putTo_set (s : List Nat) (o : Nat) (b : List Nat) (n i x : Nat) (hi : i < n) (hn : n ≤ b.length) (hs : o + n ≤ s.length) : (putTo s o b n).set (o + i) x = putTo s o (b.set i x) n := by
  refine ext_getD (by simp [putTo_length]) fun k hk => ?_
  rw [List.length_set, putTo_length] at hk
  rw [getD_set _ _ _ _ (by rw [putTo_length]; exact hk), putTo_getD _ _ _ _ hk, putTo_getD _ _ _ _ hk]
  by_cases h : o + i = k
  · rw [if_pos h, if_pos (by omega), getD_set _ _ _ _ (by omega), if_pos (by omega)]
  · rw [if_neg h]
    by_cases h2 : o ≤ k ∧ k < o + n
    · rw [if_pos h2, if_pos h2, getD_set _ _ _ _ (by omega), if_neg (by omega)]
    · rw [if_neg h2, if_neg h2]
theorem putTo_wd {s b : List Nat} (hs : Wd s) (hb : Wd b) (o j : Nat) : Wd (putTo s o b j) := by
  refine wd_of_getD fun i hi => ?_
  rw [putTo_length] at hi
  rw [putTo_getD _ _ _ _ hi]
  split
  · exact wd_getD hb _
  · exact wd_getD hs _
theorem rbody_getD : ∀ (l : List Rdo) (i : Nat) (h : i < l.length), (rbody l).getD (2 * i) 0 = l[i].a.toNat ∧ (rbody l).getD (2 * i + 1) 0 = l[i].w := by
  intro l
  induction l with
  | nil => intro i h; cases h
  | cons x l ih =>
    intro i h
    have e : rbody (x :: l) = x.a.toNat :: x.w :: rbody l := rfl
    rw [e]
    cases i with
    | zero => exact ⟨rfl, rfl⟩
    | succ i =>
      have := ih i (by simp at h; omega)
      rw [show 2 * (i + 1) = 2 * i + 1 + 1 by omega]
      exact this
theorem rcommit_mod {l : List Rdo} (h : l.length ≤ 64) : rcommit l % 256 = l.length := by unfold rcommit; omega
theorem rcommit_pos (l : List Rdo) : rcommit l ≠ 0 := by unfold rcommit; omega
theorem rcommit_lt {l : List Rdo} (h : l.length ≤ 64) : rcommit l < 18446744073709551616 := by
  have := wsum_lt (rbody l)
  unfold rcommit
  omega
/-- the entries of a slot are the list that stands in it -/
theorem entOf_laid {s : List Nat} {l : List Rdo} (h : ∀ i (hi : i < l.length), s.getD (8 + 2 * i) 0 = l[i].a.toNat ∧ s.getD (9 + 2 * i) 0 = l[i].w) (hm : ∀ r ∈ l, mayOne r) :
    entOf s l.length = l ∧ entMay s l.length := by
  refine ⟨?_, fun i hi => ?_⟩
  · apply List.ext_getElem (entOf_length _ _)
    intro i h1 h2
    obtain ⟨e1, e2⟩ := h i h2
    have := (hm _ (List.getElem_mem h2)).1
    simp only [entOf, List.getElem_map, List.getElem_range, e1, e2]
    generalize l[i] = r at *
    obtain ⟨a, x⟩ := r
    simp only [Rdo.mk.injEq, and_true]
    dsimp only at this
    omega
  · have := hm _ (List.getElem_mem hi)
    rw [(h i hi).1]
    unfold mayOne at this
    omega
theorem slotHas_laid {s : List Nat} {l : List Rdo} (h : ∀ i (hi : i < l.length), s.getD (8 + 2 * i) 0 = l[i].a.toNat ∧ s.getD (9 + 2 * i) 0 = l[i].w) (hm : ∀ r ∈ l, mayOne r) (hl : l.length ≤ 64) : slotHas s (rcommit l) := by
  obtain ⟨h1, h2⟩ := entOf_laid h hm
  unfold slotHas
  rw [rcommit_mod hl, h1]
  exact ⟨hl, h2, rfl⟩
/-- a list put into a slot -/
theorem put_laid {s : List Nat} {l : List Rdo} (hl : l.length ≤ 64) (hs : s.length = 136) : ∀ i (hi : i < l.length), (putTo s 8 (rbody l) (rbody l).length).getD (8 + 2 * i) 0 = l[i].a.toNat ∧ (putTo s 8 (rbody l) (rbody l).length).getD (9 + 2 * i) 0 = l[i].w := by
  intro i hi
  have hb := rbody_length l
  obtain ⟨e1, e2⟩ := rbody_getD l i hi
  rw [putTo_getD _ _ _ _ (by omega), putTo_getD _ _ _ _ (by omega), if_pos (by omega), if_pos (by omega), show 8 + 2 * i - 8 = 2 * i by omega, show 9 + 2 * i - 8 = 2 * i + 1 by omega]
  exact ⟨e1, e2⟩
theorem put_first {s : List Nat} (b : List Nat) (j : Nat) (hs : s.length = 136) : (putTo s 8 b j).getD 0 0 = s.getD 0 0 := by
  rw [putTo_getD _ _ _ _ (by omega), if_neg (by omega)]
/-- the words of the entries that stand in a slot -/
theorem rbody_entOf {s b : List Nat} {n : Nat} (hb : b.length = n * 2) (h : ∀ i, i < b.length → s.getD (8 + i) 0 = b.getD i 0) : rbody (entOf s n) = b := by
  have hl : (rbody (entOf s n)).length = b.length := by rw [rbody_length, entOf_length, hb]
  refine ext_getD hl fun k hk => ?_
  rw [hl] at hk
  have hi : k / 2 < (entOf s n).length := by rw [entOf_length]; omega
  obtain ⟨e1, e2⟩ := rbody_getD (entOf s n) (k / 2) hi
  simp only [entOf, List.getElem_map, List.getElem_range] at e1 e2
  rcases Nat.mod_two_eq_zero_or_one k with h0 | h0
  · rw [show 2 * (k / 2) = k by omega] at e1
    rw [← h k hk]
    exact e1
  · rw [show 2 * (k / 2) + 1 = k by omega, show 9 + 2 * (k / 2) = 8 + k by omega] at e2
    rw [← h k hk]
    exact e2

/-! ### applied -/
def lastOf (a : Nat) (v : Nat) (l : List Rdo) : Nat := l.foldl (fun v r => if r.a.toNat = a then r.w else v) v
theorem lastOf_take (a v : Nat) (l : List Rdo) (j : Nat) (h : j < l.length) : lastOf a v (l.take (j + 1)) = if l[j].a.toNat = a then l[j].w else lastOf a v (l.take j) := by
  unfold lastOf
  rw [List.take_succ_eq_append_getElem h, List.foldl_append]
  rfl
theorem rapply_getD (l : List Rdo) : ∀ (K : List Nat) (i : Nat), i < K.length → (rapply K l).getD i 0 = lastOf i (K.getD i 0) l := by
  induction l with
  | nil => intro K i _; rfl
  | cons x l ih =>
    intro K i hi
    show (rapply (K.set x.a.toNat x.w) l).getD i 0 = lastOf i (if x.a.toNat = i then x.w else K.getD i 0) l
    rw [ih _ i (by rw [List.length_set]; exact hi), getD_set _ _ _ _ hi]
theorem lastOf_cases (a : Nat) : ∀ (l : List Rdo), (∀ v, lastOf a v l = v) ∨ (∃ c, ∀ v, lastOf a v l = c) := by
  intro l
  induction l with
  | nil => exact .inl fun v => rfl
  | cons x l ih =>
    have e : ∀ v, lastOf a v (x :: l) = lastOf a (if x.a.toNat = a then x.w else v) l := fun v => rfl
    by_cases h : x.a.toNat = a
    · simp only [e, if_pos h]
      exact .inr ⟨_, fun v => rfl⟩
    · simp only [e, if_neg h]
      exact ih
theorem rapply_twice (K : List Nat) (l : List Rdo) : rapply (rapply K l) l = rapply K l := by
  refine ext_getD (by rw [rapply_length]) fun i hi => ?_
  rw [rapply_length, rapply_length] at hi
  rw [rapply_getD l _ i (by rw [rapply_length]; exact hi), rapply_getD l _ i hi]
  rcases lastOf_cases i l with h | ⟨c, h⟩
  · rw [h]
  · rw [h, h]
theorem rapply_wd {l : List Rdo} (hl : ∀ r ∈ l, r.w < 2 ^ 64) : ∀ {K : List Nat}, Wd K → Wd (rapply K l) := by
  induction l with
  | nil => intro K h; exact h
  | cons x l ih =>
    intro K h
    refine ih (fun r hr => hl r (by simp [hr])) (K := K.set x.a.toNat x.w) fun y hy => ?_
    rcases List.mem_or_eq_of_mem_set hy with hy | rfl
    · exact h y hy
    · exact hl x (by simp)

/-! ### turned -/
theorem turnsTo_stop (l : List Nat) (k t m : Nat) (ht : t < 2 ^ m) : ∀ n, turnsTo l k t (m + n) = turnsTo l k t m := by
  intro n
  induction n with
  | zero => rfl
  | succ n ih =>
    have h0 : t / 2 ^ (m + n) = 0 := Nat.div_eq_of_lt (Nat.lt_of_lt_of_le ht (Nat.pow_le_pow_right (by decide) (by omega)))
    rw [show m + (n + 1) = (m + n) + 1 by omega]
    simp only [turnsTo]
    rw [h0, if_neg (by decide), ih]
/-- the bits that lie within the row -/
def inRow (t k n : Nat) : Nat := t % 2 ^ min 32 (n - k)
theorem inRow_bit (t k n j : Nat) (hj : j < 32) : inRow t k n / 2 ^ j % 2 = 1 ↔ t / 2 ^ j % 2 = 1 ∧ k + j < n := by
  unfold inRow
  have e1 : ∀ x : Nat, x / 2 ^ j % 2 = 1 ↔ x.testBit j = true := fun x => by
    rw [Nat.testBit_eq_decide_div_mod_eq]; simp
  rw [e1, e1, Nat.testBit_mod_two_pow]
  simp only [Bool.and_eq_true, decide_eq_true_eq]
  constructor
  · rintro ⟨h1, h2⟩; exact ⟨h2, by omega⟩
  · rintro ⟨h1, h2⟩; exact ⟨by omega, h1⟩
theorem inRow_lt (t k n : Nat) : inRow t k n < 2 ^ 32 := by
  unfold inRow
  exact Nat.lt_of_lt_of_le (Nat.mod_lt _ (Nat.two_pow_pos _)) (Nat.pow_le_pow_right (by decide) (by omega))
/-- rows in which some bits within 32 in a row are turned have another sum -/
theorem turned_sum {b : List Nat} (hb : Wd b) {k t : Nat} (hk : k ≤ 64 * b.length) (h : wsum (turnsTo b k (inRow t k (64 * b.length)) 32) = wsum b) : inRow t k (64 * b.length) = 0 := by
  obtain ⟨m, hm⟩ : ∃ m, m = min 32 (64 * b.length - k) := ⟨_, rfl⟩
  have hlt : inRow t k (64 * b.length) < 2 ^ m := by unfold inRow; rw [← hm]; exact Nat.mod_lt _ (Nat.two_pow_pos _)
  have h32 := inRow_lt t k (64 * b.length)
  generalize inRow t k (64 * b.length) = u at *
  have hs := turnsTo_stop b k u m hlt (32 - m)
  rw [show m + (32 - m) = 32 by omega] at hs
  have hn := num_turnsTo b hb k u m (by omega)
  rw [Nat.mod_eq_of_lt hlt, ← hs] at hn
  exact burst hb (turnsTo_wd hb k u 32) (by rw [turnsTo_length]) h32 hk hn h.symm
theorem turnsTo_zero (l : List Nat) (k : Nat) : ∀ n, turnsTo l k 0 n = l := by
  intro n
  induction n with
  | zero => rfl
  | succ n ih =>
    simp only [turnsTo]
    rw [Nat.zero_div, if_neg (by decide), ih]
/-- is one of the first j bits set? -/
theorem some_bit (u j : Nat) : decide (u % 2 ^ (j + 1) ≠ 0) = (decide (u % 2 ^ j ≠ 0) || decide (u / 2 ^ j % 2 = 1)) := by
  rw [mod_succ]
  have hp := Nat.two_pow_pos j
  rcases Nat.mod_two_eq_zero_or_one (u / 2 ^ j) with h | h
  · rw [h]; simp
  · rw [h]
    have : u % 2 ^ j + 2 ^ j * 1 ≠ 0 := by omega
    simp
/-- a slot whose entries are turned has no list -/
theorem turned_none {s : List Nat} {l : List Rdo} {k t : Nat} (hs : s.length = 136) (hl : l.length ≤ 64) (hw : Wd (rbody l)) (hk : k ≤ 64 * (rbody l).length) (hu : inRow t k (64 * (rbody l).length) ≠ 0) :
    ¬ slotHas (putTo s 8 (turnsTo (rbody l) k (inRow t k (64 * (rbody l).length)) 32) (rbody l).length) (rcommit l) := by
  rintro ⟨_, _, h⟩
  rw [rcommit_mod hl] at h
  have hb := rbody_length l
  have e := rbody_entOf (s := putTo s 8 (turnsTo (rbody l) k (inRow t k (64 * (rbody l).length)) 32) (rbody l).length) (b := turnsTo (rbody l) k (inRow t k (64 * (rbody l).length)) 32) (n := l.length) (by rw [turnsTo_length, hb]) (fun i hi => by
    rw [turnsTo_length] at hi
    rw [putTo_getD _ _ _ _ (by omega), if_pos (by omega), show 8 + i - 8 = i by omega])
  refine hu (turned_sum hw hk ?_)
  have h2 := wsum_lt (rbody l)
  have h3 := wsum_lt (turnsTo (rbody l) k (inRow t k (64 * (rbody l).length)) 32)
  unfold rcommit at h
  rw [e, entOf_length] at h
  omega
end Go.Proofs.YtlfnpjdnfkcigaaDoor
