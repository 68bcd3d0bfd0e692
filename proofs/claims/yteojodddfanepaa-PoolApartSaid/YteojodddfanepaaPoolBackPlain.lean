/- Chapter 15, plainly: what was taken is dropped again, in whatever order; how many are free behind it. No program. -/
import Derived.Test.YteojodddfanepaaPoolPlain
namespace Go.Proofs.Yteojodddfanepaa
set_option linter.unusedVariables false

theorem frees_nodup (l : List Nat) (n : Nat) : (frees l n).Nodup := (frees_sorted l n).imp (fun h => Nat.ne_of_lt h)
theorem takes_sorted (l : List Nat) (n k : Nat) : (takes l n k).Pairwise (· < ·) := (frees_sorted l n).sublist (List.take_sublist _ _)
theorem takes_nodup (l : List Nat) (n k : Nat) : (takes l n k).Nodup := (takes_sorted l n k).imp (fun h => Nat.ne_of_lt h)
theorem takes_lt {l : List Nat} {n k i : Nat} (h : i ∈ takes l n k) : i < n := frees_lt (takes_mem h)
theorem takes_bit {l : List Nat} {n k i : Nat} (h : i ∈ takes l n k) : bitOf l i = false := frees_bit (takes_mem h)

theorem filter_take_drop {α : Type} [DecidableEq α] : ∀ (l : List α) (k : Nat), l.Nodup → l.filter (fun x => decide (x ∉ l.take k)) = l.drop k := by
  intro l
  induction l with
  | nil => intro k _; simp
  | cons a l ih =>
    intro k hn
    cases k with
    | zero => simp
    | succ k =>
      have ha : a ∉ l := (List.nodup_cons.1 hn).1
      have hl := (List.nodup_cons.1 hn).2
      rw [List.take_succ_cons, List.drop_succ_cons, List.filter_cons_of_neg (by simp), ← ih k hl]
      refine List.filter_congr fun x hx => ?_
      have : x ≠ a := fun h => ha (h ▸ hx)
      simp [this]
theorem frees_setAll (l : List Nat) (n k : Nat) (hn : n ≤ 64 * l.length) : frees (setAll l (takes l n k)) n = (frees l n).drop k := by
  rw [← filter_take_drop _ k (frees_nodup l n)]
  unfold frees
  rw [List.filter_filter]
  refine List.filter_congr fun x hx => ?_
  rw [bitOf_setAll _ _ _ (fun i hi => by have := takes_lt hi; omega)]
  unfold takes frees
  cases bitOf l x <;> simp

/-- some bits cleared -/
def clearAll (l : List Nat) (is : List Nat) : List Nat := is.foldl (fun r i => setBit r i 0) l
theorem clearAll_length (l : List Nat) (is : List Nat) : (clearAll l is).length = l.length := by
  induction is generalizing l with
  | nil => rfl
  | cons i is ih =>
    have : clearAll l (i :: is) = clearAll (setBit l i 0) is := rfl
    rw [this, ih, setBit_length]
theorem clearAll_wd {l : List Nat} (h : Wd64 l) (is : List Nat) : Wd64 (clearAll l is) := by
  induction is generalizing l with
  | nil => exact h
  | cons i is ih => exact ih (setBit_wd h i 0)
theorem bitOf_clearAll (l : List Nat) (is : List Nat) (j : Nat) (h : ∀ i ∈ is, i < 64 * l.length) : bitOf (clearAll l is) j = (bitOf l j && !decide (j ∈ is)) := by
  induction is generalizing l with
  | nil => simp [clearAll]
  | cons i is ih =>
    have e : clearAll l (i :: is) = clearAll (setBit l i 0) is := rfl
    rw [e, ih (setBit l i 0) (fun x hx => by rw [setBit_length]; exact h x (by simp [hx])), bitOf_setBit l i 0 j (h i (by simp))]
    by_cases hj : j = i
    · subst hj; simp
    · rw [if_neg hj]; simp [hj]
/-- ones that are all taken, each once, are dropped -/
theorem drops_clear : ∀ (is : List Nat) (l : List Nat), is.Nodup → (∀ i ∈ is, i < 64 * l.length) → (∀ i ∈ is, bitOf l i = true) → drops l (nums is) = some (clearAll l is) := by
  intro is
  induction is with
  | nil => intro l _ _ _; rfl
  | cons i is ih =>
    intro l hn hlt hb
    have e : nums (i :: is) = ((i : Int) + 1) :: nums is := rfl
    rw [e]
    simp only [drops]
    rw [show ((i : Int) + 1 - 1).toNat = i by omega, if_pos (hb i (by simp))]
    have hi := (List.nodup_cons.1 hn).1
    refine ih (setBit l i 0) (List.nodup_cons.1 hn).2 (fun x hx => by rw [setBit_length]; exact hlt x (by simp [hx])) (fun x hx => ?_)
    rw [bitOf_setBit l i 0 x (hlt i (by simp)), if_neg (by rintro rfl; exact hi hx)]
    exact hb x (by simp [hx])
/-- what was taken, dropped in whatever order -/
theorem drops_back (l : List Nat) (n k : Nat) (hw : Wd64 l) (hn : n ≤ 64 * l.length) (is : List Nat) (hp : is.Perm (takes l n k)) : drops (setAll l (takes l n k)) (nums is) = some l := by
  have hlt : ∀ i ∈ takes l n k, i < 64 * l.length := fun i hi => by have := takes_lt hi; omega
  rw [drops_clear is _ (hp.nodup_iff.2 (takes_nodup l n k)) (fun i hi => by rw [setAll_length]; exact hlt i (hp.mem_iff.1 hi))
    (fun i hi => by rw [bitOf_setAll _ _ _ hlt]; simp [hp.mem_iff.1 hi])]
  refine congrArg some (row_ext (clearAll_wd (setAll_wd hw _) _) hw (by rw [clearAll_length, setAll_length]) fun j _ => ?_)
  rw [bitOf_clearAll _ _ _ (fun i hi => by rw [setAll_length]; exact hlt i (hp.mem_iff.1 hi)), bitOf_setAll _ _ _ hlt]
  by_cases hj : j ∈ takes l n k
  · have := hp.mem_iff.2 hj
    simp [hj, this, takes_bit hj]
  · have : j ∉ is := fun h => hj (hp.mem_iff.1 h)
    simp [hj, this]
/-- what came last, as the program numbers it -/
def lastN (T : List Nat) (i : Nat) : Nat := if i = 0 then 0 else T.getD (i - 1) 0 + 1
theorem lastN_succ (T : List Nat) (i : Nat) (h : i < T.length) : lastN T (i + 1) = T[i] + 1 := by
  unfold lastN
  rw [if_neg (by omega), Nat.add_sub_cancel, List.getD_eq_getElem?_getD, List.getElem?_eq_getElem h]
  rfl
theorem lastN_le {T : List Nat} (hs : T.Pairwise (· < ·)) {i : Nat} (h : i < T.length) : lastN T i ≤ T[i] := by
  unfold lastN
  split
  · omega
  · rw [List.getD_eq_getElem?_getD, List.getElem?_eq_getElem (by omega)]
    have := List.pairwise_iff_getElem.1 hs (i - 1) i (by omega) h (by omega)
    simp only [Option.getD_some]
    omega
/-- between two of those that were taken all had been taken -/
theorem takes_gap {l : List Nat} {n k i q : Nat} (h : i < (takes l n k).length) (h1 : lastN (takes l n k) i ≤ q) (h2 : q < (takes l n k)[i]) : bitOf l q = true := by
  cases hb : bitOf l q with
  | true => rfl
  | false =>
    exfalso
    have hq : q ∈ frees l n := mem_frees.2 ⟨Nat.lt_trans h2 (takes_lt (List.getElem_mem h)), hb⟩
    obtain ⟨p, hp, rfl⟩ := List.mem_iff_getElem.1 hq
    have hs := List.pairwise_iff_getElem.1 (frees_sorted l n)
    have hi : i < (frees l n).length := by rw [takes_length] at h; omega
    have e : (takes l n k)[i] = (frees l n)[i] := by simp [takes]
    rw [e] at h2
    have hpi : p < i := by
      rcases Nat.lt_trichotomy p i with hh | hh | hh
      · exact hh
      · subst hh; omega
      · have := hs i p hi hp hh; omega
    unfold lastN at h1
    rw [if_neg (by omega)] at h1
    have e2 : (takes l n k).getD (i - 1) 0 = (frees l n)[i - 1] := by
      rw [List.getD_eq_getElem?_getD, List.getElem?_eq_getElem (by omega)]
      unfold takes
      simp
    rw [e2] at h1
    have h3 : (frees l n)[p] ≤ (frees l n)[i - 1] := by
      rcases Nat.lt_or_ge p (i - 1) with hh | hh
      · exact Nat.le_of_lt (hs p (i - 1) hp (by omega) hh)
      · obtain rfl : p = i - 1 := by omega
        exact Nat.le_refl _
    omega
/-- the first i of one row, the others of another one -/
def mixTo {α : Type} (a b : List α) (i : Nat) : List α := a.take i ++ b.drop i
theorem mixTo_zero {α : Type} (a b : List α) : mixTo a b 0 = b := by simp [mixTo]
theorem mixTo_all {α : Type} (a b : List α) (h : b.length ≤ a.length) : mixTo a b a.length = a := by
  unfold mixTo
  rw [List.take_length, List.drop_eq_nil_of_le h, List.append_nil]
theorem mixTo_length {α : Type} (a b : List α) (i : Nat) (h : a.length = b.length) : (mixTo a b i).length = b.length := by simp [mixTo]; omega
theorem mixTo_succ {α : Type} (a b : List α) (i : Nat) (h : a.length = b.length) (hi : i < a.length) : (mixTo a b i).set i a[i] = mixTo a b (i + 1) := by
  unfold mixTo
  rw [List.set_append_right _ _ (by simp; omega), List.length_take, Nat.min_eq_left (by omega), Nat.sub_self, List.take_succ_eq_append_getElem hi, List.drop_eq_getElem_cons (show i < b.length by omega), List.set_cons_zero, List.append_assoc]
  rfl
theorem nums_getElem (l : List Nat) (i : Nat) (h : i < l.length) : (nums l)[i]'(by rw [nums_length]; exact h) = (l[i] : Int) + 1 := by simp [nums]
theorem nums_reverse (l : List Nat) : nums l.reverse = (nums l).reverse := by simp [nums]
end Go.Proofs.Yteojodddfanepaa
