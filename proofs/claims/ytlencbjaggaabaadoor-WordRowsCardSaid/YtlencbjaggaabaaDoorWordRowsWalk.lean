/- The walk of the law WordRows. -/
import Derived.Test.YtlencbjaggaabaaDoorWordTextsWalk
namespace Go.Proofs.YtlencbjaggaabaaDoor
open Go.RowKit
set_option linter.unusedVariables false

instance (l : List Nat) (i : Int) : Decidable (Idx l i) := by unfold Idx; infer_instance
def OutB (w : World) (b : Bool) (e : Int) (r : Ending) (w' : World) : Prop := r = .returned (.tuple #[.bool b, .int .i64 e]) ∧ w = w'
def hasOut (l : List Nat) (i : Int) : Bool × Int := if Idx l i then (bitOf l i.toNat, 0) else (false, 2)
theorem Has_any (v : Value) (l : List Nat) (i : Int) (w : World) (h : Rd w v l.length (u64s l)) (hw : ∀ x ∈ l, x < 2 ^ 64) (hi1 : -9223372036854775808 ≤ i) (hi2 : i ≤ 9223372036854775807) (hl : l.length ≤ 65536) :
    Calls Tryd.prog 21 #[v, .int .i64 i] w (OutB w (hasOut l i).1 (hasOut l i).2) := by
  unfold hasOut
  by_cases hi : Idx l i
  · rw [if_pos hi]; exact wordHas_yes v l i w h hw hi hl
  · rw [if_neg hi]; exact wordHas_no v l i w h hi hi1 hi2 hl
theorem refHas_any (v : Value) (l : List Nat) (i : Int) (w : World) (h : Rd w v l.length (u64s l)) (hw : ∀ x ∈ l, x < 2 ^ 64) (hi1 : -9223372036854775808 ≤ i) (hi2 : i ≤ 9223372036854775807) (hl : l.length ≤ 65536) :
    Calls Tryd.prog 22 #[v, .int .i64 i] w (OutB w (hasOut l i).1 (hasOut l i).2) := by
  unfold hasOut
  by_cases hi : Idx l i
  · rw [if_pos hi]; exact refHas_yes v l i w h hw hi hl
  · rw [if_neg hi]; exact refHas_no v l i w h hi hi1 hi2 hl
/-- a row that is handed back, and an error -/
def OutR (w : World) (R : List Nat) (e : Int) (r : Ending) (w' : World) : Prop := ∃ A c, r = .returned (.tuple #[.slice A R.length c, .int .i64 e]) ∧ Rd w' (.slice A R.length c) R.length (u64s R) ∧ Below w.heap.size w w'
def withOut (l : List Nat) (i : Int) (on : Bool) : List Nat × Int := if Idx l i then (setBit l i.toNat (num01 on), 0) else ([], 2)
theorem outR_ok {w : World} {l : List Nat} {i : Int} {on : Bool} {r : Ending} {w' : World} (h : HandsOK w 22 1 l.length (u64s (setBit l i.toNat (num01 on))) r w') : OutR w (setBit l i.toNat (num01 on)) 0 r w' := by
  obtain ⟨A, c, he, ho, hb⟩ := h
  refine ⟨A, c, ?_, ?_, hb⟩
  · rw [setBit_length]; exact he
  · rw [setBit_length]; exact Rd.of_own ho
theorem outR_no {w : World} {r : Ending} {w' : World} (h : r = .returned (.tuple #[.slice none 0 0, .int .i64 2]) ∧ w = w') : OutR w [] 2 r w' := by
  obtain ⟨he, hw⟩ := h
  exact ⟨none, 0, he, Rd.nil _, by rw [← hw]; exact Below.refl _ _⟩
theorem With_any (v : Value) (l : List Nat) (i : Int) (on : Bool) (w : World) (h : Rd w v l.length (u64s l)) (hw : ∀ x ∈ l, x < 2 ^ 64) (hi1 : -9223372036854775808 ≤ i) (hi2 : i ≤ 9223372036854775807) (hl : l.length ≤ 65536) :
    Calls Tryd.prog 20 #[v, .int .i64 i, .bool on] w (OutR w (withOut l i on).1 (withOut l i on).2) := by
  unfold withOut
  by_cases hi : Idx l i
  · rw [if_pos hi]; exact (With_yes v l i on w h hw hi hl).mono fun e w' h => outR_ok h
  · rw [if_neg hi]; exact (With_no v l i on w h hi hi1 hi2 hl).mono fun e w' h => outR_no h
theorem refWith_any (v : Value) (l : List Nat) (i : Int) (on : Bool) (w : World) (h : Rd w v l.length (u64s l)) (hw : ∀ x ∈ l, x < 2 ^ 64) (hi1 : -9223372036854775808 ≤ i) (hi2 : i ≤ 9223372036854775807) (hl : l.length ≤ 65536) :
    Calls Tryd.prog 23 #[v, .int .i64 i, .bool on] w (OutR w (withOut l i on).1 (withOut l i on).2) := by
  unfold withOut
  by_cases hi : Idx l i
  · rw [if_pos hi]; exact (refWith_yes v l i on w h hw hi hl).mono fun e w' h => outR_ok h
  · rw [if_neg hi]; exact (refWith_no v l i on w h hi hi1 hi2 hl).mono fun e w' h => outR_no h

set_option maxHeartbeats 4000000 in
theorem wordRows_walk (w : World) (ht : Tab w) (v : Value) (l : List Nat) (hl : ∀ x ∈ l, x < 2 ^ 64) (hr : Rd w v l.length (u64s l)) (i : Int) (hi1 : -9223372036854775808 ≤ i) (hi2 : i ≤ 9223372036854775807) (on : Bool) :
    Calls Tryd.prog 7 #[v, .int .i64 i, .bool on] w fun e w' => e = .returned (.bool true) ∧ Below w.heap.size w w' := by
  have HT := Lib.hid ht
  have HR := Lib.hid hr
  have HW := Lib.hid hl
  obtain ⟨A, c, rfl, h1, h2, h3⟩ := hr
  unfold maxLen at h2
  clear ht hl h3
  by_cases hbig : 40 < l.length
  · have hd : decide ((40 : Int) < (l.length : Int)) = true := by simp; omega
    go_enter Tryd.func7, Tryd.ntmps7
    go_wp2_with fail
    refine (alive_any _ HT.out).mono ?_
    rintro e w' ⟨rfl, hb⟩
    have Hb := Lib.hid hb
    clear hb
    go_wp2
    go_ret
    exact ⟨rfl, Hb.out⟩
  have hd : decide ((40 : Int) < (l.length : Int)) = false := by simp; omega
  have hl1 : l.length ≤ 65536 := by omega
  obtain ⟨m, hm, hml⟩ := low0_ex l
  have HHa := Lib.hid (fun W v (h : Rd W v l.length (u64s l)) => Has_any v l i W h HW.out hi1 hi2 hl1)
  have HRHa := Lib.hid (fun W v (h : Rd W v l.length (u64s l)) => refHas_any v l i W h HW.out hi1 hi2 hl1)
  have HWi := Lib.hid (fun W v (h : Rd W v l.length (u64s l)) => With_any v l i on W h HW.out hi1 hi2 hl1)
  have HRWi := Lib.hid (fun W v (h : Rd W v l.length (u64s l)) => refWith_any v l i on W h HW.out hi1 hi2 hl1)
  have HLo := Lib.hid (fun W v (h : Rd W v l.length (u64s l)) (t : Tab W) => Lowest_any v l i W h HW.out hl1 hi1 hi2 t m hm)
  have HRLo := Lib.hid (fun W v (h : Rd W v l.length (u64s l)) => refLowest_any v l i W h HW.out hl1 hi1 hi2 m hm)
  have HCo := Lib.hid (fun W v (h : Rd W v l.length (u64s l)) => Count_any v l i W h HW.out hl1 hi1 hi2)
  have HRCo := Lib.hid (fun W v (h : Rd W v l.length (u64s l)) => refCount_any v l i W h HW.out hl1 hi1 hi2)
  generalize hasOut l i = T at *
  generalize withOut l i on = U at *
  generalize lowOut m l.length i = V at *
  generalize cnt l (upN l i) = C at *
  obtain ⟨T, TE⟩ := T
  obtain ⟨U, UE⟩ := U
  obtain ⟨V, VB⟩ := V
  dsimp only at *
  have e1 : (T == T) = true := by simp
  have e2 : (TE == TE) = true := by simp
  have e3 : (UE == UE) = true := by simp
  have e4 : (V == V) = true := by simp
  have e5 : (VB == VB) = true := by simp
  have e6 : ((C : Int) == (C : Int)) = true := by simp
  clear hm hml
  go_enter Tryd.func7, Tryd.ntmps7
  go_wp2_with (at_builtin; refine copy64 rfl (.const (.slice none 0 0)) (.tmp 24) rfl rfl _ l _ rfl rfl HR.out (by omega) ?_; intro A1 c1 w1 hown1 hb1; have Ho1 := Lib.hid (Rd.of_own hown1); have Hb1 := Lib.hid hb1; have Hl1 := Lib.hid (HR.out.below hb1); have HT1 := Lib.hid (HT.out.below hb1); clear hown1 hb1)
  refine (HHa.out _ _ Ho1.out).mono ?_
  rintro e w' ⟨rfl, rfl⟩
  go_wp2_with fail
  refine (HRHa.out _ _ Hl1.out).mono ?_
  rintro e w' ⟨rfl, rfl⟩
  go_wp2_with fail
  refine (HWi.out _ _ Ho1.out).mono ?_
  rintro e w2 ⟨A2, c2, rfl, hr2, hb2⟩
  have Hr2 := Lib.hid hr2
  have Hb2 := Lib.hid (below_then Hb1.out hb2)
  have Ho2 := Lib.hid (Ho1.out.below hb2)
  have Hl2 := Lib.hid (Hl1.out.below hb2)
  clear hr2 hb2
  go_wp2_with fail
  refine (HRWi.out _ _ Hl2.out).mono ?_
  rintro e w3 ⟨A3, c3, rfl, hr3, hb3⟩
  have Hr3 := Lib.hid hr3
  have Hr2' := Lib.hid (Hr2.out.below hb3)
  have Hb3 := Lib.hid (below_then Hb2.out hb3)
  have Ho3 := Lib.hid (Ho2.out.below hb3)
  have Hl3 := Lib.hid (Hl2.out.below hb3)
  clear hr3 hb3
  go_wp2_with fail
  refine (HLo.out _ _ Ho3.out (HT.out.below Hb3.out)).mono ?_
  rintro e w' ⟨rfl, rfl⟩
  go_wp2_with fail
  refine (HRLo.out _ _ Hl3.out).mono ?_
  rintro e w' ⟨rfl, rfl⟩
  go_wp2_with fail
  refine (same_yes _ _ U _ rfl _ Hr2'.out Hr3.out).mono ?_
  rintro e w4 ⟨rfl, hb4⟩
  have Hb4 := Lib.hid (below_then Hb3.out hb4)
  have Ho4 := Lib.hid (Ho3.out.below hb4)
  have Hl4 := Lib.hid (Hl3.out.below hb4)
  clear hb4
  go_wp2_with fail
  refine (HCo.out _ _ Ho4.out).mono ?_
  rintro e w' ⟨rfl, rfl⟩
  go_wp2_with fail
  refine (HRCo.out _ _ Hl4.out).mono ?_
  rintro e w' ⟨rfl, rfl⟩
  go_wp2_with fail
  refine (same_yes _ _ l _ rfl _ Ho4.out Hl4.out).mono ?_
  rintro e w5 ⟨rfl, hb5⟩
  have Hb5 := Lib.hid (below_then Hb4.out hb5)
  clear hb5
  go_wp2_with fail
  refine (alive_any _ (HT.out.below Hb5.out)).mono ?_
  rintro e w6 ⟨rfl, hb6⟩
  have Hb6 := Lib.hid (below_then Hb5.out hb6)
  clear hb6
  go_wp2
  go_ret
  exact ⟨rfl, Hb6.out⟩
end Go.Proofs.YtlencbjaggaabaaDoor
