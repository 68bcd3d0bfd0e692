/- Chapter 15: what the two sides of each function give, in one wording. -/
import Derived.Test.YteojodddfanepaaPoolTake
import Derived.Test.YteojodddfanepaaSame
namespace Go.Proofs.Yteojodddfanepaa
open Go.RowKit
set_option linter.unusedVariables false

set_option maxHeartbeats 1000000 in
theorem Take_arg (v : Value) (l : List Nat) (n k : Int) (w : World) (h : Rd w v l.length (u64s l)) (hn : ¬ (May l n ∧ 0 ≤ k)) (hn1 : -9223372036854775808 ≤ n) (hn2 : n ≤ 9223372036854775807) (hk1 : -9223372036854775808 ≤ k) (hk2 : k ≤ 9223372036854775807) (hl : l.length ≤ 65536) :
    Calls Try.prog 10 #[v, .int .i64 n, .int .i64 k] w fun e w' => e = .returned (.tuple #[.slice none 0 0, .slice none 0 0, .int .i64 2]) ∧ Below w.heap.size w w' := by
  have HR := Lib.hid h
  have hb3 : Below w.heap.size w (((w.alloc (.cells #[.int .i64 k] 3)).alloc (.cells #[.slice none 0 0] 25)).alloc (.cells #[.slice none 0 0] 22)) := (((Below.refl _ w).alloc (Nat.le_refl _) _).alloc (by simp) _).alloc (by simp; omega) _
  have HB3 := Lib.hid hb3
  by_cases hm : May l n
  · have hk : decide (k < 0) = true := by simp; exact Int.not_le.1 fun hk => hn ⟨hm, hk⟩
    have hk' : k < 0 := Int.not_le.1 fun hk => hn ⟨hm, hk⟩
    have HM := Lib.hid (fun W hW => may_yes v l n W hW hm hl)
    clear h hn hm hb3
    go_enter Try.func10, Try.ntmps10
    go_wp2_with fail
    refine (HM.out _ (HR.out.below HB3.out)).mono ?_
    rintro e w' ⟨rfl, rfl⟩
    go_wp2
    refine bodyPost_ret (v := .tuple #[.slice none 0 0, .slice none 0 0, .int .i64 2]) (by unfold results; go_simp) rfl ?_
    exact ⟨rfl, HB3.out⟩
  · have HM := Lib.hid (fun W hW => may_no v l n W hW hm hn1 hn2 hl)
    clear h hn hm hb3
    go_enter Try.func10, Try.ntmps10
    go_wp2_with fail
    refine (HM.out _ (HR.out.below HB3.out)).mono ?_
    rintro e w' ⟨rfl, rfl⟩
    go_wp2
    refine bodyPost_ret (v := .tuple #[.slice none 0 0, .slice none 0 0, .int .i64 2]) (by unfold results; go_simp) rfl ?_
    exact ⟨rfl, HB3.out⟩

instance (l : List Nat) (n : Int) : Decidable (May l n) := by unfold May; infer_instance
/-- what Take gives: the numbers, the row, the error -/
def takeOut (l : List Nat) (n k : Int) : List Int × List Nat × Int :=
  if May l n ∧ 0 ≤ k then if (frees l n.toNat).length < k.toNat then ([], [], 4) else (nums (takes l n.toNat k.toNat), setAll l (takes l n.toNat k.toNat), 0) else ([], [], 2)
def Gives2 (w : World) (g : List Int) (r : List Nat) (e : Int) (x : Ending) (w' : World) : Prop :=
  ∃ gv rv, x = .returned (.tuple #[gv, rv, .int .i64 e]) ∧ Rd w' gv g.length (i64s g) ∧ Rd w' rv r.length (u64s r) ∧ Below w.heap.size w w'
theorem takeOut_arg {l : List Nat} {n k : Int} (h : ¬ (May l n ∧ 0 ≤ k)) : takeOut l n k = ([], [], 2) := by unfold takeOut; rw [if_neg h]
theorem takeOut_nat {l : List Nat} {n k : Nat} (h : n ≤ 64 * l.length) : takeOut l n k = if (frees l n).length < k then ([], [], 4) else (nums (takes l n k), setAll l (takes l n k), 0) := by
  unfold takeOut
  rw [if_pos ⟨by unfold May; omega, by omega⟩]
  rfl

theorem gives_hands {w w' : World} {l : List Nat} {n k : Nat} {x : Ending} (hk : k ≤ (frees l n).length) (h : HandsTake w l n k x w') : Gives2 w (nums (takes l n k)) (setAll l (takes l n k)) 0 x w' := by
  obtain ⟨A, c, B, d, rfl, h1, h2, h3⟩ := h
  have e1 : (nums (takes l n k)).length = k := by rw [nums_length, takes_length]; omega
  refine ⟨_, _, rfl, ?_, ?_, h3⟩
  · rw [e1]; exact Rd.of_own h1
  · rw [setAll_length]; exact Rd.of_own h2
theorem Take_gives (v : Value) (l : List Nat) (n k : Int) (w : World) (h : Rd w v l.length (u64s l)) (hw : Wd64 l) (hn1 : -9223372036854775808 ≤ n) (hn2 : n ≤ 9223372036854775807) (hk1 : -9223372036854775808 ≤ k) (hk2 : k ≤ 9223372036854775807) (hl : l.length ≤ 65536) :
    Calls Try.prog 10 #[v, .int .i64 n, .int .i64 k] w (Gives2 w (takeOut l n k).1 (takeOut l n k).2.1 (takeOut l n k).2.2) := by
  by_cases hh : May l n ∧ 0 ≤ k
  · obtain ⟨n, rfl⟩ := Int.eq_ofNat_of_zero_le hh.1.1
    obtain ⟨k, rfl⟩ := Int.eq_ofNat_of_zero_le hh.2
    have hn := hh.1.2
    rw [takeOut_nat (by omega)]
    refine (Take_any v l n k w h hw (by omega) (by omega) hl).mono ?_
    rintro e w' (⟨h1, rfl, hb⟩ | ⟨h1, h2⟩)
    · rw [if_pos h1]
      exact ⟨_, _, rfl, Rd.nil _, Rd.nil _, hb⟩
    · rw [if_neg (by omega)]
      exact gives_hands h1 h2
  · rw [takeOut_arg hh]
    refine (Take_arg v l n k w h hh hn1 hn2 hk1 hk2 hl).mono ?_
    rintro e w' ⟨rfl, hb⟩
    exact ⟨_, _, rfl, Rd.nil _, Rd.nil _, hb⟩
theorem refTake_gives (v : Value) (l : List Nat) (n k : Int) (w : World) (h : Rd w v l.length (u64s l)) (hw : Wd64 l) (hn1 : -9223372036854775808 ≤ n) (hn2 : n ≤ 9223372036854775807) (hk1 : -9223372036854775808 ≤ k) (hk2 : k ≤ 9223372036854775807) (hl : l.length ≤ 65536) :
    Calls Try.prog 11 #[v, .int .i64 n, .int .i64 k] w (Gives2 w (takeOut l n k).1 (takeOut l n k).2.1 (takeOut l n k).2.2) := by
  by_cases hh : May l n ∧ 0 ≤ k
  · obtain ⟨n, rfl⟩ := Int.eq_ofNat_of_zero_le hh.1.1
    obtain ⟨k, rfl⟩ := Int.eq_ofNat_of_zero_le hh.2
    have hn := hh.1.2
    rw [takeOut_nat (by omega)]
    by_cases hf : (frees l n).length < k
    · rw [if_pos hf]
      refine (refTake_full v l n k w h hw (by omega) hf hl).mono ?_
      rintro e w' ⟨rfl, rfl⟩
      exact ⟨_, _, rfl, Rd.nil _, Rd.nil _, Below.refl _ _⟩
    · rw [if_neg hf]
      refine (refTake_yes v l n k w h hw (by omega) (by omega) hl).mono ?_
      intro e w' h2
      exact gives_hands (by omega) h2
  · rw [takeOut_arg hh]
    refine (refTake_arg v l n k w h hw hh hn1 hn2 hl).mono ?_
    rintro e w' ⟨rfl, rfl⟩
    exact ⟨_, _, rfl, Rd.nil _, Rd.nil _, Below.refl _ _⟩

/-- what Free gives -/
def freeOut (l : List Nat) (n : Int) : Nat × Int := if May l n then ((frees l n.toNat).length, 0) else (0, 2)
theorem Free_gives (v : Value) (l : List Nat) (n : Int) (w : World) (h : Rd w v l.length (u64s l)) (hw : Wd64 l) (hn1 : -9223372036854775808 ≤ n) (hn2 : n ≤ 9223372036854775807) (hl : l.length ≤ 65536) :
    Calls Try.prog 12 #[v, .int .i64 n] w fun e w' => e = .returned (.tuple #[.int .i64 ((freeOut l n).1 : Nat), .int .i64 (freeOut l n).2]) ∧ Below w.heap.size w w' := by
  by_cases hh : May l n
  · obtain ⟨n, rfl⟩ := Int.eq_ofNat_of_zero_le hh.1
    unfold freeOut
    rw [if_pos hh]
    have hn := hh.2
    exact Free_yes v l n w h hw (by omega) hl
  · unfold freeOut
    rw [if_neg hh]
    refine (Free_no v l n w h hh hn1 hn2 hl).mono ?_
    rintro e w' ⟨rfl, rfl⟩
    exact ⟨rfl, Below.refl _ _⟩
theorem refFree_gives (v : Value) (l : List Nat) (n : Int) (w : World) (h : Rd w v l.length (u64s l)) (hw : Wd64 l) (hn1 : -9223372036854775808 ≤ n) (hn2 : n ≤ 9223372036854775807) (hl : l.length ≤ 65536) :
    Calls Try.prog 13 #[v, .int .i64 n] w fun e w' => e = .returned (.tuple #[.int .i64 ((freeOut l n).1 : Nat), .int .i64 (freeOut l n).2]) ∧ w = w' := by
  by_cases hh : May l n
  · obtain ⟨n, rfl⟩ := Int.eq_ofNat_of_zero_le hh.1
    unfold freeOut
    rw [if_pos hh]
    have hn := hh.2
    exact refFree_yes v l n w h hw (by omega) hl
  · unfold freeOut
    rw [if_neg hh]
    exact refFree_no v l n w h hh hn1 hn2 hl

/-- what Drop gives -/
def dropOut (l : List Nat) (n : Int) (which : List Int) : List Nat × Int :=
  if May l n then if ∀ i ∈ which, 1 ≤ i ∧ i ≤ n then match drops l which with | none => ([], 6) | some R => (R, 0) else ([], 3) else ([], 2)
def Gives1 (w : World) (r : List Nat) (e : Int) (x : Ending) (w' : World) : Prop := ∃ rv, x = .returned (.tuple #[rv, .int .i64 e]) ∧ Rd w' rv r.length (u64s r) ∧ Below w.heap.size w w'
theorem InR_iff (which : List Int) (n : Nat) : InR which n which.length ↔ ∀ i ∈ which, 1 ≤ i ∧ i ≤ (n : Int) := by
  constructor
  · intro h i hi
    obtain ⟨j, hj, rfl⟩ := List.mem_iff_getElem.1 hi
    exact h j hj hj
  · intro h i hi _
    exact h _ (List.getElem_mem hi)
theorem gives_drop {w w' : World} {l : List Nat} {n : Nat} {which : List Int} {x : Ending} (hn : n ≤ 64 * l.length) (h : HandsDrop w l n which x w') : Gives1 w (dropOut l n which).1 (dropOut l n which).2 x w' := by
  obtain ⟨hb, h⟩ := h
  unfold dropOut
  rw [if_pos (by unfold May; omega)]
  rcases h with ⟨h1, rfl⟩ | ⟨h1, h2, rfl⟩ | ⟨h1, R, A, c, h2, rfl, h3⟩
  · rw [if_neg (fun hh => h1 ((InR_iff _ _).2 hh))]
    exact ⟨_, rfl, Rd.nil _, hb⟩
  · rw [if_pos ((InR_iff _ _).1 h1), h2]
    exact ⟨_, rfl, Rd.nil _, hb⟩
  · rw [if_pos ((InR_iff _ _).1 h1), h2]
    refine ⟨_, rfl, ?_, hb⟩
    rw [drops_length h2]
    exact Rd.of_own h3
theorem Drop_gives (v u : Value) (l : List Nat) (n : Int) (which : List Int) (w : World) (h : Rd w v l.length (u64s l)) (hw : Wd64 l) (hu : Rd w u which.length (i64s which)) (hn1 : -9223372036854775808 ≤ n) (hn2 : n ≤ 9223372036854775807) (hl : l.length ≤ 65536) (hm : which.length ≤ 65536)
    (hb : ∀ x ∈ which, -9223372036854775808 ≤ x ∧ x ≤ 9223372036854775807) :
    Calls Try.prog 18 #[v, .int .i64 n, u] w (Gives1 w (dropOut l n which).1 (dropOut l n which).2) := by
  by_cases hh : May l n
  · obtain ⟨n, rfl⟩ := Int.eq_ofNat_of_zero_le hh.1
    have hn := hh.2
    exact (drop_any v u l n which w h hw hu (by omega) hl hm hb).mono fun e w' h => gives_drop (by omega) h
  · unfold dropOut
    rw [if_neg hh]
    refine (drop_arg v u l n w h hh hn1 hn2 hl).mono ?_
    rintro e w' ⟨rfl, rfl⟩
    exact ⟨_, rfl, Rd.nil _, Below.refl _ _⟩
theorem refDrop_gives (v u : Value) (l : List Nat) (n : Int) (which : List Int) (w : World) (h : Rd w v l.length (u64s l)) (hw : Wd64 l) (hu : Rd w u which.length (i64s which)) (hn1 : -9223372036854775808 ≤ n) (hn2 : n ≤ 9223372036854775807) (hl : l.length ≤ 65536) (hm : which.length ≤ 65536)
    (hb : ∀ x ∈ which, -9223372036854775808 ≤ x ∧ x ≤ 9223372036854775807) :
    Calls Try.prog 19 #[v, .int .i64 n, u] w (Gives1 w (dropOut l n which).1 (dropOut l n which).2) := by
  by_cases hh : May l n
  · obtain ⟨n, rfl⟩ := Int.eq_ofNat_of_zero_le hh.1
    have hn := hh.2
    exact (refDrop_any v u l n which w h hw hu (by omega) hl hm hb).mono fun e w' h => gives_drop (by omega) h
  · unfold dropOut
    rw [if_neg hh]
    refine (refDrop_arg v u l n w h hh hn1 hn2 hl).mono ?_
    rintro e w' ⟨rfl, rfl⟩
    exact ⟨_, rfl, Rd.nil _, Below.refl _ _⟩
/-- what Turned gives -/
theorem gives_turned {w w' : World} {l m : List Nat} {x : Ending} (h : Hands w 3 1 (turned l m).length (i64s (ints (turned l m))) x w') : ∃ gv, x = .returned gv ∧ Rd w' gv (ints (turned l m)).length (i64s (ints (turned l m))) ∧ Below w.heap.size w w' := by
  obtain ⟨A, c, rfl, h1, h2⟩ := h
  exact ⟨_, rfl, by rw [ints_length]; exact Rd.of_own h1, h2⟩

set_option maxHeartbeats 1000000 in
theorem large_any (v : Value) (l : List Nat) (w : World) (h : Rd w v l.length (u64s l)) : Calls Try.prog 8 #[v] w fun e w' => e = .returned (.bool (decide (40 < l.length))) ∧ w = w' := by
  obtain ⟨A, c, rfl, _, _, _⟩ := h
  rename_i hx
  clear hx
  by_cases h0 : 40 < l.length
  · have hd : decide ((l.length : Int) > 40) = true := by simp; omega
    rw [decide_eq_true h0]
    go_enter Try.func8, Try.ntmps8
    go_wp2
    go_ret
    exact ⟨ret_bool (by first | rfl | exact hd), rfl⟩
  · have hd : decide ((l.length : Int) > 40) = false := by simp; omega
    rw [decide_eq_false h0]
    go_enter Try.func8, Try.ntmps8
    go_wp2
    go_ret
    exact ⟨ret_bool (by first | rfl | exact hd), rfl⟩
end Go.Proofs.Yteojodddfanepaa
