/- The law's alive: the answers that the document fixes are given. -/
import Derived.Test.YteojodddfanepaaPoolGives
namespace Go.Proofs.Yteojodddfanepaa
open Go.RowKit
set_option linter.unusedVariables false

theorem at1 : takeOut [5, 0] 70 3 = ([2, 4, 5], [31, 0], 0) := by decide +kernel
theorem at2 : takeOut [7] 3 1 = ([], [], 4) := by decide +kernel
theorem ad1 : dropOut [7] 64 [2, 1] = ([4], 0) := by decide +kernel
theorem ad2 : dropOut [7] 64 [2, 2] = ([], 6) := by decide +kernel
theorem af1 : freeOut [7] 10 = (7, 0) := by decide +kernel
theorem atu : ints (turned [1, 2, 3] [1, 5, 4, 6]) = [1, 2] := by decide +kernel

theorem sameI_yes (a b : Value) (l : List Int) (n : Nat) (hn : l.length = n) (w : World) (ha : Rd w a n (i64s l)) (hb : Rd w b n (i64s l)) :
    Calls Try.prog 14 #[a, b] w fun e w' => e = .returned (.bool true) ∧ Below w.heap.size w w' := by
  subst hn
  refine (sameI_any a b l l w ha hb).mono ?_
  rintro e w' ⟨rfl, k, rfl⟩
  exact ⟨by simp, below_drewN (Below.refl _ _) k⟩
theorem same_yes (a b : Value) (l : List Nat) (n : Nat) (hn : l.length = n) (w : World) (ha : Rd w a n (u64s l)) (hb : Rd w b n (u64s l)) :
    Calls Try.prog 15 #[a, b] w fun e w' => e = .returned (.bool true) ∧ Below w.heap.size w w' := by
  subst hn
  refine (same_any a b l l w ha hb).mono ?_
  rintro e w' ⟨rfl, k, rfl⟩
  exact ⟨by simp, below_drewN (Below.refl _ _) k⟩
theorem new64 (W : World) (l : List Nat) (n : Nat) (hn : l.length = n) (h : n ≤ 65536) : Rd (W.alloc (.cells (u64s l).toArray 38)) (.slice (some ⟨W.heap.size, 0, none⟩) n n) n (u64s l) := Rd.new W (u64s l) _ (by rw [u64s_length, hn]; exact h) n h
theorem newI (W : World) (l : List Int) (n : Nat) (hn : l.length = n) (h : n ≤ 65536) : Rd (W.alloc (.cells (i64s l).toArray 3)) (.slice (some ⟨W.heap.size, 0, none⟩) n n) n (i64s l) := Rd.new W (i64s l) _ (by rw [i64s_length, hn]; exact h) n h

set_option maxHeartbeats 4000000 in
theorem alive_any (w : World) : Calls Try.prog 9 #[] w fun e w' => e = .returned (.bool true) ∧ Below w.heap.size w w' := by
  have w50 : Wd64 [5, 0] := by intro x hx; simp at hx; omega
  have w7 : Wd64 [7] := by intro x hx; simp at hx; omega
  have hT1 : ∀ W v, Rd W v 2 (u64s [5, 0]) → Calls Try.prog 10 #[v, .int .i64 70, .int .i64 3] W (Gives2 W [2, 4, 5] [31, 0] 0) := fun W v h => by
    have := Take_gives v [5, 0] 70 3 W h w50 (by omega) (by omega) (by omega) (by omega) (by simp)
    rwa [at1] at this
  have hT2 : ∀ W v, Rd W v 1 (u64s [7]) → Calls Try.prog 10 #[v, .int .i64 3, .int .i64 1] W (Gives2 W [] [] 4) := fun W v h => by
    have := Take_gives v [7] 3 1 W h w7 (by omega) (by omega) (by omega) (by omega) (by simp)
    rwa [at2] at this
  have hD1 : ∀ W v u, Rd W v 1 (u64s [7]) → Rd W u 2 (i64s [2, 1]) → Calls Try.prog 18 #[v, .int .i64 64, u] W (Gives1 W [4] 0) := fun W v u h hu => by
    have := Drop_gives v u [7] 64 [2, 1] W h w7 hu (by omega) (by omega) (by simp) (by simp) (by intro x hx; simp at hx; omega)
    rwa [ad1] at this
  have hD2 : ∀ W v u, Rd W v 1 (u64s [7]) → Rd W u 2 (i64s [2, 2]) → Calls Try.prog 18 #[v, .int .i64 64, u] W (Gives1 W [] 6) := fun W v u h hu => by
    have := Drop_gives v u [7] 64 [2, 2] W h w7 hu (by omega) (by omega) (by simp) (by simp) (by intro x hx; simp at hx; omega)
    rwa [ad2] at this
  have hF : ∀ W v, Rd W v 1 (u64s [7]) → Calls Try.prog 12 #[v, .int .i64 10] W (fun e w' => e = .returned (.tuple #[.int .i64 7, .int .i64 0]) ∧ Below W.heap.size W w') := fun W v h => by
    have := Free_gives v [7] 10 W h w7 (by omega) (by omega) (by simp)
    rwa [af1] at this
  have hU : ∀ W a b, Rd W a 3 (u64s [1, 2, 3]) → Rd W b 4 (u64s [1, 5, 4, 6]) → Calls Try.prog 16 #[a, b] W (fun e w' => ∃ gv, e = .returned gv ∧ Rd w' gv 2 (i64s [1, 2]) ∧ Below W.heap.size W w') := fun W a b ha hb => by
    refine (turned_any a b [1, 2, 3] [1, 5, 4, 6] W ha hb (by simp) (by simp)).mono fun e w' h => ?_
    have := gives_turned h
    rwa [atu] at this
  have HT1 := Lib.hid hT1
  have HT2 := Lib.hid hT2
  have hD1' : ∀ W : World, Calls Try.prog 18 #[.slice (some ⟨W.heap.size, 0, none⟩) 1 1, .int .i64 64, .slice (some ⟨W.heap.size + 1, 0, none⟩) 2 2] ((W.alloc (.cells #[.int .u64 7] 38)).alloc (.cells #[.int .i64 2, .int .i64 1] 3)) (fun e w' => ∃ rv, e = .returned (.tuple #[rv, .int .i64 0]) ∧ Rd w' rv 1 (u64s [4]) ∧ Below W.heap.size W w') := fun W => by
    have h1 : Rd ((W.alloc (.cells #[.int .u64 7] 38)).alloc (.cells #[.int .i64 2, .int .i64 1] 3)) (.slice (some ⟨W.heap.size, 0, none⟩) 1 1) 1 (u64s [7]) := (new64 W [7] 1 rfl (by omega)).alloc _
    have h2 := newI (W.alloc (.cells #[.int .u64 7] 38)) [2, 1] 2 rfl (by omega)
    rw [World.size_alloc] at h2
    refine (hD1 _ _ _ h1 h2).mono ?_
    rintro e w' ⟨rv, rfl, h3, h4⟩
    exact ⟨rv, rfl, h3, (((Below.refl _ W).alloc (Nat.le_refl _) _).alloc (by rw [World.size_alloc]; omega) _).trans (h4.mono (by rw [World.size_alloc, World.size_alloc]; omega))⟩
  have hD2' : ∀ W : World, Calls Try.prog 18 #[.slice (some ⟨W.heap.size, 0, none⟩) 1 1, .int .i64 64, .slice (some ⟨W.heap.size + 1, 0, none⟩) 2 2] ((W.alloc (.cells #[.int .u64 7] 38)).alloc (.cells #[.int .i64 2, .int .i64 2] 3)) (fun e w' => ∃ rv, e = .returned (.tuple #[rv, .int .i64 6]) ∧ Below W.heap.size W w') := fun W => by
    have h1 : Rd ((W.alloc (.cells #[.int .u64 7] 38)).alloc (.cells #[.int .i64 2, .int .i64 2] 3)) (.slice (some ⟨W.heap.size, 0, none⟩) 1 1) 1 (u64s [7]) := (new64 W [7] 1 rfl (by omega)).alloc _
    have h2 := newI (W.alloc (.cells #[.int .u64 7] 38)) [2, 2] 2 rfl (by omega)
    rw [World.size_alloc] at h2
    refine (hD2 _ _ _ h1 h2).mono ?_
    rintro e w' ⟨rv, rfl, h3, h4⟩
    exact ⟨rv, rfl, (((Below.refl _ W).alloc (Nat.le_refl _) _).alloc (by rw [World.size_alloc]; omega) _).trans (h4.mono (by rw [World.size_alloc, World.size_alloc]; omega))⟩
  have HD1 := Lib.hid hD1'
  have HD2 := Lib.hid hD2'
  clear hD1' hD2'
  have HF := Lib.hid hF
  have hU' : ∀ W : World, Calls Try.prog 16 #[.slice (some ⟨W.heap.size, 0, none⟩) 3 3, .slice (some ⟨W.heap.size + 1, 0, none⟩) 4 4] ((W.alloc (.cells #[.int .u64 1, .int .u64 2, .int .u64 3] 38)).alloc (.cells #[.int .u64 1, .int .u64 5, .int .u64 4, .int .u64 6] 38)) (fun e w' => ∃ gv, e = .returned gv ∧ Rd w' gv 2 (i64s [1, 2]) ∧ Below W.heap.size W w') := fun W => by
    have h1 : Rd ((W.alloc (.cells #[.int .u64 1, .int .u64 2, .int .u64 3] 38)).alloc (.cells #[.int .u64 1, .int .u64 5, .int .u64 4, .int .u64 6] 38)) (.slice (some ⟨W.heap.size, 0, none⟩) 3 3) 3 (u64s [1, 2, 3]) := (new64 W [1, 2, 3] 3 rfl (by omega)).alloc _
    have h2 := new64 (W.alloc (.cells #[.int .u64 1, .int .u64 2, .int .u64 3] 38)) [1, 5, 4, 6] 4 rfl (by omega)
    rw [World.size_alloc] at h2
    refine (hU _ _ _ h1 h2).mono ?_
    rintro e w' ⟨gv, rfl, h3, h4⟩
    exact ⟨gv, rfl, h3, (((Below.refl _ W).alloc (Nat.le_refl _) _).alloc (by rw [World.size_alloc]; omega) _).trans (h4.mono (by rw [World.size_alloc, World.size_alloc]; omega))⟩
  have HU := Lib.hid hU'
  clear hU'
  clear hT1 hT2 hD1 hD2 hF hU w50 w7
  go_enter Try.func9, Try.ntmps9
  go_wp2_with fail
  refine (HT1.out _ _ (new64 _ [5, 0] 2 rfl (by omega))).mono ?_
  rintro e w1 ⟨g1, r1, rfl, hg1, hr1, hb1⟩
  have Hw1 := Lib.hid (below_then ((Below.refl _ _).alloc (Nat.le_refl _) _) hb1)
  have Hg1 := Lib.hid hg1
  have Hr1 := Lib.hid hr1
  clear hg1 hr1 hb1
  go_wp2_with fail
  refine (HT2.out _ _ (new64 _ [7] 1 rfl (by omega))).mono ?_
  rintro e w2 ⟨g2, r2, rfl, _, _, hb2⟩
  have hb2' := below_then ((Below.refl w1.heap.size w1).alloc (Nat.le_refl _) _) hb2
  have Hw2 := Lib.hid (below_then Hw1.out hb2')
  have Hg2 := Lib.hid (Hg1.out.below hb2')
  have Hr2 := Lib.hid (Hr1.out.below hb2')
  clear Hw1 Hg1 Hr1 hb2 hb2'
  go_wp2_with fail
  refine (HD1.out _).mono ?_
  rintro e w3 ⟨r3, rfl, hr3, hb3⟩
  have hb3' := hb3
  have Hw3 := Lib.hid (below_then Hw2.out hb3')
  have Hg3 := Lib.hid (Hg2.out.below hb3')
  have Hr3 := Lib.hid (Hr2.out.below hb3')
  have Hd3 := Lib.hid hr3
  clear Hw2 Hg2 Hr2 hb3 hb3' hr3
  go_wp2_with fail
  refine (HD2.out _).mono ?_
  rintro e w4 ⟨r4, rfl, hb4⟩
  have hb4' := hb4
  have Hw4 := Lib.hid (below_then Hw3.out hb4')
  have Hg4 := Lib.hid (Hg3.out.below hb4')
  have Hr4 := Lib.hid (Hr3.out.below hb4')
  have Hd4 := Lib.hid (Hd3.out.below hb4')
  clear Hw3 Hg3 Hr3 Hd3 hb4 hb4'
  go_wp2_with fail
  refine (HF.out _ _ (new64 _ [7] 1 rfl (by omega))).mono ?_
  rintro e w5 ⟨rfl, hb5⟩
  have hb5' := below_then ((Below.refl w4.heap.size w4).alloc (Nat.le_refl _) _) hb5
  have Hw5 := Lib.hid (below_then Hw4.out hb5')
  have Hg5 := Lib.hid (Hg4.out.below hb5')
  have Hr5 := Lib.hid (Hr4.out.below hb5')
  have Hd5 := Lib.hid (Hd4.out.below hb5')
  clear Hw4 Hg4 Hr4 Hd4 hb5 hb5'
  go_wp2_with fail
  refine (sameI_yes _ _ [2, 4, 5] 3 rfl _ (Hg5.out.alloc _) (newI _ [2, 4, 5] 3 rfl (by omega))).mono ?_
  rintro e w6 ⟨rfl, hb6⟩
  have hb6' := below_then ((Below.refl w5.heap.size w5).alloc (Nat.le_refl _) _) hb6
  have Hw6 := Lib.hid (below_then Hw5.out hb6')
  have Hr6 := Lib.hid (Hr5.out.below hb6')
  have Hd6 := Lib.hid (Hd5.out.below hb6')
  clear Hw5 Hg5 Hr5 Hd5 hb6 hb6'
  go_wp2_with fail
  refine (same_yes _ _ [31, 0] 2 rfl _ (Hr6.out.alloc _) (new64 _ [31, 0] 2 rfl (by omega))).mono ?_
  rintro e w7 ⟨rfl, hb7⟩
  have hb7' := below_then ((Below.refl w6.heap.size w6).alloc (Nat.le_refl _) _) hb7
  have Hw7 := Lib.hid (below_then Hw6.out hb7')
  have Hd7 := Lib.hid (Hd6.out.below hb7')
  clear Hw6 Hr6 Hd6 hb7 hb7'
  go_wp2_with fail
  refine (same_yes _ _ [4] 1 rfl _ (Hd7.out.alloc _) (new64 _ [4] 1 rfl (by omega))).mono ?_
  rintro e w8 ⟨rfl, hb8⟩
  have hb8' := below_then ((Below.refl w7.heap.size w7).alloc (Nat.le_refl _) _) hb8
  have Hw8 := Lib.hid (below_then Hw7.out hb8')
  clear Hw7 Hd7 hb8 hb8'
  go_wp2_with fail
  refine (HU.out _).mono ?_
  rintro e w9 ⟨gv, rfl, hgv, hb9⟩
  have hb9' := hb9
  have Hw9 := Lib.hid (below_then Hw8.out hb9')
  have Hgv := Lib.hid hgv
  clear Hw8 hb9 hb9' hgv
  go_wp2_with fail
  refine (sameI_yes _ _ [1, 2] 2 rfl _ (Hgv.out.alloc _) (newI _ [1, 2] 2 rfl (by omega))).mono ?_
  rintro e w10 ⟨rfl, hb10⟩
  have Hw10 := Lib.hid (below_then Hw9.out (below_then ((Below.refl w9.heap.size w9).alloc (Nat.le_refl _) _) hb10))
  clear Hw9 Hgv hb10
  go_wp2
  go_ret
  exact ⟨rfl, Hw10.out⟩
end Go.Proofs.Yteojodddfanepaa
