/- The law's alive: the answers that the document fixes are given. -/
import Derived.Test.YtlhomllcklfieaaSumOpen
namespace Go.Proofs.Ytlhomllcklfieaa
open Go.RowKit
set_option linter.unusedVariables false

theorem str9 : bs ⟨#[49, 50, 51, 52, 53, 54, 55, 56, 57]⟩ = [49, 50, 51, 52, 53, 54, 55, 56, 57] := by decide
theorem sum9 : more 0 [49, 50, 51, 52, 53, 54, 55, 56, 57] = 3421780262 := by decide +kernel
theorem sum0 : wsum [] = 0 := by decide +kernel
theorem seal0 : sealW [] = 18446744069414584320 := by decide +kernel
theorem open56 : opens [5, 6] = false := by decide +kernel

set_option maxHeartbeats 2000000 in
theorem alive_any (w : World) : Calls Try.prog 8 #[] w fun e w' => e = .returned (.bool true) ∧ Below w.heap.size w w' := by
  have hwd : Wd [5, 6] := by intro x hx; simp at hx; omega
  have hwd0 : Wd [] := by intro x hx; simp at hx
  have hS : ∀ W v, Rd W v 2 (u64s [5, 6]) → Calls Try.prog 18 #[v] W (Hands W 36 1 (2 + 1) (u64s (sealed [5, 6]))) := fun W v h => Seal_n v [5, 6] 2 rfl W h hwd (by omega)
  have hS0 : ∀ W, Calls Try.prog 18 #[.slice none 0 0] W (Hands W 36 1 (0 + 1) (u64s (sealed []))) := fun W => Seal_n _ [] 0 rfl W (Rd.nil W) hwd0 (by omega)
  have hO := fun W v h => Open_yes v [5, 6] 2 rfl W h hwd (by omega)
  have hN := fun W v h => Open_no v [5, 6] 2 rfl open56 W h hwd (by omega)
  have hnew : ∀ W : World, Rd (W.alloc (.cells #[.int .u64 5, .int .u64 6] 36)) (.slice (some ⟨W.heap.size, 0, none⟩) 2 2) 2 (u64s [5, 6]) := fun W => by
    have := Rd.new W (u64s [5, 6]) 36 (by simp [u64s]) 2 (by omega)
    simpa [u64s] using this
  have HS := Lib.hid hS
  have HS0 := Lib.hid hS0
  have HO := Lib.hid hO
  have HN := Lib.hid hN
  have Hnew := Lib.hid hnew
  clear hS hS0 hO hN hnew hwd hwd0
  go_enter Try.func8, Try.ntmps8
  go_wp2_with fail
  refine (HS.out _ _ (Hnew.out _)).mono ?_
  rintro e w1 ⟨A1, c1, rfl, hown1, hb1⟩
  have HR1 := Lib.hid (Rd.of_own hown1)
  clear hown1
  have hw1 : Below w.heap.size w w1 := below_then ((Below.refl _ _).alloc (Nat.le_refl _) _) hb1
  clear hb1
  go_wp2_with fail
  refine (HO.out _ _ HR1.out).mono ?_
  rintro e w2 ⟨A2, c2, rfl, hown2, hb2⟩
  have HR2 := Lib.hid (Rd.of_own hown2)
  have hw2 : Below w.heap.size w w2 := below_then hw1 hb2
  clear hown2 HR1 hw1 hb2
  go_wp2_with fail
  refine (HN.out _ _ (Hnew.out _)).mono ?_
  rintro e w3 ⟨rfl, hb3⟩
  have hb3' : Below w2.heap.size w2 w3 := below_then ((Below.refl _ _).alloc (Nat.le_refl _) _) hb3
  have HR3 := Lib.hid (HR2.out.below hb3')
  have hw3 : Below w.heap.size w w3 := below_then hw2 hb3'
  clear HR2 hw2 hb3 hb3'
  go_wp2_with fail
  refine (HS0.out _).mono ?_
  rintro e w4 ⟨A4, c4, rfl, hown4, hb4⟩
  have HR4 := Lib.hid (Rd.of_own hown4)
  have HR5 := Lib.hid (HR3.out.below hb4)
  have hw4 : Below w.heap.size w w4 := below_then hw3 hb4
  clear HR3 hw3 hb4 hown4
  go_wp2_with fail
  refine (Of_any _ (by decide) _).mono ?_
  rintro e w5 ⟨rfl, rfl⟩
  rw [str9, sum9]
  go_wp2_with fail
  refine (Words_any _ [] _ (Rd.nil _) (by intro x hx; simp at hx) (by simp)).mono ?_
  rintro e w6 ⟨rfl, hb6⟩
  rw [sum0]
  obtain ⟨b2, o2, rfl, hc2⟩ := (HR5.out.below hb6).at_ (j := 1) (u := .int .u64 6) rfl
  obtain ⟨b4, o4, rfl, hc4⟩ := (HR4.out.below hb6).at_ (j := 0) (u := .int .u64 18446744069414584320) (by show some (Value.int .u64 ((sealW [] : Nat) : Int)) = _; rw [seal0]; rfl)
  have hw6 : Below w.heap.size w w6 := below_then hw4 hb6
  clear hb6 hw4 HR5 HR4
  rw [Nat.add_zero] at hc4
  go_wp2
  go_ret
  exact ⟨rfl, hw6⟩
end Go.Proofs.Ytlhomllcklfieaa
