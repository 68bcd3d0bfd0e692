/- The walk of the law WordFields. -/
import Derived.Test.YtlencbjaggaabaaDoorWordAlive
namespace Go.Proofs.YtlencbjaggaabaaDoor
open Go.RowKit
set_option linter.unusedVariables false

set_option maxHeartbeats 2000000 in
theorem wordFields_walk (w : World) (ht : Tab w) (x : Nat) (hx : x < 18446744073709551616) (a : Int) (ha1 : -9223372036854775808 ≤ a) (ha2 : a ≤ 9223372036854775807) (n : Int) (hn1 : -9223372036854775808 ≤ n) (hn2 : n ≤ 9223372036854775807) (v : Nat) (hv : v < 18446744073709551616) :
    Calls Tryd.prog 3 #[.int .u64 x, .int .i64 a, .int .i64 n, .int .u64 v] w fun e w' => e = .returned (.bool true) ∧ Below w.heap.size w w' := by
  have HT := Lib.hid ht
  have HG := Lib.hid (Get_any x a n hx ha1 ha2 hn1 hn2 w)
  have HRG := Lib.hid (refGet_any x a n hx w)
  have HP := Lib.hid (Put_any x v a n hx ha1 ha2 hn1 hn2 w)
  have HRP := Lib.hid (refPut_any x v a n hx hv w)
  clear ht
  obtain ⟨g1, g2⟩ : ∃ g : Nat × Int, g = getOut x a n := ⟨_, rfl⟩
  generalize getOut x a n = G at *
  generalize putOut x a n v = P at *
  obtain ⟨G1, G2⟩ := G
  obtain ⟨P1, P2⟩ := P
  dsimp only at *
  have e1 : ((G1 : Int) == (G1 : Int)) = true := by simp
  have e2 : (G2 == G2) = true := by simp
  have e3 : ((P1 : Int) == (P1 : Int)) = true := by simp
  have e4 : (P2 == P2) = true := by simp
  clear g1 g2
  go_enter Tryd.func3, Tryd.ntmps3
  go_wp2_with fail
  refine HG.out.mono ?_
  rintro e w' ⟨rfl, rfl⟩
  go_wp2_with fail
  refine HRG.out.mono ?_
  rintro e w' ⟨rfl, rfl⟩
  go_wp2_with fail
  refine HP.out.mono ?_
  rintro e w' ⟨rfl, rfl⟩
  go_wp2_with fail
  refine HRP.out.mono ?_
  rintro e w' ⟨rfl, rfl⟩
  go_wp2_with fail
  refine (alive_any _ HT.out).mono ?_
  rintro e w' ⟨rfl, hb⟩
  have Hb := Lib.hid hb
  clear hb
  go_wp2
  go_ret
  exact ⟨rfl, Hb.out⟩
end Go.Proofs.YtlencbjaggaabaaDoor
