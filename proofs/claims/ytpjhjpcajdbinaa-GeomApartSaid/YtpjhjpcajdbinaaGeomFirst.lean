/- parcloselaw04.first: a region's first word is where the call says. -/
import Derived.Test.YtpjhjpcajdbinaaGeomApartPlain
import Derived.Test.YtpjhjpcajdbinaaGeomAlive
namespace Go.Proofs.Ytpjhjpcajdbinaa
open Go.RowKit
set_option linter.unusedVariables false

set_option maxHeartbeats 4000000 in
theorem first_yes (P I B : Int) (h : MayG P I B) (k n o : Nat) (hk5 : k ≤ 5) (hk1 : 1 ≤ k) (at_ : Int) (hs : startOf P I k n = at_) (h3 : k = 3 → 1 ≤ n ∧ (n : Int) ≤ I) (h4 : k = 4 → (n : Int) < P) (h5 : k = 5 → 1 ≤ n ∧ (n : Int) ≤ B) (h2 : k ≤ 2 → n = 0) (hn : n ≤ 1000) (w : World) :
    Calls Try.prog 19 #[gv P I B, .agg #[.int .u8 k, .int .i64 n, .int .i64 o], .int .i64 at_] w fun e w' => e = .returned (.bool true) ∧ Below w.heap.size w w' := by
  have hI64 : I64 I := by obtain ⟨_, _, _, _, _, _⟩ := h; unfold I64; omega
  have hn64 : I64 (n : Int) := by unfold I64; omega
  have hbx : Below w.heap.size w ((w.alloc (.cells #[.int .i64 P, .int .i64 I, .int .i64 B] 23)).alloc (.cells #[.int .u8 k, .int .i64 n, .int .i64 o] 25)) := below_alloc ((Below.refl _ _).alloc (Nat.le_refl _) _) (Nat.le_refl _) _
  have HBx := Lib.hid hbx
  clear hbx
  unfold startOf at hs
  rcases (show k = 5 ∨ k = 4 ∨ k = 3 ∨ k = 2 ∨ k = 1 by omega) with rfl | rfl | rfl | rfl | rfl
  · have hB := fun W => Block_any P I B n hI64 hn64 W
    have e : blockOut P I B n = (at_, 0) := by
      have := h5 rfl
      unfold blockOut placeOut
      rw [if_pos h, most2_eq, if_neg (by omega), ← hs, if_pos (by decide)]
      refine Prod.ext ?_ rfl
      simp only
      omega
    rw [e] at hB
    have HB := Lib.hid hB
    dsimp only at HB
    unfold gv at HB ⊢
    have hq : (at_ == at_) = true := by simp
    clear hB e hs h3 h4 h5 h2 h
    go_enter Try.func19, Try.ntmps19
    go_wp2_with fail
    refine (HB.out _).mono ?_
    rintro e w1 ⟨rfl, hb⟩
    have hb1 := below_on HBx.out (Nat.le_refl _) hb
    clear hb
    go_wp2
    go_ret
    exact ⟨rfl, hb1⟩
  · have hB := fun W => Slot_any P I B n hI64 W
    have e : slotOut P I B n = (at_, 0) := by
      have := h4 rfl
      unfold slotOut placeOut
      rw [if_pos h, if_neg (by omega), ← hs, if_neg (by decide), if_pos (by decide)]
    rw [e] at hB
    have HB := Lib.hid hB
    dsimp only at HB
    unfold gv at HB ⊢
    have hq : (at_ == at_) = true := by simp
    clear hB e hs h3 h4 h5 h2 h
    go_enter Try.func19, Try.ntmps19
    go_wp2_with fail
    refine (HB.out _).mono ?_
    rintro e w1 ⟨rfl, hb⟩
    have hb1 := below_on HBx.out (Nat.le_refl _) hb
    clear hb
    go_wp2
    go_ret
    exact ⟨rfl, hb1⟩
  · have hB := fun W => Inode_any P I B n hn64 W
    have e : inodeOut P I B n = (at_, 0) := by
      have := h3 rfl
      unfold inodeOut placeOut
      rw [if_pos h, most2_eq, if_neg (by omega), ← hs, if_neg (by decide), if_neg (by decide), if_pos (by decide)]
      refine Prod.ext ?_ rfl
      simp only
      omega
    rw [e] at hB
    have HB := Lib.hid hB
    dsimp only at HB
    unfold gv at HB ⊢
    have hq : (at_ == at_) = true := by simp
    clear hB e hs h3 h4 h5 h2 h
    go_enter Try.func19, Try.ntmps19
    go_wp2_with fail
    refine (HB.out _).mono ?_
    rintro e w1 ⟨rfl, hb⟩
    have hb1 := below_on HBx.out (Nat.le_refl _) hb
    clear hb
    go_wp2
    go_ret
    exact ⟨rfl, hb1⟩
  · obtain rfl := h2 (by omega)
    rw [if_neg (by decide), if_neg (by decide), if_neg (by decide)] at hs
    obtain rfl : at_ = 8 := by omega
    unfold gv
    clear hs h3 h4 h5 h2 h
    go_enter Try.func19, Try.ntmps19
    go_wp2
    go_ret
    exact ⟨rfl, HBx.out⟩
  · obtain rfl := h2 (by omega)
    rw [if_neg (by decide), if_neg (by decide), if_neg (by decide)] at hs
    obtain rfl : at_ = 0 := by omega
    unfold gv
    clear hs h3 h4 h5 h2 h
    go_enter Try.func19, Try.ntmps19
    go_wp2
    go_ret
    exact ⟨rfl, HBx.out⟩
end Go.Proofs.Ytpjhjpcajdbinaa
