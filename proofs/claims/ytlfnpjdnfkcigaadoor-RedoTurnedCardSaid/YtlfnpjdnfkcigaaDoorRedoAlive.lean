/- The law's alive: the answers that the document fixes are given. -/
import Derived.Test.YtlfnpjdnfkcigaaDoorRedoJ
import Derived.Test.YtlfnpjdnfkcigaaDoorRedoE
import Derived.Test.YtlfnpjdnfkcigaaDoorRedoPlain2
namespace Go.Proofs.YtlfnpjdnfkcigaaDoor
open Go.RowKit
set_option linter.unusedVariables false

theorem lay1 : mayE [⟨5, 7⟩] = 0 := by decide
theorem lay0 : mayE [] = 0 := by decide
theorem lay2 : mayE [⟨1048576, 0⟩] = 2 := by decide
theorem app2 : rapply [0, 0] [⟨1, 9⟩, ⟨1, 8⟩] = [0, 8] := by decide
theorem commit0 : rcommit [] = 20992 := by decide +kernel
theorem commit1 : rcommit [⟨5, 7⟩] % 65536 = 20993 := by
  unfold rcommit
  generalize wsum (rbody [⟨5, 7⟩]) = s
  show (1 + 20992 + s * 4294967296) % 65536 = 20993
  omega
theorem zeros_bad : SlotBad (List.replicate 135 0) := .inl (by simp)
theorem zeros_none : SlotNone (List.replicate 136 0) := ⟨by simp, by simp [List.getD, List.replicate]⟩
theorem zeros_wd (n : Nat) : ∀ x ∈ List.replicate n 0, x < 18446744073709551616 := by
  intro x hx
  rw [List.eq_of_mem_replicate hx]
  decide

set_option maxRecDepth 100000 in
set_option maxHeartbeats 8000000 in
theorem alive_any (w : World) (hg : Laid w) : Calls Tryd.prog 9 #[] w fun e w' => e = .returned (.bool true) ∧ Below w.heap.size w w' := by
  have HG := Lib.hid hg
  have hL1 : ∀ W v, Rd W v 1 (rcells [⟨5, 7⟩]) → Calls Tryd.prog 10 #[v] W fun e w' => ∃ A c k, e = .returned (.tuple #[.slice A 2 c, .int .u64 (k : Nat), .int .i64 0]) ∧ k < 18446744073709551616 ∧ k % 65536 = 20993 ∧ Rd w' (.slice A 2 c) 2 (u64s [5, 7]) ∧ Below W.heap.size W w' := fun W v h => by
    refine (Lay_any v [⟨5, 7⟩] W h (by intro r hr; rw [List.mem_singleton.1 hr]; unfold OkR I64r; decide)).mono ?_
    rintro e w' (⟨_, A, c, h1, h2, h3⟩ | ⟨h, _⟩)
    · exact ⟨A, c, rcommit [⟨5, 7⟩], h1, rcommit_lt (by decide), commit1, Rd.of_own h2, h3⟩
    · exact absurd lay1 h
  have hL0 : ∀ W, Calls Tryd.prog 10 #[.slice none 0 0] W fun e w' => ∃ A c, e = .returned (.tuple #[.slice A 0 c, .int .u64 20992, .int .i64 0]) ∧ Below W.heap.size W w' := fun W => by
    refine (Lay_any _ [] W (Rd.nil _) (by simp)).mono ?_
    rintro e w' (⟨_, A, c, h1, h2, h3⟩ | ⟨h, _⟩)
    · rw [commit0] at h1
      exact ⟨A, c, h1, h3⟩
    · exact absurd lay0 h
  have hL2 : ∀ W v, Rd W v 1 (rcells [⟨1048576, 0⟩]) → Calls Tryd.prog 10 #[v] W fun e w' => e = .returned (.tuple #[.slice none 0 0, .int .u64 0, .int .i64 2]) ∧ Below W.heap.size W w' := fun W v h => by
    refine (Lay_any v [⟨1048576, 0⟩] W h (by intro r hr; rw [List.mem_singleton.1 hr]; unfold OkR I64r; decide)).mono ?_
    rintro e w' (⟨h, _⟩ | ⟨_, h1, h3⟩)
    · exact absurd h (by decide)
    · exact ⟨h1, h3⟩
  have hR0 : ∀ W v, Rd W v 136 (u64s (List.replicate 136 0)) → Calls Tryd.prog 19 #[v] W fun e w' => e = .returned (.tuple #[.slice none 0 0, .bool false, .nilIface]) ∧ Below W.heap.size W w' := fun W v h => by
    refine (Read_three v _ W (zeros_wd 136) (by simpa using h)).mono ?_
    rintro e w' (⟨hk, _⟩ | ⟨_, h1, h2⟩ | ⟨hk, _⟩)
    · exact (not_bad_none hk zeros_none).elim
    · exact ⟨h1, h2⟩
    · exact (not_none_list zeros_none hk).elim
  have hR1 : ∀ W v, Rd W v 135 (u64s (List.replicate 135 0)) → Calls Tryd.prog 19 #[v] W fun e w' => e = .returned (.tuple #[.slice none 0 0, .bool false, .iface 52 (.agg #[.int .i64 0, .int .i64 7])]) ∧ Below W.heap.size W w' := fun W v h => by
    refine (Read_three v _ W (zeros_wd 135) (by simpa using h)).mono ?_
    rintro e w' (⟨_, h1, h2⟩ | ⟨hk, _⟩ | ⟨hk, _⟩)
    · exact ⟨h1, h2⟩
    · exact (not_bad_none zeros_bad hk).elim
    · exact (not_bad_list zeros_bad hk).elim
  have hAp : ∀ W u v, Rd W u 2 (u64s [0, 0]) → Rd W v 2 (rcells [⟨1, 9⟩, ⟨1, 8⟩]) → Calls Tryd.prog 17 #[u, v] W fun e w' => ∃ A c, e = .returned (.tuple #[.slice A 2 c, .int .i64 0]) ∧ Rd w' (.slice A 2 c) 2 (u64s [0, 8]) ∧ Below W.heap.size W w' := fun W u v hu hv => by
    refine (Apply_any u v [0, 0] [⟨1, 9⟩, ⟨1, 8⟩] W hu (by decide) hv).mono ?_
    rintro e w' (⟨_, A, c, h1, h2, h3⟩ | ⟨h, _⟩)
    · rw [app2] at h2
      exact ⟨A, c, h1, Rd.of_own h2, h3⟩
    · exact absurd (by decide) h
  have HL1 := Lib.hid hL1
  have HL0 := Lib.hid hL0
  have HL2 := Lib.hid hL2
  have HR0 := Lib.hid hR0
  have HR1 := Lib.hid hR1
  have HAp := Lib.hid hAp
  clear hL1 hL0 hL2 hR0 hR1 hAp hg
  obtain ⟨i0, hi, hz0, hz1, hz2⟩ := info_parts info64
  have HN1 := Lib.hid (newAtR w w.heap.size rfl (rcells [⟨5, 7⟩]) 45 (by decide) 1 (by omega))
  have HB0 := Lib.hid ((Below.refl _ w).alloc (Nat.le_refl _) (.cells #[.int .i64 5, .int .u64 7] 45))
  go_enter Tryd.func9, Tryd.ntmps9
  go_wp2_with fail
  refine (HL1.out _ _ HN1.out).mono ?_
  rintro e w1 ⟨A1, c1, k1, rfl, hk, hk1, hr1, hb1⟩
  have HR2 := Lib.hid hr1
  have HB1 := Lib.hid (below_then HB0.out hb1)
  have HK := Lib.hid hk
  have HK1 := Lib.hid hk1
  clear hr1 hb1 hk hk1
  go_wp2_with fail
  refine (HL0.out _).mono ?_
  rintro e w2 ⟨A2, c2, rfl, hb2⟩
  have HB2 := Lib.hid (below_then HB1.out hb2)
  have HRb := Lib.hid (HR2.out.below hb2)
  have HN2 := Lib.hid (newAtR w2 w2.heap.size rfl (rcells [⟨1048576, 0⟩]) 45 (by decide) 1 (by omega))
  have HB2' := Lib.hid ((Below.refl _ w2).alloc (Nat.le_refl _) (.cells #[.int .i64 1048576, .int .u64 0] 45))
  clear hb2
  go_wp2_with fail
  refine (HL2.out _ _ HN2.out).mono ?_
  rintro e w3 ⟨rfl, hb3⟩
  have HB3 := Lib.hid (below_then HB2'.out hb3)
  clear hb3
  go_wp2_with (at_make; refine wpList_make_full _ rfl (.const (.int .i64 136)) (.const (.int .i64 136)) 25 rfl w3.heap.size 26 i0 _ 1 Tryd.underlying25 hi hz0 hz1 .i64 .i64 136 136 136 rfl rfl rfl rfl (by rw [hz2]; omega) (by unfold maxLen; omega) (Nat.le_refl _) ?_; intro w4 hown4 hg4; rw [made64] at hown4; have hb4 : Below w3.heap.size w3 w4 := (Below.refl _ _).grown hg4 (Nat.le_refl _) (by intro k h; cases h); have HR4 := Lib.hid (Rd.of_own hown4); have HB4 := Lib.hid (below_then HB3.out hb4); clear hown4 hg4 hb4)
  refine (HR0.out _ _ HR4.out).mono ?_
  rintro e w5 ⟨rfl, hb5⟩
  have HB5 := Lib.hid (below_then HB4.out hb5)
  clear hb5
  go_wp2_with (at_make; refine wpList_make_full _ rfl (.const (.int .i64 135)) (.const (.int .i64 135)) 25 rfl w5.heap.size 26 i0 _ 1 Tryd.underlying25 hi hz0 hz1 .i64 .i64 135 135 135 rfl rfl rfl rfl (by rw [hz2]; omega) (by unfold maxLen; omega) (Nat.le_refl _) ?_; intro w6 hown6 hg6; rw [made64] at hown6; have hb6 : Below w5.heap.size w5 w6 := (Below.refl _ _).grown hg6 (Nat.le_refl _) (by intro k h; cases h); have HR6 := Lib.hid (Rd.of_own hown6); have HB6 := Lib.hid (below_then HB5.out hb6); clear hown6 hg6 hb6)
  refine (HR1.out _ _ HR6.out).mono ?_
  rintro e w7 ⟨rfl, hb7⟩
  have HB7 := Lib.hid (below_then HB6.out hb7)
  clear hb7
  have HN7 := Lib.hid ((Rd.new w7 (u64s [0, 0]) 26 (by decide) 2 (by omega)).alloc (.cells #[.int .i64 1, .int .u64 9, .int .i64 1, .int .u64 8] 45))
  have HM7 := Lib.hid (newAtR (w7.alloc (.cells #[.int .u64 0, .int .u64 0] 26)) (w7.heap.size + 1) (by simp) (rcells [⟨1, 9⟩, ⟨1, 8⟩]) 45 (by decide) 2 (by omega))
  have HB7' := Lib.hid (((Below.refl _ w7).alloc (Nat.le_refl _) (.cells #[.int .u64 0, .int .u64 0] 26)).alloc (by simp) (.cells #[.int .i64 1, .int .u64 9, .int .i64 1, .int .u64 8] 45))
  go_wp2_with fail
  refine (HAp.out _ _ _ HN7.out HM7.out).mono ?_
  rintro e w8 ⟨A8, c8, rfl, hr8, hb8⟩
  have HR8 := Lib.hid hr8
  have HB8 := Lib.hid (below_then (below_then HB7.out HB7'.out) hb8)
  clear hr8 hb8
  have hand : bits BinOp.and IntKind.u64 (k1 : Int) 65535 = 20993 := by
    have h := u64_and_nat k1 65535 HK.out (by decide)
    have h5 : k1 &&& 65535 = k1 % 65536 := Nat.and_two_pow_sub_one_eq_mod k1 16
    rw [h5, HK1.out] at h
    exact h
  go_wp2_with fail
  refine (sameW_yes _ _ [5, 7] 2 rfl _ ((HRb.out.below HB8.out).alloc _) (Rd.new w8 (u64s [5, 7]) 26 (by decide) 2 (by omega))).mono ?_
  rintro e w9 ⟨rfl, hb9⟩
  have HB9 := Lib.hid (below_then (below_then HB8.out ((Below.refl _ w8).alloc (Nat.le_refl _) (.cells #[.int .u64 5, .int .u64 7] 26))) hb9)
  have HR9 := Lib.hid ((HR8.out.alloc (.cells #[.int .u64 5, .int .u64 7] 26)).below hb9)
  clear hb9
  go_wp2_with fail
  refine (told_form _ (HG.out.below (below_then HB2.out HB9.out))).mono ?_
  rintro e w10 ⟨rfl, hb10⟩
  have HB10 := Lib.hid (below_then HB9.out hb10)
  have HR10 := Lib.hid (HR9.out.below hb10)
  clear hb10
  go_wp2_with fail
  refine (sameW_yes _ _ [0, 8] 2 rfl _ (HR10.out.alloc _) (Rd.new w10 (u64s [0, 8]) 26 (by decide) 2 (by omega))).mono ?_
  rintro e w11 ⟨rfl, hb11⟩
  have HB11 := Lib.hid (below_then (below_then HB2.out HB10.out) (below_then ((Below.refl _ w10).alloc (Nat.le_refl _) (.cells #[.int .u64 0, .int .u64 8] 26)) hb11))
  clear hb11
  go_wp2
  go_ret
  exact ⟨rfl, HB11.out⟩
end Go.Proofs.YtlfnpjdnfkcigaaDoor
