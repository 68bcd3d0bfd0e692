/- inode.within, first, heads. -/
import Derived.Test.YtnpmepklgakaiaaDoorInodePlain
import Derived.Test.YtnpmepklgakaiaaDoorWordPut
import Derived.Test.YtnpmepklgakaiaaDoorTypes
namespace Go.Proofs.YtnpmepklgakaiaaDoor
open Go.RowKit
set_option linter.unusedVariables false

theorem within_any (w : Nat) (hw : w < 18446744073709551616) (a b : Int) (W : World) :
    Calls Tryd.prog 43 #[.int .u64 (w : Nat), .int .i64 a, .int .i64 b] W fun e W' => e = .returned (.bool (wIn w a b)) ∧ W = W' := by
  unfold wIn
  by_cases h1 : w ≤ 4611686018427387904
  case neg =>
    have hd : decide ((w : Int) ≤ 4611686018427387904) = false := by simp; omega
    rw [decide_eq_false h1]
    clear h1
    go_enter Tryd.func43, Tryd.ntmps43
    go_wp2
    go_ret
    exact ⟨rfl, rfl⟩
  have hd : decide ((w : Int) ≤ 4611686018427387904) = true := by simp; omega
  have hwk : IntKind.i64.wrap (w : Int) = (w : Int) := by rw [IntKind.wrap_i64]; omega
  rw [decide_eq_true h1]
  clear h1
  by_cases h2 : a ≤ (w : Int)
  case neg =>
    have hd2 : decide (a ≤ (w : Int)) = false := decide_eq_false h2
    rw [hd2]
    clear h2
    go_enter Tryd.func43, Tryd.ntmps43
    go_wp2
    go_ret
    exact ⟨rfl, rfl⟩
  have hd2 : decide (a ≤ (w : Int)) = true := decide_eq_true h2
  rw [hd2]
  go_enter Tryd.func43, Tryd.ntmps43
  go_wp2
  go_ret
  exact ⟨by simp, rfl⟩
theorem first_links (w : Nat) (hw : w < 18446744073709551616) : IntKind.u64.wrap ((w : Int) * 4294967296) / 1099511627776 = ((w % 4294967296 / 256 : Nat) : Int) := by
  rw [IntKind.wrap_u64]
  omega
/-- the seven words, as an array's value -/
def tv (t : List Nat) : Value := .agg (u64s t).toArray
set_option maxHeartbeats 4000000 in
theorem first_any (t : List Nat) (ht : t.length = 7) (k : Nat) (hk : k < 256) (w0 : Nat) (h0 : t.getD 0 0 = w0) (hw : w0 < 18446744073709551616) (W : World) :
    Calls Tryd.prog 42 #[tv t, .int .u8 (k : Nat)] W fun e W' => e = .returned (.bool (firstOK w0 k)) ∧ Below W.heap.size W W' := by
  match t, ht with
  | [a0, a1, a2, a3, a4, a5, a6], _ =>
    obtain rfl : a0 = w0 := h0
    have hl := first_links a0 hw
    unfold firstOK tv
    generalize a0 % 4294967296 / 256 = lk at *
    simp only [u64s, List.map_cons, List.map_nil]
    have hb := (Below.refl W.heap.size W).alloc (Nat.le_refl _) (.cells #[.int .u64 (a0 : Nat), .int .u64 (a1 : Nat), .int .u64 (a2 : Nat), .int .u64 (a3 : Nat), .int .u64 (a4 : Nat), .int .u64 (a5 : Nat), .int .u64 (a6 : Nat)] 48)
    have HB := Lib.hid hb
    clear hb
    by_cases k0 : k = 0
    · have q0 : ((k : Int) == 0) = true := by simp; omega
      rw [if_pos k0]
      clear k0
      go_enter Tryd.func42, Tryd.ntmps42
      go_wp2
      go_ret
      exact ⟨ret_bool (by rw [Bool.eq_iff_iff]; simp), HB.out⟩
    have q0 : ((k : Int) == 0) = false := beq_false_of_ne (by omega)
    rw [if_neg k0]
    by_cases k2 : k = 2
    · have q2 : ((k : Int) == 2) = true := by simp; omega
      rw [if_pos k2]
      clear k0 k2
      go_enter Tryd.func42, Tryd.ntmps42
      go_wp2
      go_ret
      exact ⟨ret_bool (by rw [Bool.eq_iff_iff]; simp; omega), HB.out⟩
    have q2 : ((k : Int) == 2) = false := beq_false_of_ne (by omega)
    rw [if_neg k2]
    by_cases k1 : k = 1
    · have q1 : ((k : Int) == 1) = true := by simp; omega
      rw [if_pos (.inl k1)]
      clear k0 k2 k1
      go_enter Tryd.func42, Tryd.ntmps42
      go_wp2
      go_ret
      exact ⟨ret_bool (by rw [Bool.eq_iff_iff]; simp; omega), HB.out⟩
    have q1 : ((k : Int) == 1) = false := beq_false_of_ne (by omega)
    by_cases k3 : k = 3
    · have q3 : ((k : Int) == 3) = true := by simp; omega
      rw [if_pos (.inr k3)]
      clear k0 k2 k1 k3
      go_enter Tryd.func42, Tryd.ntmps42
      go_wp2
      go_ret
      exact ⟨ret_bool (by rw [Bool.eq_iff_iff]; simp; omega), HB.out⟩
    have q3 : ((k : Int) == 3) = false := beq_false_of_ne (by omega)
    rw [if_neg (by omega)]
    clear k0 k2 k1 k3
    go_enter Tryd.func42, Tryd.ntmps42
    go_wp2
    go_ret
    exact ⟨rfl, HB.out⟩
/-- a head of a directory -/
theorem head_get (w i : Nat) (hw : w < 18446744073709551616) (hi : i < 4) (W : World) :
    Calls Tryd.prog 54 #[.int .u64 (w : Nat), .int .i64 (8 * (i : Int)), .int .i64 8] W fun e w' => e = .returned (.tuple #[.int .u64 (getW w (8 * i) 8 : Nat), .int .i64 0]) ∧ W = w' := by
  have h := Get_yes w (8 * (i : Int)) 8 hw (by unfold Fld; omega) W
  rw [show (8 * (i : Int)).toNat = 8 * i by omega, show (8 : Int).toNat = 8 from rfl] at h
  exact h
set_option maxHeartbeats 4000000 in
theorem heads_any (w B : Nat) (hw : w < 18446744073709551616) (hB : B < 65536) (W : World) :
    Calls Tryd.prog 44 #[.int .u64 (w : Nat), .int .i64 (B : Nat)] W fun e W' => e = .returned (.bool (headsOK w B)) ∧ W = W' := by
  have HGt := Lib.hid (fun i hi W => head_get w i hw hi W)
  have hwk : IntKind.u64.wrap (B : Int) = (B : Int) := by rw [IntKind.wrap_u64]; omega
  go_enter Tryd.func44, Tryd.ntmps44
  go_wp2
  go_loop [5, 6, 7, 8] (fun _ _ _ i => ∃ j : Nat, j ≤ 4 ∧ i = .int .i64 j ∧ ∀ k, k < j → getW w (8 * k) 8 ≤ B) (fun _ _ _ i => 4 - (intOf i).toNat)
  case atStart => exact ⟨0, by omega, rfl, fun k h => by omega⟩
  case round =>
    obtain ⟨j, hj, rfl, hk⟩ := hrel
    have HK := Lib.hid hk
    clear hk
    by_cases hlt : j < 4
    · have hlt' : (j : Int) < 4 := by omega
      have hg := HGt.out j hlt
      obtain ⟨g, hgd⟩ : ∃ g, g = getW w (8 * j) 8 := ⟨_, rfl⟩
      have HGj := Lib.hid (fun W => hg W)
      rw [← hgd] at HGj
      have Hgd := Lib.hid hgd
      clear hg hgd
      by_cases hbig : B < g
      · have hd : decide (B < g) = true := by simp; omega
        have hno : headsOK w B = false := by
          unfold headsOK
          rw [Bool.and_eq_false_iff]
          left
          rw [decide_eq_false_iff_not]
          rintro ⟨e0, e1, e2, e3⟩
          have := Hgd.out
          rcases (show j = 0 ∨ j = 1 ∨ j = 2 ∨ j = 3 by omega) with rfl | rfl | rfl | rfl
          · exact absurd e0 (by rw [show (0 : Nat) = 8 * 0 from rfl, ← this]; omega)
          · exact absurd e1 (by rw [show (8 : Nat) = 8 * 1 from rfl, ← this]; omega)
          · exact absurd e2 (by rw [show (16 : Nat) = 8 * 2 from rfl, ← this]; omega)
          · exact absurd e3 (by rw [show (24 : Nat) = 8 * 3 from rfl, ← this]; omega)
        have Hno := Lib.hid hno
        clear hbig hno
        go_wp2_with fail
        refine (HGj.out _).mono ?_
        rintro e w' ⟨rfl, rfl⟩
        go_wp2
        go_ret
        exact ⟨by rw [Hno.out]; rfl, rfl⟩
      · have hd : decide (B < g) = false := by simp; omega
        have Hy := Lib.hid (show ∀ k, k < j + 1 → getW w (8 * k) 8 ≤ B from fun k h => by
          rcases Nat.lt_or_ge k j with h3 | h3
          · exact HK.out k h3
          · obtain rfl : k = j := by omega
            rw [← Hgd.out]; omega)
        clear hbig
        go_wp2_with fail
        refine (HGj.out _).mono ?_
        rintro e w' ⟨rfl, rfl⟩
        go_wp2
        go_round
        case rel => exact ⟨j + 1, by omega, by go_num, Hy.out⟩
        case measure => simp [intOf]; omega
    · obtain rfl : j = 4 := by omega
      have hyes : headsOK w B = decide (w / 4294967296 = 0) := by
        unfold headsOK
        rw [decide_eq_true (show getW w 0 8 ≤ B ∧ getW w 8 8 ≤ B ∧ getW w 16 8 ≤ B ∧ getW w 24 8 ≤ B from ⟨HK.out 0 (by omega), HK.out 1 (by omega), HK.out 2 (by omega), HK.out 3 (by omega)⟩), Bool.true_and]
      have Hyes := Lib.hid hyes
      clear hyes
      go_wp2
      go_ret
      exact ⟨ret_bool (by rw [Hyes.out, Bool.eq_iff_iff]; simp; omega), rfl⟩
end Go.Proofs.YtnpmepklgakaiaaDoor
