/- inode.of; inode.record. inode.record. -/
import Derived.Test.YtnpmepklgakaiaaDoorInodeFa
import Derived.Test.YtnpmepklgakaiaaDoorInodeFb
import Derived.Test.YtnpmepklgakaiaaDoorInodeFc
namespace Go.Proofs.YtnpmepklgakaiaaDoor
section
open Go.RowKit
set_option linter.unusedVariables false

theorem of_any (x : Ino) (hx : OkI x) (W : World) :
    Calls Tryd.prog 16 #[iv x] W fun e W' => e = .returned (.tuple #[tv (ofI x).1, .bool (ofI x).2]) ∧ Below W.heap.size W W' := by
  obtain ⟨k, ln, gn, sz, ar, mp, h0, h1, h2, h3, pa, mt, ct⟩ := x
  by_cases hk : k = 2
  · cases hm : (mp == 0) with
    | false => exact of_a k ln gn sz ar mp h0 h1 h2 h3 pa mt ct hx hk hm W
    | true => exact of_b k ln gn sz ar mp h0 h1 h2 h3 pa mt ct hx hk hm W
  · exact of_c k ln gn sz ar mp h0 h1 h2 h3 pa mt ct hx hk _ (Lib.hid rfl) W
end
section
open Go.RowKit
set_option linter.unusedVariables false

/-- the record that seven words say -/
def recOf (t : List Nat) : Ino :=
  let d : Bool := decide (t.getD 0 0 % 256 = 2)
  { k := t.getD 0 0 % 256, ln := ((t.getD 0 0 / 256 % 256 : Nat) : Int), gn := t.getD 0 0 / 4294967296, sz := (t.getD 1 0 : Nat), ar := (t.getD 2 0 : Nat),
    mp := if d then 0 else (t.getD 3 0 : Nat), h0 := if d then ((t.getD 3 0 % 256 : Nat) : Int) else 0, h1 := if d then ((t.getD 3 0 / 256 % 256 : Nat) : Int) else 0,
    h2 := if d then ((t.getD 3 0 / 65536 % 256 : Nat) : Int) else 0, h3 := if d then ((t.getD 3 0 / 16777216 % 256 : Nat) : Int) else 0, pa := (t.getD 4 0 : Nat), mt := (t.getD 5 0 : Nat), ct := (t.getD 6 0 : Nat) }
theorem and255 (x : Nat) (hx : x < 18446744073709551616) : bits BinOp.and IntKind.u64 (x : Int) 255 = ((x % 256 : Nat) : Int) := by
  have h := u64_and_nat x 255 hx (by decide)
  rw [show x &&& 255 = x % 256 from Nat.and_two_pow_sub_one_eq_mod x 8] at h
  exact h
def OkT (a1 a2 a3 a4 a5 a6 : Nat) : Prop := a1 < 9223372036854775808 ∧ a2 < 9223372036854775808 ∧ a3 < 9223372036854775808 ∧ a4 < 9223372036854775808 ∧ a5 < 9223372036854775808 ∧ a6 < 9223372036854775808

set_option maxRecDepth 100000 in
set_option maxHeartbeats 8000000 in
theorem record_no (a0 a1 a2 a3 a4 a5 a6 : Nat) (h0 : a0 < 18446744073709551616) (ht : OkT a1 a2 a3 a4 a5 a6) (hk : ¬ a0 % 256 = 2) (W : World) :
    Calls Tryd.prog 26 #[tv [a0, a1, a2, a3, a4, a5, a6]] W fun e W' => e = .returned (iv (recOf [a0, a1, a2, a3, a4, a5, a6])) ∧ Below W.heap.size W W' := by
  obtain ⟨h1, h2, h3, h4, h5, h6⟩ := ht
  have q2 : ((a0 : Int) % 256 != 2) = true := by simp; omega
  have hr : recOf [a0, a1, a2, a3, a4, a5, a6] = ⟨a0 % 256, ((a0 / 256 % 256 : Nat) : Int), a0 / 4294967296, (a1 : Nat), (a2 : Nat), (a3 : Nat), 0, 0, 0, 0, (a4 : Nat), (a5 : Nat), (a6 : Nat)⟩ := by
    unfold recOf
    simp [hk]
  have HR := Lib.hid hr
  clear hr
  have hb : bits BinOp.and IntKind.u64 ((a0 : Int) / 256) 255 = ((a0 / 256 % 256 : Nat) : Int) := and255 (a0 / 256) (by omega)
  have hlt : a0 / 256 % 256 < 256 := Nat.mod_lt _ (by decide)
  generalize a0 / 256 % 256 = lk at *
  unfold tv
  simp only [u64s, List.map_cons, List.map_nil]
  go_enter Tryd.func26, Tryd.ntmps26
  go_wp2
  refine bodyPost_ret (v := .agg #[.int .u8 ((a0 : Int) % 256), .int .i64 (lk : Nat), .int .u32 ((a0 : Int) / 4294967296), .int .i64 (a1 : Nat), .int .i64 (a2 : Nat), .int .i64 (a3 : Nat), .int .i64 0, .int .i64 0, .int .i64 0, .int .i64 0, .int .i64 (a4 : Nat), .int .i64 (a5 : Nat), .int .i64 (a6 : Nat)]) (by unfold results; go_simp) rfl ⟨?_, ?_⟩
  · rw [HR.out]; rfl
  · exact (((Below.refl _ _).alloc (Nat.le_refl _) _).alloc (by simp) _).alloc (by simp; omega) _
set_option maxRecDepth 100000 in
set_option maxHeartbeats 8000000 in
theorem record_yes (a0 a1 a2 a3 a4 a5 a6 : Nat) (h0 : a0 < 18446744073709551616) (ht : OkT a1 a2 a3 a4 a5 a6) (hk : a0 % 256 = 2) (W : World) :
    Calls Tryd.prog 26 #[tv [a0, a1, a2, a3, a4, a5, a6]] W fun e W' => e = .returned (iv (recOf [a0, a1, a2, a3, a4, a5, a6])) ∧ Below W.heap.size W W' := by
  obtain ⟨h1, h2, h3, h4, h5, h6⟩ := ht
  have hr : recOf [a0, a1, a2, a3, a4, a5, a6] = ⟨a0 % 256, ((a0 / 256 % 256 : Nat) : Int), a0 / 4294967296, (a1 : Nat), (a2 : Nat), 0, ((a3 % 256 : Nat) : Int), ((a3 / 256 % 256 : Nat) : Int), ((a3 / 65536 % 256 : Nat) : Int), ((a3 / 16777216 % 256 : Nat) : Int), (a4 : Nat), (a5 : Nat), (a6 : Nat)⟩ := by
    unfold recOf
    simp [hk]
  have HR := Lib.hid hr
  clear hr
  have q2 : ((a0 : Int) % 256 != 2) = false := by simp; omega
  have hb : bits BinOp.and IntKind.u64 ((a0 : Int) / 256) 255 = ((a0 / 256 % 256 : Nat) : Int) := and255 (a0 / 256) (by omega)
  have hb0 : bits BinOp.and IntKind.u64 (a3 : Int) 255 = ((a3 % 256 : Nat) : Int) := and255 a3 (by omega)
  have hb1 : bits BinOp.and IntKind.u64 ((a3 : Int) / 256) 255 = ((a3 / 256 % 256 : Nat) : Int) := and255 (a3 / 256) (by omega)
  have hb2 : bits BinOp.and IntKind.u64 ((a3 : Int) / 65536) 255 = ((a3 / 65536 % 256 : Nat) : Int) := and255 (a3 / 65536) (by omega)
  have hb3 : bits BinOp.and IntKind.u64 ((a3 : Int) / 16777216) 255 = ((a3 / 16777216 % 256 : Nat) : Int) := and255 (a3 / 16777216) (by omega)
  have hlt : a0 / 256 % 256 < 256 := Nat.mod_lt _ (by decide)
  have hl0 : a3 % 256 < 256 := Nat.mod_lt _ (by decide)
  have hl1 : a3 / 256 % 256 < 256 := Nat.mod_lt _ (by decide)
  have hl2 : a3 / 65536 % 256 < 256 := Nat.mod_lt _ (by decide)
  have hl3 : a3 / 16777216 % 256 < 256 := Nat.mod_lt _ (by decide)
  generalize a0 / 256 % 256 = lk at *
  generalize a3 % 256 = k0 at *
  generalize a3 / 256 % 256 = k1 at *
  generalize a3 / 65536 % 256 = k2 at *
  generalize a3 / 16777216 % 256 = k3 at *
  have HK := Lib.hid hk
  clear hk
  unfold tv
  simp only [u64s, List.map_cons, List.map_nil]
  go_enter Tryd.func26, Tryd.ntmps26
  go_wp2
  refine wp_loop_rounds 5 ?_
  rw [rounds_succ]
  go_wp2
  rw [rounds_succ]
  go_wp2
  rw [rounds_succ]
  go_wp2
  rw [rounds_succ]
  go_wp2
  rw [rounds_succ]
  go_wp2
  refine bodyPost_ret (v := .agg #[.int .u8 ((a0 : Int) % 256), .int .i64 (lk : Nat), .int .u32 ((a0 : Int) / 4294967296), .int .i64 (a1 : Nat), .int .i64 (a2 : Nat), .int .i64 0, .int .i64 (k0 : Nat), .int .i64 (k1 : Nat), .int .i64 (k2 : Nat), .int .i64 (k3 : Nat), .int .i64 (a4 : Nat), .int .i64 (a5 : Nat), .int .i64 (a6 : Nat)]) (by unfold results; go_simp) rfl ⟨?_, ?_⟩
  · rw [HR.out]; rfl
  · exact (((Below.refl _ _).alloc (Nat.le_refl _) _).alloc (by simp) _).alloc (by simp; omega) _
theorem record_any (t : List Nat) (hl : t.length = 7) (h0 : t.getD 0 0 < 18446744073709551616) (ht : ∀ q, q < 7 → 1 ≤ q → t.getD q 0 < 9223372036854775808) (W : World) :
    Calls Tryd.prog 26 #[tv t] W fun e W' => e = .returned (iv (recOf t)) ∧ Below W.heap.size W W' := by
  match t, hl with
  | [a0, a1, a2, a3, a4, a5, a6], _ =>
    have hT : OkT a1 a2 a3 a4 a5 a6 := ⟨ht 1 (by decide) (by decide), ht 2 (by decide) (by decide), ht 3 (by decide) (by decide), ht 4 (by decide) (by decide), ht 5 (by decide) (by decide), ht 6 (by decide) (by decide)⟩
    by_cases hk : a0 % 256 = 2
    · exact record_yes a0 a1 a2 a3 a4 a5 a6 h0 hT hk W
    · exact record_no a0 a1 a2 a3 a4 a5 a6 h0 hT hk W
end
end Go.Proofs.YtnpmepklgakaiaaDoor
