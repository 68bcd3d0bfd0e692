/- math/bits.OnesCount64: how many bits are 1. -/
import Derived.Test.YtlencbjaggaabaaDoorRefLow
import Derived.Test.YtlencbjaggaabaaDoorPop
import Derived.Laws.Bits128
namespace Go.Proofs.YtlencbjaggaabaaDoor
open Go.RowKit
set_option linter.unusedVariables false

theorem shr_nat (x q : Nat) : (x : Int) / (q : Int) = ((x / q : Nat) : Int) := rfl

set_option maxHeartbeats 2000000 in
theorem OnesCount64_any (x : Nat) (hx : x < 18446744073709551616) (w : World) :
    Calls Tryd.prog 29 #[.int .u64 x] w fun e w' => e = .returned (.int .i64 (ones x 64 : Nat)) ∧ w = w' := by
  obtain ⟨y, z, c0, c1, c2, c3, c4, c5, c6, c7, h1, hy, h2, hz, h3, hc, ho⟩ := pop_steps x hx
  obtain ⟨v, hv⟩ : ∃ v, v = c0 + 256 * c1 + 65536 * c2 + 16777216 * c3 + 4294967296 * c4 + 1099511627776 * c5 + 281474976710656 * c6 + 72057594037927936 * c7 := ⟨_, rfl⟩
  rw [← hv] at h3
  obtain ⟨t1, h4⟩ : ∃ t, t = v + v / 256 := ⟨_, rfl⟩
  obtain ⟨t2, h5⟩ : ∃ t, t = t1 + t1 / 65536 := ⟨_, rfl⟩
  obtain ⟨t3, h6⟩ : ∃ t, t = t2 + t2 / 4294967296 := ⟨_, rfl⟩
  obtain ⟨hs, lv, l1, l2, l3⟩ := pop_sum c0 c1 c2 c3 c4 c5 c6 c7 v t1 t2 t3 hc hv h4 h5 h6
  rw [ho, ← hs]
  clear hv hc
  have a1 : bits BinOp.and IntKind.u64 ((x : Int) / 2) 6148914691236517205 = ((x / 2 &&& 6148914691236517205 : Nat) : Int) := u64_and_nat (x / 2) 6148914691236517205 (by omega) (by decide)
  have a2 : bits BinOp.and IntKind.u64 (x : Int) 6148914691236517205 = ((x &&& 6148914691236517205 : Nat) : Int) := u64_and_nat x 6148914691236517205 hx (by decide)
  have a3 : bits BinOp.and IntKind.u64 ((y : Int) / 4) 3689348814741910323 = ((y / 4 &&& 3689348814741910323 : Nat) : Int) := u64_and_nat (y / 4) 3689348814741910323 (by omega) (by decide)
  have a4 : bits BinOp.and IntKind.u64 (y : Int) 3689348814741910323 = ((y &&& 3689348814741910323 : Nat) : Int) := u64_and_nat y 3689348814741910323 hy (by decide)
  have a5 : bits BinOp.and IntKind.u64 ((z : Int) / 16 + (z : Int)) 1085102592571150095 = ((z / 16 + z &&& 1085102592571150095 : Nat) : Int) := u64_and_nat (z / 16 + z) 1085102592571150095 (by omega) (by decide)
  generalize (x / 2 &&& 6148914691236517205) = p1 at *
  generalize (x &&& 6148914691236517205) = p2 at *
  generalize (y / 4 &&& 3689348814741910323) = p3 at *
  generalize (y &&& 3689348814741910323) = p4 at *
  generalize (z / 16 + z &&& 1085102592571150095) = p5 at *
  subst h3
  have b1 : (p1 : Int) + (p2 : Int) = (y : Int) := by omega
  have b2 : (p3 : Int) + (p4 : Int) = (z : Int) := by omega
  have b4 : (p5 : Int) + (p5 : Int) / 256 = (t1 : Int) := by omega
  have b5 : (t1 : Int) + (t1 : Int) / 65536 = (t2 : Int) := by omega
  have b6 : (t2 : Int) + (t2 : Int) / 4294967296 = (t3 : Int) := by omega
  have W1 : IntKind.u64.wrap ((p1 : Int) + (p2 : Int)) = (y : Int) := by rw [b1, IntKind.wrap_u64]; omega
  have W2 : IntKind.u64.wrap ((p3 : Int) + (p4 : Int)) = (z : Int) := by rw [b2, IntKind.wrap_u64]; omega
  have W3 : IntKind.u64.wrap ((z : Int) / 16 + (z : Int)) = (z : Int) / 16 + (z : Int) := by rw [IntKind.wrap_u64]; omega
  have W4 : IntKind.u64.wrap ((p5 : Int) + (p5 : Int) / 256) = (t1 : Int) := by rw [b4, IntKind.wrap_u64]; omega
  have W5 : IntKind.u64.wrap ((t1 : Int) + (t1 : Int) / 65536) = (t2 : Int) := by rw [b5, IntKind.wrap_u64]; omega
  have W6 : IntKind.u64.wrap ((t2 : Int) + (t2 : Int) / 4294967296) = (t3 : Int) := by rw [b6, IntKind.wrap_u64]; omega
  have hA : bits BinOp.and IntKind.i64 (t3 : Int) 127 = (t3 : Int) % 128 := i64_and127 _
  clear h1 h2 h4 h5 h6 b1 b2 b4 b5 b6
  clear ho hs
  go_enter Tryd.func29, Tryd.ntmps29
  go_wp2
  go_ret
  exact ⟨ret_int (by omega), rfl⟩
end Go.Proofs.YtlencbjaggaabaaDoor
