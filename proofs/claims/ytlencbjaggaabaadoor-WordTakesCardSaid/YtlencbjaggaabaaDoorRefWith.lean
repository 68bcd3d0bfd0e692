/- parcloseref01.With: a row with a bit turned. -/
import Derived.Test.YtlencbjaggaabaaDoorRefHas
import Derived.Test.YtlencbjaggaabaaDoorCopy
import Derived.Deep.AppendLies
namespace Go.Proofs.YtlencbjaggaabaaDoor
open Go.RowKit
set_option linter.unusedVariables false

def num01 (b : Bool) : Nat := if b then 1 else 0
theorem num01_bit (b : Bool) : (num01 b).testBit 0 = b := by cases b <;> rfl
theorem num01_lt (b : Bool) : num01 b < 2 ^ (1 : Int).toNat := by cases b <;> decide
/-- a row of the call's own, and that all is well -/
def HandsOK (w : World) (e : TypeId) (size n : Nat) (xs : List Value) (r : Ending) (w' : World) : Prop :=
  ∃ A c, r = .returned (.tuple #[.slice A n c, .int .i64 0]) ∧ w'.ownsRow w.heap.size e size (.slice A n c) n xs ∧ Below w.heap.size w w'
theorem u64s_setAt (l : List Nat) (k x : Nat) : (u64s l).set k (.int .u64 (x : Nat)) = u64s (l.set k x) := by simp [u64s, List.map_set]

set_option maxHeartbeats 2000000 in
theorem refWith_yes (v : Value) (l : List Nat) (i : Int) (on : Bool) (w : World) (h : Rd w v l.length (u64s l)) (hw : ∀ x ∈ l, x < 2 ^ 64) (hi : Idx l i) (hl : l.length ≤ 65536) :
    Calls Tryd.prog 23 #[v, .int .i64 i, .bool on] w (HandsOK w 22 1 l.length (u64s (setBit l i.toNat (num01 on)))) := by
  have hR := h
  obtain ⟨A, c, rfl, h1, h2, h3⟩ := h
  obtain ⟨k, rfl⟩ := Int.eq_ofNat_of_zero_le hi.1
  rw [Int.toNat_natCast]
  have hk : k < 64 * l.length := by have := hi.2; omega
  have hq : k / 64 < l.length := by omega
  obtain ⟨b, o, rfl, hc⟩ := hR.at_ (u64s_at hq)
  have hx : l[k / 64] < 18446744073709551616 := hw _ (List.getElem_mem hq)
  have hxd : l.getD (k / 64) 0 = l[k / 64] := by simp [List.getD, hq]
  have HX := Lib.hid hxd
  have HH := Lib.hid (fun W (hW : Rd W (.slice (some ⟨b, o, none⟩) l.length c) l.length (u64s l)) => refhas_yes _ l k W hW hi hl)
  have HR := Lib.hid hR
  generalize l[k / 64] = x at *
  have hq' : (k : Int) / 64 < (l.length : Int) := by omega
  have HC := Lib.hid hc
  clear h3 hR hw hi hxd hc
  have hput := fun W => refPut_yes x (num01 on) ((k : Int) % 64) 1 (by unfold Fld; omega) hx (num01_lt on) W
  have HP := Lib.hid hput
  clear hput
  cases on
  all_goals
    go_enter Tryd.func23, Tryd.ntmps23
    go_wp2_with fail
    refine (HH.out _ HR.out).mono ?_
    rintro e w' ⟨rfl, rfl⟩
    go_wp2_with (at_builtin; refine copy64 rfl (.const (.slice none 0 0)) (.tmp 17) rfl rfl _ l _ rfl rfl HR.out (by omega) ?_; intro A1 c1 w1 hown1 hb1; have hc1 := (hb1.cell (World.block_lt_of_cell? w _ HC.out)).trans HC.out)
    refine (HP.out _).mono ?_
    rintro e w' ⟨rfl, rfl⟩
    rw [show ((k : Int) % 64).toNat = k % 64 by omega, show (1 : Int).toNat = 1 by rfl]
    obtain ⟨g, cap, hv, hg, hglt⟩ := hown1.form (by omega)
    injection hv with hA _ hcc
    subst hA
    have hz := hown1.cellAt (k / 64) (by omega)
    obtain ⟨z, hz'⟩ : ∃ z, (u64s l)[k / 64]? = some z := ⟨_, u64s_at hq⟩
    rw [hz'] at hz
    clear hz'
    have hf := hown1.frozenAt (k / 64)
    have hst := hown1.stored (k / 64)
    have Hst := Lib.hid hst
    have Hb1 := Lib.hid hb1
    clear hst hown1 hb1 hcc
    go_wp2
    go_ret2
    refine ⟨_, c1, rfl, ?_, ?_⟩
    · unfold setBit
      rw [← u64s_setAt, HX.out]
      exact (Hst.out _).1
    · exact Hb1.out.setCell hg _

set_option maxHeartbeats 1000000 in
theorem refWith_no (v : Value) (l : List Nat) (i : Int) (on : Bool) (w : World) (h : Rd w v l.length (u64s l)) (hi : ¬ Idx l i) (hi1 : -9223372036854775808 ≤ i) (hi2 : i ≤ 9223372036854775807) (hl : l.length ≤ 65536) :
    Calls Tryd.prog 23 #[v, .int .i64 i, .bool on] w fun e w' => e = .returned (.tuple #[.slice none 0 0, .int .i64 2]) ∧ w = w' := by
  have HH := Lib.hid (refhas_no v l i w h hi hi1 hi2 hl)
  clear h hi
  go_enter Tryd.func23, Tryd.ntmps23
  go_wp2_with fail
  refine HH.out.mono ?_
  rintro e w' ⟨rfl, rfl⟩
  go_wp2
  go_ret2
  exact ⟨rfl, rfl⟩
end Go.Proofs.YtlencbjaggaabaaDoor
