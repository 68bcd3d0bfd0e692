/- parcloseref03: Words, SamePends. -/
import Derived.Test.YtdkcghicobakhaaMediaS
import Derived.Deep.AppendLies
namespace Go.Proofs.Ytdkcghicobakhaa
open Go.RowKit
set_option linter.unusedVariables false

/-- '==' of two that wait -/
theorem run_eqP (w : World) (p x p' x' : Int) (f f' : Bool) : (binOp .eql 61 (.agg #[.int .i64 p, .int .u64 x, .bool f]) (.agg #[.int .i64 p', .int .u64 x', .bool f'])).run Try.prog w = .ok (.bool (p == p' && (x == x' && f == f'))) w := by
  have hS : Try.prog.underlying 61 = some (.struct (Try.prog.fieldsOf 61)) := by kernel_rfl
  have hp : Try.prog.stoodInHeld 61 = false := by kernel_rfl
  rw [run_eql_struct, show (10000 : Nat) = 9999 + 1 from rfl, run_equalIn_agg w 9999 61 _ _ hS hp]
  simp only [Program.fieldsOf, Try.underlying61]
  go_simp
  by_cases h1 : p = p' <;> by_cases h2 : x = x' <;> by_cases h3 : f = f' <;> simp [h1, h2, h3]
theorem run_neP (w : World) (p x : Int) (f : Bool) : (binOp .neq 61 (.agg #[.int .i64 p, .int .u64 x, .bool f]) (.agg #[.int .i64 p, .int .u64 x, .bool f])).run Try.prog w = .ok (.bool false) w := by
  have hS : Try.prog.underlying 61 = some (.struct (Try.prog.fieldsOf 61)) := by kernel_rfl
  have hp : Try.prog.stoodInHeld 61 = false := by kernel_rfl
  rw [run_neq_struct, show (10000 : Nat) = 9999 + 1 from rfl, run_equalIn_agg w 9999 61 _ _ hS hp]
  simp only [Program.fieldsOf, Try.underlying61]
  go_simp
theorem guard_eqP : Try.prog.eqGuardType Try.prog.depth 61 = false := by kernel_rfl

set_option maxHeartbeats 2000000 in
theorem samePends_yes (a b : Value) (L : List Pd) (w : World) (ha : Rd w a L.length (pends L)) (hb : Rd w b L.length (pends L)) (hL : L.length ≤ 65536) :
    Calls Try.prog 24 #[a, b] w fun e w' => e = .returned (.bool true) ∧ Below w.heap.size w w' := by
  have HA := Lib.hid ha
  have HB := Lib.hid hb
  obtain ⟨A, c, rfl, _, _, _⟩ := ha
  obtain ⟨B, d, rfl, _, _, _⟩ := hb
  have hn : ((L.length : Int) != (L.length : Int)) = false := by simp
  have hq := run_neP
  have hg := guard_eqP
  go_enter Try.func24, Try.ntmps24
  go_wp2
  go_loopw [5] (fun i wr => ∃ k : Nat, k ≤ L.length ∧ i = .int .i64 k ∧ Below w.heap.size w wr) (fun i _ => L.length - (intOf i).toNat)
  case atStart => exact ⟨0, by omega, rfl, Below.refl _ _⟩
  case round =>
    obtain ⟨k, hk, rfl, hbw⟩ := hrel
    by_cases hlt : k < L.length
    · obtain ⟨p0, p1, p2⟩ := pends_at L k hlt
      obtain ⟨b1, o1, rfl, x0⟩ := (HA.out.below hbw).at_ p0
      obtain ⟨b1', o1', hA1, x1⟩ := (HA.out.below hbw).at_ p1
      injection hA1 with hA1
      injection hA1 with e1 e2
      subst e1; subst e2
      obtain ⟨b1', o1', hA1, x2⟩ := (HA.out.below hbw).at_ p2
      injection hA1 with hA1
      injection hA1 with e1 e2
      subst e1; subst e2
      obtain ⟨b2, o2, rfl, y0⟩ := (HB.out.below hbw).at_ p0
      obtain ⟨b2', o2', hA1, y1⟩ := (HB.out.below hbw).at_ p1
      injection hA1 with hA1
      injection hA1 with e1 e2
      subst e1; subst e2
      obtain ⟨b2', o2', hA1, y2⟩ := (HB.out.below hbw).at_ p2
      injection hA1 with hA1
      injection hA1 with e1 e2
      subst e1; subst e2
      rw [← Nat.add_assoc] at x1 x2 y1 y2
      have hlt' : (k : Int) < (L.length : Int) := by omega
      generalize L[k] = x at *
      obtain ⟨xp, xw, xf⟩ := x
      dsimp only at x0 x1 x2 y0 y1 y2
      have Hbw := Lib.hid hbw
      clear p0 p1 p2 hbw
      go_wp2
      go_quiet (fail)
      go_wp2
      go_roundw
      case rel => exact ⟨k + 1, by omega, by go_num, below_drewN Hbw.out _⟩
      case measure => simp [intOf]; omega
    · obtain rfl : k = L.length := by omega
      have Hbw := Lib.hid hbw
      clear hbw
      go_wp2
      go_ret
      exact ⟨rfl, Hbw.out⟩

set_option maxHeartbeats 4000000 in
theorem refWords_any (w : World) (g : Nat) (S : Nat → Prop) (K : List Nat) (L : List Pd) (h : RDev w g S K L) (m : Nat) (hm : K.length = 8 * m) (hm1 : 1 ≤ m) (hm2 : m ≤ 65536) (hL : L.length ≤ 65536) (hP : ∀ x ∈ L, OkP (8 * m) x) :
    Calls Try.prog 28 #[.pointer (some ⟨g, 0, none⟩)] w (Hands w 32 1 (8 * m) (u64s (apP K L))) := by
  obtain ⟨vk, c0, hr⟩ := h.kept_rd
  obtain ⟨vw, c1, hrw⟩ := h.wait_rd
  rw [hm] at hr
  have hrk := hr
  obtain ⟨A, c, rfl, _, _, _⟩ := hr
  have HRw := Lib.hid hrw
  obtain ⟨B, cw, rfl, hw1, hw2, _⟩ := hrw
  unfold maxLen at hw2
  have HP := Lib.hid hP
  have HM := Lib.hid hm
  have HRk := Lib.hid hrk
  have hc1b := World.block_lt_of_cell? _ _ c1
  have hz : K = apP K (L.take 0) := by rw [List.take_zero, apP_nil]
  have HZ := Lib.hid hz
  clear h hm hrk hP hz
  go_enter Try.func28, Try.ntmps28
  go_wp2_with (at_builtin; refine copy64 rfl (.const (.slice none 0 0)) (.tmp 8) rfl rfl _ K _ HM.out rfl HRk.out (by omega) ?_; intro A1 c2 w1 hown1 hb1; have hd1 := (hb1.cell (p := ⟨g, 1, none⟩) hc1b).trans c1; have Ho1 := Lib.hid hown1; have Hb1 := Lib.hid hb1; clear hown1 hb1)
  obtain ⟨b, cap, hv, hgb, hglt⟩ := Ho1.out.form (by omega)
  injection hv with e1 e2 e3
  subst e1; subst e3
  clear e2
  go_loopw [4] (fun i wr => ∃ j : Nat, j ≤ L.length ∧ i = .int .i64 j ∧ wr.ownsRow w.heap.size 32 1 (.slice (some ⟨b, 0, none⟩) (8 * m) c2) (8 * m) (u64s (apP K (L.take j))) ∧ Below w.heap.size w wr) (fun i _ => L.length - (intOf i).toNat)
  case atStart => exact ⟨0, by omega, rfl, by rw [← HZ.out]; exact Ho1.out, Hb1.out⟩
  case round =>
    obtain ⟨j, hj, rfl, hown, hb⟩ := hrel
    have d1 := (hb.cell (p := ⟨g, 1, none⟩) hc1b).trans c1
    by_cases hlt : j < L.length
    · obtain ⟨p0, p1, p2⟩ := pends_at L j hlt
      obtain ⟨b2, o2, hB, q0⟩ := (HRw.out.below hb).at_ p0
      subst hB
      obtain ⟨b3, o3, hB, q1⟩ := (HRw.out.below hb).at_ p1
      injection hB with hB
      injection hB with e1 e2
      subst e1; subst e2
      rw [← Nat.add_assoc] at q1
      have hst := apP_take K L j hlt
      have hxo := (HP.out _ (List.getElem_mem hlt)).1
      have hl : (apP K (L.take j)).length = 8 * m := by rw [apP_length, HM.out]
      generalize L[j] = x at *
      obtain ⟨xp, xw, xf⟩ := x
      dsimp only at q0 q1 hxo hst
      have hc := (hown.cellAt xp (by omega)).trans (at_word (l := apP K (L.take j)) (k := xp) (by omega))
      have hf := hown.frozenAt xp
      have hs := (hown.stored xp (.int .u64 (xw : Nat))).1
      rw [show (u64s (apP K (L.take j))).set xp (.int .u64 (xw : Nat)) = u64s ((apP K (L.take j)).set xp xw) by simp [u64s, List.map_set], ← hst] at hs
      have Hs := Lib.hid hs
      have Hb := Lib.hid hb
      generalize wd (apP K (L.take j)) xp = z at *
      have hlt' : (j : Int) < (L.length : Int) := by omega
      have hxp : (xp : Int) < ((8 * m : Nat) : Int) := by omega
      have hxp' : (xp : Int) < 8 * (m : Int) := by omega
      clear hst hs hown hb p0 p1 p2 hl c1
      go_wp2
      go_still_tail 18, (by kernel_rfl)
      go_wp2
      go_roundw
      case rel => exact ⟨j + 1, by omega, by go_num, Hs.out, (Hb.out.setCell hgb _).drew⟩
      case measure => simp [intOf]; omega
    · obtain rfl : j = L.length := by omega
      rw [List.take_length] at hown
      have Hown := Lib.hid hown
      have Hb := Lib.hid hb
      clear hown hb c1
      go_wp2
      go_ret
      exact ⟨_, _, rfl, Hown.out, Hb.out⟩
end Go.Proofs.Ytdkcghicobakhaa
