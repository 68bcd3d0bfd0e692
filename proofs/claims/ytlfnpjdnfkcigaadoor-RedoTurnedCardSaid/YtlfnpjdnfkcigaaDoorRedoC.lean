/- parcloseref16.Same; redo.Lay. -/
import Derived.Test.YtlfnpjdnfkcigaaDoorRedoB
namespace Go.Proofs.YtlfnpjdnfkcigaaDoor
open Go.RowKit
set_option linter.unusedVariables false

/-- '!=' of an entry and itself -/
theorem run_neR (w : World) (a x : Int) : (binOp .neq 45 (.agg #[.int .i64 a, .int .u64 x]) (.agg #[.int .i64 a, .int .u64 x])).run Tryd.prog w = .ok (.bool false) w := by
  have hS : Tryd.prog.underlying 45 = some (.struct (Tryd.prog.fieldsOf 45)) := by kernel_rfl
  have hp : Tryd.prog.stoodInHeld 45 = false := by kernel_rfl
  rw [run_neq_struct, show (10000 : Nat) = 9999 + 1 from rfl, run_equalIn_agg w 9999 45 _ _ hS hp]
  simp only [Program.fieldsOf, Tryd.underlying45]
  go_simp
theorem guard_eqR : Tryd.prog.eqGuardType Tryd.prog.depth 45 = false := by kernel_rfl

set_option maxRecDepth 100000 in
set_option maxHeartbeats 4000000 in
theorem refSame_yes (a b : Value) (l : List Rdo) (w : World) (ha : Rd w a l.length (rcells l)) (hb : Rd w b l.length (rcells l)) :
    Calls Tryd.prog 15 #[a, b] w fun e w' => e = .returned (.bool true) ∧ Below w.heap.size w w' := by
  have HA := Lib.hid ha
  have HB := Lib.hid hb
  obtain ⟨A, c, rfl, h1, h2, _⟩ := ha
  obtain ⟨B, d, rfl, _, _, _⟩ := hb
  unfold maxLen at h2
  have hn : ((l.length : Int) != (l.length : Int)) = false := by simp
  have hq := run_neR
  have hg := guard_eqR
  go_enter Tryd.func15, Tryd.ntmps15
  go_wp2
  go_loopw [5] (fun i wr => ∃ k : Nat, k ≤ l.length ∧ i = .int .i64 k ∧ Below w.heap.size w wr) (fun i _ => l.length - (intOf i).toNat)
  case atStart => exact ⟨0, by omega, rfl, Below.refl _ _⟩
  case round =>
    obtain ⟨k, hk, rfl, hbw⟩ := hrel
    by_cases hlt : k < l.length
    · obtain ⟨b1, o1, rfl, hx⟩ := redo_cells HA.out hlt
      obtain ⟨b2, o2, rfl, hy⟩ := redo_cells HB.out hlt
      obtain ⟨x0, x1⟩ := hx _ hbw
      obtain ⟨y0, y1⟩ := hy _ hbw
      have hlt' : (k : Int) < (l.length : Int) := by omega
      generalize l[k] = x at *
      obtain ⟨xa, xw⟩ := x
      dsimp only at x0 x1 y0 y1
      have Hbw := Lib.hid hbw
      clear hx hy hbw
      go_wp2
      go_quiet (fail)
      go_wp2
      go_roundw
      case rel => exact ⟨k + 1, by omega, by go_num, below_drewN Hbw.out _⟩
      case measure => simp [intOf]; omega
    · obtain rfl : k = l.length := by omega
      have Hbw := Lib.hid hbw
      clear hbw
      go_wp2
      go_ret
      exact ⟨rfl, Hbw.out⟩

theorem commit_or (n s : Nat) (hn : n ≤ 64) (hs : s < 4294967296) : bits BinOp.or IntKind.u64 (bits BinOp.or IntKind.u64 (n : Int) 20992) ((s : Int) * 4294967296) = ((n + 20992 + s * 4294967296 : Nat) : Int) := by
  have e1 : n ||| 20992 = n + 20992 := by
    have := Nat.two_pow_add_eq_or_of_lt (i := 9) (b := n) (by omega) 41
    rw [show 2 ^ 9 * 41 = 20992 from rfl] at this
    rw [Nat.or_comm]
    omega
  have e2 : (n + 20992) ||| (s * 4294967296) = n + 20992 + s * 4294967296 := by
    have := Nat.two_pow_add_eq_or_of_lt (i := 32) (b := n + 20992) (by omega) s
    rw [show 2 ^ 32 = 4294967296 from rfl] at this
    rw [Nat.or_comm, Nat.mul_comm s]
    omega
  have h1 : bits BinOp.or IntKind.u64 (n : Int) 20992 = ((n ||| 20992 : Nat) : Int) := u64_or_nat n 20992 (by omega) (by decide)
  have h2 := u64_or_nat (n + 20992) (s * 4294967296) (by omega) (by omega)
  rw [h1, e1]
  rw [e2] at h2
  rw [← h2]
  rfl
/-- what Lay answers -/
def LayOut (w : World) (l : List Rdo) (e : Ending) (w' : World) : Prop :=
  (mayE l = 0 ∧ ∃ A c, e = .returned (.tuple #[.slice A (l.length * 2) c, .int .u64 (rcommit l : Nat), .int .i64 0]) ∧ w'.ownsRow w.heap.size 26 1 (.slice A (l.length * 2) c) (l.length * 2) (u64s (rbody l)) ∧ Below w.heap.size w w') ∨
  (mayE l ≠ 0 ∧ e = .returned (.tuple #[.slice none 0 0, .int .u64 0, .int .i64 (mayE l)]) ∧ Below w.heap.size w w')

set_option maxRecDepth 100000 in
set_option maxHeartbeats 8000000 in
theorem Lay_any (v : Value) (l : List Rdo) (w : World) (hr : Rd w v l.length (rcells l)) (ho : ∀ r ∈ l, OkR r) :
    Calls Tryd.prog 10 #[v] w (LayOut w l) := by
  have HR := Lib.hid hr
  have HO := Lib.hid ho
  obtain ⟨A, c, rfl, h1, h2, h3⟩ := hr
  unfold maxLen at h2
  obtain ⟨i0, hi, hz0, hz1, hz2⟩ := info_parts info64
  clear h3 ho
  by_cases hbig : 64 < l.length
  · have hd : decide ((64 : Int) < (l.length : Int)) = true := by simp; omega
    have hm : mayE l = 5 := by unfold mayE; rw [if_pos hbig]
    have Hm := Lib.hid hm
    clear hm hbig
    go_enter Tryd.func10, Tryd.ntmps10
    go_wp2
    go_ret3
    exact .inr ⟨by rw [Hm.out]; decide, by rw [Hm.out]; rfl, Below.refl _ _⟩
  have hd : decide ((64 : Int) < (l.length : Int)) = false := by simp; omega
  have hle : l.length ≤ 64 := by omega
  clear hbig
  go_enter Tryd.func10, Tryd.ntmps10
  go_wp2
  go_loopw [2, 6, 12] (fun s _ i wr => ∃ (j : Nat) (B : Option Addr) (cb : Nat), j ≤ l.length ∧ i = .int .i64 j ∧ s = .slice B (j * 2) cb ∧ wr.ownsRow w.heap.size 26 1 (.slice B (j * 2) cb) (j * 2) (u64s (rbody (l.take j))) ∧ Below w.heap.size w wr ∧ ∀ k (hk : k < l.length), k < j → mayOne l[k]) (fun _ _ i _ => l.length - (intOf i).toNat)
  case atStart => exact ⟨0, none, 0, by omega, rfl, rfl, World.ownsRow_nil _ _ _ _, Below.refl _ _, fun k hk h => by omega⟩
  case round =>
    obtain ⟨j, B, cb, hj, rfl, rfl, hown, hb, hk⟩ := hrel
    have HK := Lib.hid hk
    clear hk
    by_cases hlt : j < l.length
    · obtain ⟨b, o, rfl, hq⟩ := redo_cells HR.out hlt
      obtain ⟨q0, q1⟩ := hq _ hb
      have hbt := rbody_take l j hlt
      have hno : ¬ mayOne l[j] → mayE l = 2 := fun h => by
        unfold mayE
        rw [if_neg (by omega), if_neg (fun hh => h (hh _ (List.getElem_mem hlt)))]
      have hyes : mayOne l[j] → ∀ k (hk : k < l.length), k < j + 1 → mayOne l[k] := fun h k hk h2 => by
        rcases Nat.lt_or_ge k j with h3 | h3
        · exact HK.out k hk h3
        · obtain rfl : k = j := by omega
          exact h
      have Hno := Lib.hid hno
      have Hyes := Lib.hid hyes
      have hx := (HO.out _ (List.getElem_mem hlt)).2
      clear hno hyes hq
      generalize l[j] = r at *
      obtain ⟨a, x⟩ := r
      unfold mayOne at Hno
      dsimp only at q0 q1 hbt hx Hno
      have hlt' : (j : Int) < (l.length : Int) := by omega
      have Hx := Lib.hid hx
      have Hown := Lib.hid hown
      have Hb := Lib.hid hb
      have Hbx1 := Lib.hid (below_then hb ((Below.refl wr.heap.size wr).alloc (Nat.le_refl _) (.cells #[.int .i64 a, .int .u64 (x : Nat)] 45)))
      clear hx hb
      by_cases ha : a < 0
      · have hd1 : decide (a < 0) = true := by simp; omega
        have Hn := Lib.hid (Hno.out (by omega))
        clear hbt hown
        go_wp2
        go_ret3
        exact .inr ⟨by rw [Hn.out]; decide, by rw [Hn.out]; rfl, Hbx1.out⟩
      · have hd1 : decide (a < 0) = false := by simp; omega
        by_cases hbg : a < 1048576
        · have hd2 : decide ((1048576 : Int) ≤ a) = false := by simp; omega
          have Hy := Lib.hid (Hyes.out ⟨by show 0 ≤ a; omega, hbg⟩)
          obtain ⟨k, rfl⟩ := Int.eq_ofNat_of_zero_le (show 0 ≤ a by omega)
          rw [Int.toNat_natCast] at hbt
          have Hbt := Lib.hid hbt
          have hbx : Below wr.heap.size wr ((wr.alloc (.cells #[.int .i64 (k : Nat), .int .u64 (x : Nat)] 45)).alloc (.cells #[.int .u64 (k : Nat), .int .u64 (x : Nat)] 26)) := ((Below.refl _ _).alloc (Nat.le_refl _) _).alloc (by simp) _
          have HRn := Lib.hid (Rd.newAt2 (wr.alloc (.cells #[.int .i64 (k : Nat), .int .u64 (x : Nat)] 45)) (wr.heap.size + 1) (by simp) k x 26)
          have Hox := Lib.hid (own_below hown hbx)
          have Hbx := Lib.hid (below_then Hb.out hbx)
          clear hbt hown hbx
          go_wp2_with (at_builtin; refine wpList_append_rd rfl (.tmp 24) (.tmp 30) 25 rfl w.heap.size 26 i0 _ 1 8 Tryd.underlying25 hi hz0 hz1 hz2 rfl (by decide) (.slice B (j * 2) cb) (j * 2) (u64s (rbody (l.take j))) rfl Hox.out _ 2 (u64s [k, x]) rfl HRn.out rfl (u64s_one _) (by unfold maxLen; omega) (by omega) Hbx.out.size ?_; intro A2 c2 w2 hown2 hg2; have Hown2 := Lib.hid hown2; have Hb2 := Lib.hid (below_grown Hbx.out Hox.out (Nat.le_refl _) Hbx.out.size hg2); clear hown2 hg2)
          go_roundw
          case rel =>
            refine ⟨j + 1, A2, c2, by omega, by go_num, ?_, ?_, Hb2.out, Hy.out⟩
            · rw [show (j + 1) * 2 = j * 2 + 2 by omega]
            · rw [Hbt.out, u64s_append, show (j + 1) * 2 = j * 2 + 2 by omega]; exact Hown2.out
          case measure => simp [intOf]; omega
        · have hd2 : decide ((1048576 : Int) ≤ a) = true := by simp; omega
          have Hn := Lib.hid (Hno.out (by omega))
          clear hbt hown
          go_wp2
          go_ret3
          exact .inr ⟨by rw [Hn.out]; decide, by rw [Hn.out]; rfl, Hbx1.out⟩
    · obtain rfl : j = l.length := by omega
      rw [List.take_length] at hown
      have hall : ∀ r ∈ l, mayOne r := fun r hr => by
        obtain ⟨k, hk, rfl⟩ := List.mem_iff_getElem.1 hr
        exact HK.out k hk hk
      have Hm := Lib.hid (mayE_ok.2 ⟨hle, hall⟩)
      have Hwd := Lib.hid (rbody_wd (l := l) (fun r hr => ⟨hall r hr, (HO.out r hr).2⟩))
      have Hown := Lib.hid hown
      have Hb := Lib.hid hb
      have hrd : Rd wr (.slice B (l.length * 2) cb) (rbody l).length (u64s (rbody l)) := by rw [rbody_length]; exact Rd.of_own hown
      have HD := Lib.hid hrd
      clear hown hb hrd hall
      go_wp2_with fail
      refine (Words_any _ (rbody l) _ HD.out Hwd.out (by rw [rbody_length]; omega)).mono ?_
      rintro e w2 ⟨rfl, hb2⟩
      have HB2 := Lib.hid (below_then Hb.out hb2)
      have HO2 := Lib.hid (own_below Hown.out hb2)
      have hs := wsum_lt (rbody l)
      obtain ⟨s, hse⟩ : ∃ s, s = wsum (rbody l) := ⟨_, rfl⟩
      rw [← hse] at hs ⊢
      have Hse := Lib.hid hse
      have Hco := Lib.hid (commit_or l.length s hle hs)
      clear hb2 hse
      go_wp2
      go_ret3
      refine .inl ⟨Hm.out, _, _, ?_, HO2.out, HB2.out⟩
      have hc := Hco.out
      simp only [rcommit, ← Hse.out]
      rw [← hc]
      rfl
end Go.Proofs.YtlfnpjdnfkcigaaDoor
