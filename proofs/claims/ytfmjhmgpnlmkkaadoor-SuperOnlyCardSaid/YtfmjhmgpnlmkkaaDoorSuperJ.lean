/- parcloselaw05.reads, alive. -/
import Derived.Test.YtfmjhmgpnlmkkaaDoorSuperH
import Derived.Test.YtfmjhmgpnlmkkaaDoorSuperI
import Derived.Test.YtfmjhmgpnlmkkaaDoorSuperD
import Derived.Test.YtfmjhmgpnlmkkaaDoorSuperPlain
namespace Go.Proofs.YtfmjhmgpnlmkkaaDoor
open Go.RowKit
set_option linter.unusedVariables false

/-- '==' of two geometries -/
theorem run_eqG (w : World) (P I B P' I' B' : Int) : (binOp .eql 23 (.agg #[.int .i64 P, .int .i64 I, .int .i64 B]) (.agg #[.int .i64 P', .int .i64 I', .int .i64 B'])).run Tryd.prog w = .ok (.bool (P == P' && (I == I' && B == B'))) w := by
  have hS : Tryd.prog.underlying 23 = some (.struct (Tryd.prog.fieldsOf 23)) := by kernel_rfl
  have hp : Tryd.prog.stoodInHeld 23 = false := by kernel_rfl
  rw [run_eql_struct, show (10000 : Nat) = 9999 + 1 from rfl, run_equalIn_agg w 9999 23 _ _ hS hp]
  simp only [Program.fieldsOf, Tryd.underlying23]
  go_simp
  by_cases h1 : P = P' <;> by_cases h2 : I = I' <;> by_cases h3 : B = B' <;> simp [h1, h2, h3]
theorem guard_eqG : Tryd.prog.eqGuardType Tryd.prog.depth 23 = false := by kernel_rfl
theorem sameW_yes (a b : Value) (l : List Nat) (n : Nat) (hn : l.length = n) (w : World) (ha : Rd w a n (u64s l)) (hb : Rd w b n (u64s l)) :
    Calls Tryd.prog 10 #[a, b] w fun e w' => e = .returned (.bool true) ∧ Below w.heap.size w w' := by
  subst hn
  refine (same_any a b l l w ha hb).mono ?_
  rintro e w' ⟨rfl, k, rfl⟩
  exact ⟨by simp, below_drewN (Below.refl _ _) k⟩
theorem told_same (d : Int) (w : World) (hg : Laid w) :
    Calls Tryd.prog 21 #[.iface 53 (.agg #[.int .i64 d, .int .i64 7]), .agg #[.int .i64 d, .int .i64 7]] w fun e w' => e = .returned (.bool true) ∧ Below w.heap.size w w' :=
  (told_fault d 7 d 7 w hg).mono fun e w' h => ⟨h.1.trans (by simp), h.2⟩
theorem told_none (w : World) :
    Calls Tryd.prog 21 #[.nilIface, .agg #[.int .i64 0, .int .i64 0]] w fun e w' => e = .returned (.bool true) ∧ Below w.heap.size w w' :=
  (told_nil 0 0 w).mono fun e w' h => ⟨h.1.trans rfl, h.2⟩

set_option maxRecDepth 100000 in
set_option maxHeartbeats 8000000 in
theorem reads_any (v : Value) (s : List Nat) (w : World) (hl : s.length ≤ 65536) (hw : ∀ x ∈ s, x < 18446744073709551616) (hr : Rd w v s.length (u64s s)) (hg : Laid w) :
    Calls Tryd.prog 12 #[v] w fun e w' => e = .returned (.bool true) ∧ Below w.heap.size w w' := by
  have HR := Lib.hid hr
  have HW := Lib.hid hw
  have HG := Lib.hid hg
  obtain ⟨A, cp, rfl, h1, h2, h3⟩ := hr
  unfold maxLen at h2
  have hq := run_eqG
  have hgd := guard_eqG
  clear h3 hw hg
  go_enter Tryd.func12, Tryd.ntmps12
  go_wp2_with (at_builtin; refine copy64 rfl (.const (.slice none 0 0)) (.tmp 10) rfl rfl _ s _ rfl rfl HR.out (by omega) ?_; intro A1 c1 w1 hown1 hb1; have HR1 := Lib.hid (Rd.of_own hown1); have HB1 := Lib.hid hb1; clear hown1 hb1)
  have HRd := Lib.hid (fun W (hW : Below w.heap.size w W) => refDecode_any _ s W HW.out hl (HR.out.below hW))
  have HSm := Lib.hid (fun W (hW : Below w1.heap.size w1 W) => sameW_yes _ _ s s.length rfl W (HR1.out.below hW) (HR.out.below (below_then HB1.out hW)))
  have HTd := Lib.hid (fun d W (hW : Below w.heap.size w W) => told_same d W (HG.out.below hW))
  have HTn := Lib.hid told_none
  refine (Decode_any _ s _ HW.out hl HR1.out (HG.out.below HB1.out)).mono ?_
  rintro e w2 (⟨hd, rfl, hb2⟩ | ⟨hd, rfl, hb2⟩)
  · have HD := Lib.hid hd
    have HB2 := Lib.hid hb2
    unfold RefDec at HRd
    unfold gv at HRd ⊢
    generalize fP s = P at *
    generalize fI s = I at *
    generalize fB s = B at *
    generalize decide (fH s = 1) = H at *
    have hge : (w2.alloc (.cells #[.int .i64 (P : Nat), .int .i64 (I : Nat), .int .i64 (B : Nat)] 23)).heap[w2.heap.size]? = some (.cells #[.int .i64 (P : Nat), .int .i64 (I : Nat), .int .i64 (B : Nat)] 23 (0, 0)) := heap_alloc_new w2 _
    have HB2' := Lib.hid (below_then hb2 ((Below.refl _ _).alloc (Nat.le_refl _) (.cells #[.int .i64 (P : Nat), .int .i64 (I : Nat), .int .i64 (B : Nat)] 23)))
    have HGe := Lib.hid hge
    clear hd hb2 hge
    go_wp2_with fail
    refine (HRd.out _ (below_then HB1.out HB2'.out)).mono ?_
    rintro e w3 (⟨_, rfl, hb3⟩ | ⟨hd3, _⟩)
    case inr => exact (hd3 HD.out).elim
    have hg3 := (hb3.block _ (lt_of_block HGe.out)).trans HGe.out
    obtain ⟨a0, a1, a2, _, _, _⟩ := blk3 hg3
    have hlt3 := lt_of_block hg3
    have HB3 := Lib.hid (below_then HB2'.out hb3)
    have HB5 := Lib.hid (below_then (below_then HB2'.out hb3) (((Below.refl w3.heap.size w3).alloc (Nat.le_refl _) (.cells #[.int .i64 (P : Nat), .int .i64 (I : Nat), .int .i64 (B : Nat)] 23)).alloc (by simp) (.cells #[.int .i64 0, .int .i64 0] 53)))
    clear hb3 hg3
    go_wp2_with fail
    refine (HTn.out _).mono ?_
    rintro e w6 ⟨rfl, hb6⟩
    have HB6 := Lib.hid (below_then HB5.out hb6)
    clear hb6 a0 a1 a2
    go_wp2_with fail
    refine (HSm.out _ HB6.out).mono ?_
    rintro e w7 ⟨rfl, hb7⟩
    have HB7 := Lib.hid (below_then (below_then HB1.out HB6.out) hb7)
    clear hb7
    go_wp2
    go_ret
    exact ⟨rfl, HB7.out⟩
  · have HD := Lib.hid hd
    have HB2 := Lib.hid hb2
    unfold RefDec at HRd
    unfold gv at HRd ⊢
    generalize decAt s = d at *
    have hge : (w2.alloc (.cells #[.int .i64 0, .int .i64 0, .int .i64 0] 23)).heap[w2.heap.size]? = some (.cells #[.int .i64 0, .int .i64 0, .int .i64 0] 23 (0, 0)) := heap_alloc_new w2 _
    have HB2' := Lib.hid (below_then hb2 ((Below.refl _ _).alloc (Nat.le_refl _) (.cells #[.int .i64 0, .int .i64 0, .int .i64 0] 23)))
    have HGe := Lib.hid hge
    clear hd hb2 hge
    go_wp2_with fail
    refine (HRd.out _ (below_then HB1.out HB2'.out)).mono ?_
    rintro e w3 (⟨hd3, _⟩ | ⟨_, rfl, hb3⟩)
    case inl => exact (HD.out hd3).elim
    have hg3 := (hb3.block _ (lt_of_block HGe.out)).trans HGe.out
    obtain ⟨a0, a1, a2, _, _, _⟩ := blk3 hg3
    have hlt3 := lt_of_block hg3
    have HB5 := Lib.hid (below_then (below_then HB2'.out hb3) (((Below.refl w3.heap.size w3).alloc (Nat.le_refl _) (.cells #[.int .i64 0, .int .i64 0, .int .i64 0] 23)).alloc (by simp) (.cells #[.int .i64 d, .int .i64 7] 53)))
    clear hb3 hg3
    go_wp2_with fail
    refine (HTd.out d _ (below_then HB1.out HB5.out)).mono ?_
    rintro e w6 ⟨rfl, hb6⟩
    have HB6 := Lib.hid (below_then HB5.out hb6)
    clear hb6 a0 a1 a2
    go_wp2_with fail
    refine (HSm.out _ HB6.out).mono ?_
    rintro e w7 ⟨rfl, hb7⟩
    have HB7 := Lib.hid (below_then (below_then HB1.out HB6.out) hb7)
    clear hb7
    go_wp2
    go_ret
    exact ⟨rfl, HB7.out⟩
end Go.Proofs.YtfmjhmgpnlmkkaaDoor
