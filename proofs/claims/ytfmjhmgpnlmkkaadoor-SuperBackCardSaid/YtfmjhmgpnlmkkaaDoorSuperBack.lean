/-
  For every input the law SuperBack returns true, and each argument reads behind the call as it read before: the statement SuperBackCardSaid. No condition. The walk lies in SuperBackWalk; this text opens the arguments and closes the row; its listed variable is tied to the text by the given tie.
-/
import Derived.Test.YtfmjhmgpnlmkkaaDoorSuperBackWalk
import Derived.Test.YtfmjhmgpnlmkkaaDoorFrame
import Derived.Test.YtfmjhmgpnlmkkaaDoorFaultTied
import Derived.Test.YtfmjhmgpnlmkkaaDoorGeomArg
namespace Go.Proofs.YtfmjhmgpnlmkkaaDoor.superBack
open Go.ChangeShapes Go.WideShapes Go.ChangeAt Go.RowKit
set_option linter.unusedVariables false

set_option maxRecDepth 100000 in
theorem lifted (os : Os) (started : os.Started) (H : Type) (enc : TypeId × Value → H) :
    ReturnsInHanded {} Tryd.checked os 5 .any (fun w args => (Rows.superBackSpec.pre enc Tryd.prog Tryd.f5 [] false w args ∧ laidMetH Tryd.prog laidL w) ∧ sizedMet enc Tryd.prog Tryd.f5 (OpenSpec.ofChange Rows.superBackSpec) false w args) (Rows.superBackSpec.post enc Tryd.prog Tryd.f5 false true false false) := by
  refine returnsInHanded_of_change_and (C := Tryd.checked) (X := fun w _ => laidMetH Tryd.prog laidL w) (fun _ _ _ hh h => h.of_heap hh) own started (by kernel_rfl) Tryd.func5
    (ChangeSpec.witness_shaped (enc := enc) (C := Tryd.checked) (os := os) (X := fun w _ => laidMetH Tryd.prog laidL w) false (start os) #[.agg #[.int .i64 0, .int .i64 0, .int .i64 0], .bool false, .int .u16 0, .int .u32 0, .slice none 0 0] 8 rfl (World.shaped_of_RefB (by kernel_rfl) (by kernel_rfl)) (by kernel_rfl) (by kernel_rfl) (by kernel_rfl) (start_met os _)) ?_
  intro W base args ds gs before hval0 hW _ _ hL _
  have hlaid := laid_of hL
  have hval : ∀ (j : Nat) t v, Tryd.f5.params[j]? = some t → args[j]? = some v → Value.okWide Tryd.prog W .any base t v := hval0
  have hW' := hW
  obtain ⟨p, q, hA0, hV, rfl, hfz, hnd⟩ := hW
  have hA : DataW.TrodAll enc Tryd.prog W 0 (fun _ => true) true Tryd.f5.params.toList args.toList ds p := hA0
  rw [Tryd.params5] at hA hval
  have hA1 := hA
  obtain ⟨v0, vs0, d0, ds0, p0, q0, hargs, rfl, rfl, h0, r0⟩ := trodAll_cons hA
  obtain ⟨v1, vs1, d1, ds1, p1, q1, rfl, rfl, rfl, h1, r1⟩ := trodAll_cons r0
  obtain ⟨v2, vs2, d2, ds2, p2, q2, rfl, rfl, rfl, h2, r2⟩ := trodAll_cons r1
  obtain ⟨v3, vs3, d3, ds3, p3, q3, rfl, rfl, rfl, h3, r3⟩ := trodAll_cons r2
  obtain ⟨v4, vs4, d4, ds4, p4, q4, rfl, rfl, rfl, h4, r4⟩ := trodAll_cons r3
  obtain ⟨rfl, rfl, rfl⟩ := trodAll_nil r4
  obtain rfl : args = #[v0, v1, v2, v3, v4] := by cases args; simp_all
  obtain ⟨rfl, rfl⟩ := trodVars_none hV
  have hlt := trodAll_lt _ _ _ _ hA1
  obtain ⟨gP0, gI0, gB0, rfl, hP0, hI0, hB0⟩ := arg_geom (hval 0 23 v0 rfl rfl) h0
  obtain ⟨b1, rfl⟩ := arg_bool Tryd.underlying4 (hval 1 4 v1 rfl rfl) h1
  obtain ⟨n2, rfl, hu2⟩ := arg_u16 Tryd.underlying35 (hval 2 35 v2 rfl rfl) h2
  obtain ⟨n3, rfl, hu3⟩ := arg_u32 Tryd.underlying36 (hval 3 36 v3 rfl rfl) h3
  obtain ⟨l4, hl4, hr4⟩ := arg_words Tryd.underlying24 Tryd.underlying42 (by kernel_rfl) (hval 4 24 v4 rfl rfl) h4
  clear hA0 hval0
  refine (superBack_walk W hlaid gP0 gI0 gB0 hP0 hI0 hB0 b1 n2 hu2 n3 hu3 v4 l4 hl4 hr4).mono fun e W' ⟨he, bel⟩ => ?_
  subst he
  have hargs' := trodAll_below (W' := W') laidOut bel _ _ _ _ (by
    intro t ht
    simp only [List.mem_cons, List.mem_nil_iff, or_false] at ht
    rcases ht with rfl | rfl | rfl | rfl | rfl
    all_goals exact ⟨by kernel_rfl, of_decide_eq_true (by kernel_rfl)⟩) hA1 hlt
  exact ⟨_, rfl, _, _, _, [], _, [], hW', trodAll_mk1 (shut_bool Tryd.underlying4 _), hargs', rfl, bel.frame _, fun h => by cases h⟩

theorem row : Rows.SuperBackSaid :=
  OpenClaim.holds_of_wide 5 Tryd.f5 rfl rfl rfl rfl rfl rfl rfl ⟨rfl, rfl, rfl, rfl, rfl⟩ rfl rfl rfl rfl rfl (by kernel_rfl) Tryd.func5 (by kernel_rfl)
    (of_decide_eq_true (by kernel_rfl)) (by unfold Func.isWrapper; first | (rw [if_pos (by decide +kernel)]; kernel_rfl) | (rw [if_neg (by decide +kernel)]; exact ⟨rfl, rfl⟩))
    (fun os started H enc _ => lifted os started H enc)
theorem proved : Rows.SuperBackCardSaid :=
  Claim7.holds_tied_plain_at .later [] Rows.superBackCard.laidKinds true Rows.superBackCard.stood.harness Rows.superBackCard.stood.looks
    row (fun _ h => by cases h) (by kernel_rfl) (fun _ h => by cases h) superBack_row_tie rfl ⟨rfl, rfl⟩ (by kernel_rfl) rfl
    (fun f fn hf hfn => by
      obtain rfl : f = 5 := Option.some.inj ((show Tryd.prog.funcNamed "parclose/parcloselaw05.SuperBack" = some 5 by kernel_rfl).symm.trans hf) |>.symm
      obtain rfl : fn = Tryd.f5 := (Option.some.inj (Tryd.func5.symm.trans hfn)).symm
      exact ⟨by kernel_rfl, fun j t ht => by
        rw [Tryd.params5] at ht
        have hm : t ∈ [23, 4, 35, 36, 24] := by simpa using Array.mem_of_getElem? ht
        have hall : ([23, 4, 35, 36, 24].all fun u => !Tryd.prog.wantsStandIn u) = true := by kernel_rfl
        exact (show Tryd.prog.wantsStandIn t = false by simpa using List.all_eq_true.1 hall t hm)⟩)
    (by kernel_rfl)
#print axioms proved
end Go.Proofs.YtfmjhmgpnlmkkaaDoor.superBack
