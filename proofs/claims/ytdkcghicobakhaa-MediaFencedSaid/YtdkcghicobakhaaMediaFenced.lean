/-
  For every input the law MediaFenced returns true, and each argument reads behind the call as it read before: the statement MediaFencedSaid. No condition. The walk lies in MediaFencedWalk; this text opens the arguments and closes the row.
-/
import Derived.Test.YtdkcghicobakhaaMediaFencedWalk
import Derived.Test.YtdkcghicobakhaaFrame
import Derived.Test.YtdkcghicobakhaaMediaArg
namespace Go.Proofs.Ytdkcghicobakhaa.mediaFenced
open Go.ChangeShapes Go.WideShapes Go.ChangeAt Go.RowKit
set_option linter.unusedVariables false

set_option maxRecDepth 100000 in
theorem lifted (os : Os) (started : os.Started) (H : Type) (enc : TypeId × Value → H) :
    ReturnsInHanded {} Try.checked os 6 .any (Rows.mediaFencedSpec.pre6 enc Try.prog Try.f6 Rows.mediaFencedRow.domain false) (Rows.mediaFencedSpec.post enc Try.prog Try.f6 false true false false) := by
  refine returnsInHanded_of_change (C := Try.checked) own started (by kernel_rfl) Try.func6
    (ChangeSpec.witness6 (enc := enc) (C := Try.checked) false ⟨#[], #[.int .u8 0, .slice none 0 0, .int .u8 0, .slice none 0 0, .slice none 0 0], []⟩ 8 (by kernel_rfl) (by kernel_rfl) (by kernel_rfl) (by kernel_rfl)) ?_
  intro W base args ds gs before hval0 hW hcnd _
  have hval : ∀ (j : Nat) t v, Try.f6.params[j]? = some t → args[j]? = some v → Value.okWide Try.prog W .any base t v := hval0
  have hW' := hW
  obtain ⟨p, q, hA0, hV, rfl, hfz, hnd⟩ := hW
  have hA : DataW.TrodAll enc Try.prog W 0 (fun _ => true) true Try.f6.params.toList args.toList ds p := hA0
  rw [Try.params6] at hA hval
  have hA1 := hA
  obtain ⟨v0, vs0, d0, ds0, p0, q0, hargs, rfl, rfl, h0, r0⟩ := trodAll_cons hA
  obtain ⟨v1, vs1, d1, ds1, p1, q1, rfl, rfl, rfl, h1, r1⟩ := trodAll_cons r0
  obtain ⟨v2, vs2, d2, ds2, p2, q2, rfl, rfl, rfl, h2, r2⟩ := trodAll_cons r1
  obtain ⟨v3, vs3, d3, ds3, p3, q3, rfl, rfl, rfl, h3, r3⟩ := trodAll_cons r2
  obtain ⟨v4, vs4, d4, ds4, p4, q4, rfl, rfl, rfl, h4, r4⟩ := trodAll_cons r3
  obtain ⟨rfl, rfl, rfl⟩ := trodAll_nil r4
  obtain rfl : args = #[v0, v1, v2, v3, v4] := by cases args; simp_all
  obtain ⟨rfl, rfl⟩ := trodVars_none hV
  have hlt := trodAll_lt _ _ _ _ hA1
  obtain ⟨n0, rfl, hu0⟩ := arg_u8 Try.underlying5 (hval 0 5 v0 rfl rfl) h0
  obtain ⟨l1, hl1, hr1⟩ := arg_msteps (hval 1 22 v1 rfl rfl) h1
  obtain ⟨n2, rfl, hu2⟩ := arg_u8 Try.underlying5 (hval 2 5 v2 rfl rfl) h2
  obtain ⟨l3, hl3, hr3⟩ := arg_msteps (hval 3 22 v3 rfl rfl) h3
  obtain ⟨l4, hr4⟩ := arg_bools Try.underlying33 Try.underlying4 (by kernel_rfl) (hval 4 33 v4 rfl rfl) h4
  clear hA0 hval0
  refine (mediaFenced_walk W n0 hu0 v1 l1 hl1 hr1 n2 hu2 v3 l3 hl3 hr3 v4 l4 hr4).mono fun e W' ⟨he, bel⟩ => ?_
  subst he
  have hargs' := trodAll_below (W' := W') laidOut bel _ _ _ _ (by
    intro t ht
    simp only [List.mem_cons, List.mem_nil_iff, or_false] at ht
    rcases ht with rfl | rfl | rfl | rfl | rfl
    all_goals exact ⟨by kernel_rfl, of_decide_eq_true (by kernel_rfl)⟩) hA1 hlt
  exact ⟨_, rfl, _, _, _, [], _, [], hW', trodAll_mk1 (shut_bool Try.underlying4 _), hargs', rfl, bel.frame _, fun h => by cases h⟩

theorem proved : Rows.MediaFencedSaid :=
  OpenClaim.holds_of_wide 6 Try.f6 rfl rfl rfl rfl rfl rfl rfl ⟨rfl, rfl, rfl, rfl, rfl⟩ rfl rfl rfl rfl rfl (by kernel_rfl) Try.func6 (by kernel_rfl)
    (of_decide_eq_true (by kernel_rfl)) (by unfold Func.isWrapper; first | (rw [if_pos (by decide +kernel)]; kernel_rfl) | (rw [if_neg (by decide +kernel)]; exact ⟨rfl, rfl⟩))
    (fun os started H enc _ => lifted os started H enc)
#print axioms proved
end Go.Proofs.Ytdkcghicobakhaa.mediaFenced
