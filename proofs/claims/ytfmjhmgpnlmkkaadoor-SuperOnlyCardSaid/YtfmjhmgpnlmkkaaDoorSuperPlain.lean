/- Superblocks there and back, as plain data. -/
import Derived.Test.YtfmjhmgpnlmkkaaDoorSuperF
namespace Go.Proofs.YtfmjhmgpnlmkkaaDoor
open Go.RowKit
set_option linter.unusedVariables false

theorem sealed_super (P I B : Nat) (high : Bool) : sealed (superL P I B high) = [magicW, word1 P I B high, 0, 0, 0, 0, 0, sealW (superL P I B high)] := rfl
/-- what was encoded is decoded as itself -/
theorem dec_super {P I B : Nat} (h : MayG (P : Nat) (I : Nat) (B : Nat)) (high : Bool) :
    decAt (sealed (superL P I B high)) = -1 ∧ fP (sealed (superL P I B high)) = P ∧ fI (sealed (superL P I B high)) = I ∧ fB (sealed (superL P I B high)) = B ∧ decide (fH (sealed (superL P I B high)) = 1) = high := by
  have hP : P < 65536 := by have := h.2.1; omega
  have hI : I < 65536 := by have := h.2.2.2.1; omega
  have hB : B < 65536 := by have := h.2.2.2.2.2; omega
  have hg : (sealed (superL P I B high)).getD 1 0 = word1 P I B high := rfl
  have e1 : fP (sealed (superL P I B high)) = P := by unfold fP; rw [hg]; unfold getW word1; cases high <;> simp <;> omega
  have e2 : fI (sealed (superL P I B high)) = I := by unfold fI; rw [hg]; unfold getW word1; cases high <;> simp <;> omega
  have e3 : fB (sealed (superL P I B high)) = B := by unfold fB; rw [hg]; unfold getW word1; cases high <;> simp <;> omega
  have e4 : fH (sealed (superL P I B high)) = if high then 1 else 0 := by unfold fH; rw [hg]; unfold getW word1; cases high <;> simp <;> omega
  refine ⟨?_, e1, e2, e3, ?_⟩
  · rw [dec_tail rfl rfl (opens_sealed _) ⟨by rw [e1, e2, e3]; exact h, by rw [e4]; cases high <;> decide⟩]
    exact tail_none (fun k h1 h2 => by
      rw [sealed_super]
      rcases (show k = 2 ∨ k = 3 ∨ k = 4 ∨ k = 5 ∨ k = 6 by omega) with rfl | rfl | rfl | rfl | rfl <;> rfl)
  · rw [e4]; cases high <;> decide
theorem tail_zero {s : List Nat} (h : tailBad s = -1) : s.getD 2 0 = 0 ∧ s.getD 3 0 = 0 ∧ s.getD 4 0 = 0 ∧ s.getD 5 0 = 0 ∧ s.getD 6 0 = 0 := by
  unfold tailBad at h
  by_cases h2 : s.getD 2 0 = 0
  · by_cases h3 : s.getD 3 0 = 0
    · by_cases h4 : s.getD 4 0 = 0
      · by_cases h5 : s.getD 5 0 = 0
        · by_cases h6 : s.getD 6 0 = 0
          · exact ⟨h2, h3, h4, h5, h6⟩
          · rw [if_neg (by rw [h2]; simp), if_neg (by rw [h3]; simp), if_neg (by rw [h4]; simp), if_neg (by rw [h5]; simp), if_pos h6] at h; exact absurd h (by decide)
        · rw [if_neg (by rw [h2]; simp), if_neg (by rw [h3]; simp), if_neg (by rw [h4]; simp), if_pos h5] at h; exact absurd h (by decide)
      · rw [if_neg (by rw [h2]; simp), if_neg (by rw [h3]; simp), if_pos h4] at h; exact absurd h (by decide)
    · rw [if_neg (by rw [h2]; simp), if_pos h3] at h; exact absurd h (by decide)
  · rw [if_pos h2] at h; exact absurd h (by decide)
/-- what is decoded is encoded as itself -/
theorem super_dec {s : List Nat} (hw : Wd s) (h : decAt s = -1) : MayG (fP s : Nat) (fI s : Nat) (fB s : Nat) ∧ sealed (superL (fP s) (fI s) (fB s) (decide (fH s = 1))) = s := by
  by_cases h8 : s.length = 8
  case neg => rw [dec_len h8] at h; exact absurd h (by decide)
  by_cases h0 : s.getD 0 0 = magicW
  case neg => rw [dec_magic h0] at h; exact absurd h (by decide)
  by_cases ho : opens s = true
  case neg => rw [dec_open h8 h0 (by simpa using ho)] at h; exact absurd h (by decide)
  by_cases hg : MayG (fP s : Nat) (fI s : Nat) (fB s : Nat) ∧ fH s ≤ 1
  case neg => rw [dec_word h8 h0 ho hg] at h; exact absurd h (by decide)
  rw [dec_tail h8 h0 ho hg] at h
  obtain ⟨z2, z3, z4, z5, z6⟩ := tail_zero h
  refine ⟨hg.1, ?_⟩
  have hs := (opens_iff (opens_ne ho)).2 ho
  have hx : s.getD 1 0 < 18446744073709551616 := by
    rw [List.getD_eq_getElem?_getD, List.getElem?_eq_getElem (show 1 < s.length by omega)]
    exact hw _ (List.getElem_mem _)
  have hH := hg.2
  have hv : word1 (fP s) (fI s) (fB s) (decide (fH s = 1)) = s.getD 1 0 := by
    unfold fP fI fB
    have e : (if decide (fH s = 1) = true then 281474976710656 else 0) = 281474976710656 * (s.getD 1 0 / 281474976710656) := by
      unfold fH getW at hH ⊢
      generalize s.getD 1 0 = x at *
      have : x / 2 ^ 48 < 65536 := by omega
      by_cases h1 : x / 2 ^ 48 % 2 ^ 16 = 1
      · simp [h1]; omega
      · simp [h1]; omega
    unfold word1
    rw [e]
    unfold getW
    generalize s.getD 1 0 = x at *
    omega
  have hd : s.dropLast = superL (fP s) (fI s) (fB s) (decide (fH s = 1)) := by
    unfold superL
    rw [hv, ← h0]
    match s, h8 with
    | [a0, a1, a2, a3, a4, a5, a6, a7], _ =>
      simp only [List.getD_cons_succ, List.getD_cons_zero] at z2 z3 z4 z5 z6 ⊢
      subst z2; subst z3; subst z4; subst z5; subst z6
      rfl
  rw [← hd]
  exact hs
/-- a superblock turned -/
theorem dec_turned {P I B : Nat} (h : MayG (P : Nat) (I : Nat) (B : Nat)) (high : Bool) (K t : Nat) (ht : t < 2 ^ 32) (hK : K + 32 ≤ 512) :
    decAt (turnsTo (sealed (superL P I B high)) K t 32) = -1 ↔ t = 0 := by
  have hP : P < 65536 := by have := h.2.1; omega
  have hI : I < 65536 := by have := h.2.2.2.1; omega
  have hB : B < 65536 := by have := h.2.2.2.2.2; omega
  have ho := turned_opens (superL P I B high) (superL_wd hP hI hB high) K t ht hK
  constructor
  · intro hd
    have hop : opens (turnsTo (sealed (superL P I B high)) K t 32) = true := by
      by_cases h8 : (turnsTo (sealed (superL P I B high)) K t 32).length = 8
      case neg => rw [dec_len h8] at hd; exact absurd hd (by decide)
      by_cases h0 : (turnsTo (sealed (superL P I B high)) K t 32).getD 0 0 = magicW
      case neg => rw [dec_magic h0] at hd; exact absurd hd (by decide)
      by_cases ho : opens (turnsTo (sealed (superL P I B high)) K t 32) = true
      · exact ho
      · rw [dec_open h8 h0 (by simpa using ho)] at hd; exact absurd hd (by decide)
    rw [hop] at ho
    simpa using ho.symm
  · rintro rfl
    have e : ∀ n, turnsTo (sealed (superL P I B high)) K 0 n = sealed (superL P I B high) := by
      intro n
      induction n with
      | zero => rfl
      | succ n ih => simp only [turnsTo]; rw [Nat.zero_div, if_neg (by decide), ih]
    rw [e]
    exact (dec_super h high).1
theorem super_inj {P I B P' I' B' : Nat} (h : MayG (P : Nat) (I : Nat) (B : Nat)) (h' : MayG (P' : Nat) (I' : Nat) (B' : Nat)) {one other : Bool} (e : sealed (superL P I B one) = sealed (superL P' I' B' other)) : P = P' ∧ I = I' ∧ B = B' ∧ one = other := by
  obtain ⟨_, a1, a2, a3, a4⟩ := dec_super h one
  obtain ⟨_, b1, b2, b3, b4⟩ := dec_super h' other
  rw [← e] at b1 b2 b3 b4
  exact ⟨a1.symm.trans b1, a2.symm.trans b2, a3.symm.trans b3, a4.symm.trans b4⟩
end Go.Proofs.YtfmjhmgpnlmkkaaDoor
