/- parcloseref02.Words, Seal, Open: what they return. -/
import Derived.Test.YtnpmepklgakaiaaDoorSumRefW
import Derived.Test.YtnpmepklgakaiaaDoorSame
import Derived.Test.YtnpmepklgakaiaaDoorClone
namespace Go.Proofs.YtnpmepklgakaiaaDoor
open Go.RowKit
set_option linter.unusedVariables false

/-- a row of words with one more -/
theorem sealed_len (l : List Nat) : (sealed l).length = l.length + 1 := by simp [sealed]
theorem u64s_sealed (l : List Nat) : u64s (sealed l) = u64s l ++ [.int .u64 (sealW l : Nat)] := by rw [sealed, u64s_append]; rfl

set_option maxHeartbeats 1000000 in
theorem refSeal_any (v : Value) (l : List Nat) (w : World) (h : Rd w v l.length (u64s l)) (hw : Wd l) (hl : l.length ≤ 65536) :
    Calls Tryd.prog 14 #[v] w (Hands w 44 1 (l.length + 1) (u64s (sealed l))) := by
  have hR := h
  obtain ⟨A, c, rfl, h1, h2, h3⟩ := h
  have HR := Lib.hid hR
  clear h3 hR
  obtain ⟨i0, hi, hz0, hz1, hz2⟩ := info_parts info64
  have hsum := wsum_lt l
  go_enter Tryd.func14, Tryd.ntmps14
  go_wp2_with fail
  refine (refWords_any _ l _ HR.out hw (by omega)).mono ?_
  rintro e w1 ⟨rfl, hb1⟩
  have HW := Lib.hid hw
  clear hw
  have hsl : sealW l = wsum l + 2 ^ 32 * (full - wsum l) := rfl
  have hsq : (wsum l : Nat) + (4294967295 - (wsum l : Nat)) * 4294967296 = sealW l := by rw [hsl, Nat.mul_comm]; rfl
  have hsi : ((wsum l : Nat) : Int) + (4294967295 - ((wsum l : Nat) : Int)) * 4294967296 = ((sealW l : Nat) : Int) := by omega
  have Hsl := Lib.hid hsi
  clear hsl hsq hsi
  have HR1 := Lib.hid (HR.out.below hb1)
  generalize hgs : wsum l = s at *
  clear hgs
  go_wp2_with (first
    | (at_builtin
       refine wpList_copy_rd rfl (.const (.slice none 0 0)) (.tmp 8) _ rfl 44 i0 _ 1 8 Tryd.underlying28 hi hz0 hz1 hz2 rfl (by decide) rfl (.slice A l.length c) l.length (u64s l) rfl HR1.out (by rw [u64s_length, Nat.mul_one]) (u64s_one l) (by unfold maxLen; omega) (by omega) ?_
       intro A1 c1 w2 hown1 hb2
       have Hown1 := Lib.hid hown1
       clear hown1)
    | (at_builtin
       refine wpList_append_rd rfl (.tmp 10) (.tmp 16) _ rfl w1.heap.size 44 i0 _ 1 8 Tryd.underlying28 hi hz0 hz1 hz2 rfl (by decide) (.slice A1 l.length c1) l.length (u64s l) rfl (Hown1.out.alloc _) _ 1 [.int .u64 ((s : Int) + (4294967295 - (s : Int)) * 4294967296)] rfl (Rd.one _ _ _) rfl (by simp [Value.oneCell']) (by unfold maxLen; omega) (by omega) (by have := hb2.size; simp; omega) ?_
       intro A2 c2 w3 hown2 hg2))
  go_ret
  rw [Hsl.out] at hown2
  refine ⟨A2, c2, rfl, ?_, ?_⟩
  · rw [u64s_sealed]
    exact own_mono hown2 hb1.size
  · refine (below_then (below_then hb1 hb2) ((Below.refl _ _).alloc (Nat.le_refl _) _)).grown hg2 ?_ (fun k hk => ?_)
    · have := hb1.size; have := hb2.size; simp; omega
    · have := (Hown1.out.lt k hk).1; have := hb1.size; omega

/-- what a call of Open hands back -/
def HandsOpen (w : World) (l : List Nat) (r : Ending) (w' : World) : Prop :=
  if opens l = true then ∃ A c, r = .returned (.tuple #[.slice A (l.length - 1) c, .bool true]) ∧ w'.ownsRow w.heap.size 44 1 (.slice A (l.length - 1) c) (l.length - 1) (u64s l.dropLast) ∧ Below w.heap.size w w'
  else r = .returned (.tuple #[.slice none 0 0, .bool false]) ∧ Below w.heap.size w w'
theorem HandsOpen.yes {w : World} {l : List Nat} {r : Ending} {w' : World} (h : HandsOpen w l r w') (ho : opens l = true) :
    ∃ A c, r = .returned (.tuple #[.slice A (l.length - 1) c, .bool true]) ∧ w'.ownsRow w.heap.size 44 1 (.slice A (l.length - 1) c) (l.length - 1) (u64s l.dropLast) ∧ Below w.heap.size w w' := by
  unfold HandsOpen at h; rwa [if_pos ho] at h
theorem HandsOpen.no {w : World} {l : List Nat} {r : Ending} {w' : World} (h : HandsOpen w l r w') (ho : ¬ opens l = true) :
    r = .returned (.tuple #[.slice none 0 0, .bool false]) ∧ Below w.heap.size w w' := by
  unfold HandsOpen at h; rwa [if_neg ho] at h

set_option maxHeartbeats 1000000 in
theorem refOpen_any (v : Value) (l : List Nat) (w : World) (h : Rd w v l.length (u64s l)) (hw : Wd l) (hl : l.length ≤ 65536) :
    Calls Tryd.prog 32 #[v] w (HandsOpen w l) := by
  by_cases hne : l = []
  · subst hne
    obtain ⟨A, c, rfl, h1, h2, h3⟩ := h
    clear h3
    go_enter Tryd.func32, Tryd.ntmps32
    go_wp2
    go_ret2
    unfold HandsOpen
    rw [if_neg (by rw [opens_nil]; decide)]
    exact ⟨rfl, Below.refl _ _⟩
  have hR := h
  obtain ⟨A, c, rfl, h1, h2, h3⟩ := h
  have hpos : 0 < l.length := List.length_pos_iff.2 hne
  obtain ⟨b, o, rfl, _⟩ := h3 0 _ (u64s_at hpos)
  have hz : ((l.length : Int) == 0) = false := by simp; omega
  have HR := Lib.hid hR
  have hRt : Rd w (.slice (some ⟨b, o, none⟩) (l.length - 1) c) (l.length - 1) (u64s l.dropLast) := by
    have := hR.take rfl (show l.length - 1 ≤ l.length by omega)
    rwa [u64s_take, ← List.dropLast_eq_take] at this
  have HRt := Lib.hid hRt
  have HW := Lib.hid hw
  have Hi := Lib.hid (opens_iff hne)
  clear h3 hR hRt hw hne
  obtain ⟨i0, hi, hz0, hz1, hz2⟩ := info_parts info64
  go_enter Tryd.func32, Tryd.ntmps32
  go_wp2_with (first
    | (at_builtin
       refine wpList_copy_rd rfl (.const (.slice none 0 0)) (.tmp 12) _ rfl 44 i0 _ 1 8 Tryd.underlying28 hi hz0 hz1 hz2 rfl (by decide) rfl (.slice (some ⟨b, o, none⟩) (l.length - 1) c) (l.length - 1) (u64s l.dropLast) rfl HRt.out (by rw [u64s_length]; simp) (u64s_one _) (by unfold maxLen; omega) (by omega) ?_
       intro A1 c1 w1 hown1 hb1
       have Hown1 := Lib.hid hown1
       clear hown1))
  have hdl : l.dropLast.length = l.length - 1 := List.length_dropLast
  refine (refSeal_any _ l.dropLast _ (by rw [hdl]; exact Rd.of_own Hown1.out) (dropLast_wd HW.out) (by rw [hdl]; omega)).mono ?_
  rintro e w2 ⟨A2, c2, rfl, hown2, hb2⟩
  rw [hdl, show l.length - 1 + 1 = l.length by omega] at hown2
  rw [hdl, show l.length - 1 + 1 = l.length by omega]
  have Hown2 := Lib.hid hown2
  clear hown2 hdl
  go_wp2_with fail
  refine (same_any _ _ (sealed l.dropLast) l _ (by rw [sealed_len, List.length_dropLast, show l.length - 1 + 1 = l.length by omega]; exact Rd.of_own Hown2.out) ((HR.out.below hb1).below hb2)).mono ?_
  rintro e w3 ⟨rfl, n, rfl⟩
  by_cases ho : opens l = true
  · have hd : decide (sealed l.dropLast = l) = true := by simpa using Hi.out.2 ho
    rw [hd]
    have Ho := Lib.hid ho
    clear hd ho
    go_wp2
    go_ret2
    unfold HandsOpen
    rw [if_pos Ho.out]
    refine ⟨A1, c1, rfl, ?_, ?_⟩
    · exact own_below (w' := w2.drewN n) Hown1.out (below_drewN hb2 n)
    · exact below_drewN (below_then hb1 hb2) n
  · have hd : decide (sealed l.dropLast = l) = false := by
      rw [decide_eq_false_iff_not]
      exact fun h => ho (Hi.out.1 h)
    rw [hd]
    have Ho := Lib.hid ho
    clear hd ho
    go_wp2
    go_ret2
    unfold HandsOpen
    rw [if_neg Ho.out]
    exact ⟨rfl, below_drewN (below_then hb1 hb2) n⟩
end Go.Proofs.YtnpmepklgakaiaaDoor
