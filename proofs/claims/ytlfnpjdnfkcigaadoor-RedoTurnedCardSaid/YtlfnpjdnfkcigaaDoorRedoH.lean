/- redo.Read. -/
import Derived.Test.YtlfnpjdnfkcigaaDoorRedoG
import Derived.Test.YtlfnpjdnfkcigaaDoorFaultTold
namespace Go.Proofs.YtlfnpjdnfkcigaaDoor
open Go.RowKit
set_option linter.unusedVariables false

/-- what redo.Read answers -/
def ReadOut (w : World) (s : List Nat) (e : Ending) (w' : World) : Prop :=
  (s.length ≠ 136 ∧ e = .returned (.tuple #[.slice none 0 0, .bool false, .iface 52 (.agg #[.int .i64 0, .int .i64 7])]) ∧ Below w.heap.size w w') ∨
  (s.length = 136 ∧ s.getD 0 0 = 0 ∧ e = .returned (.tuple #[.slice none 0 0, .bool false, .nilIface]) ∧ Below w.heap.size w w') ∨
  (s.length = 136 ∧ s.getD 0 0 ≠ 0 ∧ ¬ slotHas s (s.getD 0 0) ∧ e = .returned (.tuple #[.slice none 0 0, .bool false, .iface 52 (.agg #[.int .i64 0, .int .i64 7])]) ∧ Below w.heap.size w w') ∨
  (s.length = 136 ∧ s.getD 0 0 ≠ 0 ∧ slotHas s (s.getD 0 0) ∧ ∃ A cp, e = .returned (.tuple #[.slice A (s.getD 0 0 % 256) cp, .bool true, .nilIface]) ∧ w'.ownsRow w.heap.size 45 2 (.slice A (s.getD 0 0 % 256) cp) (s.getD 0 0 % 256) (rcells (entOf s (s.getD 0 0 % 256))) ∧ Below w.heap.size w w')

set_option maxRecDepth 100000 in
set_option maxHeartbeats 8000000 in
theorem Read_any (v : Value) (s : List Nat) (w : World) (hw : ∀ x ∈ s, x < 18446744073709551616) (hr : Rd w v s.length (u64s s)) :
    Calls Tryd.prog 19 #[v] w (ReadOut w s) := by
  have HR := Lib.hid hr
  have HW := Lib.hid hw
  obtain ⟨A, cp, rfl, h1, h2, h3⟩ := hr
  unfold maxLen at h2
  clear h3 hw
  by_cases hs : s.length = 136
  · have h0 : 0 < s.length := by omega
    obtain ⟨b, o, rfl, q0⟩ := HR.out.at_ (u64s_at (l := s) (k := 0) h0)
    rw [Nat.add_zero] at q0
    have HE := Lib.hid (entries_any _ s w hs HW.out HR.out (s[0]) rfl)
    have hgd : s.getD 0 0 = s[0] := by simp [List.getD, h0]
    generalize hc : s[0] = c at *
    have Hgd := Lib.hid hgd
    have Hs := Lib.hid hs
    rw [hs]
    rw [hs] at HE
    clear hc hgd h1 HR
    by_cases hz : c = 0
    · subst hz
      clear hs h0
      go_enter Tryd.func19, Tryd.ntmps19
      go_wp2
      go_ret3
      exact .inr (.inl ⟨Hs.out, Hgd.out, rfl, Below.refl _ _⟩)
    · have hne : ((c : Int) == 0) = false := by simp; omega
      have Hz := Lib.hid hz
      clear hs h0 hz
      go_enter Tryd.func19, Tryd.ntmps19
      go_wp2_with fail
      refine HE.out.mono ?_
      rintro e w1 (⟨hyes, A2, c2, rfl, ho, hb⟩ | ⟨hno, rfl, hb⟩)
      · have Hy := Lib.hid hyes
        have Ho := Lib.hid ho
        have Hb := Lib.hid hb
        clear hyes ho hb
        go_wp2_with fail
        refine (is_nil 7 _).mono ?_
        rintro e w2 ⟨rfl, rfl⟩
        go_wp2
        go_ret3
        refine .inr (.inr (.inr ⟨Hs.out, by rw [Hgd.out]; exact Hz.out, by rw [Hgd.out]; exact Hy.out, ?_⟩))
        rw [Hgd.out]
        exact ⟨_, _, rfl, Ho.out, Hb.out⟩
      · have Hn := Lib.hid hno
        have Hb := Lib.hid hb
        clear hno hb
        go_wp2_with fail
        refine (is_errno 7 _).mono ?_
        rintro e w2 ⟨rfl, rfl⟩
        go_wp2
        go_ret3
        exact .inr (.inr (.inl ⟨Hs.out, by rw [Hgd.out]; exact Hz.out, by rw [Hgd.out]; exact Hn.out, rfl, Hb.out⟩))
  · have hd : ((s.length : Int) != 136) = true := by simp; omega
    have Hs := Lib.hid hs
    clear hs
    go_enter Tryd.func19, Tryd.ntmps19
    go_wp2
    go_ret3
    exact .inl ⟨Hs.out, rfl, Below.refl _ _⟩
end Go.Proofs.YtlfnpjdnfkcigaaDoor
