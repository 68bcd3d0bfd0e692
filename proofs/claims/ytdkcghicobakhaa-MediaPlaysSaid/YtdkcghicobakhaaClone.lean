/- slices.Clone at rows of words: a row of the call's own, alike. -/
import Derived.Test.YtdkcghicobakhaaCopy
namespace Go.Proofs.Ytdkcghicobakhaa
open Go.RowKit
set_option linter.unusedVariables false
set_option maxRecDepth 100000

set_option maxRecDepth 100000 in
set_option maxHeartbeats 1000000 in
theorem clone_any (v : Value) (l : List Nat) (w : World) (h : Rd w v l.length (u64s l)) (hl : l.length ≤ 4294967296) :
    Calls Try.prog 38 #[v] w (Hands w 32 1 l.length (u64s l)) := by
  have hR := h
  obtain ⟨A, c, rfl, h1, h2, h3⟩ := h
  cases A with
  | none =>
    have hn : l = [] := by
      cases l with
      | nil => rfl
      | cons u r => obtain ⟨b, o, hA, _⟩ := h3 0 _ rfl; cases hA
    subst hn
    have hE := fun (w : World) => Lib.run_eql_slice_nil (P := Try.prog) w 50 32 none 0 c 0 0 Try.underlying50
    clear h3 hR
    go_enter Try.func38, Try.ntmps38
    go_wp2
    go_ret
    exact ⟨_, _, rfl, World.ownsRow_nil _ _ _ _, Below.refl _ _⟩
  | some ad =>
    have hE := fun (w : World) => Lib.run_eql_slice_nil (P := Try.prog) w 50 32 (some ad) l.length c 0 0 Try.underlying50
    obtain ⟨i0, hi, hz0, hz1, hz2⟩ := info_parts info64
    have HR := Lib.hid hR
    clear hR h3
    go_enter Try.func38, Try.ntmps38
    go_wp2_with (at_builtin; refine wpList_append_rd rfl (.tmp 5) (.tmp 6) _ rfl w.heap.size 32 i0 _ 1 8 Try.underlying50 hi hz0 hz1 hz2 rfl (by decide) (.slice (some ⟨w.heap.size, 0, none⟩) 0 0) 0 [] rfl (World.ownsRow_made w _ 0 (Nat.le_refl _) (Nat.zero_le _) rfl) _ l.length (u64s l) rfl (HR.out.alloc _) (by rw [u64s_length, Nat.mul_one]) (u64s_one l) (by unfold maxLen; omega) (by omega) (by simp) ?_; intro A1 c1 w1 hown1 hg1)
    go_ret
    simp only [Nat.zero_add, List.nil_append] at hown1
    refine ⟨A1, c1, rfl, hown1, ?_⟩
    refine ((Below.refl _ _).alloc (Nat.le_refl _) _).grown hg1 (by simp) (fun k hk => ?_)
    simp [Value.ownBlock] at hk
    omega
end Go.Proofs.Ytdkcghicobakhaa
