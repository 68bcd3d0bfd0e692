/- slices.Clone at rows of words: a row of the call's own, alike. -/
import Derived.Test.YtlhomllcklfieaaTypes
namespace Go.Proofs.Ytlhomllcklfieaa
open Go.RowKit
set_option linter.unusedVariables false

/-- what a call hands back that is a row of its own -/
def Hands (w : World) (e : TypeId) (size n : Nat) (xs : List Value) (r : Ending) (w' : World) : Prop :=
  ∃ A c, r = .returned (.slice A n c) ∧ w'.ownsRow w.heap.size e size (.slice A n c) n xs ∧ Below w.heap.size w w'

/-- 'append([]uint64(nil), s...)' -/
theorem copy64 {ops : Array Oper} {rest : List Oper} {o : Oper} {a : Act} {w : World} {Q : Exit → Act → World → Prop} (hw : Region.wanted o (yielded ops a.tmps) = true) (s x : Operand)
    (ho : o.op = .call { callee := .builtin .append, args := #[s, x], argTypes := #[23, 23] }) (hs : a.eval s = .slice none 0 0)
    (u : Value) (l : List Nat) (m : Nat) (hm : l.length = m) (hx : a.eval x = u) (hr : Rd w u m (u64s l)) (hb : m ≤ 4294967296)
    (h : ∀ A c w', w'.ownsRow w.heap.size 36 1 (.slice A m c) m (u64s l) → Below w.heap.size w w' → wpList Try.prog ops Q rest (a.put o.dst (.slice A m c)) w') : wpList Try.prog ops Q (o :: rest) a w := by
  obtain ⟨i0, hi, hz0, hz1, hz2⟩ := info_parts info64
  exact wpList_copy_rd hw s x _ ho 36 i0 _ 1 8 Try.underlying23 hi hz0 hz1 hz2 rfl (by decide) hs u m (u64s l) hx hr (by rw [u64s_length, hm, Nat.mul_one]) (u64s_one l) (by unfold maxLen; omega) (by omega) h

/-- the same as one step of a region that draws its order -/
theorem step_copy64 {ops : Array Oper} {o : Oper} {a : Act} {w : World} {K : Act → World → Prop} {Q : Exit → Act → World → Prop} {E : Prop} (hw : Region.wanted o (yielded ops a.tmps) = true) (s x : Operand)
    (ho : o.op = .call { callee := .builtin .append, args := #[s, x], argTypes := #[23, 23] }) (hs : a.eval s = .slice none 0 0)
    (u : Value) (l : List Nat) (m : Nat) (hm : l.length = m) (hx : a.eval x = u) (hr : Rd w u m (u64s l)) (hb : m ≤ 4294967296)
    (h : ∀ A c w', w'.ownsRow w.heap.size 36 1 (.slice A m c) m (u64s l) → Below w.heap.size w w' → K (a.put o.dst (.slice A m c)) w') :
    if Region.wanted o (yielded ops a.tmps) = true then Oper.wp Try.prog o a w K Q else E := by
  rw [if_pos hw]
  obtain ⟨i0, hi, hz0, hz1, hz2⟩ := info_parts info64
  refine wp_append_rd s x _ ho w.heap.size 36 i0 _ 1 8 Try.underlying23 hi hz0 hz1 hz2 rfl (by decide) (.slice none 0 0) 0 [] hs (World.ownsRow_nil _ _ _ _) u m (u64s l) hx hr (by rw [u64s_length, hm, Nat.mul_one]) (u64s_one l) (by unfold maxLen; omega) (by omega) (Nat.le_refl _)
    (fun A c w' h2 h3 => ?_)
  rw [Nat.zero_add, List.nil_append] at h2
  rw [Nat.zero_add]
  exact h A c w' h2 ((Below.refl _ _).grown h3 (Nat.le_refl _) (by simp [Value.ownBlock]))
/-- 's[:n]' -/
theorem slice_to (A : Option Addr) (len c n : Nat) (h : n ≤ c) (w : World) : (Instr.slice 23 (.slice A len c) none (some (.int .i64 (n : Int))) none).run Try.prog w = .ok (.slice A n c) w := by
  have he : Try.prog.elem 23 = 36 := by kernel_rfl
  have ht : Try.prog.underlying 23 = some (.slice (Try.prog.elem 23)) := by rw [he]; exact Try.underlying23
  obtain ⟨i0, hi, hz0, hz1, hz2⟩ := info_parts info64
  rw [run_slice_h _ _ A len c ht .i64 n (by omega) (by omega), he]
  have hs : (sizeOf 36).run Try.prog w = .ok 1 w := by simp [sizeOf, typeInfo, hi, hz1]
  rw [hs]
  simp only [Result.andThen, sliced, Nat.zero_mul, Int.toNat_natCast, Nat.sub_zero]
  cases A <;> simp [Addr.add]

set_option maxHeartbeats 1000000 in
theorem clone_any (v : Value) (l : List Nat) (w : World) (h : Rd w v l.length (u64s l)) (hl : l.length ≤ 4294967296) :
    Calls Try.prog 24 #[v] w (Hands w 36 1 l.length (u64s l)) := by
  have hR := h
  obtain ⟨A, c, rfl, h1, h2, h3⟩ := h
  cases A with
  | none =>
    have hn : l = [] := by
      cases l with
      | nil => rfl
      | cons u r => obtain ⟨b, o, hA, _⟩ := h3 0 _ rfl; cases hA
    subst hn
    have hE := fun (w : World) => Lib.run_eql_slice_nil (P := Try.prog) w 23 36 none 0 c 0 0 Try.underlying23
    clear h3 hR
    go_enter Try.func24, Try.ntmps24
    go_wp2
    go_ret
    exact ⟨_, _, rfl, World.ownsRow_nil _ _ _ _, Below.refl _ _⟩
  | some ad =>
    have hE := fun (w : World) => Lib.run_eql_slice_nil (P := Try.prog) w 23 36 (some ad) l.length c 0 0 Try.underlying23
    obtain ⟨i0, hi, hz0, hz1, hz2⟩ := info_parts info64
    have HR := Lib.hid hR
    clear hR h3
    go_enter Try.func24, Try.ntmps24
    go_wp2_with (at_builtin; refine wpList_append_rd rfl (.tmp 5) (.tmp 6) _ rfl w.heap.size 36 i0 _ 1 8 Try.underlying23 hi hz0 hz1 hz2 rfl (by decide) (.slice (some ⟨w.heap.size, 0, none⟩) 0 0) 0 [] rfl (World.ownsRow_made w _ 0 (Nat.le_refl _) (Nat.zero_le _) rfl) _ l.length (u64s l) rfl (HR.out.alloc _) (by rw [u64s_length, Nat.mul_one]) (u64s_one l) (by unfold maxLen; omega) (by omega) (by simp) ?_; intro A1 c1 w1 hown1 hg1)
    go_ret
    simp only [Nat.zero_add, List.nil_append] at hown1
    refine ⟨A1, c1, rfl, hown1, ?_⟩
    refine ((Below.refl _ _).alloc (Nat.le_refl _) _).grown hg1 (by simp) (fun k hk => ?_)
    simp [Value.ownBlock] at hk
    omega
end Go.Proofs.Ytlhomllcklfieaa
