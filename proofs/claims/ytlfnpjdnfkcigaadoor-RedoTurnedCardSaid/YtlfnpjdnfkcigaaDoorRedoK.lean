/- Calls of chapter 16 in the words that its walks use. -/
import Derived.Test.YtlfnpjdnfkcigaaDoorRedoAlive
namespace Go.Proofs.YtlfnpjdnfkcigaaDoor
open Go.RowKit
set_option linter.unusedVariables false
set_option maxRecDepth 100000

/-- 'append([]api.Redo(nil), s...)' -/
theorem copyR {ops : Array Oper} {rest : List Oper} {o : Oper} {a : Act} {w : World} {Q : Exit → Act → World → Prop} (hw : Region.wanted o (yielded ops a.tmps) = true) (s x : Operand)
    (ho : o.op = .call { callee := .builtin .append, args := #[s, x], argTypes := #[22, 22] }) (hs : a.eval s = .slice none 0 0)
    (u : Value) (l : List Rdo) (m : Nat) (hm : l.length = m) (hx : a.eval x = u) (hr : Rd w u m (rcells l)) (hb : m ≤ 65536)
    (h : ∀ A c w', w'.ownsRow w.heap.size 45 2 (.slice A m c) m (rcells l) → Below w.heap.size w w' → wpList Tryd.prog ops Q rest (a.put o.dst (.slice A m c)) w') : wpList Tryd.prog ops Q (o :: rest) a w := by
  obtain ⟨i0, hi, hz0, hz1, hz2⟩ := info_parts infoR
  exact wpList_copy_rd hw s x _ ho 45 i0 _ 2 16 Tryd.underlying22 hi hz0 hz1 hz2 rfl (by decide) hs u m (rcells l) hx hr (by rw [rcells_length, hm]) (rcells_oneCell l) (by unfold maxLen; omega) (by omega) h
/-- what Lay answers, the body's length by a letter -/
theorem Lay_n (v : Value) (l : List Rdo) (m : Nat) (hm : l.length * 2 = m) (w : World) (hr : Rd w v l.length (rcells l)) (ho : ∀ r ∈ l, OkR r) :
    Calls Tryd.prog 10 #[v] w fun e w' =>
      (mayE l = 0 ∧ ∃ A c, e = .returned (.tuple #[.slice A m c, .int .u64 (rcommit l : Nat), .int .i64 0]) ∧ w'.ownsRow w.heap.size 26 1 (.slice A m c) m (u64s (rbody l)) ∧ Below w.heap.size w w') ∨
      (mayE l ≠ 0 ∧ e = .returned (.tuple #[.slice none 0 0, .int .u64 0, .int .i64 (mayE l)]) ∧ Below w.heap.size w w') := by
  subst hm
  exact Lay_any v l w hr ho
/-- what is read of a slot in which a list stands -/
theorem Read_laid (v : Value) (s : List Nat) (l : List Rdo) (w : World) (hs : s.length = 136) (hw : ∀ x ∈ s, x < 18446744073709551616) (hr : Rd w v 136 (u64s s))
    (h0 : s.getD 0 0 = rcommit l) (h : ∀ i (hi : i < l.length), s.getD (8 + 2 * i) 0 = l[i].a.toNat ∧ s.getD (9 + 2 * i) 0 = l[i].w) (hm : mayE l = 0) :
    Calls Tryd.prog 19 #[v] w fun e w' => ∃ A cp, e = .returned (.tuple #[.slice A l.length cp, .bool true, .nilIface]) ∧ w'.ownsRow w.heap.size 45 2 (.slice A l.length cp) l.length (rcells l) ∧ Below w.heap.size w w' := by
  obtain ⟨hl, hm⟩ := mayE_ok.1 hm
  have hh : SlotList s := ⟨hs, by rw [h0]; exact rcommit_pos l, by rw [h0]; exact slotHas_laid h hm hl⟩
  refine (Read_three v s w hw (by rw [hs]; exact hr)).mono ?_
  rintro e w' (⟨hk, _⟩ | ⟨hk, _⟩ | ⟨_, A, cp, e1, e2, e3⟩)
  · exact (not_bad_list hk hh).elim
  · exact (not_none_list hk hh).elim
  · rw [h0, rcommit_mod hl] at e1 e2
    rw [(entOf_laid h hm).1] at e2
    exact ⟨A, cp, e1, e2, e3⟩
end Go.Proofs.YtlfnpjdnfkcigaaDoor
