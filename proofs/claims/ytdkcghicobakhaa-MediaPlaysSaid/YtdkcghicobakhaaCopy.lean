/- Rows of words that a call copies, cuts, hands back. -/
import Derived.Test.YtdkcghicobakhaaTypes
import Derived.Laws.CopyOwn
namespace Go.Proofs.Ytdkcghicobakhaa
open Go.RowKit
set_option linter.unusedVariables false
set_option maxRecDepth 100000

/-- what a call hands back that is a row of its own -/
def Hands (w : World) (e : TypeId) (size n : Nat) (xs : List Value) (r : Ending) (w' : World) : Prop :=
  ∃ A c, r = .returned (.slice A n c) ∧ w'.ownsRow w.heap.size e size (.slice A n c) n xs ∧ Below w.heap.size w w'

/-- 'append([]uint64(nil), s...)' -/
theorem copy64 {ops : Array Oper} {rest : List Oper} {o : Oper} {a : Act} {w : World} {Q : Exit → Act → World → Prop} (hw : Region.wanted o (yielded ops a.tmps) = true) (s x : Operand)
    (ho : o.op = .call { callee := .builtin .append, args := #[s, x], argTypes := #[50, 50] }) (hs : a.eval s = .slice none 0 0)
    (u : Value) (l : List Nat) (m : Nat) (hm : l.length = m) (hx : a.eval x = u) (hr : Rd w u m (u64s l)) (hb : m ≤ 4294967296)
    (h : ∀ A c w', w'.ownsRow w.heap.size 32 1 (.slice A m c) m (u64s l) → Below w.heap.size w w' → wpList Try.prog ops Q rest (a.put o.dst (.slice A m c)) w') : wpList Try.prog ops Q (o :: rest) a w := by
  obtain ⟨i0, hi, hz0, hz1, hz2⟩ := info_parts info64
  exact wpList_copy_rd hw s x _ ho 32 i0 _ 1 8 Try.underlying50 hi hz0 hz1 hz2 rfl (by decide) hs u m (u64s l) hx hr (by rw [u64s_length, hm, Nat.mul_one]) (u64s_one l) (by unfold maxLen; omega) (by omega) h

/-- the same as one step of a region that draws its order -/
theorem step_copy64 {ops : Array Oper} {o : Oper} {a : Act} {w : World} {K : Act → World → Prop} {Q : Exit → Act → World → Prop} {E : Prop} (hw : Region.wanted o (yielded ops a.tmps) = true) (s x : Operand)
    (ho : o.op = .call { callee := .builtin .append, args := #[s, x], argTypes := #[50, 50] }) (hs : a.eval s = .slice none 0 0)
    (u : Value) (l : List Nat) (m : Nat) (hm : l.length = m) (hx : a.eval x = u) (hr : Rd w u m (u64s l)) (hb : m ≤ 4294967296)
    (h : ∀ A c w', w'.ownsRow w.heap.size 32 1 (.slice A m c) m (u64s l) → Below w.heap.size w w' → K (a.put o.dst (.slice A m c)) w') :
    if Region.wanted o (yielded ops a.tmps) = true then Oper.wp Try.prog o a w K Q else E := by
  rw [if_pos hw]
  obtain ⟨i0, hi, hz0, hz1, hz2⟩ := info_parts info64
  refine wp_append_rd s x _ ho w.heap.size 32 i0 _ 1 8 Try.underlying50 hi hz0 hz1 hz2 rfl (by decide) (.slice none 0 0) 0 [] hs (World.ownsRow_nil _ _ _ _) u m (u64s l) hx hr (by rw [u64s_length, hm, Nat.mul_one]) (u64s_one l) (by unfold maxLen; omega) (by omega) (Nat.le_refl _)
    (fun A c w' h2 h3 => ?_)
  rw [Nat.zero_add, List.nil_append] at h2
  rw [Nat.zero_add]
  exact h A c w' h2 ((Below.refl _ _).grown h3 (Nat.le_refl _) (by simp [Value.ownBlock]))
/-- 's[:n]' -/
theorem slice_to (A : Option Addr) (len c n : Nat) (h : n ≤ c) (w : World) : (Instr.slice 50 (.slice A len c) none (some (.int .i64 (n : Int))) none).run Try.prog w = .ok (.slice A n c) w := by
  have he : Try.prog.elem 50 = 32 := by kernel_rfl
  have ht : Try.prog.underlying 50 = some (.slice (Try.prog.elem 50)) := by rw [he]; exact Try.underlying50
  obtain ⟨i0, hi, hz0, hz1, hz2⟩ := info_parts info64
  rw [run_slice_h _ _ A len c ht .i64 n (by omega) (by omega), he]
  have hs : (sizeOf 32).run Try.prog w = .ok 1 w := by simp [sizeOf, typeInfo, hi, hz1]
  rw [hs]
  simp only [Result.andThen, sliced, Nat.zero_mul, Int.toNat_natCast, Nat.sub_zero]
  cases A <;> simp [Addr.add]

/-- 'copy(row, l)', both of n words, row the call's own -/
theorem copy_over64 {ops : Array Oper} {rest : List Oper} {o : Oper} {a : Act} {w : World} {Q : Exit → Act → World → Prop} (hgd : o.guard = none) (d s : Operand)
    (ho : o.op = .call { callee := .builtin .copy, args := #[d, s], argTypes := #[50, 50] })
    (B g n : Nat) (w0 : World) (xs : List Value) (l : List Nat) (u : Value) (hd : a.eval d = .slice (some ⟨g, 0, none⟩) n n) (hown : w.ownsRow B 32 1 (.slice (some ⟨g, 0, none⟩) n n) n xs)
    (hs : a.eval s = u) (hl : l.length = n) (hr : Rd w u n (u64s l)) (hb : Below B w0 w) (hBg : B ≤ g)
    (h : ∀ w', w'.ownsRow B 32 1 (.slice (some ⟨g, 0, none⟩) n n) n (u64s l) → Below B w0 w' → wpList Try.prog ops Q rest (a.put o.dst (goInt n)) w') : wpList Try.prog ops Q (o :: rest) a w := by
  obtain ⟨i0, hi, hz0, hz1, hz2⟩ := info_parts info64
  obtain ⟨A, c, rfl, hnc, hcm, hcell⟩ := hr
  obtain ⟨hxl, h2⟩ := hown
  rcases h2 with ⟨hv, _⟩ | ⟨g', cap, cur, hv, hBg', hh, hcn, hcm', hcs, htake⟩
  · cases hv
  · injection hv with e1 e2 e3
    injection e1 with e1
    injection e1 with e1 _
    subst e1; subst e3
    have hlen : (u64s l).length = n := by rw [u64s_length, hl]
    refine wpList_copy_splice hgd d s _ _ ho 32 Try.underlying50 (by rw [hi]; simp [hz1]) _ A n n n c hd hs g 0 cur.toList 32 (by simpa using hh) (u64s l) (by rw [hlen]; simp) (fun hpos => ⟨rfl, ?_⟩) (by rw [hlen, Array.length_toList, hcs]; omega) (u64s_one l) B w0 hb hBg (fun w' hw' hb' => ?_)
    · obtain ⟨b, o', hA, _⟩ := hcell 0 _ (List.getElem?_eq_getElem hpos)
      refine ⟨_, hA, fun j v hv => ?_⟩
      obtain ⟨b2, o2, hA2, hc2⟩ := hcell j v hv
      rw [hA] at hA2
      injection hA2 with hA2
      injection hA2 with e4 e5
      subst e4; subst e5
      rw [Addr.add_lit]
      exact hc2
    · rw [hlen]
      refine h w' ⟨by rw [hlen, Nat.mul_one], .inr ⟨g, n, _, rfl, hBg, hw'.out, Nat.le_refl _, hcm', ?_, ?_⟩⟩ hb'
      · simp only [splice, List.size_toArray, List.length_append, List.length_take, List.length_drop, Array.length_toList, hcs, hlen]
        omega
      · simp only [splice, List.take_zero, List.nil_append, Nat.zero_add, hlen]
        rw [Nat.mul_one, List.take_append_of_le_length (by rw [hlen]; omega), List.take_of_length_le (by rw [hlen]; omega)]
theorem made64 (n : Nat) : (madeCells (Value.int .u64 0).cells (n * 1)).toList = u64s (List.replicate n 0) := by
  rw [Nat.mul_one]
  apply List.ext_getElem?
  intro i
  simp only [madeCells, Value.cells, u64s]
  by_cases h : i < n
  · simp [h, Nat.mod_one]
  · simp [h]
/-- the same as the builtin's run -/
theorem run_over64 (ty : TypeId) (B g n : Nat) (w0 w : World) (xs : List Value) (l : List Nat) (u : Value) (hown : w.ownsRow B 32 1 (.slice (some ⟨g, 0, none⟩) n n) n xs)
    (hl : l.length = n) (hr : Rd w u n (u64s l)) (hb : Below B w0 w) (hBg : B ≤ g) :
    ∃ w', (Builtin.copy_ #[50, 50] ty #[.slice (some ⟨g, 0, none⟩) n n, u]).run Try.prog w = .ok (goInt n) w' ∧ w'.ownsRow B 32 1 (.slice (some ⟨g, 0, none⟩) n n) n (u64s l) ∧ Below B w0 w' := by
  obtain ⟨i0, hi, hz0, hz1, hz2⟩ := info_parts info64
  obtain ⟨A, c, rfl, hnc, hcm, hcell⟩ := hr
  have hsz : (Try.prog.info? 32).map (·.size) = some 1 := by rw [hi]; simp [hz1]
  obtain ⟨hxl, h2⟩ := hown
  rcases h2 with ⟨hv, _⟩ | ⟨g', cap, cur, hv, hBg', hh, hcn, hcm', hcs, htake⟩
  · cases hv
  · injection hv with e1 e2 e3
    injection e1 with e1
    injection e1 with e1 _
    subst e1; subst e3
    have hlen : (u64s l).length = n := by rw [u64s_length, hl]
    by_cases h0 : n = 0
    · subst h0
      refine ⟨w, run_copy_none (P := Try.prog) w _ _ ty 32 (some ⟨g, 0, none⟩) A 0 0 0 c Try.underlying50 hsz rfl, ?_, hb⟩
      have e : u64s l = [] := List.eq_nil_of_length_eq_zero hlen
      rw [e]
      exact ⟨rfl, .inr ⟨g, 0, cur, rfl, hBg, hh, Nat.le_refl _, hcm', hcs, by simp⟩⟩
    · obtain ⟨b, o', hA, _⟩ := hcell 0 _ (List.getElem?_eq_getElem (by rw [hlen]; omega))
      subst hA
      have hrun := run_copy_row (P := Try.prog) w 50 50 ty 32 g 0 n n ⟨b, o', none⟩ n c cur 32 (u64s l) Try.underlying50 hsz hh (by rw [hlen]; simp) (fun j v hv => by
        obtain ⟨b2, o2, hA2, hc2⟩ := hcell j v hv
        injection hA2 with hA2
        injection hA2 with e4 e5
        subst e4; subst e5
        rw [Addr.add_lit]
        exact hc2) (by rw [hlen, hcs]; omega) (u64s_one l)
      rw [hlen] at hrun
      refine ⟨_, hrun, ⟨by rw [hlen, Nat.mul_one], .inr ⟨g, n, _, rfl, hBg, setRow_heap w g _ _ 32 _ hh, Nat.le_refl _, hcm', ?_, ?_⟩⟩, below_setRow hb hBg _⟩
      · simp only [List.size_toArray, List.length_append, List.length_take, List.length_drop, Array.length_toList, hcs, hlen]
        omega
      · simp only [List.take_zero, List.nil_append, Nat.zero_add]
        rw [Nat.mul_one, List.take_append_of_le_length (by rw [hlen]; omega), List.take_of_length_le (by rw [hlen]; omega)]
end Go.Proofs.Ytdkcghicobakhaa
