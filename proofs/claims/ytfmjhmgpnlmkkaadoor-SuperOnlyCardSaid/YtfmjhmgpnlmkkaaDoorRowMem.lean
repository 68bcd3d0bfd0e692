/- Rows of the call's own that bear more behind their cap than they say ('xs[:0:n]'); which blocks a call may turn. Over any program. -/
import Derived.Test.YtfmjhmgpnlmkkaaDoorMem
namespace Go.Proofs.YtfmjhmgpnlmkkaaDoor
set_option linter.unusedVariables false
open Go.RowKit

/-- 'w'' is 'w' but for the blocks in S, and new ones -/
structure Touch (S : Nat → Prop) (w w' : World) : Prop where
  os : w'.os = w.os
  tape : w'.tape = w.tape
  output : w'.output = w.output
  size : w.heap.size ≤ w'.heap.size
  block : ∀ b, b < w.heap.size → ¬ S b → w'.heap[b]? = w.heap[b]?
section
variable {S T : Nat → Prop} {w w' w'' : World}
theorem Touch.refl (S : Nat → Prop) (w : World) : Touch S w w := ⟨rfl, rfl, rfl, Nat.le_refl _, fun _ _ _ => rfl⟩
theorem Touch.trans (h : Touch S w w') (k : Touch T w' w'') (hst : ∀ b, T b → S b ∨ w.heap.size ≤ b) : Touch S w w'' :=
  ⟨k.os.trans h.os, k.tape.trans h.tape, k.output.trans h.output, Nat.le_trans h.size k.size, fun b hb hn =>
    (k.block b (Nat.lt_of_lt_of_le hb h.size) (fun ht => (hst b ht).elim hn (fun h1 => by omega))).trans (h.block b hb hn)⟩
theorem Touch.weaken (h : Touch S w w') (hst : ∀ b, S b → T b ∨ w.heap.size ≤ b) : Touch T w w' :=
  ⟨h.os, h.tape, h.output, h.size, fun b hb hn => h.block b hb (fun hs => (hst b hs).elim hn (fun h1 => by omega))⟩
theorem Touch.below {B : Nat} (h : Touch S w w') (hB : B ≤ w.heap.size) (hs : ∀ b, S b → B ≤ b) : Below B w w' :=
  ⟨h.os, h.tape, h.output, h.size, fun b hb => h.block b (Nat.lt_of_lt_of_le hb hB) (fun hh => by have := hs b hh; omega)⟩
theorem Touch.of_below (h : Below w.heap.size w w') : Touch S w w' := ⟨h.os, h.tape, h.output, h.size, fun b hb _ => h.block b hb⟩
theorem Touch.alloc (h : Touch S w w') (o : Obj) : Touch S w (w'.alloc o) :=
  ⟨h.os, h.tape, h.output, by rw [World.size_alloc]; have := h.size; omega, fun b hb hn => (heap_alloc_old w' o (Nat.lt_of_lt_of_le hb h.size)).trans (h.block b hb hn)⟩
theorem Touch.drew (h : Touch S w w') : Touch S w w'.drew := ⟨h.os, h.tape, h.output, h.size, h.block⟩
theorem Touch.drewN (h : Touch S w w') (k : Nat) : Touch S w (w'.drewN k) := ⟨h.os, h.tape, h.output, h.size, h.block⟩
theorem Touch.setCell (h : Touch S w w') (p : Addr) (hp : S p.block ∨ w.heap.size ≤ p.block) (v : Value) : Touch S w (w'.setCell p v) :=
  ⟨h.os, h.tape, h.output, by rw [World.size_setCell]; exact h.size, fun b hb hn =>
    (Below.heap_setCell w' p v b (fun e => hp.elim (fun h1 => hn (e ▸ h1)) (fun h1 => by omega))).trans (h.block b hb hn)⟩
theorem Touch.cell (h : Touch S w w') {b o : Nat} {v : Value} (hn : ¬ S b) (hc : w.cell? ⟨b, o, none⟩ = some v) : w'.cell? ⟨b, o, none⟩ = some v :=
  (World.cell?_of_block (h.block b (World.block_lt_of_cell? w ⟨b, o, none⟩ hc) hn)).trans hc
end
theorem Rd.touch {S : Nat → Prop} {w w' : World} {v : Value} {n : Nat} {xs : List Value} (h : Rd w v n xs) (ht : Touch S w w') (hs : ∀ b o c, v = .slice (some ⟨b, o, none⟩) n c → ¬ S b) : Rd w' v n xs := by
  obtain ⟨A, c, hv, h1, h2, h3⟩ := h
  refine ⟨A, c, hv, h1, h2, fun j u hu => ?_⟩
  obtain ⟨b, o, hA, hc⟩ := h3 j u hu
  subst hA
  exact ⟨b, o, rfl, ht.cell (hs b o c hv) hc⟩

theorem Rd.newAt (W : World) (H : Nat) (hH : W.heap.size = H) (cs : List Value) (e : TypeId) (h : cs.length ≤ 65536) (n : Nat) (hn : n ≤ 65536) : Rd (W.alloc (.cells cs.toArray e)) (.slice (some ⟨H, 0, none⟩) n n) n cs := by
  subst hH
  exact Rd.new W cs e h n hn
/-- a row of the call's own in block b -/
def Row (w : World) (b : Nat) (e : TypeId) (size : Nat) (v : Value) (n : Nat) (xs : List Value) : Prop :=
  xs.length = n * size ∧ ∃ (cap : Nat) (cur : Array Value), v = .slice (some ⟨b, 0, none⟩) n cap ∧ w.heap[b]? = some (.cells cur e (0, 0)) ∧ n ≤ cap ∧ cap ≤ maxLen ∧ cap * size ≤ cur.size ∧ cur.toList.take (n * size) = xs
section
variable {w w' : World} {b : Nat} {e : TypeId} {size : Nat} {v : Value} {n : Nat} {xs : List Value}
theorem Row.lt (h : Row w b e size v n xs) : b < w.heap.size := by
  obtain ⟨_, cap, cur, _, hg, _⟩ := h
  exact (Array.getElem?_eq_some_iff.1 hg).1
theorem Row.form (h : Row w b e size v n xs) : ∃ c, v = .slice (some ⟨b, 0, none⟩) n c := by
  obtain ⟨_, cap, cur, hv, _⟩ := h
  exact ⟨cap, hv⟩
theorem Row.kept (h : Row w b e size v n xs) (hb : w'.heap[b]? = w.heap[b]?) : Row w' b e size v n xs := by
  obtain ⟨hl, cap, cur, hv, hg, r⟩ := h
  exact ⟨hl, cap, cur, hv, hb.trans hg, r⟩
theorem Row.ne {b' : Nat} {e' : TypeId} {size' : Nat} {v' : Value} {n' : Nat} {xs' : List Value} (h : Row w b e size v n xs) (h' : Row w b' e' size' v' n' xs') (he : e ≠ e') : b ≠ b' := by
  obtain ⟨_, _, _, _, hg, _⟩ := h
  obtain ⟨_, _, _, _, hg', _⟩ := h'
  intro hb
  subst hb
  rw [hg] at hg'
  injection hg' with hg'
  injection hg' with _ ht
  exact he ht
theorem Row.ne_block {g : Nat} {cs : Array Value} {t : TypeId} {fr : Nat × Nat} (h : Row w b e size v n xs) (hg' : w.heap[g]? = some (.cells cs t fr)) (he : e ≠ t) : b ≠ g := by
  obtain ⟨_, _, _, _, hg, _⟩ := h
  intro hb
  subst hb
  rw [hg] at hg'
  injection hg' with hg'
  injection hg' with _ ht
  exact he ht
theorem Row.rd (h : Row w b e size v n xs) : Rd w v n xs := by
  obtain ⟨hl, cap, cur, hv, hg, hn, hc, hs, ht⟩ := h
  refine ⟨_, cap, hv, hn, hc, fun j u hu => ⟨b, 0, rfl, ?_⟩⟩
  rw [Nat.zero_add, cell_of_row w b j cur e (0, 0) hg]
  rw [← ht, List.getElem?_take] at hu
  split at hu
  · simpa using hu
  · cases hu
theorem Row.cell (h : Row w b e size v n xs) {j : Nat} {u : Value} (hu : xs[j]? = some u) : w.cell? ⟨b, j, none⟩ = some u := by
  obtain ⟨c, hv⟩ := h.form
  obtain ⟨b', o', hA, hc⟩ := (hv ▸ h.rd : Rd w (.slice (some ⟨b, 0, none⟩) n c) n xs).at_ hu
  injection hA with hA
  injection hA with e1 e2
  subst e1; subst e2
  rwa [Nat.zero_add] at hc
theorem Row.frozen (h : Row w b e size v n xs) (j : Nat) : w.frozen? ⟨b, j, none⟩ = false := by
  obtain ⟨hl, cap, cur, hv, hg, _⟩ := h
  simp [World.frozen?, hg]
theorem Row.stored (h : Row w b e size v n xs) (j : Nat) (u : Value) : Row (w.setCell ⟨b, j, none⟩ u) b e size v n (xs.set j u) := by
  obtain ⟨hl, cap, cur, hv, hg, hn, hc, hs, ht⟩ := h
  refine ⟨by rw [List.length_set]; exact hl, cap, cur.setIfInBounds j u, hv, heap_setCell_same w b j cur e u hg, hn, hc, by rw [Array.size_setIfInBounds]; exact hs, ?_⟩
  rw [Array.toList_setIfInBounds, ← ht, List.take_set]
theorem Row.of_own {base : Nat} (h : w.ownsRow base e size v n xs) (hn : 0 < n) : ∃ b, base ≤ b ∧ Row w b e size v n xs := by
  obtain ⟨hl, h2⟩ := h
  rcases h2 with ⟨_, h0⟩ | ⟨g, cap, cur, hv, hb, hg, hnc, hcm, hcs, ht⟩
  · omega
  · exact ⟨g, hb, hl, cap, cur, hv, hg, hnc, hcm, by omega, ht⟩
/-- 'xs[:0:n]' -/
theorem Row.cut (h : Row w b e size (.slice (some ⟨b, 0, none⟩) n n) n xs) : Row w b e size (.slice (some ⟨b, 0, none⟩) 0 n) 0 [] := by
  obtain ⟨hl, cap, cur, hv, hg, hn, hc, hs, ht⟩ := h
  injection hv with _ _ e3
  subst e3
  exact ⟨by simp, n, cur, rfl, hg, by omega, hc, hs, by simp⟩
end

/-- a row of the call's own, or nil -/
def WRow (w : World) (ob : Option Nat) (e : TypeId) (size : Nat) (v : Value) (n : Nat) (xs : List Value) : Prop :=
  match ob with
  | none => v = .slice none 0 0 ∧ n = 0 ∧ xs = []
  | some b => Row w b e size v n xs
section
variable {w w' : World} {ob : Option Nat} {e : TypeId} {size : Nat} {v : Value} {n : Nat} {xs : List Value}
theorem WRow.kept (h : WRow w ob e size v n xs) (hb : ∀ b, ob = some b → w'.heap[b]? = w.heap[b]?) : WRow w' ob e size v n xs := by
  cases ob with
  | none => exact h
  | some b => exact Row.kept h (hb b rfl)
theorem WRow.alloc (h : WRow w ob e size v n xs) (o : Obj) : WRow (w.alloc o) ob e size v n xs := by
  refine h.kept fun b hb => ?_
  subst hb
  exact heap_alloc_old w o (Row.lt h)
theorem WRow.lt (h : WRow w ob e size v n xs) (b : Nat) (hb : ob = some b) : b < w.heap.size := by
  subst hb
  exact Row.lt h
theorem WRow.rd (h : WRow w ob e size v n xs) : Rd w v n xs := by
  cases ob with
  | none => obtain ⟨rfl, rfl, rfl⟩ := h; exact Rd.nil w
  | some b => exact Row.rd h
theorem WRow.len (h : WRow w ob e size v n xs) : xs.length = n * size := by
  cases ob with
  | none => obtain ⟨_, rfl, rfl⟩ := h; simp
  | some b => exact h.1
theorem WRow.form (h : WRow w ob e size v n xs) : ∃ A c, v = .slice A n c := by
  cases ob with
  | none => obtain ⟨rfl, rfl, _⟩ := h; exact ⟨_, _, rfl⟩
  | some b => obtain ⟨c, hv⟩ := Row.form h; exact ⟨_, _, hv⟩
theorem WRow.nil (w : World) (e : TypeId) (size : Nat) : WRow w none e size (.slice none 0 0) 0 [] := ⟨rfl, rfl, rfl⟩
theorem WRow.of_own {base : Nat} (h : w.ownsRow base e size v n xs) : ∃ ob, (∀ b, ob = some b → base ≤ b) ∧ WRow w ob e size v n xs := by
  obtain ⟨hl, h2⟩ := h
  rcases h2 with ⟨hv, h0⟩ | ⟨g, cap, cur, hv, hb, hg, hnc, hcm, hcs, ht⟩
  · subst h0
    exact ⟨none, (fun b h => by cases h), hv, rfl, List.eq_nil_of_length_eq_zero (by simpa using hl)⟩
  · exact ⟨some g, (fun b h => by cases h; exact hb), hl, cap, cur, hv, hg, hnc, hcm, by omega, ht⟩
theorem WRow.ne_block {g : Nat} {cs : Array Value} {t : TypeId} {fr : Nat × Nat} (h : WRow w ob e size v n xs) (hg : w.heap[g]? = some (.cells cs t fr)) (he : e ≠ t) : ob ≠ some g := by
  intro hb
  subst hb
  exact Row.ne_block h hg he rfl
theorem WRow.ne {b' : Nat} {e' : TypeId} {size' : Nat} {v' : Value} {n' : Nat} {xs' : List Value} (h : WRow w ob e size v n xs) (h' : Row w b' e' size' v' n' xs') (he : e ≠ e') : ob ≠ some b' := by
  intro hb
  subst hb
  exact Row.ne h h' he rfl
end

section
variable {P : Program}
/-- an append onto such a row -/
theorem run_append_row (w : World) (t ty e : TypeId) (i : TypeInfo) (z : Value) (size bytes : Nat) (ht : P.underlying t = some (.slice e)) (hi : P.info? e = some i) (hz : i.zero = some z)
    (hsize : i.size = size) (hby : i.bytes = bytes) (hzs : z.cells.size = size) (hsz : 0 < size)
    (ob : Option Nat) (v : Value) (n : Nat) (xs : List Value) (hrow : WRow w ob e size v n xs)
    (s : Value) (m : Nat) (news : List Value) (hr : Rd w s m news) (hl : news.length = m * size) (hm : 0 < m) (h1 : ∀ u ∈ news, u.oneCell' = true)
    (h63 : n + m ≤ maxLen) (hbytes : (n + m) * bytes ≤ 140737488355328) :
    ∃ v' w' b', (Builtin.append_ #[t, t] ty #[v, s]).run P w = .ok v' w' ∧ Row w' b' e size v' (n + m) (xs ++ news) ∧ Touch (fun b => ob = some b) w w' ∧ (ob = some b' ∨ b' = w.heap.size) := by
  obtain ⟨A, c, rfl, hmc, hcm, hcell⟩ := hr
  cases A with
  | none =>
    cases news with
    | nil => rcases Nat.mul_eq_zero.1 hl.symm with h | h <;> omega
    | cons u r => obtain ⟨b, o, hA, _⟩ := hcell 0 u rfl; cases hA
  | some ad =>
    have hcells : ∀ j u, news[j]? = some u → w.cell? (ad.add j) = some u := by
      intro j u hu
      obtain ⟨b, o, hA, h⟩ := hcell j u hu
      injection hA with hA
      subst hA
      rw [Addr.add_lit]
      exact h
    subst hsize
    subst hby
    have hsmall : n + m ≤ 9223372036854775807 := by simp only [maxLen] at h63; omega
    have hlen : (xs ++ news).length = (n + m) * i.size := by rw [List.length_append, hrow.len, hl, Nat.add_mul]
    have grown : ∀ (old : Nat), old < n + m →
        Row (w.drew.alloc (.cells (xs.toArray ++ news.toArray ++ Builtin.zeroCells z.cells (grownCap w (n + m) old e - (n + m))) e)) w.heap.size e i.size (.slice (some ⟨w.heap.size, 0, none⟩) (n + m) (grownCap w (n + m) old e)) (n + m) (xs ++ news) ∧
        Touch (fun b => ob = some b) w (w.drew.alloc (.cells (xs.toArray ++ news.toArray ++ Builtin.zeroCells z.cells (grownCap w (n + m) old e - (n + m))) e)) := by
      intro old ho
      have hge := grownCap_ge w (n + m) old e
      have hcm : grownCap w (n + m) old e ≤ maxLen := grownCap_le_maxLen w (n + m) old e h63
      refine ⟨⟨hlen, _, _, rfl, heap_alloc_new w.drew _, hge, hcm, ?_, ?_⟩, (Touch.refl _ _).drew.alloc _⟩
      · simp only [Array.size_append, List.size_toArray, size_zeroCells, hzs, hrow.len, hl, ← Nat.add_mul]
        exact Nat.mul_le_mul_right _ (by omega)
      · simp only [Array.toList_append, List.append_assoc]
        rw [← List.append_assoc, ← hlen]
        exact List.take_left
    cases ob with
    | none =>
      obtain ⟨rfl, rfl, rfl⟩ := hrow
      have hrun := run_append_nil (P := P) w t ty e i z ht hi hz ad m c news hl hcells hm (by omega) (by have hb := hbytes; simp only [Nat.zero_add] at hb; omega)
      have hgr := grown 0 (by omega)
      simp only [Nat.zero_add, List.nil_append, Array.empty_append] at hgr ⊢
      exact ⟨_, _, _, hrun, hgr.1, hgr.2, .inr rfl⟩
    | some g =>
      obtain ⟨hxl, cap, cur, rfl, hg, hnc, hcm', hcs, htake⟩ := hrow
      by_cases hroom : n + m ≤ cap
      · have hfit : n * i.size + news.length ≤ cur.size := by rw [hl, ← Nat.add_mul]; exact Nat.le_trans (Nat.mul_le_mul_right _ hroom) hcs
        have hrun := run_append_room (P := P) w t ty e i ht hi g n cap cur hg ad m c news hl hcells h1 hroom hfit
        refine ⟨_, _, g, hrun, ⟨hlen, cap, _, rfl, setRow_heap w g cur _ e _ hg, hroom, hcm', ?_, ?_⟩, ⟨rfl, rfl, rfl, by simp, fun k _ hk => setRow_other w g k _ (fun e => hk (by rw [e]))⟩, .inl rfl⟩
        · simp only [List.size_toArray, List.length_append, List.length_take, List.length_drop, Array.length_toList]
          omega
        · rw [htake, ← hlen]
          exact List.take_left
      · have holds : ∀ j u, xs[j]? = some u → w.cell? ((⟨g, 0, none⟩ : Addr).add j) = some u := by
          intro j u hu
          have hrw : Row w g e i.size (.slice (some ⟨g, 0, none⟩) n cap) n xs := ⟨hxl, cap, cur, rfl, hg, hnc, hcm', hcs, htake⟩
          rw [Addr.add_lit, Nat.zero_add]
          exact hrw.cell hu
        have hrun := run_append_grow (P := P) w t ty e i z ht hi hz ⟨g, 0, none⟩ n cap xs hxl holds ad m c news hl hcells (by omega) (by omega) (growslice_fits (by omega) hbytes)
        have hgr := grown cap (by omega)
        exact ⟨_, _, _, hrun, hgr.1, hgr.2, .inr rfl⟩

theorem wp_append_row {o : Oper} {a : Act} {w : World} {K : Act → World → Prop} {Q : Exit → Act → World → Prop} (s x : Operand) (t : TypeId)
    (ho : o.op = .call { callee := .builtin .append, args := #[s, x], argTypes := #[t, t] })
    (e : TypeId) (i : TypeInfo) (z : Value) (size bytes : Nat) (ht : P.underlying t = some (.slice e)) (hi : P.info? e = some i) (hz : i.zero = some z)
    (hsize : i.size = size) (hby : i.bytes = bytes) (hzs : z.cells.size = size) (hsz : 0 < size)
    (ob : Option Nat) (v : Value) (n : Nat) (xs : List Value) (hs : a.eval s = v) (hrow : WRow w ob e size v n xs)
    (u : Value) (m : Nat) (news : List Value) (hx : a.eval x = u) (hr : Rd w u m news) (hl : news.length = m * size) (hm : 0 < m) (h1 : ∀ u ∈ news, u.oneCell' = true)
    (h63 : n + m ≤ maxLen) (hbytes : (n + m) * bytes ≤ 140737488355328)
    (h : ∀ b' c w', Row w' b' e size (.slice (some ⟨b', 0, none⟩) (n + m) c) (n + m) (xs ++ news) → Touch (fun b => ob = some b) w w' → (ob = some b' ∨ b' = w.heap.size) → K (a.put o.dst (.slice (some ⟨b', 0, none⟩) (n + m) c)) w') : o.wp P a w K Q := by
  obtain ⟨v', w', b', hrun, h2, h3, h4⟩ := run_append_row (P := P) w t o.type e i z size bytes ht hi hz hsize hby hzs hsz ob v n xs hrow u m news hr hl hm h1 h63 hbytes
  obtain ⟨c, rfl⟩ := h2.form
  unfold Oper.wp execOp
  simp only [ho, resolve, invoke, builtin, Sem.run_bind, Sem.run_pure, Result.andThen_ok, List.map_toArray, List.map_cons, List.map_nil, hs, hx, hrun]
  exact h b' c w' h2 h3 h4

theorem wpList_append_row {ops : Array Oper} {rest : List Oper} {o : Oper} {a : Act} {w : World} {Q : Exit → Act → World → Prop} (hw : Region.wanted o (yielded ops a.tmps) = true) (s x : Operand) (t : TypeId)
    (ho : o.op = .call { callee := .builtin .append, args := #[s, x], argTypes := #[t, t] })
    (e : TypeId) (i : TypeInfo) (z : Value) (size bytes : Nat) (ht : P.underlying t = some (.slice e)) (hi : P.info? e = some i) (hz : i.zero = some z)
    (hsize : i.size = size) (hby : i.bytes = bytes) (hzs : z.cells.size = size) (hsz : 0 < size)
    (ob : Option Nat) (v : Value) (n : Nat) (xs : List Value) (hs : a.eval s = v) (hrow : WRow w ob e size v n xs)
    (u : Value) (m : Nat) (news : List Value) (hx : a.eval x = u) (hr : Rd w u m news) (hl : news.length = m * size) (hm : 0 < m) (h1 : ∀ u ∈ news, u.oneCell' = true)
    (h63 : n + m ≤ maxLen) (hbytes : (n + m) * bytes ≤ 140737488355328)
    (h : ∀ b' c w', Row w' b' e size (.slice (some ⟨b', 0, none⟩) (n + m) c) (n + m) (xs ++ news) → Touch (fun b => ob = some b) w w' → (ob = some b' ∨ b' = w.heap.size) → wpList P ops Q rest (a.put o.dst (.slice (some ⟨b', 0, none⟩) (n + m) c)) w') : wpList P ops Q (o :: rest) a w :=
  wpList_want hw fun _ hK => wp_append_row s x t ho e i z size bytes ht hi hz hsize hby hzs hsz ob v n xs hs hrow u m news hx hr hl hm h1 h63 hbytes fun b' c w' h2 h3 h4 => hK _ _ (h b' c w' h2 h3 h4)

/-- 'copy(dst, src)' of two rows of one length -/
theorem run_copy_over (ty t e : TypeId) (w : World) (ht : P.underlying t = some (.slice e)) (hsz : (P.info? e).map (·.size) = some 1) {b n : Nat} {xs ys : List Value} {v u : Value} (hrow : Row w b e 1 v n xs) (hr : Rd w u n ys) (hl : ys.length = n) (h1 : ∀ u ∈ ys, u.oneCell' = true) (h0 : 0 < n) :
    ∃ w', (Builtin.copy_ #[t, t] ty #[v, u]).run P w = .ok (goInt n) w' ∧ Row w' b e 1 v n ys ∧ Touch (fun k => k = b) w w' := by
  obtain ⟨A, c, rfl, hnc, hcm, hcell⟩ := hr
  obtain ⟨hxl, cap, cur, rfl, hg, hn, hc, hs, htake⟩ := hrow
  rw [Nat.mul_one] at hs hxl htake
  obtain ⟨b2, o', hA, _⟩ := hcell 0 _ (List.getElem?_eq_getElem (by rw [hl]; omega))
  subst hA
  have hrun := run_copy_row (P := P) w t t ty e b 0 n cap ⟨b2, o', none⟩ n c cur e ys ht hsz hg (by rw [hl]; simp) (fun j v hv => by
    obtain ⟨b3, o3, hA2, hc2⟩ := hcell j v hv
    injection hA2 with hA2
    injection hA2 with e4 e5
    subst e4; subst e5
    rw [Addr.add_lit]
    exact hc2) (by rw [hl]; omega) h1
  rw [hl] at hrun
  refine ⟨_, hrun, ⟨by rw [Nat.mul_one, hl], cap, _, rfl, setRow_heap w b cur _ e _ hg, hn, hc, ?_, ?_⟩, ⟨rfl, rfl, rfl, by simp, fun k _ hk => setRow_other w b k _ (fun e => hk e)⟩⟩
  · simp only [List.size_toArray, List.length_append, List.length_take, List.length_drop, Array.length_toList, hl]
    omega
  · simp only [List.take_zero, List.nil_append, Nat.zero_add]
    rw [Nat.mul_one, List.take_append_of_le_length (by rw [hl]; omega), List.take_of_length_le (by rw [hl]; omega)]
end
end Go.Proofs.YtfmjhmgpnlmkkaaDoor
