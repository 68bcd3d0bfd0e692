/- PoolApart: the memory of a round: the row, whose the numbers are, the rows that are had; a delete in a row of the call's own; the steps. -/
import Derived.Test.YteojodddfanepaaPoolBackWalk
import Derived.Test.YteojodddfanepaaPoolApartPlain
import Derived.Deep.RegionLaw
import Derived.Deep.SlicePairs
import Derived.Deep.Upon
import Derived.ProofKit
namespace Go.Proofs.Yteojodddfanepaa
open Go.RowKit
set_option linter.unusedVariables false

/-! ### several cells stored into a row -/
theorem heap_setCells_at (g : Nat) (e : TypeId) : ∀ (vs : List Value) (o : Nat) (w : World) (cur : Array Value), w.heap[g]? = some (.cells cur e (0, 0)) → o + vs.length ≤ cur.size →
    ∃ cur' : Array Value, (w.setCells g o vs).heap[g]? = some (.cells cur' e (0, 0)) ∧ cur'.size = cur.size ∧ ∀ j, cur'[j]? = if o ≤ j ∧ j < o + vs.length then vs[j - o]? else cur[j]? := by
  intro vs
  induction vs with
  | nil =>
    intro o w cur h _
    refine ⟨cur, h, rfl, fun j => ?_⟩
    rw [if_neg (fun hh => by simp at hh; omega)]
  | cons v vs ih =>
    intro o w cur h hl
    simp only [List.length_cons] at hl
    obtain ⟨cur', h1, h2, h3⟩ := ih (o + 1) (w.setCell ⟨g, o, none⟩ v) (cur.setIfInBounds o v) (heap_setCell_same w g o cur e v h) (by rw [Array.size_setIfInBounds]; omega)
    refine ⟨cur', h1, by rw [h2, Array.size_setIfInBounds], fun j => ?_⟩
    rw [h3 j]
    simp only [List.length_cons]
    by_cases hj : o + 1 ≤ j ∧ j < o + 1 + vs.length
    · rw [if_pos hj, if_pos (by omega), show j - o = (j - (o + 1)) + 1 by omega, List.getElem?_cons_succ]
    · rw [if_neg hj, Array.getElem?_setIfInBounds]
      by_cases hjo : o = j
      · subst hjo
        rw [if_pos rfl, if_pos (by omega), if_pos (by omega), Nat.sub_self, List.getElem?_cons_zero]
      · rw [if_neg hjo, if_neg (by omega)]
theorem size_setCells (g : Nat) : ∀ (vs : List Value) (o : Nat) (w : World), (w.setCells g o vs).heap.size = w.heap.size := by
  intro vs
  induction vs with
  | nil => intro o w; rfl
  | cons v vs ih =>
    intro o w
    have e : w.setCells g o (v :: vs) = (w.setCell ⟨g, o, none⟩ v).setCells g (o + 1) vs := rfl
    rw [e, ih, World.size_setCell]
theorem grownBy_setCells (w : World) (g o : Nat) (vs : List Value) : w.grownBy (w.setCells g o vs) (some g) := by
  refine ⟨World.os_setCells w g o vs, ?_, World.output_setCells w g o vs, by rw [size_setCells]; exact Nat.le_refl _, fun k hk hne => World.heap_setCells_other w g o vs hk (by intro e; exact hne (by rw [e]))⟩
  induction vs generalizing w o with
  | nil => rfl
  | cons v vs ih => exact (ih (w.setCell ⟨g, o, none⟩ v) (o + 1)).trans rfl
/-- 'append(xs[:k], xs[k+1:]...)' in a row of the call's own -/
theorem own_erase {w : World} {base : Nat} {e : TypeId} {g n cap k : Nat} {xs : List Value} (h : w.ownsRow base e 1 (.slice (some ⟨g, 0, none⟩) n cap) n xs) (hk : k < n) :
    (w.setCells g k (xs.drop (k + 1))).ownsRow base e 1 (.slice (some ⟨g, 0, none⟩) (n - 1) cap) (n - 1) (xs.eraseIdx k) := by
  obtain ⟨hl, h2⟩ := h
  rw [Nat.mul_one] at hl
  rcases h2 with ⟨hv, _⟩ | ⟨g', cap', cur, hv, hb, hg, hn, hc, hs, ht⟩
  · cases hv
  · injection hv with e1 _ e3
    injection e1 with e1
    injection e1 with e1 _
    subst e1; subst e3
    rw [Nat.mul_one] at hs ht
    obtain ⟨cur', h1, h2, h3⟩ := heap_setCells_at g e (xs.drop (k + 1)) k w cur hg (by rw [List.length_drop]; omega)
    refine ⟨by rw [List.length_eraseIdx, if_pos (by omega), Nat.mul_one, hl], .inr ⟨g, cap, cur', rfl, hb, h1, by omega, hc, by rw [h2, hs, Nat.mul_one], ?_⟩⟩
    rw [Nat.mul_one]
    apply List.ext_getElem?
    intro j
    rw [List.getElem?_take, List.getElem?_eraseIdx]
    by_cases hj : j < n - 1
    · rw [if_pos hj, Array.getElem?_toList, h3 j, List.length_drop]
      by_cases hjk : j < k
      · rw [if_neg (by omega), if_pos hjk, ← ht, List.getElem?_take, if_pos (by omega), Array.getElem?_toList]
      · rw [if_pos (by omega), if_neg hjk, List.getElem?_drop, show k + 1 + (j - k) = j + 1 by omega]
    · rw [if_neg hj]
      split
      · omega
      · rw [List.getElem?_eq_none (by omega)]

/-! ### the state -/
structure St (w : World) (g6 : Nat) (wr : World) (v5 v7 : Value) (R : List Nat) (O : List Int) (hs : List Value) (Ts : List (List Nat)) : Prop where
  row : wr.ownsRow w.heap.size 38 1 v5 4 (u64s R)
  own : wr.ownsRow w.heap.size 3 1 (.slice (some ⟨g6, 0, none⟩) 256 256) 256 (i64s O)
  hav : wr.ownsRow w.heap.size 25 1 v7 Ts.length hs
  els : ∀ i (h : i < hs.length) (h' : i < Ts.length), wr.ownsRow (g6 + 1) 3 1 hs[i] Ts[i].length (i64s (nums Ts[i]))
  bel : Below w.heap.size w wr
section
variable {w wr W : World} {g6 : Nat} {v5 v7 : Value} {R : List Nat} {O : List Int} {hs : List Value} {Ts : List (List Nat)}
theorem St.hlen (h : St w g6 wr v5 v7 R O hs Ts) : hs.length = Ts.length := by have := h.hav.1; omega
theorem St.g6_lt (h : St w g6 wr v5 v7 R O hs Ts) : w.heap.size ≤ g6 ∧ g6 < wr.heap.size := h.own.lt g6 rfl
theorem St.below (h : St w g6 wr v5 v7 R O hs Ts) (hb : Below wr.heap.size wr W) : St w g6 W v5 v7 R O hs Ts :=
  ⟨own_below h.row hb, own_below h.own hb, own_below h.hav hb, fun i h1 h2 => own_below (h.els i h1 h2) hb, below_then h.bel hb⟩
theorem St.alloc (h : St w g6 wr v5 v7 R O hs Ts) (o : Obj) : St w g6 (wr.alloc o) v5 v7 R O hs Ts := h.below ((Below.refl _ _).alloc (Nat.le_refl _) o)
theorem St.drew (h : St w g6 wr v5 v7 R O hs Ts) : St w g6 wr.drew v5 v7 R O hs Ts := h.below (Below.refl _ _).drew
theorem grownBy_one (W : World) (b j : Nat) (v : Value) : W.grownBy (W.setCell ⟨b, j, none⟩ v) (some b) :=
  ⟨rfl, rfl, rfl, by rw [World.size_setCell]; exact Nat.le_refl _, fun k _ hk => Below.heap_setCell _ _ _ k (fun e => hk (by rw [e]))⟩
/-- a row of ints that lies above 'owner' is none of it -/
theorem own_above {b : Nat} {e : TypeId} {v : Value} {n : Nat} {xs : List Value} (h : wr.ownsRow (b + 1) e 1 v n xs) : v.ownBlock = none ∨ v.ownBlock ≠ some b := by
  cases hv : v.ownBlock with
  | none => exact .inl rfl
  | some k =>
    refine .inr fun e => ?_
    injection e with e
    have := (h.lt k hv).1
    omega
theorem St.store (h : St w g6 wr v5 v7 R O hs Ts) (j : Nat) (x : Int) : St w g6 (wr.setCell ⟨g6, j, none⟩ (.int .i64 x)) v5 v7 R (O.set j x) hs Ts := by
  have hg := grownBy_one wr g6 j (.int .i64 x)
  have ho := (h.own.stored j (.int .i64 x)).1
  rw [i64s_set] at ho
  refine ⟨h.row.kept hg (own_ne h.row h.own (by decide)), ho, h.hav.kept hg (own_ne h.hav h.own (by decide)), fun i h1 h2 => (h.els i h1 h2).kept hg (own_above (h.els i h1 h2)), h.bel.setCell (p := ⟨g6, j, none⟩) h.g6_lt.1 _⟩
theorem St.el (h : St w g6 wr v5 v7 R O hs Ts) {k : Nat} {u : Value} {T : List Nat} (h1 : hs[k]? = some u) (h2 : Ts[k]? = some T) : wr.ownsRow (g6 + 1) 3 1 u T.length (i64s (nums T)) := by
  obtain ⟨hk, rfl⟩ := List.getElem?_eq_some_iff.1 h1
  obtain ⟨hk', rfl⟩ := List.getElem?_eq_some_iff.1 h2
  exact h.els k hk hk'
/-- another row -/
theorem St.turn (h : St w g6 wr v5 v7 R O hs Ts) {v : Value} {R' : List Nat} (hr : wr.ownsRow w.heap.size 38 1 v 4 (u64s R')) : St w g6 wr v v7 R' O hs Ts := ⟨hr, h.own, h.hav, h.els, h.bel⟩
/-- one more is had -/
theorem St.push (h : St w g6 wr v5 v7 R O hs Ts) {gv v' : Value} {T : List Nat} (hg : wr.ownsRow (g6 + 1) 3 1 gv T.length (i64s (nums T)))
    (hown : W.ownsRow w.heap.size 25 1 v' (Ts.length + 1) (hs ++ [gv])) (hgr : wr.grownBy W v7.ownBlock) : St w g6 W v5 v' R O (hs ++ [gv]) (Ts ++ [T]) := by
  have hl := h.hlen
  refine ⟨own_grown h.row h.hav (by decide) hgr, own_grown h.own h.hav (by decide) hgr, ?_, ?_, below_grown h.bel h.hav (Nat.le_refl _) h.bel.size hgr⟩
  · rw [List.length_append]; exact hown
  · intro i h1 h2
    rw [List.length_append] at h1 h2
    simp only [List.length_cons, List.length_nil] at h1 h2
    by_cases hi : i < Ts.length
    · rw [List.getElem_append_left (by omega), List.getElem_append_left hi]
      exact own_grown (h.els i (by omega) hi) h.hav (by decide) hgr
    · obtain rfl : i = Ts.length := by omega
      rw [List.getElem_append_right (by omega), List.getElem_append_right (by omega)]
      simp only [hl, Nat.sub_self, List.getElem_cons_zero]
      exact own_grown hg h.hav (by decide) hgr
/-- one is had no longer -/
theorem St.pull {g cap : Nat} (h : St w g6 wr v5 (.slice (some ⟨g, 0, none⟩) Ts.length cap) R O hs Ts) {k : Nat} (hk : k < Ts.length) :
    St w g6 (wr.setCells g k (hs.drop (k + 1))) v5 (.slice (some ⟨g, 0, none⟩) (Ts.length - 1) cap) R O (hs.eraseIdx k) (Ts.eraseIdx k) := by
  have hl := h.hlen
  have hgr := grownBy_setCells wr g k (hs.drop (k + 1))
  have hel : (Ts.eraseIdx k).length = Ts.length - 1 := by rw [List.length_eraseIdx, if_pos hk]
  refine ⟨own_grown h.row h.hav (by decide) hgr, own_grown h.own h.hav (by decide) hgr, ?_, ?_, below_grown h.bel h.hav (Nat.le_refl _) h.bel.size hgr⟩
  · rw [hel]; exact own_erase h.hav hk
  · intro i h1 h2
    rw [List.getElem_eraseIdx, List.getElem_eraseIdx]
    rw [List.length_eraseIdx, if_pos (by omega)] at h1 h2
    by_cases hik : i < k
    · simp only [dif_pos hik]
      exact own_grown (h.els i (by omega) (by omega)) h.hav (by decide) hgr
    · simp only [dif_neg hik]
      exact own_grown (h.els (i + 1) (by omega) (by omega)) h.hav (by decide) hgr
end

/-! ### the steps -/
def pcells (l : List (Bool × Int)) : List Value := l.flatMap fun s => [.bool s.1, .int .i64 s.2]
theorem pcells_at : ∀ (l : List (Bool × Int)) (i : Nat) (h : i < l.length), (pcells l)[i * 2]? = some (.bool l[i].1) ∧ (pcells l)[i * 2 + 1]? = some (.int .i64 l[i].2) := by
  intro l
  induction l with
  | nil => intro i h; cases h
  | cons s l ih =>
    intro i h
    have e : pcells (s :: l) = .bool s.1 :: .int .i64 s.2 :: pcells l := rfl
    rw [e]
    cases i with
    | zero => exact ⟨rfl, rfl⟩
    | succ i =>
      have := ih i (by simp at h; omega)
      rw [show (i + 1) * 2 = i * 2 + 1 + 1 by omega]
      exact this
end Go.Proofs.Yteojodddfanepaa
