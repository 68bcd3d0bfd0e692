/- Words for memory, over any program: a slice that reads as a row of cells; what a call that makes memory of its own leaves as it was; an append of such a slice onto nil. -/
import Derived.WalkKit
import Derived.WalkSpells
import Derived.WalkLawsBesides
import Derived.Lib.Hide
namespace Go.Proofs.YtlfnpjdnfkcigaaDoor
set_option linter.unusedVariables false
open Go.RowKit

/-- 'v' is a slice of n elements whose cells are 'xs' -/
def Rd (w : World) (v : Value) (n : Nat) (xs : List Value) : Prop :=
  ∃ (A : Option Addr) (c : Nat), v = .slice A n c ∧ n ≤ c ∧ c ≤ maxLen ∧ ∀ j u, xs[j]? = some u → ∃ b o, A = some ⟨b, o, none⟩ ∧ w.cell? ⟨b, o + j, none⟩ = some u

section
variable {w w' : World} {v : Value} {n : Nat} {xs : List Value}
theorem Rd.below (h : Rd w v n xs) (hb : Below w.heap.size w w') : Rd w' v n xs := by
  obtain ⟨A, c, hv, h1, h2, h3⟩ := h
  refine ⟨A, c, hv, h1, h2, fun j u hu => ?_⟩
  obtain ⟨b, o, hA, hc⟩ := h3 j u hu
  exact ⟨b, o, hA, (hb.cell (World.block_lt_of_cell? w _ hc)).trans hc⟩
theorem Rd.alloc (h : Rd w v n xs) (o : Obj) : Rd (w.alloc o) v n xs := h.below ((Below.refl _ _).alloc (Nat.le_refl _) o)
theorem Rd.drew (h : Rd w v n xs) : Rd w.drew v n xs := h
theorem Rd.drewN (h : Rd w v n xs) (k : Nat) : Rd (w.drewN k) v n xs := h
/-- a store elsewhere -/
theorem Rd.setCell (h : Rd w v n xs) {p : Addr} (hq : ∀ A c, v = .slice A n c → ∀ b o, A = some ⟨b, o, none⟩ → b ≠ p.block) (u : Value) : Rd (w.setCell p u) v n xs := by
  obtain ⟨A, c, hv, h1, h2, h3⟩ := h
  refine ⟨A, c, hv, h1, h2, fun j y hy => ?_⟩
  obtain ⟨b, o, hA, hc⟩ := h3 j y hy
  have := hq A c hv b o hA
  exact ⟨b, o, hA, (World.cell?_of_block (Below.heap_setCell w p u b this)).trans hc⟩
theorem Rd.nil (w : World) : Rd w (.slice none 0 0) 0 [] := ⟨none, 0, rfl, Nat.le_refl _, Nat.zero_le _, fun j u h => by simp at h⟩
theorem Rd.of_own {base : Nat} {e : TypeId} {size : Nat} (h : w.ownsRow base e size v n xs) : Rd w v n xs := by
  rcases h.2 with ⟨rfl, rfl⟩ | ⟨g, cap, cur, rfl, hb, hg, hn, hc, hs, ht⟩
  · have hx : xs = [] := List.eq_nil_of_length_eq_zero (by simpa using h.1)
    subst hx
    exact Rd.nil w
  · refine ⟨_, cap, rfl, hn, hc, fun j u hu => ⟨g, 0, rfl, ?_⟩⟩
    rw [Nat.zero_add, cell_of_row w g j cur e (0, 0) hg]
    rw [← ht, List.getElem?_take] at hu
    split at hu
    · simpa using hu
    · cases hu
theorem Rd.at_ {A : Option Addr} {c j : Nat} {u : Value} (h : Rd w (.slice A n c) n xs) (hu : xs[j]? = some u) : ∃ b o, A = some ⟨b, o, none⟩ ∧ w.cell? ⟨b, o + j, none⟩ = some u := by
  obtain ⟨A', c', hv, _, _, h3⟩ := h
  injection hv with e1 e2 e3
  subst e1
  exact h3 j u hu
/-- a new block of one cell -/
theorem Rd.one (w : World) (u : Value) (e : TypeId) : Rd (w.alloc (.cells #[u] e)) (.slice (some ⟨w.heap.size, 0, none⟩) 1 1) 1 [u] := by
  refine ⟨_, 1, rfl, Nat.le_refl _, by unfold maxLen; omega, fun j x hx => ⟨w.heap.size, 0, rfl, ?_⟩⟩
  rw [Nat.zero_add, cell_of_row _ w.heap.size j #[u] e (0, 0) (heap_alloc_new w _)]
  simpa using hx
/-- a new block of cells -/
theorem Rd.new (w : World) (cs : List Value) (e : TypeId) (h : cs.length ≤ 65536) (n : Nat) (hn : n ≤ 65536) : Rd (w.alloc (.cells cs.toArray e)) (.slice (some ⟨w.heap.size, 0, none⟩) n n) n cs := by
  refine ⟨_, n, rfl, Nat.le_refl _, by unfold maxLen; omega, fun j x hx => ⟨w.heap.size, 0, rfl, ?_⟩⟩
  rw [Nat.zero_add, cell_of_row _ w.heap.size j cs.toArray e (0, 0) (heap_alloc_new w _)]
  simpa using hx
/-- the first k of them -/
theorem Rd.take (h : Rd w v n xs) {A : Option Addr} {c : Nat} (hv : v = .slice A n c) {k : Nat} (hk : k ≤ n) : Rd w (.slice A k c) k (xs.take k) := by
  obtain ⟨A', c', hv', h1, h2, h3⟩ := h
  rw [hv] at hv'
  injection hv' with e1 e2 e3
  subst e1; subst e3
  refine ⟨A, c, rfl, by omega, h2, fun j u hu => h3 j u ?_⟩
  rw [List.getElem?_take] at hu
  split at hu
  · exact hu
  · cases hu

theorem own_below {base : Nat} {e : TypeId} {size : Nat} (h : w.ownsRow base e size v n xs) (hb : Below w.heap.size w w') : w'.ownsRow base e size v n xs :=
  h.kept (row := none) ⟨hb.os, hb.tape, hb.output, hb.size, fun k hk _ => hb.block k hk⟩ (by cases v.ownBlock <;> simp)
theorem own_mono {base base' : Nat} {e : TypeId} {size : Nat} (h : w.ownsRow base e size v n xs) (hb : base' ≤ base) : w.ownsRow base' e size v n xs := by
  refine ⟨h.1, ?_⟩
  rcases h.2 with h2 | ⟨g, cap, cur, hv, hg, r⟩
  · exact .inl h2
  · exact .inr ⟨g, cap, cur, hv, by omega, r⟩
theorem below_drewN {B : Nat} {a b : World} (h : Below B a b) (k : Nat) : Below B a (b.drewN k) := ⟨h.os, h.tape, h.output, h.size, h.block⟩
/-- behind a second call that keeps what was there -/
theorem below_then {W a b : World} (h : Below W.heap.size W a) (k : Below a.heap.size a b) : Below W.heap.size W b := h.trans (k.mono h.size)

/-- rows of two element types lie in two blocks -/
theorem own_ne {b1 b2 : Nat} {e1 e2 : TypeId} {s1 s2 n1 n2 : Nat} {v1 v2 : Value} {x1 x2 : List Value} (h1 : w.ownsRow b1 e1 s1 v1 n1 x1) (h2 : w.ownsRow b2 e2 s2 v2 n2 x2) (he : e1 ≠ e2) :
    v1.ownBlock = none ∨ v1.ownBlock ≠ v2.ownBlock := by
  rcases h1.2 with ⟨rfl, _⟩ | ⟨g, cap, cur, rfl, _, hg, _⟩
  · exact .inl rfl
  · refine .inr ?_
    rcases h2.2 with ⟨rfl, _⟩ | ⟨g', cap', cur', rfl, _, hg', _⟩
    · simp [Value.ownBlock]
    · intro h
      have e : g = g' := by simpa [Value.ownBlock] using h
      subst e
      rw [hg] at hg'
      injection hg' with hg'
      injection hg' with _ ht
      exact he ht
theorem own_grown {b1 b2 : Nat} {e1 e2 : TypeId} {s1 s2 n1 n2 : Nat} {v1 v2 : Value} {x1 x2 : List Value} (h1 : w.ownsRow b1 e1 s1 v1 n1 x1) (h2 : w.ownsRow b2 e2 s2 v2 n2 x2) (he : e1 ≠ e2) (hg : w.grownBy w' v2.ownBlock) :
    w'.ownsRow b1 e1 s1 v1 n1 x1 := h1.kept hg (own_ne h1 h2 he)
/-- behind an append onto a row of the call's own -/
theorem below_grown {W : World} {B b : Nat} {e : TypeId} {size n : Nat} {v : Value} {xs : List Value} (h : Below B W w) (ho : w.ownsRow b e size v n xs) (hb : B ≤ b) (hB : B ≤ w.heap.size) (hg : w.grownBy w' v.ownBlock) : Below B W w' :=
  h.grown hg hB (fun k hk => Nat.le_trans hb (ho.lt k hk).1)

/-- the value's form -/
theorem own_form {base : Nat} {e : TypeId} {size : Nat} (h : w.ownsRow base e size v n xs) : ∃ A c, v = .slice A n c := by
  rcases h.2 with ⟨rfl, rfl⟩ | ⟨g, cap, cur, rfl, _⟩
  · exact ⟨_, _, rfl⟩
  · exact ⟨_, _, rfl⟩
end

section
variable {P : Program}
/-- an append of a slice that reads as 'news', onto a row of the call's own (nil to begin with) -/
theorem run_append_rd (w : World) (base : Nat) (t ty e : TypeId) (i : TypeInfo) (z : Value) (size bytes : Nat) (ht : P.underlying t = some (.slice e)) (hi : P.info? e = some i) (hz : i.zero = some z)
    (hsize : i.size = size) (hby : i.bytes = bytes) (hzs : z.cells.size = size) (hsz : 0 < size)
    (v : Value) (n : Nat) (xs : List Value) (hown : w.ownsRow base e size v n xs)
    (s : Value) (m : Nat) (news : List Value) (hr : Rd w s m news) (hl : news.length = m * size) (h1 : ∀ u ∈ news, u.oneCell' = true)
    (h63 : n + m ≤ maxLen) (hbytes : (n + m) * bytes ≤ 140737488355328) (hbase : base ≤ w.heap.size) :
    ∃ v' w', (Builtin.append_ #[t, t] ty #[v, s]).run P w = .ok v' w' ∧ w'.ownsRow base e size v' (n + m) (xs ++ news) ∧ w.grownBy w' v.ownBlock := by
  obtain ⟨A, c, rfl, hmc, hcm, hc⟩ := hr
  cases A with
  | none =>
    have hn : news = [] := by
      cases news with
      | nil => rfl
      | cons u r => obtain ⟨b, o, hA, _⟩ := hc 0 u rfl; cases hA
    subst hn
    have hm : m = 0 := by
      rcases Nat.mul_eq_zero.1 hl.symm with h | h <;> omega
    subst hm
    refine ⟨v, w, ?_, by simpa using hown, World.grownBy.refl w _⟩
    rcases hown.2 with ⟨rfl, rfl⟩ | ⟨g, cap, cur, rfl, _, _, hnc, _⟩
    · simp [Builtin.append_, run_underlying ht, sizeOf, typeInfo, hi, Builtin.lenOf, Builtin.firstCells]
    · simp [Builtin.append_, run_underlying ht, sizeOf, typeInfo, hi, Builtin.lenOf, Builtin.firstCells, hnc, storeCells]
  | some ad =>
    have hcells : ∀ j u, news[j]? = some u → w.cell? (ad.add j) = some u := by
      intro j u hu
      obtain ⟨b, o, hA, h⟩ := hc j u hu
      injection hA with hA
      subst hA
      rw [Addr.add_lit]
      exact h
    obtain ⟨v', w', hrun, h2, h3, _⟩ := run_append_own (P := P) w base t ty e i z size bytes ht hi hz hsize hby hzs hsz v n xs hown ad m c news hl hcells h1 h63 hbytes hbase
    exact ⟨v', w', hrun, h2, h3⟩

theorem wp_append_rd {o : Oper} {a : Act} {w : World} {K : Act → World → Prop} {Q : Exit → Act → World → Prop} (s x : Operand) (t : TypeId)
    (ho : o.op = .call { callee := .builtin .append, args := #[s, x], argTypes := #[t, t] })
    (base : Nat) (e : TypeId) (i : TypeInfo) (z : Value) (size bytes : Nat) (ht : P.underlying t = some (.slice e)) (hi : P.info? e = some i) (hz : i.zero = some z)
    (hsize : i.size = size) (hby : i.bytes = bytes) (hzs : z.cells.size = size) (hsz : 0 < size)
    (v : Value) (n : Nat) (xs : List Value) (hs : a.eval s = v) (hown : w.ownsRow base e size v n xs)
    (u : Value) (m : Nat) (news : List Value) (hx : a.eval x = u) (hr : Rd w u m news) (hl : news.length = m * size) (h1 : ∀ u ∈ news, u.oneCell' = true)
    (h63 : n + m ≤ maxLen) (hbytes : (n + m) * bytes ≤ 140737488355328) (hbase : base ≤ w.heap.size)
    (h : ∀ A c w', w'.ownsRow base e size (.slice A (n + m) c) (n + m) (xs ++ news) → w.grownBy w' v.ownBlock → K (a.put o.dst (.slice A (n + m) c)) w') : o.wp P a w K Q := by
  obtain ⟨v', w', hrun, h2, h3⟩ := run_append_rd (P := P) w base t o.type e i z size bytes ht hi hz hsize hby hzs hsz v n xs hown u m news hr hl h1 h63 hbytes hbase
  obtain ⟨A, c, rfl⟩ := own_form h2
  unfold Oper.wp execOp
  simp only [ho, resolve, invoke, builtin, Sem.run_bind, Sem.run_pure, Result.andThen_ok, List.map_toArray, List.map_cons, List.map_nil, hs, hx, hrun]
  exact h A c w' h2 h3

theorem wpList_want {ops : Array Oper} {rest : List Oper} {o : Oper} {a : Act} {w : World} {Q : Exit → Act → World → Prop} (hw : Region.wanted o (yielded ops a.tmps) = true)
    (h : ∀ K : Act → World → Prop, (∀ a w, wpList P ops Q rest a w → K a w) → o.wp P a w K Q) : wpList P ops Q (o :: rest) a w := by
  unfold wpList
  rw [if_pos hw]
  exact .inl (h _ fun _ _ hh => hh)

theorem wpList_append_rd {ops : Array Oper} {rest : List Oper} {o : Oper} {a : Act} {w : World} {Q : Exit → Act → World → Prop} (hw : Region.wanted o (yielded ops a.tmps) = true) (s x : Operand) (t : TypeId)
    (ho : o.op = .call { callee := .builtin .append, args := #[s, x], argTypes := #[t, t] })
    (base : Nat) (e : TypeId) (i : TypeInfo) (z : Value) (size bytes : Nat) (ht : P.underlying t = some (.slice e)) (hi : P.info? e = some i) (hz : i.zero = some z)
    (hsize : i.size = size) (hby : i.bytes = bytes) (hzs : z.cells.size = size) (hsz : 0 < size)
    (v : Value) (n : Nat) (xs : List Value) (hs : a.eval s = v) (hown : w.ownsRow base e size v n xs)
    (u : Value) (m : Nat) (news : List Value) (hx : a.eval x = u) (hr : Rd w u m news) (hl : news.length = m * size) (h1 : ∀ u ∈ news, u.oneCell' = true)
    (h63 : n + m ≤ maxLen) (hbytes : (n + m) * bytes ≤ 140737488355328) (hbase : base ≤ w.heap.size)
    (h : ∀ A c w', w'.ownsRow base e size (.slice A (n + m) c) (n + m) (xs ++ news) → w.grownBy w' v.ownBlock → wpList P ops Q rest (a.put o.dst (.slice A (n + m) c)) w') : wpList P ops Q (o :: rest) a w :=
  wpList_want hw fun _ hK => wp_append_rd s x t ho base e i z size bytes ht hi hz hsize hby hzs hsz v n xs hs hown u m news hx hr hl h1 h63 hbytes hbase fun A c w' h2 h3 => hK _ _ (h A c w' h2 h3)

/-- 'append([]T(nil), s...)' -/
theorem wpList_copy_rd {ops : Array Oper} {rest : List Oper} {o : Oper} {a : Act} {w : World} {Q : Exit → Act → World → Prop} (hw : Region.wanted o (yielded ops a.tmps) = true) (s x : Operand) (t : TypeId)
    (ho : o.op = .call { callee := .builtin .append, args := #[s, x], argTypes := #[t, t] })
    (e : TypeId) (i : TypeInfo) (z : Value) (size bytes : Nat) (ht : P.underlying t = some (.slice e)) (hi : P.info? e = some i) (hz : i.zero = some z)
    (hsize : i.size = size) (hby : i.bytes = bytes) (hzs : z.cells.size = size) (hsz : 0 < size)
    (hs : a.eval s = .slice none 0 0)
    (u : Value) (m : Nat) (news : List Value) (hx : a.eval x = u) (hr : Rd w u m news) (hl : news.length = m * size) (h1 : ∀ u ∈ news, u.oneCell' = true)
    (h63 : m ≤ maxLen) (hbytes : m * bytes ≤ 140737488355328)
    (h : ∀ A c w', w'.ownsRow w.heap.size e size (.slice A m c) m news → Below w.heap.size w w' → wpList P ops Q rest (a.put o.dst (.slice A m c)) w') : wpList P ops Q (o :: rest) a w :=
  wpList_append_rd hw s x t ho w.heap.size e i z size bytes ht hi hz hsize hby hzs hsz (.slice none 0 0) 0 [] hs (World.ownsRow_nil _ _ _ _) u m news hx hr hl h1 (by omega) (by rw [Nat.zero_add]; exact hbytes) (Nat.le_refl _)
    (fun A c w' h2 h3 => by
      rw [Nat.zero_add, List.nil_append] at h2
      rw [Nat.zero_add]
      exact h A c w' h2 ((Below.refl _ _).grown h3 (Nat.le_refl _) (by simp [Value.ownBlock])))

/-- behind an append onto nil -/
theorem below_of_grown {w w' : World} (h : w.grownBy w' (Value.ownBlock (.slice none 0 0))) : Below w.heap.size w w' :=
  (Below.refl _ _).grown h (Nat.le_refl _) (by simp [Value.ownBlock])
end

/-! ### the least of two, of three, kept whole in a walk ('attribute [local go_sem ↓] run_least2 run_least3') -/
def least2 (x y : Int) : Int := if y < x then y else x
def least3 (x y z : Int) : Int := least2 (least2 x y) z
theorem run_least2 {P : Program} {w : World} (ts : Array TypeId) (t : TypeId) (k k' : IntKind) (x y : Int) : (Builtin.min_ ts t #[.int k x, .int k' y]).run P w = .ok (.int k (least2 x y)) w := run_min_int2 w ts t k k' x y
theorem run_least3 {P : Program} {w : World} (ts : Array TypeId) (t : TypeId) (k k' k'' : IntKind) (x y z : Int) : (Builtin.min_ ts t #[.int k x, .int k' y, .int k'' z]).run P w = .ok (.int k (least3 x y z)) w := run_min_int3 w ts t k k' k'' x y z
theorem least2_nat (a b n : Nat) (h : n = min a b) : least2 (a : Int) (b : Int) = (n : Int) := by
  unfold least2; subst h; split <;> omega
theorem least3_nat (a b c n : Nat) (h : n = min a (min b c)) : least3 (a : Int) (b : Int) (c : Int) = (n : Int) := by
  unfold least3
  rw [least2_nat a b (min a b) rfl, least2_nat (min a b) c n (by omega)]

/-! ### what is returned -/
theorem ret_bool {a b : Bool} (h : a = b) : Ending.returned (.bool a) = .returned (.bool b) := by rw [h]
theorem ret_int {k : IntKind} {a b : Int} (h : a = b) : Ending.returned (.int k a) = .returned (.int k b) := by rw [h]
theorem tmod_nat (a b : Nat) : (a : Int).tmod (b : Int) = ((a % b : Nat) : Int) := rfl
theorem div_pow (x i : Nat) : (x : Int) / 2 ^ i = ((x / 2 ^ i : Nat) : Int) := by
  rw [show ((2 : Int) ^ i) = ((2 ^ i : Nat) : Int) by simp]; rfl

/-! ### rows of words -/
def u64s (l : List Nat) : List Value := l.map fun (x : Nat) => Value.int .u64 (x : Int)
theorem u64s_length (l : List Nat) : (u64s l).length = l.length := by simp [u64s]
theorem u64s_one (l : List Nat) : ∀ u ∈ u64s l, u.oneCell' = true := by
  intro u hu
  obtain ⟨_, _, rfl⟩ := List.mem_map.1 hu
  rfl
theorem u64s_at {l : List Nat} {k : Nat} (h : k < l.length) : (u64s l)[k]? = some (.int .u64 (l[k] : Nat)) := by simp [u64s, h]
theorem u64s_append (a b : List Nat) : u64s (a ++ b) = u64s a ++ u64s b := by simp [u64s]
theorem u64s_setAt (l : List Nat) (k x : Nat) : (u64s l).set k (.int .u64 (x : Nat)) = u64s (l.set k x) := by simp [u64s, List.map_set]
theorem u64s_take (l : List Nat) (k : Nat) : (u64s l).take k = u64s (l.take k) := by simp [u64s, List.map_take]

/-! ### rows of ints -/
def i64s (l : List Int) : List Value := l.map (Value.int .i64)
theorem i64s_length (l : List Int) : (i64s l).length = l.length := by simp [i64s]
theorem i64s_one (l : List Int) : ∀ u ∈ i64s l, u.oneCell' = true := by
  intro u hu
  obtain ⟨_, _, rfl⟩ := List.mem_map.1 hu
  rfl
theorem i64s_at {l : List Int} {k : Nat} (h : k < l.length) : (i64s l)[k]? = some (.int .i64 l[k]) := by simp [i64s, h]
theorem i64s_append (a b : List Int) : i64s (a ++ b) = i64s a ++ i64s b := by simp [i64s]
theorem i64s_set (l : List Int) (k : Nat) (x : Int) : (i64s l).set k (.int .i64 x) = i64s (l.set k x) := by simp [i64s, List.map_set]

/-! ### texts -/
/-- a text's bytes, as numbers -/
def bs (s : ByteArray) : List Nat := s.data.toList.map UInt8.toNat
theorem bs_lt (s : ByteArray) : ∀ b ∈ bs s, b < 256 := by
  intro b hb
  obtain ⟨c, _, rfl⟩ := List.mem_map.1 hb
  exact c.toNat_lt
theorem bs_length (s : ByteArray) : (bs s).length = s.size := by simp [bs]
theorem bs_take (s : ByteArray) (k : Nat) (h : k < s.size) : (bs s).take (k + 1) = (bs s).take k ++ [s[k].toNat] := by
  rw [List.take_succ_eq_append_getElem (by rw [bs_length]; exact h)]
  simp [bs]; rfl
/-- the text of bytes -/
def strB (l : List Nat) : ByteArray := ⟨(l.map UInt8.ofNat).toArray⟩
theorem strB_size (l : List Nat) : (strB l).size = l.length := by simp [strB, ByteArray.size]
theorem bs_strB (l : List Nat) (h : ∀ b ∈ l, b < 256) : bs (strB l) = l := by
  unfold bs strB
  rw [List.map_map]
  conv => rhs; rw [← List.map_id l]
  refine List.map_congr_left fun b hb => ?_
  have := h b hb
  simp only [Function.comp_apply, id_eq, UInt8.toNat_ofNat']
  omega
theorem strB_bs (s : ByteArray) : strB (bs s) = s := by
  unfold strB bs
  rw [List.map_map]
  have : (UInt8.ofNat ∘ UInt8.toNat) = id := by funext c; simp
  rw [this, List.map_id]
def u8s (l : List Nat) : List Value := l.map fun (x : Nat) => Value.int .u8 (x : Int)
theorem u8s_length (l : List Nat) : (u8s l).length = l.length := by simp [u8s]
theorem u8s_one (l : List Nat) : ∀ u ∈ u8s l, u.oneCell' = true := by
  intro u hu
  obtain ⟨_, _, rfl⟩ := List.mem_map.1 hu
  rfl
theorem u8s_append (a b : List Nat) : u8s (a ++ b) = u8s a ++ u8s b := by simp [u8s]
theorem u8s_at {l : List Nat} {k : Nat} (h : k < l.length) : (u8s l)[k]? = some (.int .u8 (l[k] : Nat)) := by simp [u8s, h]
/-- 'string(b)' -/
theorem run_text {P : Program} {w : World} {v : Value} (src dst e : TypeId) (hs : P.underlying src = some (.slice e)) (he : P.underlying e = some (.int .u8)) (hd : P.underlying dst = some .string)
    (l : List Nat) (h : Rd w v l.length (u8s l)) : (convert src dst v).run P w = .ok (.string (strB l)) w := by
  obtain ⟨A, c, rfl, hnc, hcm, hc⟩ := h
  cases A with
  | none =>
    have hn : l = [] := by
      cases l with
      | nil => rfl
      | cons u r => obtain ⟨b, o, hA, _⟩ := hc 0 _ rfl; cases hA
    subst hn
    exact run_convert_bytes_nil (w := w) src e hs he _ _ dst hd
  | some ad =>
    have hl := run_loadCells_list (P := P) w ad (u8s l) (fun j v hj => by
      obtain ⟨b, o, hA, h⟩ := hc j v hj
      injection hA with hA
      subst hA
      rw [Addr.add_lit]
      exact h)
    rw [run_convert_bytes_string w src dst e (some ad) l.length c hs he hd]
    have e1 : u8s l = (l.map fun (x : Nat) => (x : Int)).map (Value.int .u8) := by simp [u8s]
    rw [u8s_length, e1] at hl
    rw [run_bytesToString w ad l.length c _ hl, foldl_push_bytes]
    unfold strB
    simp only [List.map_map]
    refine congrArg (fun s => Result.ok (Value.string s) w) ?_
    have h2 : ((fun (n : Int) => UInt8.ofNat n.toNat) ∘ fun (x : Nat) => (x : Int)) = UInt8.ofNat := by funext x; simp
    rw [h2]
    simp [ByteArray.empty, ByteArray.emptyWithCapacity]
    rfl
end Go.Proofs.YtlfnpjdnfkcigaaDoor
