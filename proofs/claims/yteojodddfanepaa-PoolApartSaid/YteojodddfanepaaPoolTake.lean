/- pool.Take: the caller that collects, and breaks. -/
import Derived.Test.YteojodddfanepaaPoolFree
import Derived.Test.YteojodddfanepaaRound
namespace Go.Proofs.Yteojodddfanepaa
open Go.RowKit Go.Shelf
set_option linter.unusedVariables false
attribute [local go_sem] Oper.semAt_some

theorem boxed_below {W W' : World} {B : Nat} {t : TypeId} {v : Value} (h : Boxed W B t v) (hb : Below W.heap.size W W') : Boxed W' B t v := (hb.block B h.lt).trans h
/-- the numbers of the ones that have come -/
def fnums {N : Nat} (pre : List (Fin N)) : List Int := nums (pre.map Fin.val)
theorem fnums_length {N : Nat} (pre : List (Fin N)) : (fnums pre).length = pre.length := by simp [fnums, nums]
theorem fnums_snoc {N : Nat} (pre : List (Fin N)) (x : Fin N) : fnums (pre ++ [x]) = fnums pre ++ [(x.val : Int) + 1] := by simp [fnums, nums]
def fset (l : List Nat) {N : Nat} (pre : List (Fin N)) : List Nat := setAll l (pre.map Fin.val)
theorem fset_snoc (l : List Nat) {N : Nat} (pre : List (Fin N)) (x : Fin N) : fset l (pre ++ [x]) = setBit (fset l pre) x.val 1 := by unfold fset; rw [List.map_append]; exact setAll_snoc _ _ _
theorem fset_length (l : List Nat) {N : Nat} (pre : List (Fin N)) : (fset l pre).length = l.length := setAll_length _ _
theorem fset_wd {l : List Nat} (h : Wd64 l) {N : Nat} (pre : List (Fin N)) : Wd64 (fset l pre) := setAll_wd h _

/-- what stands in the boxes when 'pre' has come -/
def TI (w : World) (l : List Nat) (k Bl : Nat) (vl : Value) (pre : List (Fin (64 * l.length))) (W : World) : Prop :=
  (∃ v, Boxed W (w.heap.size + 1) 25 v ∧ W.ownsRow (w.heap.size + 1 + 1 + 1) 3 1 v pre.length (i64s (fnums pre)) ∧ True) ∧
  (∃ v, Boxed W (w.heap.size + 1 + 1) 22 v ∧ W.ownsRow w.heap.size 38 1 v l.length (u64s (fset l pre)) ∧ True) ∧
  Boxed W w.heap.size 3 (.int .i64 k) ∧ Boxed W Bl 22 vl ∧ pre.length ≤ k ∧ Below w.heap.size w W
theorem TI_own (w : World) (l : List Nat) (k Bl : Nat) (vl : Value) (B : Nat) (hB : w.heap.size ≤ B) : OwnFrom B (TI w l k Bl vl) :=
  OwnFrom.and (Own.from (holdsRow_own (w.heap.size + 1 + 1 + 1) (w.heap.size + 1) 25 3 1 (fun pre : List (Fin (64 * l.length)) => pre.length) (fun pre => i64s (fnums pre)) (fun _ _ => True)) B)
    (OwnFrom.and (Own.from (holdsRow_own w.heap.size (w.heap.size + 1 + 1) 22 38 1 (fun _ : List (Fin (64 * l.length)) => l.length) (fun pre => u64s (fset l pre)) (fun _ _ => True)) B)
      (OwnFrom.and (Own.from (boxed_own w.heap.size 3 (fun _ : List (Fin (64 * l.length)) => .int .i64 k)) B)
       (OwnFrom.and (Own.from (boxed_own Bl 22 (fun _ : List (Fin (64 * l.length)) => vl)) B)
        (OwnFrom.and (ownFrom_pure B (fun pre : List (Fin (64 * l.length)) => pre.length ≤ k)) (ownFrom_below (Nat.le_refl _) hB)))))
/-- left at the k-th but one: the last one has not been taken in -/
def TX (w : World) (l : List Nat) (k Bl : Nat) (vl : Value) (c : Code) (pre : List (Fin (64 * l.length))) (W : World) : Prop := c = .exit 0 ∧ ∃ p x, pre = p ++ [x] ∧ p.length = k ∧ TI w l k Bl vl p W
theorem TX_own (w : World) (l : List Nat) (k Bl : Nat) (vl : Value) (B : Nat) (hB : w.heap.size ≤ B) (c : Code) : OwnFrom B (TX w l k Bl vl c) := by
  rintro pre W W' row ⟨hc, p, x, hp, hk, h⟩ hg hr
  exact ⟨hc, p, x, hp, hk, TI_own w l k Bl vl B hB p W W' row h hg hr⟩

theorem boxed_put {W : World} {B D : Nat} {t : TypeId} {v : Value} {x : Option (List Deferred)} (h : Boxed W B t v) (hK : W.heap[D]? = some (.deferred x)) (o' : Obj) : Boxed (W.putObj D o') B t v :=
  h.kept (grownBy_putObj' W D o') (by
    intro e
    injection e with e
    subst e
    rw [show W.heap[B]? = _ from h] at hK
    cases hK)
/-- behind two stores into two boxes -/
theorem two_boxes {W : World} {B1 B2 D : Nat} {t1 t2 : TypeId} {v1 v2 : Value} (u1 u2 : Value) (h1 : Boxed W B1 t1 v1) (h2 : Boxed W B2 t2 v2) (hne : B1 ≠ B2) (hK : W.heap[D]? = some (.deferred (some []))) :
    ∃ W', W' = (W.setCell ⟨B1, 0, none⟩ u1).setCell ⟨B2, 0, none⟩ u2 ∧ W'.heap[D]? = some (.deferred (some [])) ∧ (∀ o', Boxed (W'.putObj D o') B1 t1 u1) ∧ (∀ o', Boxed (W'.putObj D o') B2 t2 u2) ∧
      (∀ {base : Nat} {e : TypeId} {size : Nat} {v : Value} {n : Nat} {xs : List Value} (o' : Obj), t1 ≠ e → t2 ≠ e → W.ownsRow base e size v n xs → o'.isCells = false → (W'.putObj D o').ownsRow base e size v n xs) ∧
      (∀ {b : Nat} {w : World} (o' : Obj), b ≤ B1 → b ≤ B2 → b ≤ D → Below b w W → Below b w (W'.putObj D o')) := by
  have k1 := h1.set u1
  have k2 := h2.other (Ne.symm hne) u1
  have j1 := k1.other hne u2
  have j2 := k2.set u2
  have hDl := (Array.getElem?_eq_some_iff.1 hK).1
  have hD1 : D ≠ B1 := by rintro rfl; rw [show W.heap[D]? = _ from h1] at hK; cases hK
  have hD2 : D ≠ B2 := by rintro rfl; rw [show W.heap[D]? = _ from h2] at hK; cases hK
  have hK1 := ((grownBy_setCell' W B1 u1).block D hDl (by simpa using hD1)).trans hK
  have hK2 := ((grownBy_setCell' (W.setCell ⟨B1, 0, none⟩ u1) B2 u2).block D (by rw [World.size_setCell]; exact hDl) (by simpa using hD2)).trans hK1
  refine ⟨_, rfl, hK2, fun o' => boxed_put j1 hK2 o', fun o' => boxed_put j2 hK2 o', ?_, ?_⟩
  · intro base e size v n xs o' he1 he2 ho ho'
    have r1 := ho.kept (grownBy_setCell' W B1 u1) (.inr (h1.not_row he1 ho).symm)
    have r2 := r1.kept (grownBy_setCell' _ B2 u2) (.inr (k2.not_row he2 r1).symm)
    exact ownsRow_putObj r2 o' hK2 rfl
  · intro b w o' hb1 hb2 hbD hB
    have hB2 := (hB.setCell (p := ⟨B1, 0, none⟩) hb1 u1).setCell (p := ⟨B2, 0, none⟩) hb2 u2
    exact hB2.grown (grownBy_putObj' _ D o') (by have := (Array.getElem?_eq_some_iff.1 hK2).1; omega) (fun k e => by cases e; omega)
/-- what a call of Take hands back where n may be and 0 ≤ k -/
def HandsTakeAny (w : World) (l : List Nat) (n k : Nat) (r : Ending) (w' : World) : Prop :=
  ((frees l n).length < k ∧ r = .returned (.tuple #[.slice none 0 0, .slice none 0 0, .int .i64 4]) ∧ Below w.heap.size w w') ∨ (k ≤ (frees l n).length ∧ HandsTake w l n k r w')

set_option maxRecDepth 100000 in
set_option maxHeartbeats 4000000 in
theorem Take_any (v : Value) (l : List Nat) (n k : Nat) (w : World) (h : Rd w v l.length (u64s l)) (hw : Wd64 l) (hn : n ≤ 64 * l.length) (hk : k ≤ 9223372036854775807) (hl : l.length ≤ 65536) :
    Calls Try.prog 10 #[v, .int .i64 n, .int .i64 k] w (HandsTakeAny w l n k) := by
  refine (callsIn_wide (n := 3)).1 ?_
  have HM := Lib.hid (fun W hW => may_yes v l n W hW (by unfold May; omega) hl)
  have HR := Lib.hid h
  have HO := Lib.hid (fun W hW => own_any v l W hW hl)
  obtain ⟨A, c, rfl, _, _, hcell⟩ := h
  have hb3 : Below w.heap.size w (((w.alloc (.cells #[.int .i64 k] 3)).alloc (.cells #[.slice none 0 0] 25)).alloc (.cells #[.slice none 0 0] 22)) := (((Below.refl _ w).alloc (Nat.le_refl _) _).alloc (by simp) _).alloc (by simp; omega) _
  have HB3 := Lib.hid hb3
  have bK := Lib.hid (((Boxed.new w 3 (.int .i64 k)).alloc (.cells #[.slice none 0 0] 25)).alloc (.cells #[.slice none 0 0] 22))
  have bG := Lib.hid ((Boxed.new (w.alloc (.cells #[.int .i64 k] 3)) 25 (.slice none 0 0)).alloc (.cells #[.slice none 0 0] 22))
  have bR := Lib.hid (Boxed.new ((w.alloc (.cells #[.int .i64 k] 3)).alloc (.cells #[.slice none 0 0] 25)) 22 (.slice none 0 0))
  have HW := Lib.hid hw
  have hkd : decide ((k : Int) < 0) = false := by simp
  clear hcell hw hb3
  refine callsIn_of_wp_marks Try.func10 rfl trivial ?_ rfl
  simp only [Try.ntmps10, List.size_toArray, List.length_cons, List.length_nil, Nat.reduceAdd, Nat.reduceSub, Array.replicate_succ, Array.replicate_zero, List.push_toArray, List.append_toArray, List.nil_append, List.cons_append]
  gi_wp2_with (first
    | (refine ⟨trivial, ?_⟩; gi_at_call 20; refine (callsIn_wide.2 (HM.out _ (HR.out.below HB3.out))).mono ?_; rintro e w' ⟨rfl, rfl⟩)
    | (refine ⟨trivial, ?_⟩; gi_at_call 21; refine (callsIn_wide.2 (HO.out _ (HR.out.below HB3.out))).mono ?_; rintro e w1 ⟨A1, c1, rfl, hown1, hb1⟩; have bR1 := boxed_below bR.out hb1; simp only [World.size_alloc] at bR1; have hcR := bR1.cell; have hfR := bR1.frozen)
    | (refine ⟨trivial, ?_⟩; gi_at_call 22; refine (free_in Fence.wide _ trivial rfl _ _ _ _ _).mono ?_; rintro e w' ⟨rfl, rfl⟩))
  have bK1 := boxed_below bK.out hb1
  have bG1 := boxed_below bG.out hb1
  have hwr1 : Below w.heap.size w w1 := HB3.out.trans (hb1.mono (by simp; omega))
  have hown1' : w1.ownsRow w.heap.size 38 1 (.slice A1 l.length c1) l.length (u64s l) := own_mono hown1 (by simp; omega)
  obtain ⟨W4, hW4⟩ : ∃ W4, W4 = w1.setCell ⟨w.heap.size + 1 + 1, 0, none⟩ (.slice A1 l.length c1) := ⟨_, rfl⟩
  have bR4 : Boxed W4 (w.heap.size + 1 + 1) 22 (.slice A1 l.length c1) := by rw [hW4]; exact bR1.set _
  have bK4 : Boxed W4 w.heap.size 3 (.int .i64 k) := by rw [hW4]; exact bK1.other (by omega) _
  have bG4 : Boxed W4 (w.heap.size + 1) 25 (.slice none 0 0) := by
    rw [hW4]
    simp only [World.size_alloc] at bG1
    exact bG1.other (by omega) _
  have hown4 : W4.ownsRow w.heap.size 38 1 (.slice A1 l.length c1) l.length (u64s l) := by
    rw [hW4]
    exact hown1'.kept (grownBy_setCell' w1 (w.heap.size + 1 + 1) _) (.inr (bR1.not_row (by decide) hown1').symm)
  have hB4 : Below w.heap.size w W4 := by rw [hW4]; exact hwr1.setCell (by show w.heap.size ≤ w.heap.size + 1 + 1; omega) _
  have hsz4 : W4.heap.size = w1.heap.size := by rw [hW4]; exact World.size_setCell _ _ _
  have hszw := bR4.lt
  rw [← hW4, ← hsz4]
  clear hsz4 hW4
  have bL := (Boxed.new W4 22 (.slice A l.length c)).alloc (.cells #[.int .i64 n] 3)
  have bN := Boxed.new (W4.alloc (.cells #[.slice A l.length c] 22)) 3 (.int .i64 n)
  rw [World.size_alloc] at bN
  have hB5 : Below w.heap.size w ((W4.alloc (.cells #[.slice A l.length c] 22)).alloc (.cells #[.int .i64 n] 3)) := (hB4.alloc (by omega) _).alloc (by simp; omega) _
  have HI : Hid (∀ j (hj : j < l.length), ∃ b o, A = some ⟨b, o, none⟩ ∧ b < w.heap.size ∧ ((W4.alloc (.cells #[.slice A l.length c] 22)).alloc (.cells #[.int .i64 n] 3)).cell? ⟨b, o + j, none⟩ = some (.int .u64 (l[j] : Nat))) := by
    intro j hj
    obtain ⟨b, o, hA, hc⟩ := HR.out.at_ (u64s_at hj)
    have hb := World.block_lt_of_cell? w _ hc
    exact ⟨b, o, hA, hb, (hB5.cell (p := ⟨b, o + j, none⟩) hb).trans hc⟩
  have hTI : TI w l k W4.heap.size (.slice A l.length c) [] ((W4.alloc (.cells #[.slice A l.length c] 22)).alloc (.cells #[.int .i64 n] 3)) :=
    ⟨⟨_, (bG4.alloc _).alloc _, World.ownsRow_nil _ _ _ _, trivial⟩, ⟨_, (bR4.alloc _).alloc _, (hown4.alloc _).alloc _, trivial⟩, (bK4.alloc _).alloc _, bL, Nat.zero_le _, hB5⟩
  refine wpIn_rangeFunc_ownG rfl (by omega) (gf := 27) (lb := #[.pointer (some ⟨W4.heap.size + 1, 0, none⟩), .pointer (some ⟨W4.heap.size, 0, none⟩)]) rfl trivial (enters_of Try.func27 (by kernel_rfl) rfl)
    (free_stops Fence.wide _ trivial rfl (by omega) W4.heap.size (W4.heap.size + 1) w.heap.size A c l HW.out hl n hn _ (by simp; omega) (by simp) (by simp; omega) bL.cell bN.cell HI.out) Kb.trans (Kb_b (by simp; omega) (by simp; omega)) (Below.refl _ _) (fun _ => rfl)
    (TI w l k W4.heap.size (.slice A l.length c)) (TX w l k W4.heap.size (.slice A l.length c)) (TI_own w l k _ _ _ (by simp; omega)) (TX_own w l k _ _ _ (by simp; omega)) hTI
    (fun x => { tmps := #[.slice A l.length c, .int .i64 n, .int .i64 k, undef, undef, .pointer (some ⟨w.heap.size, 0, none⟩), .pointer (some ⟨w.heap.size + 1, 0, none⟩), .pointer (some ⟨w.heap.size + 1 + 1, 0, none⟩), .int .i64 0, .int .i64 (x.val : Int),
      .slice A l.length c, .int .i64 n, .bool true, .bool false, .bool false, .int .i64 k, .bool false, .bool false, .slice A l.length c, .slice A1 l.length c1, .slice A l.length c, .int .i64 n,
      .func (.func 27) #[] #[.pointer (some ⟨W4.heap.size + 1, 0, none⟩), .pointer (some ⟨W4.heap.size, 0, none⟩)], .int .i64 (x.val : Int),
      undef, undef, undef, undef, undef, undef, undef, undef, undef, undef, undef, undef, undef, undef, undef, undef, undef, undef, undef, undef, undef, undef, undef, undef, undef], defers := [] }) ?assign ?body ?done ?stop
  case assign =>
    intro lp x W K hK
    gi_wp2
    exact hK
  case body =>
    clear hTI HI hB5 bL bN hown4 hB4 bG4 bK4 bR4 hcR hfR hown1 hown1' bR1 bK1 bG1 hb1 hwr1
    rintro lp pre x W ⟨⟨v, hv, hrow, _⟩, ⟨u, hu, hur, _⟩, hbk, hbl, hlen, hB⟩ hlt
    obtain ⟨Ag, cg, rfl⟩ := own_form hrow
    have hx := x.isLt
    obtain ⟨g, capg, rfl, hgb, hglt⟩ := hur.form (by omega)
    have hcg := hv.cell
    have hck := hbk.cell
    by_cases hk2 : pre.length = k
    · have hd : ((pre.length : Int) == (k : Int)) = true := by simp; omega
      have HT := Lib.hid (show TI w l k W4.heap.size (.slice A l.length c) pre W from ⟨⟨_, hv, hrow, trivial⟩, ⟨_, hu, hur, trivial⟩, hbk, hbl, hlen, hB⟩)
      have Hk2 := Lib.hid hk2
      clear hk2 hv hrow hu hur hbk hbl hlen hB
      gi_wp2
      exact ⟨KeepsFrom.refl _ _, rfl, pre, x, rfl, Hk2.out, HT.out⟩
    · have hd : ((pre.length : Int) == (k : Int)) = false := by simp; omega
      obtain ⟨i0, hi, hz0, hz1, hz2⟩ := info_parts infoInt
      have Hlen := Lib.hid (show pre.length + 1 ≤ k by omega)
      have Hrow := Lib.hid hrow
      have Hu := Lib.hid hu
      have Hur := Lib.hid hur
      have Hbk := Lib.hid hbk
      have Hbl := Lib.hid hbl
      clear hk2 hlen
      gi_wp2_with (first
        | (gi_at_builtin; refine wpListIn_append_own _ rfl _ _ 25 rfl (w.heap.size + 1 + 1 + 1) 3 i0 (.int .i64 0) 1 8 Try.underlying25 hi hz0 hz1 hz2 rfl (by decide) _ _ _ rfl (Hrow.out.alloc _) ⟨W.heap.size, 0, none⟩ 1 1 [.int .i64 ((x.val : Int) + 1)] rfl rfl (cell_one_new _ _ _) (by simp [Value.oneCell']) (by unfold maxLen; omega) (by omega) (by have := Hu.out.lt; simp; omega) ?_; intro v' w2 hown' hgrow _; obtain ⟨g', cap', rfl⟩ := ownsRow_succ hown'; obtain ⟨hv1, hv2, hr2, hk2, hb2⟩ := hv.appended (by decide) (own_mono Hrow.out (show w.heap.size ≤ w.heap.size + 1 + 1 + 1 by omega)) hB.size (by omega) (own_mono hown' (show w.heap.size ≤ w.heap.size + 1 + 1 + 1 by omega)) hgrow; clear hr2; have hr2 := hown'.kept (grownBy_setCell' w2 (w.heap.size + 1) (.slice (some ⟨g', 0, none⟩) (pre.length + 1) cap')) (.inr (hv1.not_row (by decide) hown').symm); have hc1 := hv1.cell; have hf1 := hv1.frozen))
      have hu1 : Boxed w2 (w.heap.size + 1 + 1) 22 (.slice (some ⟨g, 0, none⟩) l.length capg) := (Hu.out.alloc _).kept hgrow (Hu.out.not_row (by decide) Hrow.out)
      have hk1 : Boxed w2 w.heap.size 3 (.int .i64 k) := (Hbk.out.alloc _).kept hgrow (by
        intro e
        have h3 := Hrow.out.lt _ e.symm
        omega)
      have hl1 : Boxed w2 W4.heap.size 22 (.slice A l.length c) := (Hbl.out.alloc _).kept hgrow (Hbl.out.not_row (by decide) Hrow.out)
      have hur1 : w2.ownsRow w.heap.size 38 1 (.slice (some ⟨g, 0, none⟩) l.length capg) l.length (u64s (fset l pre)) := own_grown (Hur.out.alloc _) (Hrow.out.alloc _) (by decide) hgrow
      obtain ⟨W6, hW6⟩ : ∃ W6, W6 = w2.setCell ⟨w.heap.size + 1, 0, none⟩ (.slice (some ⟨g', 0, none⟩) (pre.length + 1) cap') := ⟨_, rfl⟩
      have hu6 : Boxed W6 (w.heap.size + 1 + 1) 22 (.slice (some ⟨g, 0, none⟩) l.length capg) := by rw [hW6]; exact hu1.other (by omega) _
      have hk6 : Boxed W6 w.heap.size 3 (.int .i64 k) := by rw [hW6]; exact hk1.other (by omega) _
      have hl6 : Boxed W6 W4.heap.size 22 (.slice A l.length c) := by rw [hW6]; exact hl1.other (by omega) _
      have hur6 : W6.ownsRow w.heap.size 38 1 (.slice (some ⟨g, 0, none⟩) l.length capg) l.length (u64s (fset l pre)) := by
        rw [hW6]; exact hur1.kept (grownBy_setCell' _ _ _) (.inr (hv1.not_row (by decide) hur1).symm)
      rw [← hW6] at hv2 hr2 hk2 hb2
      rw [← hW6]
      have hq : x.val / 64 < l.length := by omega
      have hrl := fset_length l pre
      have hq2 : x.val / 64 < (fset l pre).length := by rw [hrl]; exact hq
      have hcx := (hur6.cellAt (x.val / 64) (by omega)).trans (u64s_at hq2)
      have hfx := hur6.frozenAt (x.val / 64)
      have hxx : (fset l pre)[x.val / 64] < 18446744073709551616 := fset_wd HW.out pre _ (List.getElem_mem hq2)
      have hgd : (fset l pre).getD (x.val / 64) 0 = (fset l pre)[x.val / 64] := getD_at hq2
      have hst := (hur6.stored (x.val / 64) (.int .u64 ((putW (fset l pre)[x.val / 64] (x.val % 64) 1 1 : Nat) : Int)))
      have hst1 := hst.1
      have hst2 := hst.2
      rw [u64s_setAt, ← hgd] at hst1
      have hsb : (fset l pre).set (x.val / 64) (putW ((fset l pre).getD (x.val / 64) 0) (x.val % 64) 1 1) = fset l (pre ++ [x]) := by rw [fset_snoc]; rfl
      rw [hsb] at hst1
      rw [hgd] at hst1
      generalize (fset l pre)[x.val / 64] = y at *
      have hcu := hu6.cell
      have Hst1 := Lib.hid hst1
      have Hst2 := Lib.hid hst2
      have Hsb := Lib.hid (set_bit y (x.val % 64) hxx (by omega))
      have hki : (x.val : Int) / 64 < (l.length : Int) := by omega
      have hk0 : (0 : Int) ≤ (x.val : Int) / 64 := by omega
      have hk1' : ((x.val : Int) / 64).toNat = x.val / 64 := by omega
      have hk2' : (0 : Int) ≤ (x.val : Int) % 64 := by omega
      have hk3' : ((x.val : Int) % 64).toNat = x.val % 64 := by omega
      clear hst hst1 hst2 hsb hgd hc1 hf1 hcg hck hu1 hk1 hl1 hur1 hgrow hown' hW6
      refine region_round_tail 10 (fun _ _ h => h) (by kernel_rfl) (by kernel_rfl) (by kernel_rfl) ?_
      simp only [List.take_succ_cons, List.take_zero, List.drop_succ_cons, List.drop_zero]
      repeat (refine wpStill_step (fun K hK => ?_); go_simp; (try go_bits); (try go_simp); refine hK _ ?_; clear hK K)
      refine wpStill_nil ?_
      go_wp2
      rw [Hsb.out]
      have kb : ∀ {B : Nat} {t : TypeId} {v : Value}, t ≠ 38 → Boxed W6 B t v → Boxed (W6.setCell ⟨g, x.val / 64, none⟩ (.int .u64 ((putW y (x.val % 64) 1 1 : Nat) : Int))) B t v := fun ht hb => hb.kept Hst2.out (hb.not_row ht hur6)
      have hr7 := hr2.kept Hst2.out (own_ne hr2 hur6 (by decide))
      have hB6 : Below w.heap.size W (W6.setCell ⟨g, x.val / 64, none⟩ (.int .u64 ((putW y (x.val % 64) 1 1 : Nat) : Int))) := hb2.setCell hgb _
      refine ⟨((hk2.trans (KeepsOthers.setCell _ _ _)).trans (KeepsOthers.drew _)).from _, ⟨hB6.drew, ?_⟩, ⟨_, kb (by decide) hv2, ?_, trivial⟩, ⟨_, kb (by decide) hu6, Hst1.out, trivial⟩, kb (by decide) hk6, kb (by decide) hl6, by rw [List.length_append]; exact Hlen.out, (hB.trans hB6).drew⟩
      · exact (kb (by decide) hl6).cell.trans Hbl.out.cell.symm
      · rw [List.length_append, fnums_snoc, i64s_append]
        exact hr7
  case done =>
    clear hTI HI hB5 bL bN hown4 hB4 bG4 bK4 bR4 hcR hfR hown1 hown1' bR1 bK1 bG1 hb1 hwr1
    rintro D ys W hD hys ⟨⟨v, hv, hrow, _⟩, ⟨u, hu, hur, _⟩, hbk, hbl, hlen, hB⟩ hK
    obtain ⟨Ag, cg, rfl⟩ := own_form hrow
    obtain ⟨Au, cu, rfl⟩ := own_form hur
    have hcv := hv.cell
    have hfv := hv.frozen
    have hcu := hu.cell
    have hfu := hu.frozen
    have hck := hbk.cell
    simp only [World.size_alloc] at hD
    have hval : ys.map Fin.val = frees l n := by rw [hys]; exact freF_val hn
    have hle : ys.length = (frees l n).length := by rw [← hval, List.length_map]
    clear hys
    by_cases hk2 : ys.length < k
    · have hd : decide ((ys.length : Int) < (k : Int)) = true := by simp; omega
      have Hk2 := Lib.hid (show (frees l n).length < k by omega)
      obtain ⟨W', hW', hK2, g1, g2, g3, g4⟩ := two_boxes (.slice none 0 0) (.slice none 0 0) hv hu (by omega) hK
      have G4 := Lib.hid (g4 (.deferred none) (by omega) (by omega) (by omega) hB)
      have c1 := (g1 (.deferred none)).cell
      have c2 := (g2 (.deferred none)).cell
      clear hval hle g1 g2 g3 g4 hrow hur hB hv hu hbk hbl
      gi_wp2
      rw [← hW']
      clear hW'
      refine ⟨by simp, .inl ⟨_, _, rfl, run_takeDeferred hK2, ?_⟩⟩
      refine ⟨_, ?_, .inl ⟨Hk2.out, rfl, G4.out⟩⟩
      unfold results
      go_simp
    · obtain rfl : k = ys.length := by omega
      have hkk : ¬ (ys.length < ys.length) := Nat.lt_irrefl _
      have hX : ys.map Fin.val = takes l n ys.length := by
        rw [hval]; unfold takes; rw [List.take_of_length_le (by omega)]
      have hN : ys.length ≤ (frees l n).length := by omega
      clear hval hle hk2
      obtain ⟨W', hW', hK2, g1, g2, g3, g4⟩ := two_boxes (.slice Ag ys.length cg) (.slice Au l.length cu) hv hu (by omega) hK
      have HX := Lib.hid hX
      have HN := Lib.hid hN
      have G3 := Lib.hid (g3 (e := 3) (.deferred none) (by decide) (by decide) hrow rfl)
      have G5 := Lib.hid (g3 (e := 38) (.deferred none) (by decide) (by decide) hur rfl)
      have G4 := Lib.hid (g4 (.deferred none) (by omega) (by omega) (by omega) hB)
      have c1 := (g1 (.deferred none)).cell
      have c2 := (g2 (.deferred none)).cell
      have c1d : ((World.drew W').putObj D (.deferred none)).cell? ⟨w.heap.size + 1, 0, none⟩ = _ := c1
      have c2d : ((World.drew W').putObj D (.deferred none)).cell? ⟨w.heap.size + 1 + 1, 0, none⟩ = _ := c2
      clear c1 c2
      clear hX hN g1 g2 g3 g4 hrow hur hB hv hu hbk hbl
      gi_wp2
      refine wpIn_wide.2 ?_
      go_region
      all_goals
        rw [← hW']
        clear hW'
        gi_wp2
        refine ⟨by simp, .inl ⟨_, _, rfl, run_takeDeferred (w := World.drew _) hK2, ?_⟩⟩
        refine ⟨_, ?_, .inr ⟨HN.out, Ag, cg, Au, cu, rfl, ?_, ?_, ?_⟩⟩
        · unfold results
          go_simp
        · have := own_mono G3.out (show w.heap.size ≤ w.heap.size + 1 + 1 + 1 by omega)
          unfold fnums at this
          rw [HX.out] at this
          exact this
        · have := G5.out
          unfold fset at this
          rw [HX.out] at this
          exact this
        · exact G4.out.drew
  case stop =>
    clear hTI HI hB5 bL bN hown4 hB4 bG4 bK4 bR4 hcR hfR hown1 hown1' bR1 bK1 bG1 hb1 hwr1
    rintro D cc pre W hD hpre ⟨rfl, p, x, rfl, hyk, ⟨v, hv, hrow, _⟩, ⟨u, hu, hur, _⟩, hbk, hbl, hlen, hB⟩ hK
    obtain ⟨Ag, cg, rfl⟩ := own_form hrow
    obtain ⟨Au, cu, rfl⟩ := own_form hur
    have hcv := hv.cell
    have hfv := hv.frozen
    have hcu := hu.cell
    have hfu := hu.frozen
    have hck := hbk.cell
    simp only [World.size_alloc] at hD
    obtain rfl : k = p.length := hyk.symm
    have hX : p.map Fin.val = takes l n p.length := by
      obtain ⟨r, hr⟩ := hpre
      unfold takes
      rw [← freF_val hn, ← hr, List.map_append, List.map_append, List.append_assoc, List.take_append_of_le_length (by simp), List.take_of_length_le (by simp)]
    have hN : p.length ≤ (frees l n).length := by
      obtain ⟨r, hr⟩ := hpre
      rw [← freF_val hn, ← hr]
      simp
    have hkk : ¬ (p.length < p.length) := Nat.lt_irrefl _
    clear hpre
    · skip
      obtain ⟨W', hW', hK2, g1, g2, g3, g4⟩ := two_boxes (.slice Ag p.length cg) (.slice Au l.length cu) hv hu (by omega) hK
      have HX := Lib.hid hX
      have HN := Lib.hid hN
      have G3 := Lib.hid (g3 (e := 3) (.deferred none) (by decide) (by decide) hrow rfl)
      have G5 := Lib.hid (g3 (e := 38) (.deferred none) (by decide) (by decide) hur rfl)
      have G4 := Lib.hid (g4 (.deferred none) (by omega) (by omega) (by omega) hB)
      have c1 := (g1 (.deferred none)).cell
      have c2 := (g2 (.deferred none)).cell
      have c1d : ((World.drew W').putObj D (.deferred none)).cell? ⟨w.heap.size + 1, 0, none⟩ = _ := c1
      have c2d : ((World.drew W').putObj D (.deferred none)).cell? ⟨w.heap.size + 1 + 1, 0, none⟩ = _ := c2
      clear c1 c2
      clear hX hN g1 g2 g3 g4 hrow hur hB hv hu hbk hbl
      gi_wp2
      refine wpIn_wide.2 ?_
      go_region
      all_goals
        rw [← hW']
        clear hW'
        gi_wp2
        refine ⟨by simp, .inl ⟨_, _, rfl, run_takeDeferred (w := World.drew _) hK2, ?_⟩⟩
        refine ⟨_, ?_, .inr ⟨HN.out, Ag, cg, Au, cu, rfl, ?_, ?_, ?_⟩⟩
        · unfold results
          go_simp
        · have := own_mono G3.out (show w.heap.size ≤ w.heap.size + 1 + 1 + 1 by omega)
          unfold fnums at this
          rw [HX.out] at this
          exact this
        · have := G5.out
          unfold fset at this
          rw [HX.out] at this
          exact this
        · exact G4.out.drew
end Go.Proofs.Yteojodddfanepaa
