/- pool.Free: the caller that counts. -/
import Derived.Test.YteojodddfanepaaPoolIter
namespace Go.Proofs.Yteojodddfanepaa
open Go.RowKit Go.Shelf
set_option linter.unusedVariables false
attribute [local go_sem] Oper.semAt_some

set_option maxHeartbeats 1000000 in
theorem Free_no (v : Value) (l : List Nat) (n : Int) (w : World) (h : Rd w v l.length (u64s l)) (hn : ¬ May l n) (hn1 : -9223372036854775808 ≤ n) (hn2 : n ≤ 9223372036854775807) (hl : l.length ≤ 65536) :
    Calls Try.prog 12 #[v, .int .i64 n] w fun e w' => e = .returned (.tuple #[.int .i64 0, .int .i64 2]) ∧ w = w' := by
  have HM := Lib.hid (may_no v l n w h hn hn1 hn2 hl)
  clear h hn
  go_enter Try.func12, Try.ntmps12
  go_wp2_with fail
  refine HM.out.mono ?_
  rintro e w' ⟨rfl, rfl⟩
  go_wp2
  go_ret2
  exact ⟨rfl, rfl⟩

set_option maxRecDepth 100000 in
set_option maxHeartbeats 2000000 in
theorem Free_yes (v : Value) (l : List Nat) (n : Nat) (w : World) (h : Rd w v l.length (u64s l)) (hw : Wd64 l) (hn : n ≤ 64 * l.length) (hl : l.length ≤ 65536) :
    Calls Try.prog 12 #[v, .int .i64 n] w fun e w' => e = .returned (.tuple #[.int .i64 ((frees l n).length : Nat), .int .i64 0]) ∧ Below w.heap.size w w' := by
  refine (callsIn_wide (n := 3)).1 ?_
  have HM := Lib.hid (may_yes v l n w h (by unfold May; omega) hl)
  have hR := h
  obtain ⟨A, c, rfl, _, _, hcell⟩ := h
  have hB0 : Below w.heap.size w (((w.alloc (.cells #[.int .i64 0] 3)).alloc (.cells #[.slice A l.length c] 22)).alloc (.cells #[.int .i64 n] 3)) := (((Below.refl _ w).alloc (Nat.le_refl _) _).alloc (by simp) _).alloc (by simp; omega) _
  have hI2 : ∀ j (hj : j < l.length), ∃ b o, A = some ⟨b, o, none⟩ ∧ b < w.heap.size ∧ (((w.alloc (.cells #[.int .i64 0] 3)).alloc (.cells #[.slice A l.length c] 22)).alloc (.cells #[.int .i64 n] 3)).cell? ⟨b, o + j, none⟩ = some (.int .u64 (l[j] : Nat)) := by
    intro j hj
    obtain ⟨b, o, hA, hc⟩ := hcell j _ (u64s_at hj)
    have hb := World.block_lt_of_cell? w _ hc
    exact ⟨b, o, hA, hb, (hB0.cell (p := ⟨b, o + j, none⟩) hb).trans hc⟩
  have HI := Lib.hid hI2
  have HW := Lib.hid hw
  clear hcell hI2 hw hR
  refine callsIn_of_wp_marks Try.func12 rfl trivial ?_ rfl
  simp only [Try.ntmps12, List.size_toArray, List.length_cons, List.length_nil, Nat.reduceAdd, Nat.reduceSub, Array.replicate_succ, Array.replicate_zero, List.push_toArray, List.append_toArray, List.nil_append, List.cons_append]
  gi_wp2_with (first
    | (refine ⟨trivial, ?_⟩; gi_at_call 20; refine (callsIn_wide.2 HM.out).mono ?_; rintro e w' ⟨rfl, rfl⟩)
    | (refine ⟨trivial, ?_⟩; gi_at_call 22; refine (free_in Fence.wide _ trivial rfl _ _ _ _ _).mono ?_; rintro e w' ⟨rfl, rfl⟩))
  have bK := Boxed.new w 3 (.int .i64 0)
  have bL := Boxed.new (w.alloc (.cells #[.int .i64 0] 3)) 22 (.slice A l.length c)
  have bN := Boxed.new ((w.alloc (.cells #[.int .i64 0] 3)).alloc (.cells #[.slice A l.length c] 22)) 3 (.int .i64 n)
  rw [World.size_alloc] at bL
  rw [World.size_alloc, World.size_alloc] at bN
  refine wpIn_rangeFunc_ownG rfl (by omega) (gf := 27) (lb := #[.pointer (some ⟨w.heap.size + 1 + 1, 0, none⟩), .pointer (some ⟨w.heap.size + 1, 0, none⟩)]) rfl trivial (enters_of Try.func27 (by kernel_rfl) rfl)
    (free_stops Fence.wide _ trivial rfl (by omega) (w.heap.size + 1) (w.heap.size + 1 + 1) w.heap.size A c l HW.out hl n hn _ (by simp) (by simp) (by simp; omega) (bL.alloc _).cell bN.cell HI.out) Kb.trans (Kb_b (by simp; omega) (by simp)) (Below.refl _ _) (fun _ => rfl)
    (fun pre W => Boxed W w.heap.size 3 (.int .i64 (pre.length : Nat)) ∧ Below w.heap.size w W)
    (fun _ _ _ => False)
    (OwnFrom.and (Own.from (boxed_own _ _ _) _) (ownFrom_below (Nat.le_refl _) (by simp; omega)))
    (fun _ _ _ _ _ hs _ _ => hs)
    ⟨(bK.alloc _).alloc _, hB0⟩
    (fun x => { tmps := #[.slice A l.length c, .int .i64 n, undef, undef, .int .i64 0, .int .i64 0, .pointer (some ⟨w.heap.size, 0, none⟩), .slice A l.length c, .int .i64 n, .bool true, .bool false, .slice A l.length c, .int .i64 n,
      .func (.func 27) #[] #[.pointer (some ⟨w.heap.size + 1 + 1, 0, none⟩), .pointer (some ⟨w.heap.size + 1, 0, none⟩)], .int .i64 (x.val : Int), undef, undef, undef], defers := [] }) ?assign ?body ?done ?stop
  case assign =>
    intro lp x W K hK
    gi_wp2
    simp
    exact hK
  case body =>
    rintro lp pre x W ⟨hb, hB⟩ hlen
    have hc := hb.cell
    have hf := hb.frozen
    have hlt := hb.lt
    gi_wp2
    exact ⟨(KeepsOthers.setCell _ _ _).from _, ⟨(Below.refl w.heap.size W).setCell (p := ⟨w.heap.size, 0, none⟩) (Nat.le_refl _) _, World.cell?_setCell_other _ _ _ _ (by simp)⟩, by
      have := hb.set (.int .i64 ((pre.length : Int) + 1))
      rw [List.length_append]
      exact this, hB.setCell (p := ⟨w.heap.size, 0, none⟩) (Nat.le_refl _) _⟩
  case done =>
    rintro D ys W hD rfl ⟨hb, hB⟩ hK
    have hc := hb.cell
    have he : ((freF l n).length : Nat) = (frees l n).length := by rw [← freF_val hn, List.length_map]
    have He := Lib.hid he
    clear he
    gi_wp2
    refine ⟨by simp, .inl ⟨_, _, rfl, run_takeDeferred hK, ?_⟩⟩
    exact ⟨_, results_tmp2 rfl _ _ _, by rw [← He.out]; rfl, hB.trans (belowK_b (w := w) (Nat.le_refl _) W D _ _ (by simp at hD; omega) hK rfl rfl)⟩
  case stop =>
    rintro D c pre W _ _ h _
    exact h.elim
end Go.Proofs.Yteojodddfanepaa
