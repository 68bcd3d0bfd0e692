/- parcloseref06.Words. -/
import Derived.Test.YtnpmepklgakaiaaDoorInodeRefD
namespace Go.Proofs.YtnpmepklgakaiaaDoor
open Go.RowKit
set_option linter.unusedVariables false

theorem rdec_any (v : Value) (s : List Nat) (P I B : Int) (W : World) (hw : ∀ x ∈ s, x < 18446744073709551616) (hl : s.length ≤ 65536) (hr : Rd W v s.length (u64s s)) :
    Calls Tryd.prog 18 #[v, gv P I B] W (RDecI W s P I B) := by
  by_cases hG : MayG P I B
  case neg => exact rdec_geo v s P I B W hr hG
  by_cases h8 : s.length = 8
  case neg => exact rdec_len v s P I B W hr hG h8
  have hr8 := hr
  rw [h8] at hr8
  obtain ⟨A, c, rfl, hc1, hc2, hat⟩ := hr8
  have hr8 : Rd W (.slice A 8 c) 8 (u64s s) := by rw [h8] at hr; exact hr
  cases ho : opens s with
  | false => exact rdec_seal A c s P I B W hw hr8 hG h8 ho
  | true =>
    match s, h8 with
    | [s0, s1, s2, s3, s4, s5, s6, s7], _ =>
      obtain ⟨b, o, rfl, _⟩ := hr8.at_ (j := 0) (u := .int .u64 (s0 : Nat)) rfl
      obtain ⟨I', rfl⟩ := Int.eq_ofNat_of_zero_le (a := I) (by unfold MayG at hG; omega)
      obtain ⟨B', rfl⟩ := Int.eq_ofNat_of_zero_le (a := B) (by unfold MayG at hG; omega)
      exact rdec_words b o c hc1 (by unfold maxLen at hc2; omega) s0 s1 s2 s3 s4 s5 s6 s7 P I' B' W hw hr8 hG ho

/-- a record's words, its numbers having room -/
def wordsN (k ln gn sz ar mp h0 h1 h2 h3 pa mt ct : Nat) : List Nat := [k + ln * 256 + gn * 4294967296, sz, ar, mp + h0 + h1 * 256 + h2 * 65536 + h3 * 16777216, pa, mt, ct]

/-- the call's two blocks: the record, the words -/
structure WSt (W w : World) (xs : Array Value) (T : List Nat) : Prop where
  rec_ : w.heap[W.heap.size]? = some (.cells xs 25 (0, 0))
  row : w.ownsRow (W.heap.size + 1) 44 1 (.slice (some ⟨W.heap.size + 1, 0, none⟩) 7 7) 7 (u64s T)
  bel : Below W.heap.size W w
theorem WSt.put {W w : World} {xs : Array Value} {T : List Nat} (h : WSt W w xs T) (q : Nat) (y : Nat) (v : Int) (hv : v = (y : Nat)) : WSt W (w.setCell ⟨W.heap.size + 1, q, none⟩ (.int .u64 v)) xs (T.set q y) := by
  subst hv
  refine ⟨?_, ?_, h.bel.setCell (p := ⟨W.heap.size + 1, q, none⟩) (Nat.le_succ _) _⟩
  · rw [Below.heap_setCell _ _ _ _ (by show W.heap.size ≠ W.heap.size + 1; omega)]; exact h.rec_
  · have := (h.row.stored q (.int .u64 (y : Nat))).1
    rw [u64s_setAt] at this
    exact this
theorem WSt.drew {W w : World} {xs : Array Value} {T : List Nat} (h : WSt W w xs T) : WSt W w.drew xs T := ⟨h.rec_, h.row.drew, h.bel.drew⟩
theorem WSt.at_ {W w : World} {xs : Array Value} {T : List Nat} (h : WSt W w xs T) (q : Nat) (y : Nat) (hq : q < 7) (hy : T[q]? = some y) : w.cell? ⟨W.heap.size + 1, q, none⟩ = some (.int .u64 (y : Nat)) ∧ w.frozen? ⟨W.heap.size + 1, q, none⟩ = false := by
  have h1 := h.row.cellAt q hq
  have h2 := h.row.frozenAt q
  refine ⟨h1.trans ?_, h2⟩
  unfold u64s
  rw [List.getElem?_map, hy]
  rfl

set_option maxRecDepth 100000 in
set_option maxHeartbeats 8000000 in
theorem refWordsI_any (k ln gn sz ar mp h0 h1 h2 h3 pa mt ct : Nat) (ok : k < 256) (ol : ln < 256) (og : gn < 4294967296) (os : sz < 9223372036854775808) (oa : ar < 9223372036854775808) (om : mp < 9223372036854775808)
    (o0 : h0 < 256) (o1 : h1 < 256) (o2 : h2 < 256) (o3 : h3 < 256) (op : pa < 9223372036854775808) (ot : mt < 9223372036854775808) (oc : ct < 9223372036854775808) (W : World) :
    Calls Tryd.prog 23 #[iv ⟨k, (ln : Nat), gn, (sz : Nat), (ar : Nat), (mp : Nat), (h0 : Nat), (h1 : Nat), (h2 : Nat), (h3 : Nat), (pa : Nat), (mt : Nat), (ct : Nat)⟩] W
      (Hands W 44 1 7 (u64s (wordsN k ln gn sz ar mp h0 h1 h2 h3 pa mt ct))) := by
  obtain ⟨i0, hi, hz0, hz1, hz2⟩ := info_parts info64
  have HB0 := Lib.hid ((Below.refl W.heap.size W).alloc (Nat.le_refl _) (.cells (icells ⟨k, (ln : Nat), gn, (sz : Nat), (ar : Nat), (mp : Nat), (h0 : Nat), (h1 : Nat), (h2 : Nat), (h3 : Nat), (pa : Nat), (mt : Nat), (ct : Nat)⟩) 25))
  have HX0 := Lib.hid (heap_alloc_new W (.cells (icells ⟨k, (ln : Nat), gn, (sz : Nat), (ar : Nat), (mp : Nat), (h0 : Nat), (h1 : Nat), (h2 : Nat), (h3 : Nat), (pa : Nat), (mt : Nat), (ct : Nat)⟩) 25))
  unfold iv icells
  unfold icells at HB0 HX0
  dsimp only at HB0 HX0 ⊢
  have v0 : IntKind.u64.wrap (ln : Int) = (ln : Int) := by rw [IntKind.wrap_u64]; omega
  have v1 : IntKind.u64.wrap (sz : Int) = (sz : Int) := by rw [IntKind.wrap_u64]; omega
  have v2 : IntKind.u64.wrap (ar : Int) = (ar : Int) := by rw [IntKind.wrap_u64]; omega
  have v3 : IntKind.u64.wrap (mp : Int) = (mp : Int) := by rw [IntKind.wrap_u64]; omega
  have v4 : IntKind.u64.wrap (pa : Int) = (pa : Int) := by rw [IntKind.wrap_u64]; omega
  have v5 : IntKind.u64.wrap (mt : Int) = (mt : Int) := by rw [IntKind.wrap_u64]; omega
  have v6 : IntKind.u64.wrap (ct : Int) = (ct : Int) := by rw [IntKind.wrap_u64]; omega
  have g0 : IntKind.u64.wrap (h0 : Int) = (h0 : Int) := by rw [IntKind.wrap_u64]; omega
  have g1 : IntKind.u64.wrap (h1 : Int) = (h1 : Int) := by rw [IntKind.wrap_u64]; omega
  have g2 : IntKind.u64.wrap (h2 : Int) = (h2 : Int) := by rw [IntKind.wrap_u64]; omega
  have g3 : IntKind.u64.wrap (h3 : Int) = (h3 : Int) := by rw [IntKind.wrap_u64]; omega
  go_enter Tryd.func23, Tryd.ntmps23
  obtain ⟨L1, hL1⟩ : ∃ L : Nat, ln * 256 = L := ⟨_, rfl⟩
  obtain ⟨L2, hL2⟩ : ∃ L : Nat, gn * 4294967296 = L := ⟨_, rfl⟩
  obtain ⟨M1, hM1⟩ : ∃ L : Nat, k + L1 = L := ⟨_, rfl⟩
  obtain ⟨K0, hK0⟩ : ∃ L : Nat, M1 + L2 = L := ⟨_, rfl⟩
  obtain ⟨B1, hB1⟩ : ∃ L : Nat, h1 * 256 = L := ⟨_, rfl⟩
  obtain ⟨B2, hB2⟩ : ∃ L : Nat, h2 * 65536 = L := ⟨_, rfl⟩
  obtain ⟨B3, hB3⟩ : ∃ L : Nat, h3 * 16777216 = L := ⟨_, rfl⟩
  obtain ⟨A0, hA0⟩ : ∃ L : Nat, mp + h0 = L := ⟨_, rfl⟩
  obtain ⟨A1, hA1⟩ : ∃ L : Nat, A0 + B1 = L := ⟨_, rfl⟩
  obtain ⟨A2, hA2⟩ : ∃ L : Nat, A1 + B2 = L := ⟨_, rfl⟩
  obtain ⟨A3, hA3⟩ : ∃ L : Nat, A2 + B3 = L := ⟨_, rfl⟩
  have HWn := Lib.hid (show wordsN k ln gn sz ar mp h0 h1 h2 h3 pa mt ct = [K0, sz, ar, A3, pa, mt, ct] by unfold wordsN; rw [hL1, hL2, hM1, hK0, hB1, hB2, hB3, hA0, hA1, hA2, hA3])
  have u0 : A0 < 9223372036854779000 := by omega
  have u1 : A1 < 9223372036854879000 := by omega
  have u2 : A2 < 9223372036874879000 := by omega
  have u3 : A3 < 9223372046874879000 := by omega
  have uL1 : L1 < 65536 := by omega
  have uL2 : L2 < 18446744069414584321 := by omega
  have uM1 : M1 < 65536 := by omega
  have uK0 : K0 < 18446744073709551616 := by omega
  have uB1 : B1 < 65536 := by omega
  have uB2 : B2 < 16777216 := by omega
  have uB3 : B3 < 4294967296 := by omega
  have y1 : (ln : Int) * 256 = (L1 : Int) := by omega
  have y2 : (gn : Int) * 4294967296 = (L2 : Int) := by omega
  have y3 : (k : Int) + (L1 : Int) = (M1 : Int) := by omega
  have y4 : (M1 : Int) + (L2 : Int) = (K0 : Int) := by omega
  have x1 : (h1 : Int) * 256 = (B1 : Int) := by omega
  have x2 : (h2 : Int) * 65536 = (B2 : Int) := by omega
  have x3 : (h3 : Int) * 16777216 = (B3 : Int) := by omega
  have w0 : (mp : Int) + (h0 : Int) = (A0 : Int) := by omega
  have w1' : (A0 : Int) + (B1 : Int) = (A1 : Int) := by omega
  have w2' : (A1 : Int) + (B2 : Int) = (A2 : Int) := by omega
  have w3' : (A2 : Int) + (B3 : Int) = (A3 : Int) := by omega
  clear hL1 hL2 hM1 hK0 hB1 hB2 hB3 hA0 hA1 hA2 hA3
  go_wp2_with (first
    | (at_make; refine wpList_make_full _ rfl (.const (.int .i64 7)) (.const (.int .i64 7)) 28 rfl (W.heap.size + 1) 44 i0 _ 1 Tryd.underlying28 hi hz0 hz1 .i64 .i64 7 7 7 rfl rfl rfl rfl (by rw [hz2]; omega) (by unfold maxLen; omega) (by simp) ?_; intro w1 hown1 hg1; rw [made64, World.size_alloc] at hown1; have hb1 := (Below.refl _ _).grown hg1 (Nat.le_refl _) (by intro k h; cases h); have HS1 := Lib.hid (show WSt W w1 #[.int .u8 (k : Nat), .int .i64 (ln : Nat), .int .u32 (gn : Nat), .int .i64 (sz : Nat), .int .i64 (ar : Nat), .int .i64 (mp : Nat), .int .i64 (h0 : Nat), .int .i64 (h1 : Nat), .int .i64 (h2 : Nat), .int .i64 (h3 : Nat), .int .i64 (pa : Nat), .int .i64 (mt : Nat), .int .i64 (ct : Nat)] (List.replicate 7 0) from ⟨(hb1.block W.heap.size (by simp)).trans HX0.out, hown1, below_then HB0.out hb1⟩); obtain ⟨c0, c1, c2, c3, c4, c5, c6, c7, c8, c9, c10, c11, c12⟩ := blk13 HS1.out.rec_; obtain ⟨z0, f0⟩ := HS1.out.at_ 0 (0) (by decide) rfl; obtain ⟨z1, f1⟩ := HS1.out.at_ 1 (0) (by decide) rfl; obtain ⟨z2, f2⟩ := HS1.out.at_ 2 (0) (by decide) rfl; obtain ⟨z3, f3⟩ := HS1.out.at_ 3 (0) (by decide) rfl; have hr1 : ¬ W.heap.size + 1 = W.heap.size := (by omega); have hr2 : ¬ W.heap.size = W.heap.size + 1 := (by omega); clear hown1 hg1 hb1))
  clear c0 c1 c2 c3 c4 c5 c6 c7 c8 c9 c10 c11 c12 z0 z1 z2 z3 f0 f1 f2 f3
  have hst := (((HS1.out.put 0 K0 (K0 : Int) rfl).put 1 sz (sz : Int) rfl).put 2 ar (ar : Int) rfl).put 3 mp (mp : Int) rfl
  generalize (((w1.setCell ⟨W.heap.size + 1, 0, none⟩ (.int .u64 (K0 : Int))).setCell ⟨W.heap.size + 1, 1, none⟩ (.int .u64 (sz : Int))).setCell ⟨W.heap.size + 1, 2, none⟩ (.int .u64 (ar : Int))).setCell ⟨W.heap.size + 1, 3, none⟩ (.int .u64 (mp : Int)) = w4 at hst ⊢
  have HS4 := Lib.hid hst
  clear hst HS1
  refine wp_loop_rounds 5 ?_
  rw [rounds_succ]
  obtain ⟨c0, c1, c2, c3, c4, c5, c6, c7, c8, c9, c10, c11, c12⟩ := blk13 HS4.out.rec_
  obtain ⟨z3, f3⟩ := HS4.out.at_ 3 (mp) (by decide) rfl
  go_wp2
  go_still_tail 15, (by kernel_rfl)
  repeat (refine wpStill_step (fun K hK => ?_); go_simp; refine hK _ ?_; clear hK K)
  try refine wpStill_nil ?_
  go_wp2
  clear c0 c1 c2 c3 c4 c5 c6 c7 c8 c9 c10 c11 c12 z3 f3
  have hst := (HS4.out.put 3 A0 (A0 : Int) rfl).drew
  generalize (w4.setCell ⟨W.heap.size + 1, 3, none⟩ (.int .u64 ((A0 : Int)))).drew = w5 at hst ⊢
  have HS5 := Lib.hid hst
  clear hst HS4
  rw [rounds_succ]
  obtain ⟨c0, c1, c2, c3, c4, c5, c6, c7, c8, c9, c10, c11, c12⟩ := blk13 HS5.out.rec_
  obtain ⟨z3, f3⟩ := HS5.out.at_ 3 (A0) (by decide) rfl
  go_wp2
  go_still_tail 15, (by kernel_rfl)
  repeat (refine wpStill_step (fun K hK => ?_); go_simp; refine hK _ ?_; clear hK K)
  try refine wpStill_nil ?_
  go_wp2
  simp only [w1']
  clear c0 c1 c2 c3 c4 c5 c6 c7 c8 c9 c10 c11 c12 z3 f3
  have hst := (HS5.out.put 3 A1 (A1 : Int) rfl).drew
  generalize (w5.setCell ⟨W.heap.size + 1, 3, none⟩ (.int .u64 ((A1 : Int)))).drew = w6 at hst ⊢
  have HS6 := Lib.hid hst
  clear hst HS5
  rw [rounds_succ]
  obtain ⟨c0, c1, c2, c3, c4, c5, c6, c7, c8, c9, c10, c11, c12⟩ := blk13 HS6.out.rec_
  obtain ⟨z3, f3⟩ := HS6.out.at_ 3 (A1) (by decide) rfl
  go_wp2
  go_still_tail 15, (by kernel_rfl)
  repeat (refine wpStill_step (fun K hK => ?_); go_simp; refine hK _ ?_; clear hK K)
  try refine wpStill_nil ?_
  go_wp2
  simp only [w2']
  clear c0 c1 c2 c3 c4 c5 c6 c7 c8 c9 c10 c11 c12 z3 f3
  have hst := (HS6.out.put 3 A2 (A2 : Int) rfl).drew
  generalize (w6.setCell ⟨W.heap.size + 1, 3, none⟩ (.int .u64 ((A2 : Int)))).drew = w7 at hst ⊢
  have HS7 := Lib.hid hst
  clear hst HS6
  rw [rounds_succ]
  obtain ⟨c0, c1, c2, c3, c4, c5, c6, c7, c8, c9, c10, c11, c12⟩ := blk13 HS7.out.rec_
  obtain ⟨z3, f3⟩ := HS7.out.at_ 3 (A2) (by decide) rfl
  go_wp2
  go_still_tail 15, (by kernel_rfl)
  repeat (refine wpStill_step (fun K hK => ?_); go_simp; refine hK _ ?_; clear hK K)
  try refine wpStill_nil ?_
  go_wp2
  simp only [w3']
  clear c0 c1 c2 c3 c4 c5 c6 c7 c8 c9 c10 c11 c12 z3 f3
  have hst := (HS7.out.put 3 A3 (A3 : Int) rfl).drew
  generalize (w7.setCell ⟨W.heap.size + 1, 3, none⟩ (.int .u64 ((A3 : Int)))).drew = w8 at hst ⊢
  have HS8 := Lib.hid hst
  clear hst HS7
  rw [rounds_succ]
  obtain ⟨c0, c1, c2, c3, c4, c5, c6, c7, c8, c9, c10, c11, c12⟩ := blk13 HS8.out.rec_
  obtain ⟨z4, f4⟩ := HS8.out.at_ 4 (0) (by decide) rfl
  obtain ⟨z5, f5⟩ := HS8.out.at_ 5 (0) (by decide) rfl
  obtain ⟨z6, f6⟩ := HS8.out.at_ 6 (0) (by decide) rfl
  go_wp2
  go_ret
  have hst := ((HS8.out.put 4 pa (pa : Int) rfl).put 5 mt (mt : Int) rfl).put 6 ct (ct : Int) rfl
  rw [HWn.out]
  exact ⟨_, _, rfl, own_mono hst.row (Nat.le_succ _), hst.bel⟩
end Go.Proofs.YtnpmepklgakaiaaDoor
