/- inode.of: a directory without a map. -/
import Derived.Test.YtnpmepklgakaiaaDoorInodeF
namespace Go.Proofs.YtnpmepklgakaiaaDoor
open Go.RowKit
set_option linter.unusedVariables false

set_option maxRecDepth 100000 in
set_option maxHeartbeats 16000000 in
theorem of_b (k : Nat) (ln : Int) (gn : Nat) (sz ar mp h0 h1 h2 h3 pa mt ct : Int) (hx : OkI ⟨k, ln, gn, sz, ar, mp, h0, h1, h2, h3, pa, mt, ct⟩) (hk : k = 2) (hm : (mp == 0) = true) (W : World) :
    Calls Tryd.prog 16 #[iv ⟨k, ln, gn, sz, ar, mp, h0, h1, h2, h3, pa, mt, ct⟩] W fun e W' => e = .returned (.tuple #[tv (ofI ⟨k, ln, gn, sz, ar, mp, h0, h1, h2, h3, pa, mt, ct⟩).1, .bool (ofI ⟨k, ln, gn, sz, ar, mp, h0, h1, h2, h3, pa, mt, ct⟩).2]) ∧ Below W.heap.size W W' := by
  obtain ⟨o0, o1, o2, o3, o4, o5, o6, o7, o8, o9, o10, o11, o12⟩ := hx
  dsimp only at o0 o1 o2 o3 o4 o5 o6 o7 o8 o9 o10 o11 o12
  have hmf : ∀ (fn : Fn) (first cap : Array Value) (w : World), (Instr.makeFunc fn first cap).run Tryd.prog w = .ok (.func fn first cap) w := fun _ _ _ _ => rfl
  have ix0 : ∀ w, (Instr.index 67 (.agg #[.int .i64 sz, .int .i64 ar, .int .i64 mp, .int .i64 pa, .int .i64 mt, .int .i64 ct]) (.int .i64 0)).run Tryd.prog w = .ok (.int .i64 sz) w := fun _ => by kernel_rfl
  have ix1 : ∀ w, (Instr.index 67 (.agg #[.int .i64 sz, .int .i64 ar, .int .i64 mp, .int .i64 pa, .int .i64 mt, .int .i64 ct]) (.int .i64 1)).run Tryd.prog w = .ok (.int .i64 ar) w := fun _ => by kernel_rfl
  have ix2 : ∀ w, (Instr.index 67 (.agg #[.int .i64 sz, .int .i64 ar, .int .i64 mp, .int .i64 pa, .int .i64 mt, .int .i64 ct]) (.int .i64 2)).run Tryd.prog w = .ok (.int .i64 mp) w := fun _ => by kernel_rfl
  have ix3 : ∀ w, (Instr.index 67 (.agg #[.int .i64 sz, .int .i64 ar, .int .i64 mp, .int .i64 pa, .int .i64 mt, .int .i64 ct]) (.int .i64 3)).run Tryd.prog w = .ok (.int .i64 pa) w := fun _ => by kernel_rfl
  have ix4 : ∀ w, (Instr.index 67 (.agg #[.int .i64 sz, .int .i64 ar, .int .i64 mp, .int .i64 pa, .int .i64 mt, .int .i64 ct]) (.int .i64 4)).run Tryd.prog w = .ok (.int .i64 mt) w := fun _ => by kernel_rfl
  have ix5 : ∀ w, (Instr.index 67 (.agg #[.int .i64 sz, .int .i64 ar, .int .i64 mp, .int .i64 pa, .int .i64 mt, .int .i64 ct]) (.int .i64 5)).run Tryd.prog w = .ok (.int .i64 ct) w := fun _ => by kernel_rfl
  have iy0 : ∀ w, (Instr.index 23 (.agg #[.int .i64 h0, .int .i64 h1, .int .i64 h2, .int .i64 h3]) (.int .i64 0)).run Tryd.prog w = .ok (.int .i64 h0) w := fun _ => by kernel_rfl
  have iy1 : ∀ w, (Instr.index 23 (.agg #[.int .i64 h0, .int .i64 h1, .int .i64 h2, .int .i64 h3]) (.int .i64 1)).run Tryd.prog w = .ok (.int .i64 h1) w := fun _ => by kernel_rfl
  have iy2 : ∀ w, (Instr.index 23 (.agg #[.int .i64 h0, .int .i64 h1, .int .i64 h2, .int .i64 h3]) (.int .i64 2)).run Tryd.prog w = .ok (.int .i64 h2) w := fun _ => by kernel_rfl
  have iy3 : ∀ w, (Instr.index 23 (.agg #[.int .i64 h0, .int .i64 h1, .int .i64 h2, .int .i64 h3]) (.int .i64 3)).run Tryd.prog w = .ok (.int .i64 h3) w := fun _ => by kernel_rfl
  have q2 : ((k : Int) == 2) = true := by simp; omega
  have hI0 := Lib.hid (show ofIs0 ⟨k, ln, gn, sz, ar, mp, h0, h1, h2, h3, pa, mt, ct⟩ = true by unfold ofIs0; rw [if_pos hk]; simpa using hm)
  have hH := Lib.hid (show headsI ⟨k, ln, gn, sz, ar, mp, h0, h1, h2, h3, pa, mt, ct⟩ = [(3, 0, 8, h0), (3, 8, 8, h1), (3, 16, 8, h2), (3, 24, 8, h3)] by unfold headsI; rw [if_pos hk])
  unfold iv icells
  dsimp only
  go_enter Tryd.func16, Tryd.ntmps16
  obtain ⟨s0, E0, hs0⟩ : ∃ s0 : List Nat × Bool, Hid (s0 = (List.replicate 7 0, true)) ∧ OfSt W (((W.alloc (.cells (icells ⟨k, ln, gn, sz, ar, mp, h0, h1, h2, h3, pa, mt, ct⟩) 25)).alloc (.cells #[.int .u64 0, .int .u64 0, .int .u64 0, .int .u64 0, .int .u64 0, .int .u64 0, .int .u64 0] 48)).alloc (.cells #[.bool true] 4)) ⟨k, ln, gn, sz, ar, mp, h0, h1, h2, h3, pa, mt, ct⟩ s0.1 s0.2 :=
    ⟨_, Lib.hid rfl, ofSt_new ⟨k, ln, gn, sz, ar, mp, h0, h1, h2, h3, pa, mt, ct⟩ W true⟩
  unfold icells at hs0
  dsimp only at hs0
  rw [hk] at hs0
  have HS0 := Lib.hid hs0
  clear hs0
  go_wp2_with fail
  refine (putP HS0.out 0 (by decide) 0 8 (by decide) (by decide) (by decide) 2 (by unfold Z64; omega)).mono ?_
  rintro e w1 ⟨rfl, s1, E1, hs⟩
  have HS1 := Lib.hid hs
  obtain ⟨c0, c1, c2, c3, c4, c5, c6, c7, c8, c9, c10, c11, c12⟩ := blk13 hs.rec_
  clear hs HS0
  go_wp2_with fail
  clear c0 c1 c2 c3 c4 c5 c6 c7 c8 c9 c10 c11 c12
  refine (putP HS1.out 0 (by decide) 8 8 (by decide) (by decide) (by decide) ln (o1)).mono ?_
  rintro e w2 ⟨rfl, s2, E2, hs⟩
  have HS2 := Lib.hid hs
  obtain ⟨c0, c1, c2, c3, c4, c5, c6, c7, c8, c9, c10, c11, c12⟩ := blk13 hs.rec_
  clear hs HS1
  go_wp2_with fail
  clear c0 c1 c2 c3 c4 c5 c6 c7 c8 c9 c10 c11 c12
  refine (putP HS2.out 0 (by decide) 32 32 (by decide) (by decide) (by decide) (gn : Nat) (by unfold Z64; omega)).mono ?_
  rintro e w3 ⟨rfl, s3, E3, hs⟩
  have HS3 := Lib.hid hs
  obtain ⟨c0, c1, c2, c3, c4, c5, c6, c7, c8, c9, c10, c11, c12⟩ := blk13 hs.rec_
  clear hs HS2
  go_wp2_with fail
  refine wp_loop_rounds 7 ?_
  rw [rounds_succ]
  go_wp2_with fail
  clear c0 c1 c2 c3 c4 c5 c6 c7 c8 c9 c10 c11 c12
  refine (putP HS3.out 1 (by decide) 0 63 (by decide) (by decide) (by decide) sz (o3)).mono ?_
  rintro e w4 ⟨rfl, s4, E4, hs⟩
  have HS4 := Lib.hid hs
  obtain ⟨c0, c1, c2, c3, c4, c5, c6, c7, c8, c9, c10, c11, c12⟩ := blk13 hs.rec_
  clear hs HS3
  go_wp2_with fail
  rw [rounds_succ]
  go_wp2_with fail
  clear c0 c1 c2 c3 c4 c5 c6 c7 c8 c9 c10 c11 c12
  refine (putP HS4.out 2 (by decide) 0 63 (by decide) (by decide) (by decide) ar (o4)).mono ?_
  rintro e w5 ⟨rfl, s5, E5, hs⟩
  have HS5 := Lib.hid hs
  obtain ⟨c0, c1, c2, c3, c4, c5, c6, c7, c8, c9, c10, c11, c12⟩ := blk13 hs.rec_
  clear hs HS4
  go_wp2_with fail
  rw [rounds_succ]
  go_wp2_with fail
  clear c0 c1 c2 c3 c4 c5 c6 c7 c8 c9 c10 c11 c12
  refine (putP HS5.out 3 (by decide) 0 63 (by decide) (by decide) (by decide) mp (o5)).mono ?_
  rintro e w6 ⟨rfl, s6, E6, hs⟩
  have HS6 := Lib.hid hs
  obtain ⟨c0, c1, c2, c3, c4, c5, c6, c7, c8, c9, c10, c11, c12⟩ := blk13 hs.rec_
  clear hs HS5
  go_wp2_with fail
  rw [rounds_succ]
  go_wp2_with fail
  clear c0 c1 c2 c3 c4 c5 c6 c7 c8 c9 c10 c11 c12
  refine (putP HS6.out 4 (by decide) 0 63 (by decide) (by decide) (by decide) pa (o10)).mono ?_
  rintro e w7 ⟨rfl, s7, E7, hs⟩
  have HS7 := Lib.hid hs
  obtain ⟨c0, c1, c2, c3, c4, c5, c6, c7, c8, c9, c10, c11, c12⟩ := blk13 hs.rec_
  clear hs HS6
  go_wp2_with fail
  rw [rounds_succ]
  go_wp2_with fail
  clear c0 c1 c2 c3 c4 c5 c6 c7 c8 c9 c10 c11 c12
  refine (putP HS7.out 5 (by decide) 0 63 (by decide) (by decide) (by decide) mt (o11)).mono ?_
  rintro e w8 ⟨rfl, s8, E8, hs⟩
  have HS8 := Lib.hid hs
  obtain ⟨c0, c1, c2, c3, c4, c5, c6, c7, c8, c9, c10, c11, c12⟩ := blk13 hs.rec_
  clear hs HS7
  go_wp2_with fail
  rw [rounds_succ]
  go_wp2_with fail
  clear c0 c1 c2 c3 c4 c5 c6 c7 c8 c9 c10 c11 c12
  refine (putP HS8.out 6 (by decide) 0 63 (by decide) (by decide) (by decide) ct (o12)).mono ?_
  rintro e w9 ⟨rfl, s9, E9, hs⟩
  have HS9 := Lib.hid hs
  obtain ⟨c0, c1, c2, c3, c4, c5, c6, c7, c8, c9, c10, c11, c12⟩ := blk13 hs.rec_
  clear hs HS8
  go_wp2_with fail
  rw [rounds_succ]
  go_wp2_with fail
  refine wp_loop_rounds 5 ?_
  rw [rounds_succ]
  go_wp2_with fail
  clear c0 c1 c2 c3 c4 c5 c6 c7 c8 c9 c10 c11 c12
  refine (putP HS9.out 3 (by decide) 0 8 (by decide) (by decide) (by decide) h0 (o6)).mono ?_
  rintro e w10 ⟨rfl, s10, E10, hs⟩
  have HS10 := Lib.hid hs
  obtain ⟨c0, c1, c2, c3, c4, c5, c6, c7, c8, c9, c10, c11, c12⟩ := blk13 hs.rec_
  clear hs HS9
  go_wp2_with fail
  rw [rounds_succ]
  go_wp2_with fail
  clear c0 c1 c2 c3 c4 c5 c6 c7 c8 c9 c10 c11 c12
  refine (putP HS10.out 3 (by decide) 8 8 (by decide) (by decide) (by decide) h1 (o7)).mono ?_
  rintro e w11 ⟨rfl, s11, E11, hs⟩
  have HS11 := Lib.hid hs
  obtain ⟨c0, c1, c2, c3, c4, c5, c6, c7, c8, c9, c10, c11, c12⟩ := blk13 hs.rec_
  clear hs HS10
  go_wp2_with fail
  rw [rounds_succ]
  go_wp2_with fail
  clear c0 c1 c2 c3 c4 c5 c6 c7 c8 c9 c10 c11 c12
  refine (putP HS11.out 3 (by decide) 16 8 (by decide) (by decide) (by decide) h2 (o8)).mono ?_
  rintro e w12 ⟨rfl, s12, E12, hs⟩
  have HS12 := Lib.hid hs
  obtain ⟨c0, c1, c2, c3, c4, c5, c6, c7, c8, c9, c10, c11, c12⟩ := blk13 hs.rec_
  clear hs HS11
  go_wp2_with fail
  rw [rounds_succ]
  go_wp2_with fail
  clear c0 c1 c2 c3 c4 c5 c6 c7 c8 c9 c10 c11 c12
  refine (putP HS12.out 3 (by decide) 24 8 (by decide) (by decide) (by decide) h3 (o9)).mono ?_
  rintro e w13 ⟨rfl, s13, E13, hs⟩
  have HS13 := Lib.hid hs
  obtain ⟨c0, c1, c2, c3, c4, c5, c6, c7, c8, c9, c10, c11, c12⟩ := blk13 hs.rec_
  clear hs HS12
  go_wp2_with fail
  rw [rounds_succ]
  go_wp2_with fail
  obtain ⟨t0, t1, t2, t3, t4, t5, t6, hT⟩ := HS13.out.open7
  have hw7 := HS13.out.wds
  rw [hT] at hw7
  obtain ⟨bb, hbb⟩ : ∃ bb, s13.2 = bb := ⟨_, rfl⟩
  have hib := HS13.out.isb
  rw [hbb] at hib
  have HBel := Lib.hid HS13.out.bel
  have HT := Lib.hid hT
  have Hbb := Lib.hid hbb
  have d0 := cell_of_one hib
  have d1 := free_of_one hib
  obtain ⟨e0, e1, e2, e3, e4, e5, e6⟩ := blk7 (W := w13) (b := W.heap.size + 1) hw7
  obtain ⟨f0, f1, f2, f3, f4, f5, f6⟩ := frz7 (W := w13) (b := W.heap.size + 1) hw7
  clear c0 c1 c2 c3 c4 c5 c6 c7 c8 c9 c10 c11 c12 hT hbb hw7 hib HS13 ix0 ix1 ix2 ix3 ix4 ix5 iy0 iy1 iy2 iy3
  rw [show W.heap.size + 2 = W.heap.size + 1 + 1 from rfl] at d0 d1
  go_region
  all_goals
    go_wp2
    refine bodyPost_ret (v := .tuple #[.agg #[.int .u64 (t0 : Nat), .int .u64 (t1 : Nat), .int .u64 (t2 : Nat), .int .u64 (t3 : Nat), .int .u64 (t4 : Nat), .int .u64 (t5 : Nat), .int .u64 (t6 : Nat)], .bool bb]) (by unfold results; go_simp) rfl ⟨?_, ?_⟩
    · have hO : ofI ⟨2, ln, gn, sz, ar, mp, h0, h1, h2, h3, pa, mt, ct⟩ = s13 := by
        rw [← hk]
        unfold ofI
        rw [hH.out, hI0.out, E13.out, E12.out, E11.out, E10.out, E9.out, E8.out, E7.out, E6.out, E5.out, E4.out, E3.out, E2.out, E1.out, E0.out]
        subst hk; rfl
      rw [hO, HT.out, Hbb.out]
      rfl
    · refine Below.drew ?_
      repeat (refine Below.setCell ?_ (by dsimp only; omega) _)
      exact HBel.out
end Go.Proofs.YtnpmepklgakaiaaDoor
