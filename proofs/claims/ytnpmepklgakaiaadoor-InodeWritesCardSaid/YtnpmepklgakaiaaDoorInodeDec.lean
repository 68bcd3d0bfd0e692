/- inode.Decode. -/
import Derived.Test.YtnpmepklgakaiaaDoorInodeMay
namespace Go.Proofs.YtnpmepklgakaiaaDoor
open Go.RowKit
set_option linter.unusedVariables false

theorem wIn_le {w : Nat} {a b : Int} (h : wIn w a b = true) : w ≤ 4611686018427387904 := by
  unfold wIn at h
  simp only [Bool.and_eq_true, decide_eq_true_eq] at h
  exact h.1
theorem wordOK_le {p k w I B : Nat} (hp : 1 ≤ p) (h : wordOK p k w I B = true) : w ≤ 4611686018427387904 := by
  unfold wordOK at h
  rw [if_neg (by omega)] at h
  split at h
  · have := of_decide_eq_true h; omega
  split at h
  · split at h
    · exact wIn_le h
    · split at h <;> exact wIn_le h
  split at h
  · exact wIn_le h
  split at h
  · split at h
    · unfold headsOK at h
      simp only [Bool.and_eq_true, decide_eq_true_eq] at h
      omega
    · split at h <;> exact wIn_le h
  split at h
  · split at h
    · exact wIn_le h
    · have := of_decide_eq_true h; omega
  exact wIn_le h
theorem wrong_neg {t : List Nat} {k I B : Nat} (h : wrongAt t k I B < 0) : ∀ q, q < 7 → wordOK q k (t.getD q 0) I B = true := by
  unfold wrongAt at h
  intro q hq
  split at h
  · omega
  split at h
  · omega
  split at h
  · omega
  split at h
  · omega
  split at h
  · omega
  split at h
  · omega
  split at h
  · omega
  rename_i n0 n1 n2 n3 n4 n5 n6
  rcases (show q = 0 ∨ q = 1 ∨ q = 2 ∨ q = 3 ∨ q = 4 ∨ q = 5 ∨ q = 6 by omega) with rfl | rfl | rfl | rfl | rfl | rfl | rfl
  · simpa using n0
  · simpa using n1
  · simpa using n2
  · simpa using n3
  · simpa using n4
  · simpa using n5
  · simpa using n6
theorem wrong_bd (t : List Nat) (k I B : Nat) : -1 ≤ wrongAt t k I B ∧ wrongAt t k I B < 7 := by
  unfold wrongAt
  repeat' split
  all_goals omega
def zeroI : Ino := ⟨0, 0, 0, 0, 0, 0, 0, 0, 0, 0, 0, 0, 0⟩
/-- why words are no record: At and Err; none: they are one -/
def decF (s : List Nat) (P I B : Int) : Option (Int × Int) :=
  if ¬ MayG P I B then some (0, 2) else if ¬ s.length = 8 then some (0, 7) else if opens s = false then some (7, 7)
  else if 0 ≤ wrongAt (s.take 7) (s.getD 0 0 % 256) I.toNat B.toNat then some (wrongAt (s.take 7) (s.getD 0 0 % 256) I.toNat B.toNat, 7) else none
/-- what inode.Decode answers -/
def DecI (w : World) (s : List Nat) (P I B : Int) (e : Ending) (w' : World) : Prop :=
  (decF s P I B = none ∧ e = .returned (.tuple #[iv (recOf (s.take 7)), .nilIface]) ∧ Below w.heap.size w w') ∨
  (∃ a er : Int, decF s P I B = some (a, er) ∧ e = .returned (.tuple #[iv zeroI, .iface 52 (.agg #[.int .i64 a, .int .i64 er])]) ∧ Below w.heap.size w w')

theorem frz13 {W : World} {b : Nat} {cs : Array Value} {t : TypeId} (h : W.heap[b]? = some (.cells cs t (0, 0))) :
    W.frozen? ⟨b, 0, none⟩ = false ∧ W.frozen? ⟨b, 1, none⟩ = false ∧ W.frozen? ⟨b, 2, none⟩ = false ∧ W.frozen? ⟨b, 3, none⟩ = false ∧ W.frozen? ⟨b, 4, none⟩ = false ∧ W.frozen? ⟨b, 5, none⟩ = false ∧ W.frozen? ⟨b, 6, none⟩ = false ∧ W.frozen? ⟨b, 7, none⟩ = false ∧ W.frozen? ⟨b, 8, none⟩ = false ∧ W.frozen? ⟨b, 9, none⟩ = false ∧ W.frozen? ⟨b, 10, none⟩ = false ∧ W.frozen? ⟨b, 11, none⟩ = false ∧ W.frozen? ⟨b, 12, none⟩ = false := by
  refine ⟨?_, ?_, ?_, ?_, ?_, ?_, ?_, ?_, ?_, ?_, ?_, ?_, ?_⟩ <;> simp [World.frozen?, h]
def zcells : Array Value := #[.int .u8 0, .int .i64 0, .int .u32 0, .int .i64 0, .int .i64 0, .int .i64 0, .int .i64 0, .int .i64 0, .int .i64 0, .int .i64 0, .int .i64 0, .int .i64 0, .int .i64 0]
/-- two boxes: a geometry and a record's zeros -/
theorem boxesZ (P I B : Int) (W : World) : ((W.alloc (.cells #[.int .i64 P, .int .i64 I, .int .i64 B] 27)).alloc (.cells zcells 25)).heap[W.heap.size]? = some (.cells #[.int .i64 P, .int .i64 I, .int .i64 B] 27 (0, 0)) ∧
    ((W.alloc (.cells #[.int .i64 P, .int .i64 I, .int .i64 B] 27)).alloc (.cells zcells 25)).heap[W.heap.size + 1]? = some (.cells zcells 25 (0, 0)) := by
  refine ⟨?_, ?_⟩
  · rw [heap_alloc_old _ _ (by simp)]; exact heap_alloc_new W _
  · have := heap_alloc_new (W.alloc (.cells #[.int .i64 P, .int .i64 I, .int .i64 B] 27)) (.cells zcells 25)
    rw [World.size_alloc] at this
    exact this
theorem Open_ok (v : Value) (l : List Nat) (n : Nat) (hn : l.length = n) (ho : opens l = true) (w : World) (h : Rd w v n (u64s l)) (hw : Wd l) (hl : n ≤ 65536) :
    Calls Tryd.prog 25 #[v] w fun r w' => ∃ A k c, r = .returned (.tuple #[.slice A k c, .bool true]) ∧ Below w.heap.size w w' := by
  subst hn
  refine (Open_any v l w h hw hl).mono fun e w' hh => ?_
  obtain ⟨A2, c2, rfl, _, hb2⟩ := hh.yes ho
  exact ⟨_, _, _, rfl, hb2⟩
theorem cells8 {w : World} {b o c : Nat} {s0 s1 s2 s3 s4 s5 s6 s7 : Nat} (h : Rd w (.slice (some ⟨b, o, none⟩) 8 c) 8 (u64s [s0, s1, s2, s3, s4, s5, s6, s7])) :
    w.cell? ⟨b, o, none⟩ = some (.int .u64 (s0 : Nat)) ∧ w.cell? ⟨b, o + 1, none⟩ = some (.int .u64 (s1 : Nat)) ∧ w.cell? ⟨b, o + 2, none⟩ = some (.int .u64 (s2 : Nat)) ∧ w.cell? ⟨b, o + 3, none⟩ = some (.int .u64 (s3 : Nat)) ∧ w.cell? ⟨b, o + 4, none⟩ = some (.int .u64 (s4 : Nat)) ∧
    w.cell? ⟨b, o + 5, none⟩ = some (.int .u64 (s5 : Nat)) ∧ w.cell? ⟨b, o + 6, none⟩ = some (.int .u64 (s6 : Nat)) ∧ w.cell? ⟨b, o + 7, none⟩ = some (.int .u64 (s7 : Nat)) := by
  have H : ∀ j u, (u64s [s0, s1, s2, s3, s4, s5, s6, s7])[j]? = some u → w.cell? ⟨b, o + j, none⟩ = some u := fun j u hu => by
    obtain ⟨b', o', hA, hc⟩ := h.at_ hu
    injection hA with hA; injection hA with h1 h2; subst h1; subst h2
    exact hc
  exact ⟨H 0 _ rfl, H 1 _ rfl, H 2 _ rfl, H 3 _ rfl, H 4 _ rfl, H 5 _ rfl, H 6 _ rfl, H 7 _ rfl⟩
theorem iv_zero : iv zeroI = .agg #[.int .u8 0, .int .i64 0, .int .u32 0, .int .i64 0, .int .i64 0, .int .i64 0, .int .i64 0, .int .i64 0, .int .i64 0, .int .i64 0, .int .i64 0, .int .i64 0, .int .i64 0] := rfl

set_option maxRecDepth 100000 in
set_option maxHeartbeats 8000000 in
theorem Decode_any (v : Value) (s : List Nat) (P I B : Int) (W : World) (hw : ∀ x ∈ s, x < 18446744073709551616) (hl : s.length ≤ 65536) (hr : Rd W v s.length (u64s s)) :
    Calls Tryd.prog 15 #[v, gv P I B] W (DecI W s P I B) := by
  have HR := Lib.hid hr
  have hb0 := ((Below.refl W.heap.size W).alloc (Nat.le_refl _) (.cells #[.int .i64 P, .int .i64 I, .int .i64 B] 27)).alloc (by simp) (.cells zcells 25)
  have HB0 := Lib.hid hb0
  have HR0 := Lib.hid (hr.below hb0)
  obtain ⟨hz1, hz2⟩ := boxesZ P I B W
  have HG0 := Lib.hid hz1
  have HZ0 := Lib.hid hz2
  obtain ⟨A, c, rfl, hc1, hc2, _⟩ := hr
  have HWd := Lib.hid hw
  unfold zcells at HB0 HR0 HG0 HZ0
  clear hb0 hw hz1 hz2
  by_cases hG : MayG P I B
  case neg =>
    have HC := Lib.hid (fun W => Check_no P I B hG W)
    have HD := Lib.hid (show decF s P I B = some (0, 2) by unfold decF; rw [if_pos hG])
    unfold gv at HC ⊢
    clear hG
    go_enter Tryd.func15, Tryd.ntmps15
    go_wp2_with fail
    refine (HC.out _).mono ?_
    rintro e w1 ⟨rfl, hb1⟩
    have HB1 := Lib.hid (below_then HB0.out hb1)
    have hz1 := (hb1.block _ (by simp)).trans HZ0.out
    obtain ⟨z0, z1, z2, z3, z4, z5, z6, z7, z8, z9, z10, z11, z12⟩ := blk13 hz1
    obtain ⟨f0, f1, f2, f3, f4, f5, f6, f7, f8, f9, f10, f11, f12⟩ := frz13 hz1
    clear hb1 hz1
    go_wp2
    refine bodyPost_ret (v := .tuple #[.agg #[.int .u8 0, .int .i64 0, .int .u32 0, .int .i64 0, .int .i64 0, .int .i64 0, .int .i64 0, .int .i64 0, .int .i64 0, .int .i64 0, .int .i64 0, .int .i64 0, .int .i64 0], .iface 52 (.agg #[.int .i64 0, .int .i64 2])]) (by unfold results; go_simp) rfl (.inr ⟨_, _, HD.out, by rw [iv_zero], ?_⟩)
    repeat (refine Below.setCell ?_ (by dsimp only; omega) _)
    exact HB1.out
  have HC := Lib.hid (fun W => Check_yes P I B hG W)
  have HMG := Lib.hid hG
  unfold gv at HC ⊢
  by_cases h8 : s.length = 8
  case neg =>
    have hd : ((s.length : Int) != 8) = true := by simp; omega
    have HD := Lib.hid (show decF s P I B = some (0, 7) by unfold decF; rw [if_neg (fun h => h hG), if_pos h8])
    clear h8 hG
    go_enter Tryd.func15, Tryd.ntmps15
    go_wp2_with fail
    refine (HC.out _).mono ?_
    rintro e w1 ⟨rfl, hb1⟩
    have HB1 := Lib.hid (below_then HB0.out hb1)
    have hz1 := (hb1.block _ (by simp)).trans HZ0.out
    obtain ⟨z0, z1, z2, z3, z4, z5, z6, z7, z8, z9, z10, z11, z12⟩ := blk13 hz1
    obtain ⟨f0, f1, f2, f3, f4, f5, f6, f7, f8, f9, f10, f11, f12⟩ := frz13 hz1
    clear hb1 hz1
    go_wp2
    refine bodyPost_ret (v := .tuple #[.agg #[.int .u8 0, .int .i64 0, .int .u32 0, .int .i64 0, .int .i64 0, .int .i64 0, .int .i64 0, .int .i64 0, .int .i64 0, .int .i64 0, .int .i64 0, .int .i64 0, .int .i64 0], .iface 52 (.agg #[.int .i64 0, .int .i64 7])]) (by unfold results; go_simp) rfl (.inr ⟨_, _, HD.out, by rw [iv_zero], ?_⟩)
    repeat (refine Below.setCell ?_ (by dsimp only; omega) _)
    exact HB1.out
  have HR8 : Hid (Rd W (.slice A 8 c) 8 (u64s s)) := Lib.hid (by have := HR.out; rw [h8] at this; exact this)
  have hc8 : 8 ≤ c := by rw [← h8]; exact hc1
  rw [h8]
  clear hl HR HR0 hc1
  by_cases ho : opens s = true
  case neg =>
    have ho' : opens s = false := by simpa using ho
    have HD := Lib.hid (show decF s P I B = some (7, 7) by unfold decF; rw [if_neg (fun h => h hG), if_neg (fun h => h h8), if_pos ho'])
    have HO := Lib.hid (fun w hr => Open_no (.slice A 8 c) s 8 h8 ho' w hr HWd.out (by decide))
    clear h8 hG ho ho'
    go_enter Tryd.func15, Tryd.ntmps15
    go_wp2_with fail
    refine (HC.out _).mono ?_
    rintro e w1 ⟨rfl, hb1⟩
    have HB1 := Lib.hid (below_then HB0.out hb1)
    have HZ1 := Lib.hid ((hb1.block _ (by simp)).trans HZ0.out)
    clear hb1
    go_wp2_with fail
    refine (HO.out _ (HR8.out.below HB1.out)).mono ?_
    rintro e w2 ⟨rfl, hb2⟩
    have HB2 := Lib.hid (below_then HB1.out hb2)
    have hz1 := blk_below HZ1.out hb2
    obtain ⟨z0, z1, z2, z3, z4, z5, z6, z7, z8, z9, z10, z11, z12⟩ := blk13 hz1
    obtain ⟨f0, f1, f2, f3, f4, f5, f6, f7, f8, f9, f10, f11, f12⟩ := frz13 hz1
    clear hb2 hz1
    go_wp2
    refine bodyPost_ret (v := .tuple #[.agg #[.int .u8 0, .int .i64 0, .int .u32 0, .int .i64 0, .int .i64 0, .int .i64 0, .int .i64 0, .int .i64 0, .int .i64 0, .int .i64 0, .int .i64 0, .int .i64 0, .int .i64 0], .iface 52 (.agg #[.int .i64 7, .int .i64 7])]) (by unfold results; go_simp) rfl (.inr ⟨_, _, HD.out, by rw [iv_zero], ?_⟩)
    repeat (refine Below.setCell ?_ (by dsimp only; omega) _)
    exact HB2.out
  have HO := Lib.hid (fun w hr => Open_ok (.slice A 8 c) s 8 h8 ho w hr HWd.out (by decide))
  have HD0 := Lib.hid (show decF s P I B = if 0 ≤ wrongAt (s.take 7) (s.getD 0 0 % 256) I.toNat B.toNat then some (wrongAt (s.take 7) (s.getD 0 0 % 256) I.toNat B.toNat, 7) else none by unfold decF; rw [if_neg (fun h => h hG), if_neg (fun h => h h8), if_neg (by rw [ho]; decide)])
  clear ho
  match s, h8 with
  | [s0, s1, s2, s3, s4, s5, s6, s7], _ =>
  obtain ⟨b, o, rfl, _⟩ := HR8.out.at_ (j := 0) (u := .int .u64 (s0 : Nat)) rfl
  obtain ⟨I', rfl⟩ := Int.eq_ofNat_of_zero_le (a := I) (by unfold MayG at hG; omega)
  obtain ⟨B', rfl⟩ := Int.eq_ofNat_of_zero_le (a := B) (by unfold MayG at hG; omega)
  have hB16 : B' < 65536 := by unfold MayG at hG; omega
  have h7w : ∀ x ∈ [s0, s1, s2, s3, s4, s5, s6], x < 18446744073709551616 := fun x hx => HWd.out x (by
    simp only [List.mem_cons, List.not_mem_nil, or_false] at hx ⊢
    rcases hx with h | h | h | h | h | h | h <;> simp [h])
  have HW := Lib.hid (wrong_any [s0, s1, s2, s3, s4, s5, s6] rfl h7w P I' B' hB16)
  have HRc := Lib.hid (fun hneg => record_any [s0, s1, s2, s3, s4, s5, s6] rfl (h7w s0 (List.mem_cons_self ..)) (fun q h1 h2 => Nat.lt_of_le_of_lt (wordOK_le h2 (wrong_neg (k := s0 % 256) (I := I') (B := B') hneg q h1)) (by decide)))
  unfold tv at HW HRc
  simp only [u64s, List.map_cons, List.map_nil] at HW HRc
  rw [Int.toNat_natCast, Int.toNat_natCast, show List.take 7 [s0, s1, s2, s3, s4, s5, s6, s7] = [s0, s1, s2, s3, s4, s5, s6] from rfl] at HD0
  rw [show List.getD [s0, s1, s2, s3, s4, s5, s6] 0 0 = s0 from rfl] at HW
  rw [show List.getD [s0, s1, s2, s3, s4, s5, s6, s7] 0 0 = s0 from rfl] at HD0
  unfold DecI
  rw [show List.take 7 [s0, s1, s2, s3, s4, s5, s6, s7] = [s0, s1, s2, s3, s4, s5, s6] from rfl]
  generalize wrongAt [s0, s1, s2, s3, s4, s5, s6] (s0 % 256) I' B' = wr at *
  generalize recOf [s0, s1, s2, s3, s4, s5, s6] = r at *
  obtain ⟨k, ln, gn, sz, ar, mp, x0, x1, x2, x3, pa, mt, ct⟩ := r
  unfold iv icells at HRc
  dsimp only at HRc
  clear hG h7w
  have hun : Tryd.prog.underlying 48 = some (.array 7 44) := by kernel_rfl
  have hArr : ∀ w, (Instr.arrayAt 48 (.slice (some ⟨b, o, none⟩) 7 c)).run Tryd.prog w = .ok (.pointer (some ⟨b, o, none⟩)) w := fun w => run_arrayAt w _ _ 7 _ 7 c hun (Nat.le_refl _)
  clear hun
  go_enter Tryd.func15, Tryd.ntmps15
  go_wp2_with fail
  refine (HC.out _).mono ?_
  rintro e w1 ⟨rfl, hb1⟩
  have HB1 := Lib.hid (below_then HB0.out hb1)
  have HZ1 := Lib.hid ((hb1.block _ (by simp)).trans HZ0.out)
  have HG1 := Lib.hid ((hb1.block _ (by simp; omega)).trans HG0.out)
  clear hb1
  go_wp2_with fail
  refine (HO.out _ (HR8.out.below HB1.out)).mono ?_
  rintro e w2 ⟨A2, k2, c2, rfl, hb2⟩
  have HB2 := Lib.hid (below_then HB1.out hb2)
  have hz2 := blk_below HZ1.out hb2
  have hg2 := blk_below HG1.out hb2
  have hlt2 := lt_of_block hz2
  have hltg := lt_of_block hg2
  have HBT := Lib.hid (HB2.out.alloc HB2.out.size (.cells #[.int .u64 (s0 : Nat), .int .u64 (s1 : Nat), .int .u64 (s2 : Nat), .int .u64 (s3 : Nat), .int .u64 (s4 : Nat), .int .u64 (s5 : Nat), .int .u64 (s6 : Nat)] 48))
  have HT := Lib.hid (show (w2.alloc (.cells #[.int .u64 (s0 : Nat), .int .u64 (s1 : Nat), .int .u64 (s2 : Nat), .int .u64 (s3 : Nat), .int .u64 (s4 : Nat), .int .u64 (s5 : Nat), .int .u64 (s6 : Nat)] 48)).heap[w2.heap.size]? = some (.cells #[.int .u64 (s0 : Nat), .int .u64 (s1 : Nat), .int .u64 (s2 : Nat), .int .u64 (s3 : Nat), .int .u64 (s4 : Nat), .int .u64 (s5 : Nat), .int .u64 (s6 : Nat)] 48 (0, 0)) from heap_alloc_new w2 _)
  have HZT := Lib.hid ((heap_alloc_old w2 (.cells #[.int .u64 (s0 : Nat), .int .u64 (s1 : Nat), .int .u64 (s2 : Nat), .int .u64 (s3 : Nat), .int .u64 (s4 : Nat), .int .u64 (s5 : Nat), .int .u64 (s6 : Nat)] 48) hlt2).trans hz2)
  have HGT := Lib.hid ((heap_alloc_old w2 (.cells #[.int .u64 (s0 : Nat), .int .u64 (s1 : Nat), .int .u64 (s2 : Nat), .int .u64 (s3 : Nat), .int .u64 (s4 : Nat), .int .u64 (s5 : Nat), .int .u64 (s6 : Nat)] 48) (lt_of_block hg2)).trans hg2)
  obtain ⟨e0, e1, e2, e3, e4, e5, e6, e7⟩ := cells8 (HR8.out.below HB2.out)
  obtain ⟨g0, g1, g2, _, _, _⟩ := blk3 hg2
  clear hb2 hz2 hg2
  go_wp2_with fail
  refine (HW.out _).mono ?_
  rintro e w3 ⟨rfl, hb3⟩
  have HB3 := Lib.hid (below_then HBT.out hb3)
  have hz1 := blk_below HZT.out hb3
  have hT3 := blk_below HT.out hb3
  clear hb3 e0 e1 e2 e3 e4 e5 e6 e7 g0 g1 g2
  by_cases hwr : 0 ≤ wr
  · have hd : decide (wr ≥ 0) = true := by simpa using hwr
    have HD := Lib.hid (HD0.out.trans (if_pos hwr))
    clear hwr hT3
    obtain ⟨z0, z1, z2, z3, z4, z5, z6, z7, z8, z9, z10, z11, z12⟩ := blk13 hz1
    obtain ⟨f0, f1, f2, f3, f4, f5, f6, f7, f8, f9, f10, f11, f12⟩ := frz13 hz1
    clear hz1
    go_wp2
    refine bodyPost_ret (v := .tuple #[.agg #[.int .u8 0, .int .i64 0, .int .u32 0, .int .i64 0, .int .i64 0, .int .i64 0, .int .i64 0, .int .i64 0, .int .i64 0, .int .i64 0, .int .i64 0, .int .i64 0, .int .i64 0], .iface 52 (.agg #[.int .i64 wr, .int .i64 7])]) (by unfold results; go_simp) rfl (.inr ⟨_, _, HD.out, by rw [iv_zero], ?_⟩)
    repeat (refine Below.setCell ?_ (by dsimp only; omega) _)
    exact HB3.out
  · have hd : decide (wr ≥ 0) = false := by simpa using hwr
    have HD := Lib.hid (HD0.out.trans (if_neg hwr))
    have HRc' := Lib.hid (HRc.out (by omega))
    obtain ⟨e0, e1, e2, e3, e4, e5, e6⟩ := blk7 hT3
    have HZ3 := Lib.hid hz1
    clear hwr hT3 hz1
    go_wp2_with fail
    refine (HRc'.out _).mono ?_
    rintro e w4 ⟨rfl, hb4⟩
    have HB4 := Lib.hid (below_then HB3.out hb4)
    have hz1 := blk_below HZ3.out hb4
    obtain ⟨z0, z1, z2, z3, z4, z5, z6, z7, z8, z9, z10, z11, z12⟩ := blk13 hz1
    obtain ⟨f0, f1, f2, f3, f4, f5, f6, f7, f8, f9, f10, f11, f12⟩ := frz13 hz1
    clear hz1 hb4 e0 e1 e2 e3 e4 e5 e6
    go_wp2
    refine bodyPost_ret (v := .tuple #[.agg #[.int .u8 (k : Nat), .int .i64 ln, .int .u32 (gn : Nat), .int .i64 sz, .int .i64 ar, .int .i64 mp, .int .i64 x0, .int .i64 x1, .int .i64 x2, .int .i64 x3, .int .i64 pa, .int .i64 mt, .int .i64 ct], .nilIface]) (by unfold results; go_simp) rfl (.inl ⟨HD.out, rfl, ?_⟩)
    repeat (refine Below.setCell ?_ (by dsimp only; omega) _)
    exact HB4.out
end Go.Proofs.YtnpmepklgakaiaaDoor
