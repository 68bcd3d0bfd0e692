/- inode.May. inode.Encode. -/
import Derived.Test.YtnpmepklgakaiaaDoorInodeRec
import Derived.Test.YtnpmepklgakaiaaDoorGeomCheck
import Derived.Test.YtnpmepklgakaiaaDoorGeomBlk
import Derived.Test.YtnpmepklgakaiaaDoorSumOpen
namespace Go.Proofs.YtnpmepklgakaiaaDoor
section
open Go.RowKit
set_option linter.unusedVariables false

theorem steps_ok : ∀ (ps : List (Nat × Nat × Nat × Int)) (s : List Nat × Bool), (∀ p ∈ ps, p.2.1 + p.2.2.1 ≤ 64) → (∀ y ∈ s.1, y < 18446744073709551616) → s.1.length = 7 →
    (ps.foldl stepI s).1.length = 7 ∧ ∀ y ∈ (ps.foldl stepI s).1, y < 18446744073709551616
  | [], s, _, h2, h3 => ⟨h3, h2⟩
  | p :: ps, s, h1, h2, h3 => by
    refine steps_ok ps (stepI s p) (fun q hq => h1 q (List.mem_cons_of_mem _ hq)) ?_ (by unfold stepI; simpa using h3)
    intro y hy
    rcases List.mem_or_eq_of_mem_set hy with hy | rfl
    · exact h2 y hy
    · refine putI_lt ?_ (h1 p (List.mem_cons_self ..))
      rw [List.getD_eq_getElem?_getD]
      cases hg : s.1[p.1]? with
      | none => decide
      | some v => exact h2 v (List.mem_of_getElem? hg)
theorem ofI_ok (x : Ino) : (ofI x).1.length = 7 ∧ ∀ y ∈ (ofI x).1, y < 18446744073709551616 := by
  unfold ofI
  rw [← List.foldl_append]
  refine steps_ok _ _ ?_ (fun y hy => by rw [List.eq_of_mem_replicate hy]; decide) rfl
  intro p hp
  rcases List.mem_append.1 hp with hp | hp
  · unfold putsI at hp
    simp only [List.mem_cons, List.not_mem_nil, or_false] at hp
    rcases hp with rfl | rfl | rfl | rfl | rfl | rfl | rfl | rfl | rfl <;> dsimp only <;> omega
  · unfold headsI at hp
    split at hp
    · simp only [List.mem_cons, List.not_mem_nil, or_false] at hp
      rcases hp with rfl | rfl | rfl | rfl <;> dsimp only <;> omega
    · simp at hp
theorem ofI_7 (x : Ino) : ∃ t0 t1 t2 t3 t4 t5 t6, (ofI x).1 = [t0, t1, t2, t3, t4, t5, t6] := by
  have hl := (ofI_ok x).1
  match h : (ofI x).1, hl with
  | [t0, t1, t2, t3, t4, t5, t6], _ => exact ⟨t0, t1, t2, t3, t4, t5, t6, rfl⟩
/-- may a record be, in a geometry? -/
def mayI (x : Ino) (P I B : Int) : Bool := (ofI x).2 && (decide (MayG P I B) && decide (wrongAt (ofI x).1 ((ofI x).1.getD 0 0 % 256) I.toNat B.toNat < 0))
/-- two boxes: a record and a geometry -/
theorem boxes2 (x : Ino) (P I B : Int) (W : World) : ((W.alloc (.cells (icells x) 25)).alloc (.cells #[.int .i64 P, .int .i64 I, .int .i64 B] 27)).heap[W.heap.size]? = some (.cells (icells x) 25 (0, 0)) ∧
    ((W.alloc (.cells (icells x) 25)).alloc (.cells #[.int .i64 P, .int .i64 I, .int .i64 B] 27)).heap[W.heap.size + 1]? = some (.cells #[.int .i64 P, .int .i64 I, .int .i64 B] 27 (0, 0)) := by
  refine ⟨?_, ?_⟩
  · rw [heap_alloc_old _ _ (by simp)]; exact heap_alloc_new W _
  · have := heap_alloc_new (W.alloc (.cells (icells x) 25)) (.cells #[.int .i64 P, .int .i64 I, .int .i64 B] 27)
    rw [World.size_alloc] at this
    exact this

set_option maxRecDepth 100000 in
set_option maxHeartbeats 8000000 in
theorem May_any (x : Ino) (hx : OkI x) (P I B : Int) (W : World) :
    Calls Tryd.prog 9 #[iv x, gv P I B] W fun e W' => e = .returned (.bool (mayI x P I B)) ∧ Below W.heap.size W W' := by
  have HOf := Lib.hid (of_any x hx)
  obtain ⟨hB1, hB2⟩ := boxes2 x P I B W
  have HB0 := Lib.hid (((Below.refl W.heap.size W).alloc (Nat.le_refl _) (.cells (icells x) 25)).alloc (by simp) (.cells #[.int .i64 P, .int .i64 I, .int .i64 B] 27))
  obtain ⟨t0, t1, t2, t3, t4, t5, t6, hT⟩ := ofI_7 x
  have hwd := (ofI_ok x).2
  have HM := Lib.hid (show mayI x P I B = ((ofI x).2 && (decide (MayG P I B) && decide (wrongAt (ofI x).1 ((ofI x).1.getD 0 0 % 256) I.toNat B.toNat < 0))) from rfl)
  generalize mayI x P I B = m at *
  rw [hT] at hwd
  generalize hs : ofI x = s at *
  obtain ⟨T, b⟩ := s
  dsimp only at hT HM HOf
  subst hT
  clear hs hx
  obtain ⟨k, ln, gn, sz, ar, mp, h0, h1, h2, h3, pa, mt, ct⟩ := x
  unfold tv iv icells at HOf
  unfold icells at HB0 hB1 hB2
  unfold iv gv icells
  dsimp only at HOf HB0 hB1 hB2 ⊢
  simp only [u64s, List.map_cons, List.map_nil] at HOf
  have HG0 := Lib.hid hB2
  clear hB1 hB2
  cases b with
  | false =>
    go_enter Tryd.func9, Tryd.ntmps9
    go_wp2_with fail
    refine (HOf.out _).mono ?_
    rintro e w1 ⟨rfl, hb1⟩
    have HB1 := Lib.hid (below_then HB0.out hb1)
    clear hb1
    go_wp2
    go_ret
    exact ⟨by rw [HM.out]; rfl, HB1.out.alloc HB1.out.size _⟩
  | true =>
    go_enter Tryd.func9, Tryd.ntmps9
    go_wp2_with fail
    refine (HOf.out _).mono ?_
    rintro e w1 ⟨rfl, hb1⟩
    have HB1 := Lib.hid (below_then HB0.out hb1)
    have hg1 := (hb1.block (W.heap.size + 1) (by simp)).trans HG0.out
    have hlt1 := lt_of_block hg1
    obtain ⟨g0, g1, g2, _, _, _⟩ := blk3 hg1
    have hgT : (w1.alloc (.cells #[.int .u64 (t0 : Nat), .int .u64 (t1 : Nat), .int .u64 (t2 : Nat), .int .u64 (t3 : Nat), .int .u64 (t4 : Nat), .int .u64 (t5 : Nat), .int .u64 (t6 : Nat)] 48)).heap[w1.heap.size]? = some (.cells #[.int .u64 (t0 : Nat), .int .u64 (t1 : Nat), .int .u64 (t2 : Nat), .int .u64 (t3 : Nat), .int .u64 (t4 : Nat), .int .u64 (t5 : Nat), .int .u64 (t6 : Nat)] 48 (0, 0)) := heap_alloc_new w1 _
    have hgG := (heap_alloc_old w1 (.cells #[.int .u64 (t0 : Nat), .int .u64 (t1 : Nat), .int .u64 (t2 : Nat), .int .u64 (t3 : Nat), .int .u64 (t4 : Nat), .int .u64 (t5 : Nat), .int .u64 (t6 : Nat)] 48) hlt1).trans hg1
    have HT := Lib.hid hgT
    have HG := Lib.hid hgG
    have HBT := Lib.hid (HB1.out.alloc HB1.out.size (.cells #[.int .u64 (t0 : Nat), .int .u64 (t1 : Nat), .int .u64 (t2 : Nat), .int .u64 (t3 : Nat), .int .u64 (t4 : Nat), .int .u64 (t5 : Nat), .int .u64 (t6 : Nat)] 48))
    clear hgT hgG hg1 hb1
    by_cases hG : MayG P I B
    · have HMG := Lib.hid hG
      obtain ⟨I', rfl⟩ := Int.eq_ofNat_of_zero_le (a := I) (by unfold MayG at hG; omega)
      obtain ⟨B', rfl⟩ := Int.eq_ofNat_of_zero_le (a := B) (by unfold MayG at hG; omega)
      have hB16 : B' < 65536 := by unfold MayG at hG; omega
      have HC := Lib.hid (fun W => Check_yes P (I' : Nat) (B' : Nat) hG W)
      have HW := Lib.hid (wrong_any [t0, t1, t2, t3, t4, t5, t6] rfl hwd P I' B' hB16)
      unfold tv at HW
      unfold gv at HC
      simp only [u64s, List.map_cons, List.map_nil] at HW
      rw [decide_eq_true hG, Int.toNat_natCast, Int.toNat_natCast] at HM
      generalize wrongAt [t0, t1, t2, t3, t4, t5, t6] (List.getD [t0, t1, t2, t3, t4, t5, t6] 0 0 % 256) I' B' = wr at *
      clear hG hwd
      go_wp2_with fail
      refine (HC.out _).mono ?_
      rintro e w2 ⟨rfl, hb2⟩
      have hT2 := blk_below HT.out hb2
      have hG2 := blk_below HG.out hb2
      have HB2 := Lib.hid (below_then HBT.out hb2)
      clear hb2 g0 g1 g2
      obtain ⟨g0, g1, g2, _, _, _⟩ := blk3 hG2
      obtain ⟨e0, e1, e2, e3, e4, e5, e6⟩ := blk7 hT2
      clear hT2 hG2
      go_wp2_with fail
      refine (HW.out _).mono ?_
      rintro e w3 ⟨rfl, hb3⟩
      have HB3 := Lib.hid (below_then HB2.out hb3)
      clear hb3
      go_wp2
      go_ret
      exact ⟨by rw [HM.out]; rfl, HB3.out⟩
    · have HC := Lib.hid (fun W => Check_no P I B hG W)
      unfold gv at HC
      rw [decide_eq_false hG] at HM
      clear hG hwd
      go_wp2_with fail
      refine (HC.out _).mono ?_
      rintro e w2 ⟨rfl, hb2⟩
      have HB2 := Lib.hid (below_then HBT.out hb2)
      clear hb2
      go_wp2
      go_ret
      exact ⟨by rw [HM.out]; rfl, HB2.out⟩
end
section
open Go.RowKit
set_option linter.unusedVariables false

set_option maxRecDepth 100000 in
set_option maxHeartbeats 8000000 in
theorem Encode_no (x : Ino) (hx : OkI x) (P I B : Int) (hm : mayI x P I B = false) (W : World) :
    Calls Tryd.prog 7 #[iv x, gv P I B] W fun e W' => e = .returned (.tuple #[.slice none 0 0, .int .i64 2]) ∧ Below W.heap.size W W' := by
  have HM := Lib.hid (May_any x hx P I B)
  rw [hm] at HM
  obtain ⟨hB1, hB2⟩ := boxes2 x P I B W
  have HB0 := Lib.hid (((Below.refl W.heap.size W).alloc (Nat.le_refl _) (.cells (icells x) 25)).alloc (by simp) (.cells #[.int .i64 P, .int .i64 I, .int .i64 B] 27))
  obtain ⟨k, ln, gn, sz, ar, mp, h0, h1, h2, h3, pa, mt, ct⟩ := x
  unfold iv gv icells at HM
  unfold icells at HB0 hB1 hB2
  unfold iv gv icells
  dsimp only at HM HB0 hB1 hB2 ⊢
  clear hB1 hB2 hx hm
  go_enter Tryd.func7, Tryd.ntmps7
  go_wp2_with fail
  refine (HM.out _).mono ?_
  rintro e w1 ⟨rfl, hb1⟩
  have HB1 := Lib.hid (below_then HB0.out hb1)
  clear hb1
  go_wp2
  go_ret2
  exact ⟨rfl, HB1.out⟩
set_option maxRecDepth 100000 in
set_option maxHeartbeats 8000000 in
theorem Encode_yes (x : Ino) (hx : OkI x) (P I B : Int) (hm : mayI x P I B = true) (W : World) :
    Calls Tryd.prog 7 #[iv x, gv P I B] W fun e W' => ∃ A c, e = .returned (.tuple #[.slice A 8 c, .int .i64 0]) ∧ W'.ownsRow W.heap.size 44 1 (.slice A 8 c) 8 (u64s (sealed (ofI x).1)) ∧ Below W.heap.size W W' := by
  have HM := Lib.hid (May_any x hx P I B)
  rw [hm] at HM
  have HOf := Lib.hid (of_any x hx)
  obtain ⟨hB1, hB2⟩ := boxes2 x P I B W
  have HB0 := Lib.hid (((Below.refl W.heap.size W).alloc (Nat.le_refl _) (.cells (icells x) 25)).alloc (by simp) (.cells #[.int .i64 P, .int .i64 I, .int .i64 B] 27))
  obtain ⟨t0, t1, t2, t3, t4, t5, t6, hT⟩ := ofI_7 x
  have hwd := (ofI_ok x).2
  rw [hT] at hwd
  generalize hs : ofI x = s at *
  obtain ⟨T, b⟩ := s
  dsimp only at hT HOf ⊢
  subst hT
  clear hs hx hm
  have HWd := Lib.hid hwd
  clear hwd
  obtain ⟨k, ln, gn, sz, ar, mp, h0, h1, h2, h3, pa, mt, ct⟩ := x
  unfold tv iv icells at HOf
  unfold iv gv icells at HM
  unfold icells at HB0 hB1 hB2
  unfold iv gv icells
  dsimp only at HOf HM HB0 hB1 hB2 ⊢
  simp only [u64s, List.map_cons, List.map_nil] at HOf
  have HR0 := Lib.hid hB1
  clear hB1 hB2
  go_enter Tryd.func7, Tryd.ntmps7
  go_wp2_with fail
  refine (HM.out _).mono ?_
  rintro e w1 ⟨rfl, hb1⟩
  have HB1 := Lib.hid (below_then HB0.out hb1)
  obtain ⟨c0, c1, c2, c3, c4, c5, c6, c7, c8, c9, c10, c11, c12⟩ := blk13 ((hb1.block _ (by simp; omega)).trans HR0.out)
  clear hb1
  go_wp2_with fail
  refine (HOf.out _).mono ?_
  rintro e w2 ⟨rfl, hb2⟩
  have HB2 := Lib.hid (below_then HB1.out hb2)
  have HBT := Lib.hid (HB2.out.alloc HB2.out.size (.cells #[.int .u64 (t0 : Nat), .int .u64 (t1 : Nat), .int .u64 (t2 : Nat), .int .u64 (t3 : Nat), .int .u64 (t4 : Nat), .int .u64 (t5 : Nat), .int .u64 (t6 : Nat)] 48))
  have HRd := Lib.hid (show Rd (w2.alloc (.cells #[.int .u64 (t0 : Nat), .int .u64 (t1 : Nat), .int .u64 (t2 : Nat), .int .u64 (t3 : Nat), .int .u64 (t4 : Nat), .int .u64 (t5 : Nat), .int .u64 (t6 : Nat)] 48)) (.slice (some ⟨w2.heap.size, 0, none⟩) 7 7) 7 (u64s [t0, t1, t2, t3, t4, t5, t6]) from Rd.new w2 (u64s [t0, t1, t2, t3, t4, t5, t6]) 48 (by show 7 ≤ 65536; decide) 7 (by decide))
  clear hb2 c0 c1 c2 c3 c4 c5 c6 c7 c8 c9 c10 c11 c12
  go_wp2_with fail
  refine (Seal_n _ [t0, t1, t2, t3, t4, t5, t6] 7 rfl _ HRd.out HWd.out (by decide)).mono ?_
  rintro e w7 ⟨A7, c7, rfl, ho7, hb7⟩
  have HB7 := Lib.hid (below_then HBT.out hb7)
  have HO7 := Lib.hid (own_mono ho7 HBT.out.size)
  clear ho7 hb7
  go_wp2
  go_ret2
  exact ⟨_, _, rfl, HO7.out, HB7.out⟩
end
end Go.Proofs.YtnpmepklgakaiaaDoor
