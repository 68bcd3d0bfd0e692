/- super.numbers. -/
import Derived.Test.YtfmjhmgpnlmkkaaDoorSuperA
namespace Go.Proofs.YtfmjhmgpnlmkkaaDoor
open Go.RowKit
set_option linter.unusedVariables false

theorem EncSt.below {w w' : World} {base bl ba g cap : Nat} {L : List Nat} {at_ : Nat} (h : EncSt w base bl ba g cap L at_) (hb : Below w.heap.size w w') : EncSt w' base bl ba g cap L at_ :=
  ⟨(hb.block _ (lt_of_block h.box)).trans h.box, (hb.block _ (lt_of_block h.pl)).trans h.pl, own_below h.row hb, h.b1, h.b2⟩
/-- word 1 with three fields put -/
def put3 (x P I B : Nat) : Nat := putW (putW (putW x 0 16 P) 16 16 I) 32 16 B

theorem getD_set1 {L : List Nat} (hL : L.length = 7) {y : Nat} : (L.set 1 y).getD 1 0 = y := by
  have h : 1 < L.length := by omega
  simp [List.getD, h]

set_option maxRecDepth 100000 in
set_option maxHeartbeats 4000000 in
theorem numbers_any (P I B : Nat) (hP : P < 65536) (hI : I < 65536) (hB : B < 65536) (base bl ba g cap : Nat) (L : List Nat) (hL : L.length = 7) (hx : L.getD 1 0 < 18446744073709551616) (w : World) (h : EncSt w base bl ba g cap L 0) (hbase : base ≤ w.heap.size) :
    Calls Tryd.prog 17 #[gv (P : Nat) (I : Nat) (B : Nat), .func (.func 18) #[] #[.pointer (some ⟨bl, 0, none⟩), .pointer (some ⟨ba, 0, none⟩)]] w fun e w' => e = .returned (.tuple #[]) ∧ EncSt w' base bl ba g cap (L.set 1 (put3 (L.getD 1 0) P I B)) 48 ∧ Touch (fun b => b = g ∨ b = ba) w w' := by
  have hb0 := ((Below.refl w.heap.size w).alloc (Nat.le_refl _) (.cells #[.int .i64 (P : Nat), .int .i64 (I : Nat), .int .i64 (B : Nat)] 23)).alloc (by simp) (.cells #[.int .i64 (P : Nat), .int .i64 (I : Nat), .int .i64 (B : Nat)] 3)
  have h0 := h.below hb0
  have hgl := lt_of_block (own_block h.row).2.choose_spec
  have hal := lt_of_block h.pl
  have hblk : ((w.alloc (.cells #[.int .i64 (P : Nat), .int .i64 (I : Nat), .int .i64 (B : Nat)] 23)).alloc (.cells #[.int .i64 (P : Nat), .int .i64 (I : Nat), .int .i64 (B : Nat)] 3)).heap[w.heap.size + 1]? = some (.cells #[.int .i64 (P : Nat), .int .i64 (I : Nat), .int .i64 (B : Nat)] 3 (0, 0)) := by
    have := heap_alloc_new (w.alloc (.cells #[.int .i64 (P : Nat), .int .i64 (I : Nat), .int .i64 (B : Nat)] 23)) (.cells #[.int .i64 (P : Nat), .int .i64 (I : Nat), .int .i64 (B : Nat)] 3)
    simpa using this
  have H0 := Lib.hid h0
  have HB0 := Lib.hid hb0
  have HBk := Lib.hid hblk
  unfold gv
  clear h0 hb0 hblk h
  go_enter Tryd.func17, Tryd.ntmps17
  go_wp2
  refine wp_loop_rounds 4 ?_
  rw [rounds_succ]
  go_wp2_with fail
  refine (enc1_any P hP base bl ba g cap 0 (by omega) L hL hx _ H0.out).mono ?_
  rintro e w1 ⟨rfl, h1, t1⟩
  have H1 := Lib.hid h1
  have HT1 := Lib.hid t1
  have hk1 := (t1.block (w.heap.size + 1) (by simp) (by omega)).trans HBk.out
  have HK1 := Lib.hid hk1
  have g0 : w1.cell? ⟨w.heap.size + 1, 1, none⟩ = some (.int .i64 (I : Nat)) := by simp [World.cell?, hk1]
  clear h1 t1 hk1
  go_wp2
  rw [rounds_succ]
  go_wp2_with fail
  refine (enc1_any I hI base bl ba g cap 16 (by omega) (L.set 1 (putW (L.getD 1 0) 0 16 P)) (by rw [List.length_set]; exact hL) (by rw [getD_set1 hL]; exact putW_lt hx (by omega)) _ H1.out).mono ?_
  rintro e w2 ⟨rfl, h2, t2⟩
  rw [List.set_set, getD_set1 hL] at h2
  have H2 := Lib.hid h2
  have HT2 := Lib.hid (HT1.out.trans t2 (fun b h => .inl h))
  have hk2 := (t2.block (w.heap.size + 1) (lt_of_block HK1.out) (by omega)).trans HK1.out
  have HK2 := Lib.hid hk2
  have g1 : w2.cell? ⟨w.heap.size + 1, 2, none⟩ = some (.int .i64 (B : Nat)) := by simp [World.cell?, hk2]
  clear h2 t2 hk2 g0
  go_wp2
  rw [rounds_succ]
  go_wp2_with fail
  refine (enc1_any B hB base bl ba g cap 32 (by omega) (L.set 1 (putW (putW (L.getD 1 0) 0 16 P) 16 16 I)) (by rw [List.length_set]; exact hL) (by rw [getD_set1 hL]; exact putW_lt (putW_lt hx (by omega)) (by omega)) _ H2.out).mono ?_
  rintro e w3 ⟨rfl, h3, t3⟩
  rw [List.set_set, getD_set1 hL] at h3
  have H3 := Lib.hid h3
  have HT3 := Lib.hid (HT2.out.trans t3 (fun b h => .inl h))
  clear h3 t3 g1
  go_wp2
  rw [rounds_succ]
  go_wp2
  go_end0
  refine ⟨rfl, H3.out, (Touch.of_below HB0.out).trans HT3.out (fun b h => .inl h)⟩
end Go.Proofs.YtfmjhmgpnlmkkaaDoor
