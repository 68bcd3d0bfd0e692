/- parcloseref04.May, All, Words. -/
import Derived.Test.YtpjhjpcajdbinaaGeomBlk
import Derived.Test.YtpjhjpcajdbinaaGeomPlain
namespace Go.Proofs.Ytpjhjpcajdbinaa
open Go.RowKit
set_option linter.unusedVariables false

set_option maxHeartbeats 1000000 in
theorem refMay_yes (P I B : Int) (h : MayG P I B) (w : World) : Calls Try.prog 8 #[gv P I B] w fun e w' => e = .returned (.bool true) ∧ Below w.heap.size w w' := by
  obtain ⟨h1, h2, h3, h4, h5, h6⟩ := h
  unfold gv
  have d1 : decide (P ≥ 1) = true := by simp; omega
  have d2 : decide (P ≤ 8) = true := by simp; omega
  have d3 : decide (I ≥ 2) = true := by simp; omega
  have d4 : decide (I ≤ 64) = true := by simp; omega
  have d5 : decide (B ≥ 4) = true := by simp; omega
  have d6 : decide (B ≤ 255) = true := by simp; omega
  go_enter Try.func8, Try.ntmps8
  go_wp2
  go_ret
  exact ⟨rfl, (Below.refl _ _).alloc (Nat.le_refl _) _⟩
set_option maxHeartbeats 2000000 in
theorem refMay_no (P I B : Int) (h : ¬ MayG P I B) (w : World) : Calls Try.prog 8 #[gv P I B] w fun e w' => e = .returned (.bool false) ∧ Below w.heap.size w w' := by
  unfold MayG at h
  unfold gv
  by_cases c1 : P < 1
  · have d1 : decide (P ≥ 1) = false := by simp; omega
    clear h c1
    go_enter Try.func8, Try.ntmps8
    go_wp2
    go_ret
    exact ⟨rfl, (Below.refl _ _).alloc (Nat.le_refl _) _⟩
  have d1 : decide (P ≥ 1) = true := by simp; omega
  by_cases c2 : 8 < P
  · have d2 : decide (P ≤ 8) = false := by simp; omega
    clear h c1 c2
    go_enter Try.func8, Try.ntmps8
    go_wp2
    go_ret
    exact ⟨rfl, (Below.refl _ _).alloc (Nat.le_refl _) _⟩
  have d2 : decide (P ≤ 8) = true := by simp; omega
  by_cases c3 : I < 2
  · have d3 : decide (I ≥ 2) = false := by simp; omega
    clear h c1 c2 c3
    go_enter Try.func8, Try.ntmps8
    go_wp2
    go_ret
    exact ⟨rfl, (Below.refl _ _).alloc (Nat.le_refl _) _⟩
  have d3 : decide (I ≥ 2) = true := by simp; omega
  by_cases c4 : 64 < I
  · have d4 : decide (I ≤ 64) = false := by simp; omega
    clear h c1 c2 c3 c4
    go_enter Try.func8, Try.ntmps8
    go_wp2
    go_ret
    exact ⟨rfl, (Below.refl _ _).alloc (Nat.le_refl _) _⟩
  have d4 : decide (I ≤ 64) = true := by simp; omega
  by_cases c5 : B < 4
  · have d5 : decide (B ≥ 4) = false := by simp; omega
    clear h c1 c2 c3 c4 c5
    go_enter Try.func8, Try.ntmps8
    go_wp2
    go_ret
    exact ⟨rfl, (Below.refl _ _).alloc (Nat.le_refl _) _⟩
  have d5 : decide (B ≥ 4) = true := by simp; omega
  have d6 : decide (B ≤ 255) = false := by simp; omega
  clear h c1 c2 c3 c4 c5
  go_enter Try.func8, Try.ntmps8
  go_wp2
  go_ret
  exact ⟨rfl, (Below.refl _ _).alloc (Nat.le_refl _) _⟩

/-! ### the regions, one behind the other: four cells each -/
def sc (P I j : Nat) : List Value := [.int .u8 (spK P I j : Nat), .int .i64 (spW P I j : Nat), .int .i64 0, .int .i64 (spN P I j : Nat)]
def scs (P I m : Nat) : List Value := (List.range m).flatMap (sc P I)
theorem scs_succ (P I m : Nat) : scs P I (m + 1) = scs P I m ++ sc P I m := by unfold scs; rw [List.range_succ, List.flatMap_append]; simp
theorem scs_length (P I m : Nat) : (scs P I m).length = m * 4 := by
  induction m with
  | zero => rfl
  | succ m ih => rw [scs_succ, List.length_append, ih]; show m * 4 + 4 = _; omega
theorem scs_at (P I : Nat) : ∀ (m j : Nat), j < m → ∀ t, t < 4 → (scs P I m)[j * 4 + t]? = (sc P I j)[t]? := by
  intro m
  induction m with
  | zero => intro j h; omega
  | succ m ih =>
    intro j h t ht
    rw [scs_succ]
    by_cases hj : j < m
    · rw [List.getElem?_append_left (by rw [scs_length]; omega), ih j hj t ht]
    · obtain rfl : j = m := by omega
      rw [List.getElem?_append_right (by rw [scs_length]; omega), scs_length, show j * 4 + t - j * 4 = t by omega]
theorem infoSpan : (Try.prog.info? 47).map (fun i => (i.zero, i.size, i.bytes)) = some (some (.agg #[.int .u8 0, .int .i64 0, .int .i64 0, .int .i64 0]), 4, 32) := by kernel_rfl
/-- 'append(l, Span{..})' -/
theorem push_span {ops : Array Oper} {rest : List Oper} {o : Oper} {a : Act} {w : World} {Q : Exit → Act → World → Prop} (hw : Region.wanted o (yielded ops a.tmps) = true) (s x : Operand)
    (ho : o.op = .call { callee := .builtin .append, args := #[s, x], argTypes := #[44, 44] }) (ht : o.type = 44)
    (base : Nat) (v : Value) (m : Nat) (xs : List Value) (hs : a.eval s = v) (hown : w.ownsRow base 47 4 v m xs)
    (u : Value) (cs : List Value) (hx : a.eval x = u) (hr : Rd w u 1 cs) (hl : cs.length = 4) (h1 : ∀ y ∈ cs, y.oneCell' = true) (hm : m ≤ 65536) (hbase : base ≤ w.heap.size)
    (h : ∀ A c w', w'.ownsRow base 47 4 (.slice A (m + 1) c) (m + 1) (xs ++ cs) → w.grownBy w' v.ownBlock → wpList Try.prog ops Q rest (a.put o.dst (.slice A (m + 1) c)) w') : wpList Try.prog ops Q (o :: rest) a w := by
  obtain ⟨i0, hi, hz0, hz1, hz2⟩ := info_parts infoSpan
  exact wpList_append_rd hw s x _ ho base 47 i0 _ 4 32 Try.underlying44 hi hz0 hz1 hz2 rfl (by decide) v m xs hs hown u 1 cs hx hr (by rw [hl]) h1 (by unfold maxLen; omega) (by omega) hbase h
theorem sc_one (P I j : Nat) : ∀ y ∈ sc P I j, y.oneCell' = true := by
  intro y hy
  simp only [sc, List.mem_cons, List.mem_nil_iff, or_false] at hy
  rcases hy with rfl | rfl | rfl | rfl <;> rfl
theorem sc_inode (P I j : Nat) (h : j < I) : sc P I (2 + j) = [.int .u8 3, .int .i64 ((j : Int) + 1), .int .i64 0, .int .i64 8] := by
  unfold sc spK spW spN
  rw [if_neg (by omega), if_neg (by omega), if_pos (by omega), if_neg (by omega), if_pos (by omega), if_pos (by omega)]
  simp only [show ((2 + j - 1 : Nat) : Int) = (j : Int) + 1 by omega]
  rfl
theorem sc_slot (P I j : Nat) (h : j < P) : sc P I (2 + I + j) = [.int .u8 4, .int .i64 (j : Int), .int .i64 0, .int .i64 136] := by
  unfold sc spK spW spN
  rw [if_neg (by omega), if_neg (by omega), if_neg (by omega), if_pos (by omega), if_neg (by omega), if_neg (by omega), if_pos (by omega), if_neg (by omega), if_pos (by omega)]
  simp only [show 2 + I + j - (2 + I) = j by omega]
  rfl
theorem sc_block (P I j : Nat) : sc P I (2 + I + P + j) = [.int .u8 5, .int .i64 ((j : Int) + 1), .int .i64 0, .int .i64 32] := by
  unfold sc spK spW spN
  rw [if_neg (by omega), if_neg (by omega), if_neg (by omega), if_neg (by omega), if_neg (by omega), if_neg (by omega), if_neg (by omega), if_neg (by omega), if_neg (by omega)]
  simp only [show 2 + I + P + j - (2 + I + P) = j by omega]
  rfl
theorem scs_two (P I : Nat) (h : 0 < I) : scs P I 2 = [.int .u8 1, .int .i64 0, .int .i64 0, .int .i64 8, .int .u8 2, .int .i64 0, .int .i64 0, .int .i64 8] := by
  rw [scs_succ, scs_succ]
  simp [scs, sc, spK, spW, spN]
  constructor <;> rw [if_pos (by omega)] <;> rfl

set_option maxHeartbeats 4000000 in
theorem All_any (P I B : Nat) (hP : P ≤ 8) (hI : 2 ≤ I) (hI2 : I ≤ 64) (hB : B ≤ 255) (w : World) : Calls Try.prog 24 #[gv P I B] w fun e w' =>
    ∃ A c, e = .returned (.slice A (2 + I + P + B) c) ∧ w'.ownsRow w.heap.size 47 4 (.slice A (2 + I + P + B) c) (2 + I + P + B) (scs P I (2 + I + P + B)) ∧ Below w.heap.size w w' := by
  unfold gv
  go_enter Try.func24, Try.ntmps24
  go_wp2
  obtain ⟨w1, hw1⟩ : ∃ w1, w1 = w.alloc (.cells #[.int .i64 P, .int .i64 I, .int .i64 B] 23) := ⟨_, rfl⟩
  have hbox : w1.heap[w.heap.size]? = some (.cells #[.int .i64 P, .int .i64 I, .int .i64 B] 23 (0, 0)) := by rw [hw1]; exact heap_alloc_new w _
  have hb1 : Below w.heap.size w w1 := by rw [hw1]; exact (Below.refl _ _).alloc (Nat.le_refl _) _
  have hsz : w1.heap.size = w.heap.size + 1 := by rw [hw1]; exact World.size_alloc _ _
  obtain ⟨w2, hw2⟩ : ∃ w2, w2 = w1.alloc (.cells #[.int .u8 1, .int .i64 0, .int .i64 0, .int .i64 8, .int .u8 2, .int .i64 0, .int .i64 0, .int .i64 8] 47) := ⟨_, rfl⟩
  have hb2 : Below w1.heap.size w1 w2 := by rw [hw2]; exact (Below.refl _ _).alloc (Nat.le_refl _) _
  have ho2 : w2.ownsRow w1.heap.size 47 4 (.slice (some ⟨w1.heap.size, 0, none⟩) 2 2) 2 (scs P I 2) := by
    rw [scs_two P I (by omega), hw2]
    exact ⟨rfl, .inr ⟨w1.heap.size, 2, _, rfl, Nat.le_refl _, heap_alloc_new w1 _, Nat.le_refl _, by unfold maxLen; omega, rfl, rfl⟩⟩
  rw [hsz] at ho2 hb2
  rw [← hw1, ← hw2]
  have Hb1 := Lib.hid hb1
  have Hbox := Lib.hid hbox
  clear hb1 hbox hw1 hw2
  go_loopw [3, 4] (fun l i wr => ∃ j : Nat, ∃ A c, j ≤ I ∧ i = .int .i64 ((j : Int) + 1) ∧ l = .slice A (2 + j) c ∧ wr.ownsRow (w.heap.size + 1) 47 4 (.slice A (2 + j) c) (2 + j) (scs P I (2 + j)) ∧ Below (w.heap.size + 1) w1 wr) (fun _ i _ => I + 1 - (intOf i).toNat)
  case atStart => exact ⟨0, _, _, Nat.zero_le _, rfl, rfl, ho2, hb2⟩
  case round =>
    obtain ⟨j, A, c, hj, rfl, rfl, hown, hbel⟩ := hrel
    have hg := (hbel.block w.heap.size (by omega)).trans Hbox.out
    obtain ⟨g0, g1, g2, _, _, _⟩ := blk3 hg
    have Hown := Lib.hid hown
    have Hbel := Lib.hid hbel
    have hsw := hbel.size
    clear hg hown hbel
    by_cases hlt : j < I
    · have hd : decide ((j : Int) + 1 ≤ (I : Int)) = true := by simp; omega
      have Hsc := Lib.hid (sc_inode P I j hlt)
      go_wp2_with (at_builtin; refine push_span rfl (.tmp 18) (.tmp 22) rfl rfl (w.heap.size + 1) _ (2 + j) (scs P I (2 + j)) rfl (Hown.out.alloc _) _ (sc P I (2 + j)) rfl (by rw [Hsc.out]; exact Rd.new _ _ _ (by simp) 1 (by omega)) rfl (sc_one _ _ _) (by omega) (by simp; omega) ?_; intro A3 c3 w3 hown3 hg3)
      have hb3 : Below (w.heap.size + 1) w1 w3 := below_grown (Hbel.out.alloc (by omega) _) (Hown.out.alloc _) (Nat.le_refl _) (by simp; omega) hg3
      rw [← scs_succ] at hown3
      go_wp2
      go_roundw
      case rel => exact ⟨j + 1, _, _, by omega, by go_num, rfl, hown3, hb3⟩
      case measure => simp [intOf]; omega
    · obtain rfl : j = I := by omega
      have hd : decide ((j : Int) + 1 ≤ (j : Int)) = false := decide_eq_false (by omega)
      clear hlt hj ho2 hb2
      go_wp2
      go_loopw [3, 5] (fun l i wr => ∃ q : Nat, ∃ A c, q ≤ P ∧ i = .int .i64 (q : Int) ∧ l = .slice A (2 + j + q) c ∧ wr.ownsRow (w.heap.size + 1) 47 4 (.slice A (2 + j + q) c) (2 + j + q) (scs P j (2 + j + q)) ∧ Below (w.heap.size + 1) w1 wr) (fun _ i _ => P - (intOf i).toNat)
      case atStart => exact ⟨0, _, _, Nat.zero_le _, rfl, rfl, Hown.out, Hbel.out⟩
      case round =>
        obtain ⟨q, A, c, hq, rfl, rfl, hown, hbel⟩ := hrel
        clear Hown Hbel hsw
        have hg := (hbel.block w.heap.size (by omega)).trans Hbox.out
        obtain ⟨g0, g1, g2, _, _, _⟩ := blk3 hg
        have Hown := Lib.hid hown
        have Hbel := Lib.hid hbel
        have hsw := hbel.size
        clear hg hown hbel
        by_cases hlt : q < P
        · have Hsc := Lib.hid (sc_slot P j q hlt)
          go_wp2_with (at_builtin; refine push_span rfl (.tmp 30) (.tmp 34) rfl rfl (w.heap.size + 1) _ (2 + j + q) (scs P j (2 + j + q)) rfl (Hown.out.alloc _) _ (sc P j (2 + j + q)) rfl (by rw [Hsc.out]; exact Rd.new _ _ _ (by simp) 1 (by omega)) rfl (sc_one _ _ _) (by omega) (by simp; omega) ?_; intro A3 c3 w3 hown3 hg3)
          have hb3 : Below (w.heap.size + 1) w1 w3 := below_grown (Hbel.out.alloc (by omega) _) (Hown.out.alloc _) (Nat.le_refl _) (by simp; omega) hg3
          rw [← scs_succ] at hown3
          go_wp2
          go_roundw
          case rel => exact ⟨q + 1, _, _, by omega, by go_num, rfl, hown3, hb3⟩
          case measure => simp [intOf]; omega
        · obtain rfl : q = P := by omega
          clear hlt hq
          go_wp2
          go_loopw [3, 6] (fun l i wr => ∃ p : Nat, ∃ A c, p ≤ B ∧ i = .int .i64 ((p : Int) + 1) ∧ l = .slice A (2 + j + q + p) c ∧ wr.ownsRow (w.heap.size + 1) 47 4 (.slice A (2 + j + q + p) c) (2 + j + q + p) (scs q j (2 + j + q + p)) ∧ Below (w.heap.size + 1) w1 wr) (fun _ i _ => B + 1 - (intOf i).toNat)
          case atStart => exact ⟨0, _, _, Nat.zero_le _, rfl, rfl, Hown.out, Hbel.out⟩
          case round =>
            obtain ⟨p, A, c, hp, rfl, rfl, hown, hbel⟩ := hrel
            clear Hown Hbel hsw
            have hg := (hbel.block w.heap.size (by omega)).trans Hbox.out
            obtain ⟨g0, g1, g2, _, _, _⟩ := blk3 hg
            have Hown := Lib.hid hown
            have Hbel := Lib.hid hbel
            have hsw := hbel.size
            clear hg hown hbel
            by_cases hlt : p < B
            · have hd : decide ((p : Int) + 1 ≤ (B : Int)) = true := by simp; omega
              have Hsc := Lib.hid (sc_block q j p)
              go_wp2_with (at_builtin; refine push_span rfl (.tmp 42) (.tmp 46) rfl rfl (w.heap.size + 1) _ (2 + j + q + p) (scs q j (2 + j + q + p)) rfl (Hown.out.alloc _) _ (sc q j (2 + j + q + p)) rfl (by rw [Hsc.out]; exact Rd.new _ _ _ (by simp) 1 (by omega)) rfl (sc_one _ _ _) (by omega) (by simp; omega) ?_; intro A3 c3 w3 hown3 hg3)
              have hb3 : Below (w.heap.size + 1) w1 w3 := below_grown (Hbel.out.alloc (by omega) _) (Hown.out.alloc _) (Nat.le_refl _) (by simp; omega) hg3
              rw [← scs_succ] at hown3
              go_wp2
              go_roundw
              case rel => exact ⟨p + 1, _, _, by omega, by go_num, rfl, hown3, hb3⟩
              case measure => simp [intOf]; omega
            · obtain rfl : p = B := by omega
              have hd : decide ((p : Int) + 1 ≤ (p : Int)) = false := decide_eq_false (by omega)
              clear hlt hp
              go_wp2
              go_ret
              exact ⟨_, _, rfl, own_mono Hown.out (by omega), Hb1.out.trans (Hbel.out.mono (by omega))⟩
end Go.Proofs.Ytpjhjpcajdbinaa
