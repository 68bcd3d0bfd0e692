/- parcloseref15.Drop, Turned: what they return. -/
import Derived.Test.YteojodddfanepaaPoolRef
namespace Go.Proofs.Yteojodddfanepaa
open Go.RowKit
set_option linter.unusedVariables false

/-- which is dropped: all of them are numbers from 1 to n -/
def InR (which : List Int) (n : Nat) (k : Nat) : Prop := ∀ i (h : i < which.length), i < k → 1 ≤ which[i] ∧ which[i] ≤ n
theorem InR_zero (which : List Int) (n : Nat) : InR which n 0 := fun i _ h => absurd h (Nat.not_lt_zero _)
theorem InR_succ {which : List Int} {n k : Nat} (h : InR which n k) (hk : k < which.length) (h1 : 1 ≤ which[k]) (h2 : which[k] ≤ n) : InR which n (k + 1) := by
  intro i hi hik
  rcases Nat.lt_or_ge i k with hh | hh
  · exact h i hi hh
  · obtain rfl : i = k := by omega
    exact ⟨h1, h2⟩
theorem not_InR {which : List Int} {n k : Nat} (hk : k < which.length) (h : ¬ (1 ≤ which[k] ∧ which[k] ≤ n)) : ¬ InR which n which.length := fun hh => h (hh k hk hk)
/-- what a call of Drop hands back -/
def HandsDrop (w : World) (l : List Nat) (n : Nat) (which : List Int) (r : Ending) (w' : World) : Prop :=
  Below w.heap.size w w' ∧ ((¬ InR which n which.length ∧ r = .returned (.tuple #[.slice none 0 0, .int .i64 3])) ∨
    (InR which n which.length ∧ drops l which = none ∧ r = .returned (.tuple #[.slice none 0 0, .int .i64 6])) ∨
    (InR which n which.length ∧ ∃ R A c, drops l which = some R ∧ r = .returned (.tuple #[.slice A l.length c, .int .i64 0]) ∧ w'.ownsRow w.heap.size 38 1 (.slice A l.length c) l.length (u64s R)))

set_option maxHeartbeats 1000000 in
theorem refDrop_arg (v u : Value) (l : List Nat) (n : Int) (w : World) (h : Rd w v l.length (u64s l)) (hn : ¬ May l n) (hn1 : -9223372036854775808 ≤ n) (hn2 : n ≤ 9223372036854775807) (hl : l.length ≤ 65536) :
    Calls Try.prog 19 #[v, .int .i64 n, u] w fun e w' => e = .returned (.tuple #[.slice none 0 0, .int .i64 2]) ∧ w = w' := by
  have HM := Lib.hid (refMay_no v l n w h hn hn1 hn2 hl)
  clear h hn
  go_enter Try.func19, Try.ntmps19
  go_wp2_with fail
  refine HM.out.mono ?_
  rintro e w' ⟨rfl, rfl⟩
  go_wp2
  go_ret2
  exact ⟨rfl, rfl⟩

set_option maxHeartbeats 4000000 in
theorem refDrop_any (v u : Value) (l : List Nat) (n : Nat) (which : List Int) (w : World) (h : Rd w v l.length (u64s l)) (hw : ∀ x ∈ l, x < 2 ^ 64) (hu : Rd w u which.length (i64s which)) (hn : n ≤ 64 * l.length) (hl : l.length ≤ 65536) (hm : which.length ≤ 65536)
    (hb : ∀ x ∈ which, -9223372036854775808 ≤ x ∧ x ≤ 9223372036854775807) :
    Calls Try.prog 19 #[v, .int .i64 n, u] w (HandsDrop w l n which) := by
  have HR := Lib.hid h
  have HW := Lib.hid hw
  have HM := Lib.hid (refMay_yes v l n w h (by unfold May; omega) hl)
  obtain ⟨A, c, rfl, _, _, _⟩ := h
  obtain ⟨B, d, rfl, _, _, _⟩ := hu
  rename_i hu
  have HU : Rd w (.slice B which.length d) which.length (i64s which) := ⟨B, d, rfl, by assumption, by assumption, hu⟩
  have HB := Lib.hid hb
  have HU := Lib.hid HU
  clear hw hu hb
  go_enter Try.func19, Try.ntmps19
  go_wp2_with fail
  refine HM.out.mono ?_
  rintro e w' ⟨rfl, rfl⟩
  go_wp2
  go_loop [8] (fun i => ∃ j : Nat, j ≤ which.length ∧ i = .int .i64 j ∧ InR which n j) (fun i => which.length - (intOf i).toNat)
  case atStart => exact ⟨0, Nat.zero_le _, rfl, InR_zero _ _⟩
  case round =>
    obtain ⟨j, hj, rfl, hin⟩ := hrel
    by_cases hlt : j < which.length
    · obtain ⟨b, o, rfl, hcell⟩ := HU.out.at_ (i64s_at hlt)
      obtain ⟨hx1, hx2⟩ := HB.out _ (List.getElem_mem hlt)
      have hyes := InR_succ hin hlt
      have hno := not_InR (which := which) (n := n) hlt
      generalize which[j] = x at *
      have HI := Lib.hid hin
      have HY := Lib.hid hyes
      have HN := Lib.hid hno
      clear hin hyes hno
      by_cases h1 : x < 1
      · have hd : decide (x < 1) = true := by simpa using h1
        go_wp2
        go_ret2
        exact ⟨Below.refl _ _, .inl ⟨HN.out (by omega), rfl⟩⟩
      · have hd : decide (x < 1) = false := by simpa using h1
        by_cases h2 : x ≤ n
        · have hd2 : decide (x > (n : Int)) = false := by simpa using h2
          go_wp2
          go_round
          case rel => exact ⟨j + 1, by omega, by go_num, HY.out (by omega) h2⟩
          case measure => simp [intOf]; omega
        · have hd2 : decide (x > (n : Int)) = true := by simp; omega
          go_wp2
          go_ret2
          exact ⟨Below.refl _ _, .inl ⟨HN.out (by omega), rfl⟩⟩
    · obtain rfl : j = which.length := by omega
      have HI := Lib.hid hin
      clear hin hlt hj
      go_wp2_with (at_builtin; refine copy64 rfl (.const (.slice none 0 0)) (.tmp 36) rfl rfl _ l _ rfl rfl HR.out (by omega) ?_; intro A1 c1 w1 hown1 hb1)
      go_loopw [9, 10] (fun row i wr => ∃ j : Nat, ∃ R, j ≤ which.length ∧ i = .int .i64 (j : Int) ∧ dropsTo l which j = some R ∧ (∃ A c, row = .slice A l.length c ∧ wr.ownsRow w.heap.size 38 1 (.slice A l.length c) l.length (u64s R)) ∧ Below w.heap.size w wr) (fun _ i _ => which.length - (intOf i).toNat)
      case atStart => exact ⟨0, l, Nat.zero_le _, rfl, rfl, ⟨A1, c1, rfl, hown1⟩, hb1⟩
      case round =>
        obtain ⟨j, R, hj, rfl, hR, ⟨A2, c2, rfl, hrow⟩, hbel⟩ := hrel
        clear hown1 hb1
        have hRl : R.length = l.length := drops_length hR
        have hRw := drops_wd HW.out hR
        by_cases hlt : j < which.length
        · obtain ⟨b, o, rfl, hcell⟩ := (HU.out.below hbel).at_ (i64s_at hlt)
          obtain ⟨hx1, hx2⟩ := HI.out j hlt hlt
          have hs := dropsTo_succ (l := l) hlt
          rw [hR] at hs
          have hno := fun h => @drops_none_of l which (j + 1) h
          generalize which[j] = x at *
          have ht := taken_any (.slice A2 l.length c2) R x wr (by rw [hRl]; exact Rd.of_own hrow) hRw hx1 (by omega) (by omega)
          have HT := Lib.hid ht
          have HS := Lib.hid hs
          have HN := Lib.hid hno
          have Hrow := Lib.hid hrow
          have HRw := Lib.hid hRw
          have HRl := Lib.hid hRl
          have Hbel := Lib.hid hbel
          clear ht hs hno hrow hRw hRl hbel hR
          go_wp2_with fail
          refine HT.out.mono ?_
          rintro e w' ⟨rfl, rfl⟩
          cases hb : bitOf R (x - 1).toNat with
          | true =>
            have Hb := Lib.hid hb
            clear hb
            go_wp2_with fail
            refine (refWith_yes _ R (x - 1) false _ (by rw [HRl.out]; exact Rd.of_own Hrow.out) HRw.out (by unfold Idx; rw [HRl.out]; omega) (by rw [HRl.out]; exact hl)).mono ?_
            rintro e w4 ⟨A4, c4, rfl, hown4, hb4⟩
            rw [HRl.out] at hown4
            rw [HRl.out]
            have hw4 := below_then Hbel.out hb4
            go_wp2
            go_roundw
            case rel => exact ⟨j + 1, _, by omega, by go_num, by rw [HS.out]; simp only [Option.bind_some]; rw [if_pos Hb.out]; rfl, ⟨A4, c4, rfl, own_mono hown4 Hbel.out.size⟩, hw4⟩
            case measure => simp [intOf]; omega
          | false =>
            have Hb := Lib.hid hb
            clear hb
            go_wp2
            go_ret2
            exact ⟨Hbel.out, .inr (.inl ⟨HI.out, HN.out (by rw [HS.out]; simp only [Option.bind_some]; rw [if_neg (by rw [Hb.out]; decide)]), rfl⟩)⟩
        · obtain rfl : j = which.length := by omega
          rw [dropsTo_all] at hR
          have HRR := Lib.hid hR
          have Hrow := Lib.hid hrow
          have Hbel := Lib.hid hbel
          clear hR hrow hRw hRl hbel
          go_wp2
          go_ret2
          exact ⟨Hbel.out, .inr (.inr ⟨HI.out, R, A2, c2, HRR.out, rfl, Hrow.out⟩)⟩

/-! ### Turned -/
theorem getD_at {l : List Nat} {k : Nat} (h : k < l.length) : l.getD k 0 = l[k] := by simp [List.getD, h]
set_option maxHeartbeats 2000000 in
theorem refTurned_any (a b : Value) (l m : List Nat) (w : World) (ha : Rd w a l.length (u64s l)) (hb : Rd w b m.length (u64s m)) (hl : l.length ≤ 65536) (hm : m.length ≤ 65536) :
    Calls Try.prog 17 #[a, b] w (Hands w 3 1 (turned l m).length (i64s (ints (turned l m)))) := by
  have HA := Lib.hid ha
  have HB := Lib.hid hb
  obtain ⟨A, c, rfl, _, _, _⟩ := ha
  obtain ⟨B, d, rfl, _, _, _⟩ := hb
  go_enter Try.func17, Try.ntmps17
  go_wp2
  go_loopw [5, 6] (fun out i wr => ∃ j : Nat, j ≤ min l.length m.length ∧ i = .int .i64 (j : Int) ∧
      (∃ A d n, out = .slice A n d ∧ n = (turnedTo l m j).length ∧ wr.ownsRow w.heap.size 3 1 (.slice A n d) n (i64s (ints (turnedTo l m j)))) ∧ Below w.heap.size w wr) (fun _ i _ => l.length - (intOf i).toNat)
  case atStart => exact ⟨0, Nat.zero_le _, rfl, ⟨none, 0, 0, rfl, rfl, World.ownsRow_nil _ _ _ _⟩, Below.refl _ _⟩
  case round =>
    obtain ⟨j, hj, rfl, ⟨A2, d2, n, rfl, hn, hrow⟩, hbel⟩ := hrel
    have hnj := turnedTo_len l m j
    rw [← hn] at hnj
    by_cases hlt : j < min l.length m.length
    · have h1 : j < l.length := by omega
      have h2 : j < m.length := by omega
      obtain ⟨b1, o1, rfl, hc1⟩ := (HA.out.below hbel).at_ (u64s_at h1)
      obtain ⟨b2, o2, rfl, hc2⟩ := (HB.out.below hbel).at_ (u64s_at h2)
      have hse := @turnedTo_succ_eq l m j
      have hsn := @turnedTo_succ_ne l m j
      have hin := ints_snoc (turnedTo l m j) j
      rw [getD_at h1, getD_at h2] at hse hsn
      generalize hgT : turnedTo l m j = T at *
      have Hgt := Lib.hid hgT
      have Hn := Lib.hid hn
      have Hse := Lib.hid hse
      have Hsn := Lib.hid hsn
      have Hin := Lib.hid hin
      have Hrow := Lib.hid hrow
      have Hbel := Lib.hid hbel
      clear hse hsn hin hrow hbel hgT hn
      by_cases he : l[j] = m[j]
      · have He := Lib.hid he
        rw [← he] at hc2
        clear he
        go_wp2
        go_quiet (fail)
        go_wp2
        go_roundw
        case rel => exact ⟨j + 1, by omega, by go_num, ⟨A2, d2, n, rfl, by rw [Hse.out He.out]; exact Hn.out, by rw [Hse.out He.out]; exact Hrow.out⟩, below_drewN Hbel.out _⟩
        case measure => simp [intOf]; omega
      · have hne' : (((l[j] : Nat) : Int) != ((m[j] : Nat) : Int)) = true := by simp only [bne_iff_ne, ne_eq]; omega
        have He := Lib.hid he
        clear he
        go_wp2
        go_quiet (fail)
        go_wp2_with (first
          | (at_builtin; refine push_int rfl (.tmp 28) (.tmp 30) rfl w.heap.size (.slice A2 n d2) (ints T) n rfl (Hrow.out.alloc _) _ (j : Int) rfl (Rd.one _ _ _) (by omega) (by have := Hbel.out.size; simp; omega) ?_; intro A3 c3 w3 hown3 hg3))
        have hw3 : Below w.heap.size w w3 := below_grown ((below_drewN Hbel.out _).alloc Hbel.out.size _) (Hrow.out.alloc _) (Nat.le_refl _) (by have := Hbel.out.size; simp; omega) hg3
        go_wp2
        go_roundw
        case rel => exact ⟨j + 1, by omega, by go_num, ⟨A3, c3, n + 1, rfl, by rw [Hsn.out He.out, List.length_append, ← Hn.out]; rfl, by rw [Hsn.out He.out, Hin.out]; exact hown3⟩, hw3⟩
        case measure => simp [intOf]; omega
    · obtain rfl : j = min l.length m.length := by omega
      have Hn := Lib.hid hn
      have Hrow := Lib.hid hrow
      have Hbel := Lib.hid hbel
      clear hrow hbel hn
      rcases Nat.lt_or_ge l.length m.length with hh | hh
      · rw [Nat.min_eq_left (by omega)] at *
        go_wp2
        go_ret
        exact ⟨A2, d2, by unfold turned; rw [Nat.min_eq_left (by omega), ← Hn.out]; rfl, by unfold turned; rw [Nat.min_eq_left (by omega), ← Hn.out]; exact Hrow.out, Hbel.out⟩
      · rw [Nat.min_eq_right (by omega)] at *
        rcases (show m.length < l.length ∨ m.length = l.length by omega) with hh2 | hh2
        · go_wp2
          go_ret
          exact ⟨A2, d2, by unfold turned; rw [Nat.min_eq_right (by omega), ← Hn.out]; rfl, by unfold turned; rw [Nat.min_eq_right (by omega), ← Hn.out]; exact Hrow.out, Hbel.out⟩
        · rw [hh2] at *
          go_wp2
          go_ret
          exact ⟨A2, d2, by unfold turned; rw [Nat.min_eq_right (by omega), ← Hn.out]; rfl, by unfold turned; rw [Nat.min_eq_right (by omega), ← Hn.out]; exact Hrow.out, Hbel.out⟩
end Go.Proofs.Yteojodddfanepaa
