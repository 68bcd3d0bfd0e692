/- parcloseref04.Words, Place, What. -/
import Derived.Test.YtpjhjpcajdbinaaGeomRef
import Derived.Deep.AppendLies
namespace Go.Proofs.Ytpjhjpcajdbinaa
open Go.RowKit
set_option linter.unusedVariables false

/-- the cells of the j-th region of a row of regions -/
theorem span_at {w : World} {base g cap P I m j : Nat} (h : w.ownsRow base 47 4 (.slice (some ⟨g, 0, none⟩) m cap) m (scs P I m)) (hj : j < m) :
    w.cell? ⟨g, j * 4, none⟩ = some (.int .u8 (spK P I j : Nat)) ∧ w.cell? ⟨g, j * 4 + 1, none⟩ = some (.int .i64 (spW P I j : Nat)) ∧ w.cell? ⟨g, j * 4 + 2, none⟩ = some (.int .i64 0) ∧ w.cell? ⟨g, j * 4 + 3, none⟩ = some (.int .i64 (spN P I j : Nat)) := by
  have a := fun t (ht : t < 4) => (h.cellAt (j * 4 + t) (by omega)).trans (scs_at P I m j hj t ht)
  exact ⟨a 0 (by omega), a 1 (by omega), a 2 (by omega), a 3 (by omega)⟩

set_option maxHeartbeats 2000000 in
theorem Words_any (P I B : Nat) (hP : P ≤ 8) (hI : 2 ≤ I) (hI2 : I ≤ 64) (hB : B ≤ 255) (w : World) : Calls Try.prog 17 #[gv P I B] w fun e w' =>
    e = .returned (.int .i64 (8 * (2 + I + 17 * P + 4 * B) : Nat)) ∧ Below w.heap.size w w' := by
  have HA := Lib.hid (fun W => All_any P I B hP hI hI2 hB W)
  have hso := spO_all P I B
  have hm : 2 + I + P + B ≤ 400 := by omega
  have h0 : 0 < 2 + I + P + B := by omega
  rw [← hso]
  have hob : spO P I (2 + I + P + B) ≤ 20000 := by rw [hso]; omega
  have Hob := Lib.hid hob
  clear hso hob
  unfold gv at HA ⊢
  generalize 2 + I + P + B = m at *
  have hbx : Below w.heap.size w (w.alloc (.cells #[.int .i64 P, .int .i64 I, .int .i64 B] 23)) := (Below.refl _ _).alloc (Nat.le_refl _) _
  have HBx := Lib.hid hbx
  clear hbx
  go_enter Try.func17, Try.ntmps17
  go_wp2_with fail
  refine (HA.out _).mono ?_
  rintro e w3 ⟨A, c, rfl, hown, hb⟩
  obtain ⟨g, cap, hv, _, _⟩ := hown.form h0
  injection hv with hA _ hc
  subst hA
  subst hc
  have Hown := Lib.hid hown
  have Hb := Lib.hid (below_then HBx.out hb)
  clear hown hb
  go_wp2
  go_loop [4, 5] (fun n i => ∃ j : Nat, j ≤ m ∧ i = .int .i64 (j : Int) ∧ n = .int .i64 (spO P I j : Nat)) (fun _ i => m - (intOf i).toNat)
  case atStart => exact ⟨0, Nat.zero_le _, rfl, by rw [spO_zero]; rfl⟩
  case round =>
    obtain ⟨j, hj, rfl, rfl⟩ := hrel
    by_cases hlt : j < m
    · obtain ⟨_, _, _, hc3⟩ := span_at Hown.out hlt
      have hs := spO_succ P I j
      have hle : spO P I (j + 1) ≤ 20000 := Nat.le_trans (spO_mono P I (show j + 1 ≤ m by omega)) Hob.out
      have hle2 : spO P I j + spN P I j ≤ 20000 := by omega
      have Hs := Lib.hid hs
      clear hs hle
      generalize spN P I j = sn at *
      generalize spO P I j = so at *
      go_wp2
      go_round
      case rel => exact ⟨j + 1, by omega, by go_num, by rw [Hs.out]; go_num⟩
      case measure => simp [intOf]; omega
    · obtain rfl : j = m := by omega
      clear hlt hj
      go_wp2
      go_ret
      exact ⟨rfl, Hb.out⟩

/-- a place, and whether there is one -/
def placeV (o : Option Nat) : Value := match o with | some a => .tuple #[.int .i64 (a : Int), .bool true] | none => .tuple #[.int .i64 0, .bool false]
set_option maxHeartbeats 4000000 in
theorem Place_any (P I B : Nat) (hP : P ≤ 8) (hI : 2 ≤ I) (hI2 : I ≤ 64) (hB : B ≤ 255) (kind : Nat) (hk : kind < 256) (which : Int) (w : World) : Calls Try.prog 27 #[gv P I B, .int .u8 kind, .int .i64 which] w fun e w' =>
    e = .returned (placeV (placeTo P I kind which (2 + I + P + B))) ∧ Below w.heap.size w w' := by
  have HA := Lib.hid (fun W => All_any P I B hP hI hI2 hB W)
  have hso := spO_all P I B
  have hm : 2 + I + P + B ≤ 400 := by omega
  have h0 : 0 < 2 + I + P + B := by omega
  have hob : spO P I (2 + I + P + B) ≤ 20000 := by rw [hso]; omega
  have Hob := Lib.hid hob
  clear hso hob
  unfold gv at HA ⊢
  generalize 2 + I + P + B = m at *
  have hbx : Below w.heap.size w (w.alloc (.cells #[.int .i64 P, .int .i64 I, .int .i64 B] 23)) := (Below.refl _ _).alloc (Nat.le_refl _) _
  have HBx := Lib.hid hbx
  clear hbx
  go_enter Try.func27, Try.ntmps27
  go_wp2_with fail
  refine (HA.out _).mono ?_
  rintro e w3 ⟨A, c, rfl, hown, hb⟩
  obtain ⟨g, cap, hv, _, _⟩ := hown.form h0
  injection hv with hA _ hc
  subst hA
  subst hc
  have Hown := Lib.hid hown
  have Hb := Lib.hid (below_then HBx.out hb)
  clear hown hb
  go_wp2
  go_loop [9, 10] (fun n i => ∃ j : Nat, j ≤ m ∧ i = .int .i64 (j : Int) ∧ n = .int .i64 (spO P I j : Nat) ∧ (∀ i, i < j → ¬ (spK P I i = kind ∧ (spW P I i : Int) = which))) (fun _ i => m - (intOf i).toNat)
  case atStart => exact ⟨0, Nat.zero_le _, rfl, by rw [spO_zero]; rfl, fun i h => by omega⟩
  case round =>
    obtain ⟨j, hj, rfl, rfl, hbef⟩ := hrel
    have Hbef := Lib.hid hbef
    clear hbef
    by_cases hlt : j < m
    · obtain ⟨hc0, hc1, _, hc3⟩ := span_at Hown.out hlt
      have hs := spO_succ P I j
      have hle : spO P I (j + 1) ≤ 20000 := Nat.le_trans (spO_mono P I (show j + 1 ≤ m by omega)) Hob.out
      have hle2 : spO P I j + spN P I j ≤ 20000 := by omega
      have Hs := Lib.hid hs
      have Hyes := Lib.hid (fun (h : spK P I j = kind ∧ (spW P I j : Int) = which) => placeTo_some h Hbef.out hlt)
      have Hno := Lib.hid (fun (h : ¬ (spK P I j = kind ∧ (spW P I j : Int) = which)) i (hi : i < j + 1) => if hij : i < j then Hbef.out i hij else (show i = j by omega) ▸ h)
      clear hs hle
      generalize spN P I j = sn at *
      generalize spO P I j = so at *
      generalize spK P I j = k at *
      generalize spW P I j = wh at *
      by_cases h1 : k = kind
      · subst h1
        have hd1 : ((k : Int) == (k : Int)) = true := by simp
        by_cases h2 : (wh : Int) = which
        · have hd2 : ((wh : Int) == which) = true := by simpa using h2
          have Hy := Lib.hid (Hyes.out ⟨rfl, h2⟩)
          clear h2
          go_wp2
          go_ret2
          exact ⟨by rw [Hy.out]; rfl, Hb.out⟩
        · have hd2 : ((wh : Int) == which) = false := by simpa using h2
          have Hn := Lib.hid (Hno.out (fun h => h2 h.2))
          clear h2
          go_wp2
          go_round
          case rel => exact ⟨j + 1, by omega, by go_num, by rw [Hs.out]; go_num, Hn.out⟩
          case measure => simp [intOf]; omega
      · have hd1 : ((k : Int) == (kind : Int)) = false := by simp; omega
        have Hn := Lib.hid (Hno.out (fun h => h1 h.1))
        clear h1
        go_wp2
        go_round
        case rel => exact ⟨j + 1, by omega, by go_num, by rw [Hs.out]; go_num, Hn.out⟩
        case measure => simp [intOf]; omega
    · obtain rfl : j = m := by omega
      clear hlt hj
      go_wp2
      go_ret2
      exact ⟨by rw [placeTo_none Hbef.out]; rfl, Hb.out⟩
end Go.Proofs.Ytpjhjpcajdbinaa
