/- redo.Apply; parcloseref16.Apply. -/
import Derived.Test.YtlfnpjdnfkcigaaDoorRedoC
import Derived.Deep.AppendLies
namespace Go.Proofs.YtlfnpjdnfkcigaaDoor
open Go.RowKit
set_option linter.unusedVariables false

/-- may a list be applied to n words? -/
def fits (n : Nat) (r : Rdo) : Prop := 0 ≤ r.a ∧ r.a < n
instance (n : Nat) (r : Rdo) : Decidable (fits n r) := by unfold fits; infer_instance
/-- words in which a list is stored -/
def rapply (K : List Nat) (l : List Rdo) : List Nat := l.foldl (fun K r => K.set r.a.toNat r.w) K
theorem rapply_length (l : List Rdo) : ∀ K, (rapply K l).length = K.length := by
  induction l with
  | nil => intro K; rfl
  | cons x l ih => intro K; show (rapply (K.set x.a.toNat x.w) l).length = _; rw [ih, List.length_set]
theorem rapply_take (K : List Nat) (l : List Rdo) (j : Nat) (h : j < l.length) : rapply K (l.take (j + 1)) = (rapply K (l.take j)).set l[j].a.toNat l[j].w := by
  unfold rapply
  rw [List.take_succ_eq_append_getElem h, List.foldl_append]
  rfl
/-- what Apply answers -/
def ApplyOut (w : World) (K : List Nat) (l : List Rdo) (e : Ending) (w' : World) : Prop :=
  ((∀ r ∈ l, fits K.length r) ∧ ∃ A c, e = .returned (.tuple #[.slice A K.length c, .int .i64 0]) ∧ w'.ownsRow w.heap.size 26 1 (.slice A K.length c) K.length (u64s (rapply K l)) ∧ Below w.heap.size w w') ∨
  ((¬ ∀ r ∈ l, fits K.length r) ∧ e = .returned (.tuple #[.slice none 0 0, .int .i64 2]) ∧ Below w.heap.size w w')

set_option maxRecDepth 100000 in
set_option maxHeartbeats 8000000 in
theorem refApply_any (v v' : Value) (K : List Nat) (l : List Rdo) (w : World) (hk : Rd w v K.length (u64s K)) (hK : K.length ≤ 65536) (hr : Rd w v' l.length (rcells l)) :
    Calls Tryd.prog 18 #[v, v'] w (ApplyOut w K l) := by
  have HR := Lib.hid hr
  have HKr := Lib.hid hk
  obtain ⟨A, c, rfl, h1, h2, h3⟩ := hr
  obtain ⟨Ak, ck, rfl, k1, k2, k3⟩ := hk
  unfold maxLen at h2 k2
  obtain ⟨i0, hi, hz0, hz1, hz2⟩ := info_parts info64
  clear h3 k3
  go_enter Tryd.func18, Tryd.ntmps18
  go_wp2
  go_loop [6] (fun i => ∃ j : Nat, j ≤ l.length ∧ i = .int .i64 j ∧ ∀ k (hk : k < l.length), k < j → fits K.length l[k]) (fun i => l.length - (intOf i).toNat)
  case atStart => exact ⟨0, by omega, rfl, fun k hk h => by omega⟩
  case round =>
    obtain ⟨j, hj, rfl, hk⟩ := hrel
    have HK := Lib.hid hk
    clear hk
    by_cases hlt : j < l.length
    · obtain ⟨b, o, rfl, hq⟩ := redo_cells HR.out hlt
      obtain ⟨q0, q1⟩ := hq _ (Below.refl _ _)
      have Hno := Lib.hid (fun h : ¬ fits K.length l[j] => show ¬ ∀ r ∈ l, fits K.length r from fun hh => h (hh _ (List.getElem_mem hlt)))
      have Hyes := Lib.hid (fun (h : fits K.length l[j]) k (hk : k < l.length) (h2 : k < j + 1) => show fits K.length l[k] from by
        rcases Nat.lt_or_ge k j with h3 | h3
        · exact HK.out k hk h3
        · obtain rfl : k = j := by omega
          exact h)
      clear hq
      unfold fits at Hno
      generalize l[j] = r at *
      obtain ⟨a, x⟩ := r
      dsimp only at q0 q1 Hno
      have hlt' : (j : Int) < (l.length : Int) := by omega
      by_cases ha : a < 0
      · have hd1 : decide (a < 0) = true := by simp; omega
        have Hn := Lib.hid (Hno.out (by omega))
        go_wp2
        go_ret2
        exact .inr ⟨Hn.out, rfl, Below.refl _ _⟩
      · have hd1 : decide (a < 0) = false := by simp; omega
        by_cases hbg : a < (K.length : Int)
        · have hd2 : decide ((K.length : Int) ≤ a) = false := by simp; omega
          have Hy := Lib.hid (Hyes.out ⟨by show 0 ≤ a; omega, hbg⟩)
          go_wp2
          go_round
          case rel => exact ⟨j + 1, by omega, by go_num, Hy.out⟩
          case measure => simp [intOf]; omega
        · have hd2 : decide ((K.length : Int) ≤ a) = true := by simp; omega
          have Hn := Lib.hid (Hno.out (by omega))
          go_wp2
          go_ret2
          exact .inr ⟨Hn.out, rfl, Below.refl _ _⟩
    · obtain rfl : j = l.length := by omega
      have Hall := Lib.hid (show ∀ r ∈ l, fits K.length r from fun r hr => by
        obtain ⟨k, hk, rfl⟩ := List.mem_iff_getElem.1 hr
        exact HK.out k hk hk)
      go_wp2_with (at_builtin; refine copy64 rfl (.const (.slice none 0 0)) (.tmp 31) rfl rfl _ K _ rfl rfl HKr.out (by omega) ?_; intro A1 c1 w1 hown1 hb1; have Hown1 := Lib.hid hown1; have Hb1 := Lib.hid hb1; clear hown1 hb1)
      clear hj hlt
      go_loopw [8] (fun i wr => ∃ j : Nat, j ≤ l.length ∧ i = .int .i64 j ∧ wr.ownsRow w.heap.size 26 1 (.slice A1 K.length c1) K.length (u64s (rapply K (l.take j))) ∧ Below w.heap.size w wr) (fun i _ => l.length - (intOf i).toNat)
      case atStart => exact ⟨0, by omega, rfl, Hown1.out, Hb1.out⟩
      case round =>
        obtain ⟨j, hj, rfl, hown, hb⟩ := hrel
        by_cases hlt : j < l.length
        · obtain ⟨b, o, rfl, hq⟩ := redo_cells HR.out hlt
          obtain ⟨q0, q1⟩ := hq _ hb
          have hst := rapply_take K l j hlt
          obtain ⟨f1, f2⟩ := Hall.out _ (List.getElem_mem hlt)
          have hl := rapply_length (l.take j) K
          generalize l[j] = r at *
          obtain ⟨a, x⟩ := r
          dsimp only at q0 q1 hst f1 f2
          obtain ⟨k, rfl⟩ := Int.eq_ofNat_of_zero_le f1
          rw [Int.toNat_natCast] at hst
          have hkl : k < K.length := by omega
          obtain ⟨g, cap, hv, hg, hglt⟩ := hown.form (by omega)
          injection hv with hA1 _ hcc1
          subst hA1
          subst hcc1
          have hz := hown.cellAt k (by omega)
          obtain ⟨z, hz'⟩ : ∃ z, (u64s (rapply K (l.take j)))[k]? = some z := ⟨_, u64s_at (by rw [hl]; exact hkl)⟩
          rw [hz'] at hz
          have hf := hown.frozenAt k
          have hs := (hown.stored k (.int .u64 (x : Nat))).1
          rw [show (u64s (rapply K (l.take j))).set k (.int .u64 (x : Nat)) = u64s ((rapply K (l.take j)).set k x) by simp [u64s, List.map_set], ← hst] at hs
          have Hs := Lib.hid hs
          have Hb := Lib.hid hb
          have hlt' : (j : Int) < (l.length : Int) := by omega
          have hkl' : (k : Int) < (K.length : Int) := by omega
          clear hst hs hown hb hl hz' hq f1 f2
          go_wp2
          go_still_tail 12, (by kernel_rfl)
          go_wp2
          go_roundw
          case rel => exact ⟨j + 1, by omega, by go_num, Hs.out, (Hb.out.setCell hg _).drew⟩
          case measure => simp [intOf]; omega
        · obtain rfl : j = l.length := by omega
          rw [List.take_length] at hown
          have Hown := Lib.hid hown
          have Hb := Lib.hid hb
          clear hown hb
          go_wp2
          go_ret2
          exact .inl ⟨Hall.out, _, _, rfl, Hown.out, Hb.out⟩
end Go.Proofs.YtlfnpjdnfkcigaaDoor
