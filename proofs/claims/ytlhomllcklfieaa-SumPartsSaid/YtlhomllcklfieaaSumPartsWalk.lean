/- The walk of the law SumParts. -/
import Derived.Test.YtlhomllcklfieaaSumAlive
import Derived.StillTailTactics
import Derived.Deep.RegionHeld3
namespace Go.Proofs.Ytlhomllcklfieaa
open Go.RowKit
set_option linter.unusedVariables false
attribute [local go_sem ↓] run_least3

/-- the row that stands when k words are made -/
def partsTo (a b c : List Nat) (n k : Nat) : List Nat := (xor3 (a.take n) (b.take n) (c.take n)).take k ++ List.replicate (n - k) 0
theorem xor3_len {a b c : List Nat} {n : Nat} (ha : n ≤ a.length) (hb : n ≤ b.length) (hc : n ≤ c.length) : (xor3 (a.take n) (b.take n) (c.take n)).length = n := by
  simp [xor3]; omega
theorem partsTo_len {a b c : List Nat} {n k : Nat} (ha : n ≤ a.length) (hb : n ≤ b.length) (hc : n ≤ c.length) (hk : k ≤ n) : (partsTo a b c n k).length = n := by
  unfold partsTo
  rw [List.length_append, List.length_take, xor3_len ha hb hc, List.length_replicate]; omega
theorem partsTo_zero (a b c : List Nat) (n : Nat) : partsTo a b c n 0 = List.replicate n 0 := by simp [partsTo]
theorem partsTo_all {a b c : List Nat} {n : Nat} (ha : n ≤ a.length) (hb : n ≤ b.length) (hc : n ≤ c.length) : partsTo a b c n n = xor3 (a.take n) (b.take n) (c.take n) := by
  unfold partsTo
  rw [List.take_of_length_le (by rw [xor3_len ha hb hc]; omega), Nat.sub_self]
  simp
theorem partsTo_succ {a b c : List Nat} {n k : Nat} (ha : n ≤ a.length) (hb : n ≤ b.length) (hc : n ≤ c.length) (hk : k < n) :
    (partsTo a b c n k).set k ((a[k]'(by omega) ^^^ b[k]'(by omega)) ^^^ c[k]'(by omega)) = partsTo a b c n (k + 1) := by
  apply List.ext_getElem?
  intro i
  have hx := xor3_len ha hb hc
  unfold partsTo
  rw [List.getElem?_set]
  by_cases hik : k = i
  · subst hik
    rw [if_pos rfl, if_pos (by rw [List.length_append, List.length_take, hx, List.length_replicate]; omega), List.getElem?_append_left (by rw [List.length_take, hx]; omega), List.getElem?_take, if_pos (by omega)]
    unfold xor3
    rw [List.getElem?_zipWith, List.getElem?_zipWith, List.getElem?_take, List.getElem?_take, List.getElem?_take, if_pos hk, if_pos hk, if_pos hk, List.getElem?_eq_getElem (by omega), List.getElem?_eq_getElem (by omega), List.getElem?_eq_getElem (by omega)]
  · rw [if_neg hik]
    by_cases h1 : i < k
    · rw [List.getElem?_append_left (by rw [List.length_take, hx]; omega), List.getElem?_append_left (by rw [List.length_take, hx]; omega), List.getElem?_take, List.getElem?_take, if_pos h1, if_pos (by omega)]
    · rw [List.getElem?_append_right (by rw [List.length_take, hx]; omega), List.getElem?_append_right (by rw [List.length_take, hx]; omega), List.length_take, List.length_take, hx, List.getElem?_replicate, List.getElem?_replicate]
      rw [Nat.min_eq_left (by omega), Nat.min_eq_left (by omega)]
      by_cases h2 : i < n
      · rw [if_pos (by omega), if_pos (by omega)]
      · rw [if_neg (by omega), if_neg (by omega)]
theorem u64s_set (l : List Nat) (k x : Nat) : (u64s l).set k (.int .u64 (x : Nat)) = u64s (l.set k x) := by simp [u64s, List.map_set]
theorem zeros64 (n : Nat) : (madeCells (Value.int .u64 0).cells (n * 1)).toList = u64s (List.replicate n 0) := by
  rw [Nat.mul_one]
  apply List.ext_getElem?
  intro i
  simp only [madeCells, Value.cells, u64s]
  by_cases h : i < n
  · simp [h, Nat.mod_one]
  · simp [h]
theorem take_wd {l : List Nat} (h : Wd l) (n : Nat) : Wd (l.take n) := fun x hx => h x (List.mem_of_mem_take hx)
theorem Rd.first {w : World} {A : Option Addr} {c n m : Nat} {l : List Nat} (h : Rd w (.slice A n c) n (u64s l)) (hn : l.length = n) (hm : m ≤ n) : Rd w (.slice A m c) m (u64s (l.take m)) := by
  have := h.take rfl hm
  rwa [u64s_take] at this

set_option maxHeartbeats 2000000 in
theorem sumParts_walk (w : World) (v0 : Value) (a : List Nat) (ha : Wd a) (h0 : Rd w v0 a.length (u64s a)) (v1 : Value) (b : List Nat) (hb : Wd b) (h1 : Rd w v1 b.length (u64s b)) (v2 : Value) (c : List Nat) (hc : Wd c) (h2 : Rd w v2 c.length (u64s c)) :
    Calls Try.prog 7 #[v0, v1, v2] w fun e w' => e = .returned (.bool true) ∧ Below w.heap.size w w' := by
  have R0 := Lib.hid h0
  have R1 := Lib.hid h1
  have R2 := Lib.hid h2
  have W0 := Lib.hid ha
  have W1 := Lib.hid hb
  have W2 := Lib.hid hc
  obtain ⟨A0, c0, rfl, b0, m0, _⟩ := h0
  obtain ⟨A1, c1, rfl, b1, m1, _⟩ := h1
  obtain ⟨A2, c2, rfl, b2, m2, _⟩ := h2
  clear ha hb hc
  unfold maxLen at m0 m1 m2
  obtain ⟨n, hn⟩ : ∃ n, n = min a.length (min b.length c.length) := ⟨_, rfl⟩
  have na : n ≤ a.length := by omega
  have nb : n ≤ b.length := by omega
  have nc : n ≤ c.length := by omega
  have hmin := least3_nat _ _ _ n hn
  clear hn
  by_cases hbig : 100 < n
  · have hb' : (100 : Int) < (n : Int) := by omega
    go_enter Try.func7, Try.ntmps7
    go_wp2_with (go_at_call 8; refine (alive_any _).mono ?_; rintro e w1 ⟨rfl, hb1⟩)
    go_ret
    exact ⟨rfl, hb1⟩
  have hb' : (n : Int) ≤ 100 := by omega
  obtain ⟨i0, hi, hz0, hz1, hz2⟩ := info_parts info64
  go_enter Try.func7, Try.ntmps7
  go_wp2_with (at_make; refine wpList_make_full _ rfl (.tmp 20) (.tmp 20) 23 rfl w.heap.size 36 i0 _ 1 Try.underlying23 hi hz0 hz1 .i64 .i64 _ _ n rfl rfl rfl rfl (by rw [hz2]; omega) (by unfold maxLen; omega) (Nat.le_refl _) ?_; intro w1 hown1 hg1)
  rw [zeros64, ← partsTo_zero a b c n] at hown1
  have hw1 : Below w.heap.size w w1 := (Below.refl _ _).grown hg1 (Nat.le_refl _) (by intro k h; cases h)
  clear hg1
  go_loopw [9] (fun i wr => ∃ k : Nat, k ≤ n ∧ i = .int .i64 k ∧ wr.ownsRow w.heap.size 36 1 (.slice (some ⟨w.heap.size, 0, none⟩) n n) n (u64s (partsTo a b c n k)) ∧ Below w.heap.size w wr) (fun i _ => n - (intOf i).toNat)
  case atStart => exact ⟨0, Nat.zero_le _, rfl, hown1, hw1⟩
  case round =>
    obtain ⟨k, hk, rfl, hown, hbel⟩ := hrel
    clear hown1 hw1
    by_cases hlt : k < n
    · have hka : k < a.length := by omega
      have hkb : k < b.length := by omega
      have hkc : k < c.length := by omega
      obtain ⟨p0, q0, rfl, e0⟩ := (R0.out.below hbel).at_ (u64s_at hka)
      obtain ⟨p1, q1, rfl, e1⟩ := (R1.out.below hbel).at_ (u64s_at hkb)
      obtain ⟨p2, q2, rfl, e2⟩ := (R2.out.below hbel).at_ (u64s_at hkc)
      have hx0 : a[k] < 18446744073709551616 := W0.out _ (List.getElem_mem hka)
      have hx1 : b[k] < 18446744073709551616 := W1.out _ (List.getElem_mem hkb)
      have hx2 : c[k] < 18446744073709551616 := W2.out _ (List.getElem_mem hkc)
      have hs := partsTo_succ na nb nc hlt
      generalize a[k] = x0 at *
      generalize b[k] = x1 at *
      generalize c[k] = x2 at *
      have Hs := Lib.hid hs
      have hz := hown.cellAt k (by omega)
      have hzl : k < (u64s (partsTo a b c n k)).length := by rw [u64s_length, partsTo_len na nb nc hk]; exact hlt
      rw [List.getElem?_eq_getElem hzl] at hz
      generalize (u64s (partsTo a b c n k))[k] = z at *
      have hf := hown.frozenAt k
      have hst := (hown.stored k (.int .u64 ((x0 ^^^ x1 ^^^ x2 : Nat) : Int))).1
      rw [u64s_set, Hs.out] at hst
      have Hst := Lib.hid hst
      have X1 := Lib.hid (u64_xor_nat x0 x1 hx0 hx1)
      have X2 := Lib.hid (u64_xor_nat (x0 ^^^ x1) x2 (Nat.xor_lt_two_pow (n := 64) hx0 hx1) hx2)
      have hki : (k : Int) < (n : Int) := by omega
      have hki0 : (k : Int) < (a.length : Int) := by omega
      have hki1 : (k : Int) < (b.length : Int) := by omega
      have hki2 : (k : Int) < (c.length : Int) := by omega
      clear hs hown hst hzl
      go_wp2
      go_still_tail 17, (by kernel_rfl)
      go_wp2
      rw [X1.out, X2.out]
      go_roundw
      case rel =>
        refine ⟨k + 1, by omega, by go_num, Hst.out, ?_⟩
        exact hbel.drew.setCell (Nat.le_refl _) _
      case measure => simp [intOf]; omega
    · obtain rfl : k = n := by omega
      rw [partsTo_all na nb nc] at hown
      have HX := Lib.hid (Rd.of_own hown)
      clear hown
      have Hb := Lib.hid hbel
      clear hbel
      have ta : (a.take k).length = k := by rw [List.length_take]; omega
      have tb : (b.take k).length = k := by rw [List.length_take]; omega
      have tc : (c.take k).length = k := by rw [List.length_take]; omega
      have hxl := xor3_len na nb nc
      have hxs := wsum_xor3 (a.take k) (b.take k) (c.take k) (take_wd W0.out k) (take_wd W1.out k) (take_wd W2.out k) (by rw [ta, tb]) (by rw [ta, tc])
      have hxw : Wd (xor3 (a.take k) (b.take k) (c.take k)) := by
        obtain ⟨_, w1⟩ := num_zip (a.take k) (b.take k) (take_wd W0.out k) (take_wd W1.out k) (by rw [ta, tb])
        exact (num_zip _ (c.take k) w1 (take_wd W2.out k) (by rw [List.length_zipWith, ta, tb, tc]; omega)).2
      have hcA : ∀ W v, Rd W v k (u64s (a.take k)) → Calls Try.prog 13 #[v] W fun e w' => e = .returned (.int .u32 (wsum (a.take k) : Nat)) ∧ Below W.heap.size W w' := fun W v h => Words_any v _ W (by rw [ta]; exact h) (take_wd W0.out k) (by omega)
      have hcB : ∀ W v, Rd W v k (u64s (b.take k)) → Calls Try.prog 13 #[v] W fun e w' => e = .returned (.int .u32 (wsum (b.take k) : Nat)) ∧ Below W.heap.size W w' := fun W v h => Words_any v _ W (by rw [tb]; exact h) (take_wd W1.out k) (by omega)
      have hcC : ∀ W v, Rd W v k (u64s (c.take k)) → Calls Try.prog 13 #[v] W fun e w' => e = .returned (.int .u32 (wsum (c.take k) : Nat)) ∧ Below W.heap.size W w' := fun W v h => Words_any v _ W (by rw [tc]; exact h) (take_wd W2.out k) (by omega)
      have hcX : ∀ W v, Rd W v k (u64s (xor3 (a.take k) (b.take k) (c.take k))) → Calls Try.prog 13 #[v] W fun e w' => e = .returned (.int .u32 (wsum (xor3 (a.take k) (b.take k) (c.take k)) : Nat)) ∧ Below W.heap.size W w' := fun W v h => Words_any v _ W (by rw [hxl]; exact h) hxw (by omega)
      have l0 := wsum_lt (a.take k)
      have l1 := wsum_lt (b.take k)
      have l2 := wsum_lt (c.take k)
      rw [hxs] at hcX
      generalize wsum (a.take k) = s0 at *
      generalize wsum (b.take k) = s1 at *
      generalize wsum (c.take k) = s2 at *
      have x1 := u32_xor_nat s0 s1 l0 l1
      have x2 := u32_xor_nat (s0 ^^^ s1) s2 (Nat.xor_lt_two_pow (n := 32) l0 l1) l2
      have sl0 := slice_to A0 a.length c0 k (by omega)
      have sl1 := slice_to A1 b.length c1 k (by omega)
      have sl2 := slice_to A2 c.length c2 k (by omega)
      have CA := Lib.hid hcA
      have CB := Lib.hid hcB
      have CC := Lib.hid hcC
      have CX := Lib.hid hcX
      have TA := Lib.hid ta
      have TB := Lib.hid tb
      have TC := Lib.hid tc
      have hk4 : k ≤ 4294967296 := by omega
      clear hcA hcB hcC hcX ta tb tc hxl hxs hxw hmin
      go_wp2
      go_region_held3 (fun w' => Below wr.heap.size wr w')
        (first | assumption | exact (Below.refl _ _).drew | (refine below_then ?_ hbN <;> assumption))
        (first
          | (go_at_call 13; refine (CC.out _ _ (Rd.of_own hownC)).mono ?_; rintro e w2 ⟨rfl, hbN⟩)
          | (go_at_call 13; refine (CB.out _ _ (Rd.of_own hownB)).mono ?_; rintro e w2 ⟨rfl, hbN⟩)
          | (go_at_call 13; refine (CA.out _ _ (Rd.of_own hownA)).mono ?_; rintro e w2 ⟨rfl, hbN⟩)
          | (go_at_call 13; refine (CX.out _ _ (HX.out.below (by assumption))).mono ?_; rintro e w2 ⟨rfl, hbN⟩)
          | (go_at_call 8; refine (alive_any _).mono ?_; rintro e w2 ⟨rfl, hbN⟩)
          | (refine step_copy64 ?_ (.const (.slice none 0 0)) (.tmp 48) ?_ ?_ (.slice A0 k c0) (a.take k) k TA.out ?_ ((R0.out.below (below_then Hb.out (by assumption))).first rfl na) hk4 ?_; rfl; rfl; rfl; rfl; intro Aa ca w2 hownA hbN)
          | (refine step_copy64 ?_ (.const (.slice none 0 0)) (.tmp 53) ?_ ?_ (.slice A1 k c1) (b.take k) k TB.out ?_ ((R1.out.below (below_then Hb.out (by assumption))).first rfl nb) hk4 ?_; rfl; rfl; rfl; rfl; intro Ab cb w2 hownB hbN)
          | (refine step_copy64 ?_ (.const (.slice none 0 0)) (.tmp 59) ?_ ?_ (.slice A2 k c2) (c.take k) k TC.out ?_ ((R2.out.below (below_then Hb.out (by assumption))).first rfl nc) hk4 ?_; rfl; rfl; rfl; rfl; intro Ac cc w2 hownC hbN))
      have hfin := below_then Hb.out (by assumption)
      go_wp2
      go_ret
      exact ⟨rfl, hfin⟩
end Go.Proofs.Ytlhomllcklfieaa
