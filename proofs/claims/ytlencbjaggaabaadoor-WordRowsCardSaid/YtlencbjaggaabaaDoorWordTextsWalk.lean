/- The walk of the law WordTexts. -/
import Derived.Test.YtlencbjaggaabaaDoorWordAlive
namespace Go.Proofs.YtlencbjaggaabaaDoor
open Go.RowKit
set_option linter.unusedVariables false

def OutT (w : World) (t : ByteArray) (e : Int) (r : Ending) (w' : World) : Prop := r = .returned (.tuple #[.string t, .int .i64 e]) ∧ Below w.heap.size w w'
instance (l : List Nat) (n : Int) : Decidable (Txt l n) := by unfold Txt; infer_instance
def txtOut (l : List Nat) (n : Int) : ByteArray × Int := if Txt l n then (strB (textOf l n.toNat), 0) else (ByteArray.empty, 2)
theorem Text_any (v : Value) (l : List Nat) (n : Int) (w : World) (h : Rd w v l.length (u64s l)) (hw : ∀ x ∈ l, x < 18446744073709551616) (hl : l.length ≤ 4294967296) (hn1 : -9223372036854775808 ≤ n) (hn2 : n ≤ 9223372036854775807) :
    Calls Tryd.prog 13 #[v, .int .i64 n] w (OutT w (txtOut l n).1 (txtOut l n).2) := by
  unfold txtOut
  by_cases ht : Txt l n
  · rw [if_pos ht]
    obtain ⟨n, rfl⟩ := Int.eq_ofNat_of_zero_le ht.1
    exact Text_yes v l n w h hw hl (by have := ht.2; omega)
  · rw [if_neg ht]
    exact (Text_no v l n w h hl hn1 hn2 ht).mono fun e w' ⟨he, hww⟩ => ⟨he, by rw [← hww]; exact Below.refl _ _⟩
theorem refText_any (v : Value) (l : List Nat) (n : Int) (w : World) (h : Rd w v l.length (u64s l)) (hw : ∀ x ∈ l, x < 18446744073709551616) (hl : l.length ≤ 4294967296) (hn1 : -9223372036854775808 ≤ n) (hn2 : n ≤ 9223372036854775807) :
    Calls Tryd.prog 14 #[v, .int .i64 n] w (OutT w (txtOut l n).1 (txtOut l n).2) := by
  unfold txtOut
  by_cases ht : Txt l n
  · rw [if_pos ht]
    obtain ⟨n, rfl⟩ := Int.eq_ofNat_of_zero_le ht.1
    exact refText_yes v l n w h hw hl (by have := ht.2; omega)
  · rw [if_neg ht]
    exact (refText_no v l n w h hl hn1 hn2 ht).mono fun e w' ⟨he, hww⟩ => ⟨he, by rw [← hww]; exact Below.refl _ _⟩
theorem same_yes (a b : Value) (l : List Nat) (n : Nat) (hn : l.length = n) (w : World) (ha : Rd w a n (u64s l)) (hb : Rd w b n (u64s l)) :
    Calls Tryd.prog 15 #[a, b] w fun e w' => e = .returned (.bool true) ∧ Below w.heap.size w w' := by
  subst hn
  refine (same_any a b l l w ha hb).mono ?_
  rintro e w' ⟨rfl, k, rfl⟩
  exact ⟨ret_bool (by simp), below_drewN (Below.refl _ _) k⟩

set_option maxHeartbeats 4000000 in
theorem wordTexts_walk (w : World) (ht : Tab w) (s : ByteArray) (hs : s.size ≤ maxLen) (v : Value) (l : List Nat) (hl : ∀ x ∈ l, x < 2 ^ 64) (hr : Rd w v l.length (u64s l)) (n : Int) (hn1 : -9223372036854775808 ≤ n) (hn2 : n ≤ 9223372036854775807) :
    Calls Tryd.prog 5 #[.string s, v, .int .i64 n] w fun e w' => e = .returned (.bool true) ∧ Below w.heap.size w w' := by
  have HT := Lib.hid ht
  have HR := Lib.hid hr
  have HW := Lib.hid hl
  obtain ⟨A, c, rfl, h1, h2, h3⟩ := hr
  unfold maxLen at hs h2
  clear ht hl h3
  by_cases hbig : 400 < s.size ∨ (s.size ≤ 400 ∧ 60 < l.length)
  · rcases hbig with hb1 | ⟨hb1, hb2⟩
    all_goals
      first
        | (have hd : decide ((400 : Int) < (s.size : Int)) = true := by simp; omega)
        | (have hd : decide ((400 : Int) < (s.size : Int)) = false := by simp; omega
           have hd2 : decide ((60 : Int) < (l.length : Int)) = true := by simp; omega)
      go_enter Tryd.func5, Tryd.ntmps5
      go_wp2_with fail
      refine (alive_any _ HT.out).mono ?_
      rintro e w' ⟨rfl, hb⟩
      have Hb := Lib.hid hb
      clear hb
      go_wp2
      go_ret
      exact ⟨rfl, Hb.out⟩
  have hd : decide ((400 : Int) < (s.size : Int)) = false := by simp; omega
  have hd2 : decide ((60 : Int) < (l.length : Int)) = false := by simp; omega
  have hs1 : s.size ≤ 400 := by omega
  have hl1 : l.length ≤ 60 := by omega
  have hpl := packed_length (bs s)
  have hbl := bs_length s
  rw [hbl] at hpl
  have HPk := Lib.hid (fun W => Pack_any s W (by omega))
  have HRPk := Lib.hid (fun W => refPack_any s W (by omega))
  have hback := textOf_packed (bs s) (bs_lt s)
  rw [hbl] at hback
  have HBack := Lib.hid (fun W v (h : Rd W v ((s.size + 7) / 8) (u64s (packed (bs s)))) => (Text_yes v (packed (bs s)) s.size W (by rw [hpl]; exact h) (packed_wd _) (by omega) (by omega)))
  rw [hback, strB_bs] at HBack
  have HTx := Lib.hid (fun W v (h : Rd W v l.length (u64s l)) => Text_any v l n W h HW.out (by omega) hn1 hn2)
  have HRTx := Lib.hid (fun W v (h : Rd W v l.length (u64s l)) => refText_any v l n W h HW.out (by omega) hn1 hn2)
  have HSm := Lib.hid (fun W a b (ha : Rd W a ((s.size + 7) / 8) (u64s (packed (bs s)))) hb => same_yes a b (packed (bs s)) _ hpl W ha hb)
  clear hbig hback hpl hbl
  generalize packed (bs s) = pk at *
  generalize txtOut l n = T at *
  obtain ⟨T, E⟩ := T
  dsimp only at *
  have e1 : (E != E) = false := by simp
  go_enter Tryd.func5, Tryd.ntmps5
  go_wp2_with (at_builtin; refine copy64 rfl (.const (.slice none 0 0)) (.tmp 23) rfl rfl _ l _ rfl rfl HR.out (by omega) ?_; intro A1 c1 w1 hown1 hb1; have Ho1 := Lib.hid (Rd.of_own hown1); have Hb1 := Lib.hid hb1; have Hl1 := Lib.hid (HR.out.below hb1); clear hown1 hb1)
  refine (HTx.out _ _ Ho1.out).mono ?_
  rintro e w2 ⟨rfl, hb2⟩
  have Hb2 := Lib.hid (below_then Hb1.out hb2)
  have Hl2 := Lib.hid (Hl1.out.below hb2)
  clear hb2
  go_wp2_with fail
  refine (HRTx.out _ _ Hl2.out).mono ?_
  rintro e w3 ⟨rfl, hb3⟩
  have Hb3 := Lib.hid (below_then Hb2.out hb3)
  clear hb3
  go_wp2_with fail
  refine (HPk.out _).mono ?_
  rintro e w4 ⟨A4, c4, rfl, hown4, hb4⟩
  have Ho4 := Lib.hid (Rd.of_own hown4)
  have Hb4 := Lib.hid (below_then Hb3.out hb4)
  clear hown4 hb4
  go_wp2_with fail
  refine (HRPk.out _).mono ?_
  rintro e w5 ⟨A5, c5, rfl, hown5, hb5⟩
  have Ho5 := Lib.hid (Rd.of_own hown5)
  have Ho4' := Lib.hid (Ho4.out.below hb5)
  have Hb5 := Lib.hid (below_then Hb4.out hb5)
  clear hown5 hb5
  go_wp2_with fail
  refine (HSm.out _ _ _ Ho4'.out Ho5.out).mono ?_
  rintro e w6 ⟨rfl, hb6⟩
  have Hb6 := Lib.hid (below_then Hb5.out hb6)
  clear hb6
  go_wp2_with fail
  refine (HPk.out _).mono ?_
  rintro e w7 ⟨A7, c7, rfl, hown7, hb7⟩
  have Ho7 := Lib.hid (Rd.of_own hown7)
  have Hb7 := Lib.hid (below_then Hb6.out hb7)
  clear hown7 hb7
  go_wp2_with fail
  refine (HBack.out _ _ Ho7.out).mono ?_
  rintro e w8 ⟨rfl, hb8⟩
  have Hb8 := Lib.hid (below_then Hb7.out hb8)
  clear hb8
  go_wp2_with fail
  refine (alive_any _ (HT.out.below Hb8.out)).mono ?_
  rintro e w9 ⟨rfl, hb9⟩
  have Hb9 := Lib.hid (below_then Hb8.out hb9)
  clear hb9
  go_wp2
  go_ret
  exact ⟨rfl, Hb9.out⟩
end Go.Proofs.YtlencbjaggaabaaDoor
