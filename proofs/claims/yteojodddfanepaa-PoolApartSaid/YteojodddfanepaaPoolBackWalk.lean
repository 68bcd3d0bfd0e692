/- The walk of the law PoolBack. -/
import Derived.Test.YteojodddfanepaaPoolDropsWalk
import Derived.Test.YteojodddfanepaaPoolBackPlain
import Derived.StillTailTactics
import Derived.Deep.RegionHeld3
import Derived.Deep.QuietTactic
import Derived.BigQuiet
namespace Go.Proofs.Yteojodddfanepaa
open Go.RowKit
set_option linter.unusedVariables false

theorem takes_in_range (l : List Nat) (n k : Nat) : ∀ i ∈ nums (takes l n k), 1 ≤ i ∧ i ≤ (n : Int) := by
  intro i hi
  obtain ⟨x, hx, rfl⟩ := List.mem_map.1 hi
  have := takes_lt hx
  omega
theorem dropOut_back (l : List Nat) (n k : Nat) (hw : Wd64 l) (hn : n ≤ 64 * l.length) (is : List Nat) (hp : is.Perm (takes l n k)) : dropOut (setAll l (takes l n k)) n (nums is) = (l, 0) := by
  unfold dropOut
  rw [if_pos (by unfold May; rw [setAll_length]; omega), if_pos, drops_back l n k hw hn is hp]
  intro i hi
  obtain ⟨x, hx, rfl⟩ := List.mem_map.1 hi
  have := takes_lt (hp.mem_iff.1 hx)
  omega
/-- behind a Take that was not well -/
theorem Take_err (v : Value) (l : List Nat) (n k : Int) (w : World) (h : Rd w v l.length (u64s l)) (hw : Wd64 l) (hn1 : -9223372036854775808 ≤ n) (hn2 : n ≤ 9223372036854775807) (hk1 : -9223372036854775808 ≤ k) (hk2 : k ≤ 9223372036854775807) (hl : l.length ≤ 65536)
    (he : ¬ (May l n ∧ 0 ≤ k ∧ k.toNat ≤ (frees l n.toNat).length)) : Calls Try.prog 10 #[v, .int .i64 n, .int .i64 k] w fun e w' =>
      ∃ A c B d, (e = .returned (.tuple #[.slice A 0 c, .slice B 0 d, .int .i64 2]) ∨ e = .returned (.tuple #[.slice A 0 c, .slice B 0 d, .int .i64 4])) ∧ Below w.heap.size w w' := by
  refine (Take_gives v l n k w h hw hn1 hn2 hk1 hk2 hl).mono ?_
  rintro e w' ⟨gv, rv, rfl, hg, hr, hb⟩
  have ht : takeOut l n k = ([], [], 2) ∨ takeOut l n k = ([], [], 4) := by
    unfold takeOut
    by_cases h1 : May l n ∧ 0 ≤ k
    · rw [if_pos h1, if_pos (Nat.lt_of_not_le fun hh => he ⟨h1.1, h1.2, hh⟩)]
      exact .inr rfl
    · rw [if_neg h1]
      exact .inl rfl
  rcases ht with ht | ht <;> rw [ht] at hg hr ⊢ <;> obtain ⟨A, c, rfl, _⟩ := hg <;> obtain ⟨B, d, rfl, _⟩ := hr
  · exact ⟨A, c, B, d, .inl rfl, hb⟩
  · exact ⟨A, c, B, d, .inr rfl, hb⟩
theorem Take_ok (v : Value) (l : List Nat) (n k : Nat) (w : World) (h : Rd w v l.length (u64s l)) (hw : Wd64 l) (hn : n ≤ 64 * l.length) (hk : k ≤ (frees l n).length) (hl : l.length ≤ 65536) :
    Calls Try.prog 10 #[v, .int .i64 n, .int .i64 k] w (HandsTake w l n k) := by
  have := frees_length_le l n
  refine (Take_any v l n k w h hw hn (by omega) hl).mono ?_
  rintro e w' (⟨h1, _⟩ | ⟨_, h2⟩)
  · omega
  · exact h2
/-- 'l[q/64]>>(q%64)&1 == 0' -/
theorem and_zero' (x r : Nat) (hx : x < 18446744073709551616) : (bits BinOp.and IntKind.u64 ((x : Int) / 2 ^ r) 1 == 0) = !x.testBit r := and_zero x r hx

set_option maxRecDepth 100000 in
set_option maxHeartbeats 4000000 in
theorem poolBack_walk (w : World) (v : Value) (l : List Nat) (hl : ∀ x ∈ l, x < 2 ^ 64) (hr : Rd w v l.length (u64s l)) (n : Int) (hn1 : -9223372036854775808 ≤ n) (hn2 : n ≤ 9223372036854775807) (k : Int) (hk1 : -9223372036854775808 ≤ k) (hk2 : k ≤ 9223372036854775807) (tu : Bool) :
    Calls Try.prog 5 #[v, .int .i64 n, .int .i64 k, .bool tu] w fun e w' => e = .returned (.bool true) ∧ Below w.heap.size w w' := by
  have HL := Lib.hid (large_any v l w hr)
  have HR := Lib.hid hr
  obtain ⟨A, c, rfl, hlc, hcm, hx⟩ := hr
  have HW := Lib.hid hl
  clear hx hl
  unfold maxLen at hcm
  by_cases h1 : 40 < l.length
  · rw [decide_eq_true h1] at HL
    clear h1
    go_enter Try.func5, Try.ntmps5
    go_wp2_with fail
    refine HL.out.mono ?_
    rintro e w' ⟨rfl, rfl⟩
    go_wp2_with fail
    refine (alive_any _).mono ?_
    rintro e w' ⟨rfl, hb⟩
    have Hb := Lib.hid hb
    clear hb
    go_wp2
    go_ret
    exact ⟨rfl, Hb.out⟩
  rw [decide_eq_false h1] at HL
  have hl40 : l.length ≤ 40 := by omega
  clear h1
  by_cases hok : May l n ∧ 0 ≤ k ∧ k.toNat ≤ (frees l n.toNat).length
  · obtain ⟨hm, hk0, hkf⟩ := hok
    obtain ⟨n, rfl⟩ := Int.eq_ofNat_of_zero_le hm.1
    obtain ⟨k, rfl⟩ := Int.eq_ofNat_of_zero_le hk0
    have hn : n ≤ 64 * l.length := by have := hm.2; omega
    rw [Int.toNat_natCast, Int.toNat_natCast] at hkf
    clear hm hk0
    have HT := Lib.hid (Take_ok _ l n k w HR.out HW.out hn hkf (by omega))
    have hTl : (takes l n k).length = k := by rw [takes_length]; omega
    have hW0 := frees_length_le l n
    have hI0 : (frees (setAll l (takes l n k)) n).length + k = (frees l n).length := by rw [frees_setAll l n k hn, List.length_drop]; omega
    have hTs := takes_sorted l n k
    have hTlt := fun i (h : i ∈ takes l n k) => takes_lt h
    have hTb := fun i (h : i ∈ takes l n k) => takes_bit h
    have hTg := fun i q => @takes_gap l n k i q
    have hdb := dropOut_back l n k HW.out hn
    have hSl := setAll_length l (takes l n k)
    have hSw := setAll_wd HW.out (takes l n k)
    have hfr : ∀ W v, Rd W v l.length (u64s l) → Calls Try.prog 12 #[v, .int .i64 n] W (fun e w' => e = .returned (.tuple #[.int .i64 ((frees l n).length : Nat), .int .i64 0]) ∧ Below W.heap.size W w') := fun W v h => by
      have := Free_gives v l n W h HW.out (by omega) (by omega) (by omega)
      unfold freeOut at this
      rwa [if_pos (by unfold May; omega)] at this
    have hfs : ∀ W v, Rd W v l.length (u64s (setAll l (takes l n k))) → Calls Try.prog 12 #[v, .int .i64 n] W (fun e w' => e = .returned (.tuple #[.int .i64 ((frees (setAll l (takes l n k)) n).length : Nat), .int .i64 0]) ∧ Below W.heap.size W w') := fun W v h => by
      have := Free_gives v (setAll l (takes l n k)) n W (by rw [hSl]; exact h) hSw (by omega) (by omega) (by omega)
      unfold freeOut at this
      rwa [if_pos (by unfold May; rw [hSl]; omega)] at this
    have hdr : ∀ W v u (is : List Nat), is.Perm (takes l n k) → Rd W v l.length (u64s (setAll l (takes l n k))) → Rd W u k (i64s (nums is)) → Calls Try.prog 18 #[v, .int .i64 n, u] W (Gives1 W l 0) := fun W v u is hp h hu => by
      have hlen : (nums is).length = k := by rw [nums_length, hp.length_eq, hTl]
      have := Drop_gives v u (setAll l (takes l n k)) n (nums is) W (by rw [hSl]; exact h) hSw (by rw [hlen]; exact hu) (by omega) (by omega) (by omega) (by omega) (by
        intro x hx
        obtain ⟨y, hy, rfl⟩ := List.mem_map.1 hx
        have := hTlt y (hp.mem_iff.1 hy)
        omega)
      rwa [hdb is hp] at this
    unfold HandsTake at HT
    have Hfr := Lib.hid hfr
    have Hfs := Lib.hid hfs
    have Hdr := Lib.hid hdr
    clear hfr hfs hdr hdb hSl hSw hkf
    generalize hF : frees (setAll l (takes l n k)) n = F1 at *
    generalize setAll l (takes l n k) = S1 at *
    generalize hF0 : (frees l n).length = f0 at *
    generalize F1.length = f1 at *
    clear hF hF0
    generalize takes l n k = T at *
    have hfle : f1 + k ≤ f0 := by omega
    have hfge : f0 ≤ f1 + k := by omega
    have hk64 : k ≤ 64 * l.length := by omega
    have Hs := Lib.hid hTs
    have HTl := Lib.hid hTl
    have Hlt := Lib.hid hTlt
    have Hbt := Lib.hid hTb
    have Hg := Lib.hid hTg
    clear hI0 hTs hTl hTlt hTb hTg
    go_enter Try.func5, Try.ntmps5
    go_wp2_with fail
    refine HL.out.mono ?_
    rintro e w' ⟨rfl, rfl⟩
    go_wp2_with fail
    refine HT.out.mono ?_
    rintro e w1 ⟨A1, c1, B1, d1, rfl, hg1, hr1, hb1⟩
    have Hg1 := Lib.hid hg1
    have Hr1 := Lib.hid hr1
    have Hb1 := Lib.hid hb1
    clear hg1 hr1 hb1
    go_wp2_with fail
    refine (Hfr.out _ _ (HR.out.below Hb1.out)).mono ?_
    rintro e w2 ⟨rfl, hb2⟩
    have Hg2 := Lib.hid (own_below Hg1.out hb2)
    have Hr2 := Lib.hid (own_below Hr1.out hb2)
    have Hb2 := Lib.hid (below_then Hb1.out hb2)
    clear hb2 Hg1 Hr1 Hb1
    go_wp2_with fail
    refine (Hfs.out _ _ (Rd.of_own Hr2.out)).mono ?_
    rintro e w3 ⟨rfl, hb3⟩
    have Hg3 := Lib.hid (own_below Hg2.out hb3)
    have Hr3 := Lib.hid (own_below Hr2.out hb3)
    have Hb3 := Lib.hid (below_then Hb2.out hb3)
    clear hb3 Hg2 Hr2 Hb2
    go_wp2
    go_loop [16, 17, 18, 19] (fun la i j fr => ∃ i' : Nat, i' ≤ k ∧ i = .int .i64 (i' : Int) ∧ la = .int .i64 (lastN T i' : Nat)) (fun _ i _ _ => k - (intOf i).toNat)
    case atStart => exact ⟨0, Nat.zero_le _, rfl, rfl⟩
    case round =>
      obtain ⟨i, hi, rfl, rfl⟩ := hrel
      by_cases hlt : i < k
      · have hiT : i < T.length := by rw [HTl.out]; exact hlt
        have hmem := List.getElem_mem hiT
        have ht1 := Hlt.out _ hmem
        have ht2 := Hbt.out _ hmem
        have ht3 := fun q => Hg.out i q hiT
        have hle := lastN_le Hs.out hiT
        have hls := lastN_succ T i hiT
        obtain ⟨b, o, rfl, hc⟩ := (Rd.of_own Hg3.out).at_ (i64s_at (show i < (nums T).length by rw [nums_length]; exact hiT))
        rw [nums_getElem T i hiT] at hc
        generalize T[i] = t at *
        generalize lastN T i = L at *
        have Ht2 := Lib.hid ht2
        have Ht3 := Lib.hid ht3
        have Hls := Lib.hid hls
        have hd : decide ((t : Int) + 1 ≤ (L : Int)) = false := by simp; omega
        clear ht2 ht3 hls
        go_wp2
        go_loop [18, 19] (fun j fr => ∃ q : Nat, L ≤ q ∧ q ≤ t + 1 ∧ j = .int .i64 ((q : Int) + 1)) (fun j _ => t + 2 - (intOf j).toNat)
        case atStart => exact ⟨L, Nat.le_refl _, by omega, rfl⟩
        case round =>
          obtain ⟨q, hq1, hq2, rfl⟩ := hrel
          by_cases hqt : q ≤ t
          · have hqd : decide ((q : Int) + 1 ≤ (t : Int) + 1) = true := by simp; omega
            have hql : q / 64 < l.length := by omega
            obtain ⟨bA, oA, rfl, hcA⟩ := (HR.out.below Hb3.out).at_ (u64s_at hql)
            have hx : l[q / 64] < 18446744073709551616 := HW.out _ (List.getElem_mem hql)
            have hbit := bitOf_at hql
            generalize l[q / 64] = x at *
            have hz := and_zero x (q % 64) hx
            rw [← hbit] at hz
            have hqi : (q : Int) / 64 < (l.length : Int) := by omega
            by_cases hqe : q = t
            · subst hqe
              rw [Ht2.out] at hz
              have hz' : (bits BinOp.and IntKind.u64 ((x : Int) / 2 ^ (q % 64)) 1 == 0) = true := hz
              have hee : ((q : Int) + 1 == (q : Int) + 1) = true := by simp
              clear hz hbit
              go_wp2
              go_round
              case rel => exact ⟨q + 1, by omega, by omega, by go_num⟩
              case measure => simp [intOf]; omega
            · rw [Ht3.out q hq1 (by omega)] at hz
              have hz' : (bits BinOp.and IntKind.u64 ((x : Int) / 2 ^ (q % 64)) 1 == 0) = false := hz
              have hee : ((q : Int) + 1 == (t : Int) + 1) = false := by simp; omega
              clear hz hbit
              go_wp2
              go_round
              case rel => exact ⟨q + 1, by omega, by omega, by go_num⟩
              case measure => simp [intOf]; omega
          · have hqd : decide ((q : Int) + 1 ≤ (t : Int) + 1) = false := by simp; omega
            have hqd2 : decide (q ≤ t) = false := by simp; omega
            have hqt' : t < q := by omega
            have hqt2 : (t : Int) + 1 < (q : Int) + 1 := by omega
            clear hqt
            go_wp2
            go_round
            case rel =>
              repeat apply Exists.intro
              refine ⟨?_, rfl, rfl, rfl⟩
              exact ⟨i + 1, by omega, by go_num, by rw [Hls.out]; go_num⟩
            case measure => simp [intOf]; omega
      · obtain rfl : i = k := by omega
        clear hlt hi
        go_wp2_with (at_builtin; refine copyI rfl (.const (.slice none 0 0)) (.tmp 155) rfl rfl _ (nums T) i (by rw [nums_length]; exact HTl.out) rfl (Rd.of_own Hg3.out) (by omega) ?_; intro A5 c5 w5 hown5 hb5)
        have Ho5 := Lib.hid hown5
        have Hb5 := Lib.hid hb5
        have hNl : (nums T).length = i := by rw [nums_length]; exact HTl.out
        have HNl := Lib.hid hNl
        clear hown5 hb5 hNl
        go_loopw [21] (fun q wr => ∃ j : Nat, j ≤ i ∧ (tu = false → j = 0) ∧ q = .int .i64 (j : Int) ∧ wr.ownsRow w3.heap.size 3 1 (.slice A5 i c5) i (i64s (mixTo (nums T).reverse (nums T) j)) ∧ Below w3.heap.size w3 wr) (fun q _ => i - (intOf q).toNat)
        case atStart => exact ⟨0, Nat.zero_le _, fun _ => rfl, rfl, by rw [mixTo_zero]; exact Ho5.out, Hb5.out⟩
        case round =>
          obtain ⟨j, hj, htu, rfl, hown, hbel⟩ := hrel
          by_cases hgo : j < i ∧ tu = true
          · obtain ⟨hlt, rfl⟩ := hgo
            obtain ⟨g, cap, hv, hg, hglt⟩ := hown.form (by omega)
            injection hv with hA1 _ hcc1
            subst hA1
            subst hcc1
            have hml : (mixTo (nums T).reverse (nums T) j).length = i := by rw [mixTo_length _ _ _ (by simp), HNl.out]
            have hz := hown.cellAt j (by omega)
            obtain ⟨z, hz'⟩ : ∃ z, (i64s (mixTo (nums T).reverse (nums T) j))[j]? = some z := ⟨_, i64s_at (by rw [hml]; exact hlt)⟩
            rw [hz'] at hz
            have hf := hown.frozenAt j
            have hrl : j < (nums T).reverse.length := by rw [List.length_reverse, HNl.out]; exact hlt
            have hsx := mixTo_succ (nums T).reverse (nums T) j (by simp) hrl
            have hrv : (nums T).reverse[j] = (nums T)[i - 1 - j]'(by rw [HNl.out]; omega) := by
              rw [List.getElem_reverse]
              simp only [HNl.out]
            obtain ⟨b, o, rfl, hc⟩ := ((Rd.of_own Hg3.out).below hbel).at_ (i64s_at (show i - 1 - j < (nums T).length by rw [HNl.out]; omega))
            rw [hrv] at hsx
            generalize (nums T)[i - 1 - j]'(by rw [HNl.out]; omega) = y at *
            have hst := (hown.stored j (.int .i64 y)).1
            rw [i64s_set, hsx] at hst
            have Hst := Lib.hid hst
            have Hb := Lib.hid hbel
            have h1 : (0 : Int) ≤ (i : Int) - 1 - (j : Int) := by omega
            have h2 : (i : Int) - 1 - (j : Int) < (i : Int) := by omega
            have h3 : ((i : Int) - 1 - (j : Int)).toNat = i - 1 - j := by omega
            have h4 : (j : Int) < (i : Int) := by omega
            clear hz' hown hbel hst hsx hrv hrl hml htu
            go_wp2
            go_roundw
            case rel => exact ⟨j + 1, by omega, (fun h => by cases h), by go_num, Hst.out, Hb.out.setCell (p := ⟨g, j, none⟩) hg _⟩
            case measure => simp [intOf]; omega
          · have hex : ∃ is : List Nat, is.Perm T ∧ mixTo (nums T).reverse (nums T) j = nums is := by
              by_cases hji : j = i
              · refine ⟨T.reverse, List.reverse_perm _, ?_⟩
                have := mixTo_all (nums T).reverse (nums T) (by simp)
                rw [List.length_reverse, HNl.out] at this
                rw [hji, this, nums_reverse]
              · refine ⟨T, List.Perm.refl _, ?_⟩
                have : j = 0 := htu (by cases tu with | false => rfl | true => exact absurd ⟨by omega, rfl⟩ hgo)
                rw [this, mixTo_zero]
            obtain ⟨is, hp, hmx⟩ := hex
            rw [hmx] at hown
            have Hp := Lib.hid hp
            have Hbk := Lib.hid (Rd.of_own hown)
            have Hrw := Lib.hid ((Rd.of_own Hr3.out).below hbel)
            have Hb := Lib.hid (below_then Hb3.out hbel)
            have hcase : (j = i) ∨ (j < i ∧ tu = false) := by
              cases tu with
              | false => rcases Nat.lt_or_eq_of_le hj with h | h
                         · exact .inr ⟨h, rfl⟩
                         · exact .inl h
              | true => exact .inl (by
                  rcases Nat.lt_or_eq_of_le hj with h | h
                  · exact absurd ⟨h, rfl⟩ hgo
                  · exact h)
            clear hp hown hbel hmx hgo htu
            rcases hcase with rfl | ⟨hlt, rfl⟩
            all_goals
              go_wp2_with fail
              refine (Hdr.out _ _ _ is Hp.out Hrw.out Hbk.out).mono ?_
              rintro e w6 ⟨r6, rfl, hr6, hb6⟩
              have Hb6 := Lib.hid (below_then Hb.out hb6)
              have Hr6 := Lib.hid hr6
              have Hl6 := Lib.hid (HR.out.below Hb6.out)
              clear hb6 hr6
              go_wp2_with fail
              refine (same_yes _ _ l _ rfl _ Hr6.out Hl6.out).mono ?_
              rintro e w7 ⟨rfl, hb7⟩
              have Hb7 := Lib.hid (below_then Hb6.out hb7)
              clear hb7
              go_wp2_with fail
              refine (alive_any _).mono ?_
              rintro e w8 ⟨rfl, hb8⟩
              have Hb8 := Lib.hid (below_then Hb7.out hb8)
              clear hb8
              go_wp2
              go_ret
              exact ⟨rfl, Hb8.out⟩
  · have HT := Lib.hid (Take_err _ l n k w HR.out HW.out hn1 hn2 hk1 hk2 (by omega) hok)
    clear hok
    go_enter Try.func5, Try.ntmps5
    go_wp2_with fail
    refine HL.out.mono ?_
    rintro e w' ⟨rfl, rfl⟩
    go_wp2_with fail
    refine HT.out.mono ?_
    rintro e w1 ⟨A1, c1, B1, d1, he, hb1⟩
    have Hb1 := Lib.hid hb1
    clear hb1
    rcases he with rfl | rfl
    all_goals
      go_wp2_with fail
      refine (alive_any _).mono ?_
      rintro e w' ⟨rfl, hb⟩
      have Hb := Lib.hid (below_then Hb1.out hb)
      clear hb
      go_wp2
      go_ret
      exact ⟨rfl, Hb.out⟩
end Go.Proofs.Yteojodddfanepaa
