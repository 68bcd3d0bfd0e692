/- The walk of the law PoolApart. -/
import Derived.Test.YteojodddfanepaaPoolApartMem
namespace Go.Proofs.Yteojodddfanepaa
open Go.RowKit
set_option linter.unusedVariables false
attribute [local go_sem ↓] run_least2

theorem made_rep (v : Value) (h : v.cells = #[v]) (n : Nat) : (madeCells v.cells (n * 1)).toList = List.replicate n v := by
  rw [Nat.mul_one, h]
  apply List.ext_getElem?
  intro i
  simp only [madeCells]
  by_cases h : i < n
  · simp [h, Nat.mod_one]
  · simp [h]
def most2 (x y : Int) : Int := if y > x then y else x
theorem run_most2 {P : Program} {w : World} (ts : Array TypeId) (t : TypeId) (k k' : IntKind) (x y : Int) : (Builtin.max_ ts t #[.int k x, .int k' y]).run P w = .ok (.int k (most2 x y)) w := run_max_int2 w ts t k k' x y
attribute [local go_sem ↓] run_most2

theorem infoSl : (Try.prog.info? 25).map (fun i => (i.zero, i.size, i.bytes)) = some (some (.slice none 0 0), 1, 24) := by kernel_rfl
def tot (Ts : List (List Nat)) : Nat := Ts.flatten.length
theorem tot_snoc (Ts : List (List Nat)) (T : List Nat) : tot (Ts ++ [T]) = tot Ts + T.length := by unfold tot; rw [List.flatten_append, List.flatten_singleton, List.length_append]
/-- Free of a row where so many are had -/
theorem Free_apart {w wr : World} {g6 n : Nat} {v5 v7 : Value} {R : List Nat} {O : List Int} {hs : List Value} {Ts : List (List Nat)} (h : St w g6 wr v5 v7 R O hs Ts) (ha : Apart n R O Ts) :
    Calls Try.prog 12 #[v5, .int .i64 n] wr fun e w' => e = .returned (.tuple #[.int .i64 ((n - tot Ts : Nat) : Int), .int .i64 0]) ∧ Below wr.heap.size wr w' := by
  have hc := ha.count
  have hn := ha.hn
  have h4 := ha.hR
  have := Free_gives v5 R n wr (by rw [h4]; exact Rd.of_own h.row) ha.hW (by omega) (by omega) (by omega)
  unfold freeOut at this
  rw [if_pos (by unfold May; omega)] at this
  rw [show n - tot Ts = (frees R n).length by unfold tot; omega]
  exact this

theorem tot_erase (Ts : List (List Nat)) (k : Nat) (hk : k < Ts.length) : tot (Ts.eraseIdx k) + Ts[k].length = tot Ts := erase_length Ts k hk
/-- Drop of one that is had -/
theorem Drop_apart {w wr : World} {g6 n : Nat} {v5 v7 : Value} {R : List Nat} {O : List Int} {hs : List Value} {Ts : List (List Nat)} (h : St w g6 wr v5 v7 R O hs Ts) (ha : Apart n R O Ts) {k : Nat} (hk : k < Ts.length) (u : Value) (hu : Rd wr u Ts[k].length (i64s (nums Ts[k]))) :
    Calls Try.prog 18 #[v5, .int .i64 n, u] wr fun e w' => ∃ A c, e = .returned (.tuple #[.slice A 4 c, .int .i64 0]) ∧ w'.ownsRow wr.heap.size 38 1 (.slice A 4 c) 4 (u64s (clearAll R Ts[k])) ∧ Below wr.heap.size wr w' := by
  have hn := ha.hn
  have h4 := ha.hR
  have hc := ha.count
  have hlt : ∀ i ∈ Ts[k], i < n := fun i hi => ha.lt i (ha.mem_at hk hi)
  have hlen : Ts[k].length ≤ 65536 := by have := erase_length Ts k hk; omega
  refine (drop_any v5 u R n (nums Ts[k]) wr (by rw [h4]; exact Rd.of_own h.row) ha.hW (by rw [nums_length]; exact hu) (by omega) (by omega) (by rw [nums_length]; exact hlen) (by
    intro x hx
    obtain ⟨y, hy, rfl⟩ := List.mem_map.1 hx
    have := hlt y hy
    omega)).mono ?_
  rintro e w' ⟨hb, h1 | h1 | h1⟩
  · refine absurd ((InR_iff _ _).2 ?_) h1.1
    intro i hi
    obtain ⟨x, hx, rfl⟩ := List.mem_map.1 hi
    have := hlt x hx
    omega
  · have := h1.2.1
    rw [ha.drops hk] at this
    cases this
  · obtain ⟨_, R', A, c, hd, rfl, ho⟩ := h1
    rw [ha.drops hk] at hd
    cases hd
    rw [h4] at ho ⊢
    exact ⟨A, c, rfl, ho, hb⟩
theorem tmod_bd (K : Int) (m : Nat) (hm : 0 < m) : -(m : Int) < K.tmod m ∧ K.tmod m < m := by
  rcases Int.le_total 0 K with h | h
  · rw [Int.tmod_eq_emod_of_nonneg h]
    have h1 := Int.emod_nonneg K (show (m : Int) ≠ 0 by omega)
    have h2 := Int.emod_lt_of_pos K (show (0 : Int) < m by omega)
    omega
  · obtain ⟨J, rfl⟩ : ∃ J, K = -J := ⟨-K, by omega⟩
    rw [Int.neg_tmod, Int.tmod_eq_emod_of_nonneg (show 0 ≤ J by omega)]
    have h1 := Int.emod_nonneg J (show (m : Int) ≠ 0 by omega)
    have h2 := Int.emod_lt_of_pos J (show (0 : Int) < m by omega)
    omega

set_option maxRecDepth 100000 in
set_option maxHeartbeats 8000000 in
theorem poolApart_walk (w : World) (n : Nat) (hn : n < 256) (v : Value) (l : List (Bool × Int)) (hl : ∀ s ∈ l, -9223372036854775808 ≤ s.2 ∧ s.2 ≤ 9223372036854775807) (hr : Rd w v l.length (pcells l)) :
    Calls Try.prog 6 #[.int .u8 n, v] w fun e w' => e = .returned (.bool true) ∧ Below w.heap.size w w' := by
  have HR := Lib.hid hr
  obtain ⟨A, c, rfl, hlc, hcm, hx⟩ := hr
  have HW := Lib.hid hl
  clear hx hl
  unfold maxLen at hcm
  by_cases h1 : 100 < l.length
  · have hd : decide ((l.length : Int) > 100) = true := by simp; omega
    clear h1
    go_enter Try.func6, Try.ntmps6
    go_wp2_with fail
    refine (alive_any _).mono ?_
    rintro e w' ⟨rfl, hb⟩
    have Hb := Lib.hid hb
    clear hb
    go_wp2
    go_ret
    exact ⟨rfl, Hb.out⟩
  have hl100 : l.length ≤ 100 := by omega
  have hd : decide ((l.length : Int) > 100) = false := by simp; omega
  clear h1
  obtain ⟨i0, hi, hz0, hz1, hz2⟩ := info_parts info64
  obtain ⟨i1, hi', hz0', hz1', hz2'⟩ := info_parts infoInt
  go_enter Try.func6, Try.ntmps6
  go_wp2_with (first
    | (at_make; refine wpList_make_full _ rfl (.const (.int .i64 4)) (.const (.int .i64 4)) 22 rfl w.heap.size 38 i0 _ 1 Try.underlying22 hi hz0 hz1 .i64 .i64 4 4 4 rfl rfl rfl rfl (by rw [hz2]; omega) (by unfold maxLen; omega) (Nat.le_refl _) ?_; intro w1 hown1 hg1; have hb1 : Below w.heap.size w w1 := (Below.refl _ _).grown hg1 (Nat.le_refl _) (by intro k h; cases h))
    | (at_make; refine wpList_make_full _ rfl (.const (.int .i64 256)) (.const (.int .i64 256)) 25 rfl w1.heap.size 3 i1 _ 1 Try.underlying25 hi' hz0' hz1' .i64 .i64 256 256 256 rfl rfl rfl rfl (by rw [hz2']; omega) (by unfold maxLen; omega) (Nat.le_refl _) ?_; intro w2 hown2 hg2; have hb2 : Below w1.heap.size w1 w2 := (Below.refl _ _).grown hg2 (Nat.le_refl _) (by intro k h; cases h)))
  have hSt : St w w1.heap.size w2 (.slice (some ⟨w.heap.size, 0, none⟩) 4 4) (.slice none 0 0) (List.replicate 4 0) (List.replicate 256 0) [] [] := by
    refine ⟨?_, ?_, World.ownsRow_nil _ _ _ _, fun i h => absurd h (Nat.not_lt_zero _), below_then hb1 hb2⟩
    · have h := own_below hown1 hb2
      rw [made_rep _ rfl] at h
      exact h
    · have h := own_mono hown2 hb1.size
      rw [made_rep _ rfl] at h
      exact h
  have hAp := Apart.start n (by omega)
  have HSt := Lib.hid hSt
  have HAp := Lib.hid hAp
  have hn255 : n ≤ 255 := by omega
  clear hSt hAp hown1 hown2 hg1 hg2 hb1 hb2
  generalize w1.heap.size = g6 at *
  go_loopw [5, 7, 8, 9] (fun r hv hd i wr => ∃ (j : Nat) (R : List Nat) (O : List Int) (hs : List Value) (Ts : List (List Nat)) (A5 A7 : Option Addr) (c5 c7 : Nat), j ≤ l.length ∧ Ts.length ≤ j ∧ i = .int .i64 (j : Int) ∧
      r = .slice A5 4 c5 ∧ hv = .slice A7 Ts.length c7 ∧ hd = .int .i64 (tot Ts : Nat) ∧ St w g6 wr (.slice A5 4 c5) (.slice A7 Ts.length c7) R O hs Ts ∧ Apart n R O Ts) (fun _ _ _ i _ => l.length - (intOf i).toNat)
  case atStart => exact ⟨0, _, _, [], [], _, none, _, 0, Nat.zero_le _, Nat.le_refl _, rfl, rfl, rfl, rfl, HSt.out, HAp.out⟩
  case round =>
    obtain ⟨j, R, O, hs, Ts, A5, A7, c5, c7, hj, hmj, rfl, rfl, rfl, rfl, hst, hap⟩ := hrel
    clear HSt HAp
    have hcount : (frees R n).length + tot Ts = n := hap.count
    have HSt := Lib.hid hst
    have HAp := Lib.hid hap
    have hR4 := hap.hR
    clear hst hap
    by_cases hlt : j < l.length
    · obtain ⟨b, o, rfl, hc⟩ := (HR.out.below HSt.out.bel).at_ (pcells_at l j hlt).1
      obtain ⟨b', o', hA, hc'⟩ := (HR.out.below HSt.out.bel).at_ (pcells_at l j hlt).2
      injection hA with hA
      injection hA with e1 e2
      subst e1; subst e2
      rw [← Nat.add_assoc] at hc'
      obtain ⟨hK1, hK2⟩ := HW.out _ (List.getElem_mem hlt)
      generalize l[j] = sp at *
      obtain ⟨tk, K⟩ := sp
      dsimp only at *
      have hji : (j : Int) < (l.length : Int) := by omega
      cases tk with
      | true =>
        obtain ⟨k, hk⟩ : ∃ k : Nat, most2 (least2 K 300) 0 = (k : Int) ∧ k ≤ 300 := by
          refine ⟨(most2 (least2 K 300) 0).toNat, ?_, ?_⟩ <;> unfold most2 least2 <;> split <;> split <;> omega
        obtain ⟨hk, hk3⟩ := hk
        have HT := Lib.hid (Take_any (.slice A5 4 c5) R n k wr (by rw [hR4]; exact Rd.of_own HSt.out.row) HAp.out.hW (by omega) (by omega) (by omega))
        go_wp2_with fail
        refine HT.out.mono ?_
        rintro e w3 (⟨hfew, rfl, hb3⟩ | ⟨henough, hh⟩)
        · have hkd : decide ((k : Int) ≤ (n : Int) - (tot Ts : Int)) = false := by simp; omega
          have HSt3 := Lib.hid (HSt.out.below hb3)
          clear hb3
          go_wp2
          go_roundw
          case rel => exact ⟨j + 1, R, O, hs, Ts, A5, A7, c5, c7, by omega, by omega, by go_num, rfl, rfl, rfl, HSt3.out, HAp.out⟩
          case measure => simp [intOf]; omega
        · obtain ⟨Ag, cg, Ax, cx, rfl, hg3, hx3, hb3⟩ := hh
          have hkd : decide ((k : Int) ≤ (n : Int) - (tot Ts : Int)) = true := by simp; omega
          have hTl : (takes R n k).length = k := by rw [takes_length]; omega
          have hTf := fun i (h : i ∈ takes R n k) => HAp.out.free h
          have hTz := fun i (h : i < (takes R n k).length) => HAp.out.owner_zero (k := k) ((j : Int) + 1) h
          have hAp2 := HAp.out.take k ((j : Int) + 1)
          have hO256 := HAp.out.hO
          rw [hR4] at hx3
          have hg6 := HSt.out.g6_lt.2
          have hg3' := own_mono hg3 (show g6 + 1 ≤ wr.heap.size by omega)
          have hSt3 := (HSt.out.below hb3).turn (own_mono hx3 HSt.out.bel.size)
          generalize setAll R (takes R n k) = R2 at *
          generalize takes R n k = T at *
          have HTl := Lib.hid hTl
          have HTf := Lib.hid hTf
          have HTz := Lib.hid hTz
          have HAp2 := Lib.hid hAp2
          have HO := Lib.hid hO256
          have HSt3 := Lib.hid hSt3
          have HG3 := Lib.hid hg3'
          clear hTl hTf hTz hAp2 hO256 hx3 hg3 hg3' hSt3 hb3
          go_wp2
          go_loopw [14] (fun i wq => ∃ q : Nat, q ≤ k ∧ i = .int .i64 (q : Int) ∧ St w g6 wq (.slice Ax 4 cx) (.slice A7 Ts.length c7) R2 (setO O (T.take q) ((j : Int) + 1)) hs Ts ∧ wq.ownsRow (g6 + 1) 3 1 (.slice Ag k cg) k (i64s (nums T))) (fun i _ => k - (intOf i).toNat)
          case atStart => exact ⟨0, Nat.zero_le _, rfl, HSt3.out, HG3.out⟩
          case round =>
            obtain ⟨q, hq, rfl, hst, hg⟩ := hrel
            by_cases hqk : q < k
            · have hqT : q < T.length := by rw [HTl.out]; exact hqk
              obtain ⟨ht1, ht2⟩ := HTf.out _ (List.getElem_mem hqT)
              have hz := HTz.out q hqT
              have hsn : setO O (T.take (q + 1)) ((j : Int) + 1) = (setO O (T.take q) ((j : Int) + 1)).set (T[q] + 1) ((j : Int) + 1) := by rw [List.take_succ_eq_append_getElem hqT, setO_snoc]
              obtain ⟨b2, o2, rfl, hc2⟩ := (Rd.of_own hg).at_ (i64s_at (show q < (nums T).length by rw [nums_length]; exact hqT))
              rw [nums_getElem T q hqT] at hc2
              have hol : (setO O (T.take q) ((j : Int) + 1)).length = 256 := by rw [setO_length, HO.out]
              have hcz := hst.own.cellAt (T[q] + 1) (by omega)
              rw [i64s_at (show T[q] + 1 < (setO O (T.take q) ((j : Int) + 1)).length by rw [hol]; omega)] at hcz
              have hze : (setO O (T.take q) ((j : Int) + 1))[T[q] + 1]'(by rw [hol]; omega) = 0 := by
                rw [List.getD_eq_getElem?_getD, List.getElem?_eq_getElem (by rw [hol]; omega)] at hz
                exact hz
              rw [hze] at hcz
              have hfz := hst.own.frozenAt (T[q] + 1)
              have hst' := hst.store (T[q] + 1) ((j : Int) + 1)
              rw [← hsn] at hst'
              have hg' := hg.kept (grownBy_one _ g6 (T[q] + 1) (.int .i64 ((j : Int) + 1))) (own_above hg)
              clear hze hol hsn hz ht2
              generalize T[q] = t at *
              have HSt4 := Lib.hid hst'
              have HG4 := Lib.hid hg'
              have hq1 : (q : Int) < (k : Int) := by omega
              have hq2 : (t : Int) + 1 < 256 := by omega
              have hq3 : decide ((t : Int) + 1 < 1) = false := by simp; omega
              have hq4 : decide ((t : Int) + 1 > (n : Int)) = false := by simp; omega
              clear hst hg hst' hg'
              go_wp2
              go_roundw
              case rel => exact ⟨q + 1, by omega, by go_num, HSt4.out, HG4.out⟩
              case measure => simp [intOf]; omega
            · obtain rfl : q = k := by omega
              rw [List.take_of_length_le (by rw [HTl.out]; exact Nat.le_refl _)] at hst
              have hF := tot_snoc Ts T
              rw [HTl.out] at hF
              obtain ⟨i2, hi2, hz02, hz12, hz22⟩ := info_parts infoSl
              have HSt4 := Lib.hid hst
              have HG4 := Lib.hid hg
              have hb4 := hst.bel.size
              have hne : ((q : Int) != (q : Int)) = false := by simp
              clear hst hg hqk hq
              go_wp2_with (at_builtin; refine wpList_append_own _ rfl _ _ 42 rfl w.heap.size 25 i2 (.slice none 0 0) 1 24 Try.underlying42 hi2 hz02 hz12 hz22 rfl (by decide) _ _ _ rfl (HSt4.out.hav.alloc _) ⟨_, 0, none⟩ 1 1 [.slice Ag q cg] rfl rfl (cell_one_new _ _ _) (by simp [Value.oneCell']) (by unfold maxLen; omega) (by omega) (by simp; omega) ?_; intro v' w5 hown5 hgr5 _)
              obtain ⟨A8, c8, rfl⟩ := own_form hown5
              have hst5 := (HSt4.out.alloc _).push (T := T) (by rw [HTl.out]; exact HG4.out.alloc _) hown5 hgr5
              have hfr := Free_apart hst5 HAp2.out
              rw [hF] at hfr
              have HSt5 := Lib.hid hst5
              have Hfr := Lib.hid hfr
              obtain ⟨f, hf⟩ : ∃ f, f = n - (tot Ts + q) := ⟨_, rfl⟩
              rw [← hf] at Hfr
              have hfd : ((f : Int) != (n : Int) - ((tot Ts : Int) + (q : Int))) = false := by simp; omega
              have HF := Lib.hid hF
              clear hst5 hfr hown5 hgr5 HSt4 HG4 hF hf HTz HTf
              refine Hfr.out.mono ?_
              rintro e w6 ⟨rfl, hb6⟩
              have HSt6 := Lib.hid (HSt5.out.below hb6)
              clear hb6 HSt5 Hfr
              go_wp2
              go_roundw
              case rel => exact ⟨j + 1, _, _, _, _, _, _, _, _, by omega, by rw [List.length_append]; simp; omega, by go_num, rfl, by rw [List.length_append]; rfl, by rw [HF.out]; go_num, by rw [List.length_append]; exact HSt6.out, HAp2.out⟩
              case measure => simp [intOf]; omega
      | false =>
        by_cases hm0 : Ts.length ≤ 0
        · have hd1 : decide ((Ts.length : Int) > 0) = false := decide_eq_false (by omega)
          have hd2 : decide (0 < Ts.length) = false := decide_eq_false (by omega)
          have hfr := Free_apart HSt.out HAp.out
          obtain ⟨f, hf⟩ : ∃ f, f = n - tot Ts := ⟨_, rfl⟩
          rw [← hf] at hfr
          have Hfr := Lib.hid hfr
          have hfd : ((f : Int) != (n : Int) - (tot Ts : Int)) = false := by simp; omega
          clear hfr hf
          go_wp2_with fail
          refine Hfr.out.mono ?_
          rintro e w6 ⟨rfl, hb6⟩
          have HSt6 := Lib.hid (HSt.out.below hb6)
          clear hb6 HSt Hfr
          go_wp2
          go_roundw
          case rel => exact ⟨j + 1, _, _, _, _, _, _, _, _, by omega, by omega, by go_num, rfl, rfl, rfl, HSt6.out, HAp.out⟩
          case measure => simp [intOf]; omega
        · have hm1 : 0 < Ts.length := by omega
          have hm2 : (0 : Int) < (Ts.length : Int) := by omega
          obtain ⟨hq1, hq2⟩ := tmod_bd K Ts.length hm1
          obtain ⟨Q, hQ⟩ : ∃ Q, K.tmod (Ts.length : Int) = Q := ⟨_, rfl⟩
          rw [hQ] at hq1 hq2
          obtain ⟨kk, hkk⟩ : ∃ kk : Nat, Q % (Ts.length : Int) = (kk : Int) := ⟨(Q % (Ts.length : Int)).toNat, by have := Int.emod_nonneg Q (show (Ts.length : Int) ≠ 0 by omega); omega⟩
          have hkm : kk < Ts.length := by have := Int.emod_lt_of_pos Q hm2; omega
          have hkk2 : (Q + (Ts.length : Int)) % (Ts.length : Int) = (kk : Int) := by rw [Int.add_emod_right]; exact hkk
          obtain ⟨g7, cap7, hv7, hg7, hg7lt⟩ := HSt.out.hav.form hm1
          injection hv7 with hA7 _ hcc7
          subst hA7
          subst hcc7
          obtain ⟨hsl, hcap⟩ : Ts.length ≤ c7 ∧ c7 ≤ maxLen := by
            obtain ⟨_, _, hv, h1, h2, _⟩ := Rd.of_own HSt.out.hav
            injection hv with _ _ e
            subst e
            exact ⟨h1, h2⟩
          unfold maxLen at hcap
          have hck := HSt.out.hav.cellAt kk (by omega)
          obtain ⟨Ah, ch, hvh, hel⟩ : ∃ Ah ch, hs[kk]? = some (.slice Ah Ts[kk].length ch) ∧ wr.ownsRow (g6 + 1) 3 1 (.slice Ah Ts[kk].length ch) Ts[kk].length (i64s (nums Ts[kk])) := by
            have hhl := HSt.out.hlen
            have hel := HSt.out.els kk (by omega) hkm
            obtain ⟨Ah, ch, hvh⟩ := own_form hel
            rw [hvh] at hel
            exact ⟨Ah, ch, by rw [List.getElem?_eq_getElem (by omega), hvh], hel⟩
          rw [hvh] at hck
          have hDr := Drop_apart HSt.out HAp.out hkm (.slice Ah Ts[kk].length ch) (Rd.of_own hel)
          have hte := tot_erase Ts kk hkm
          have hAp2 := HAp.out.drop hkm
          have hTn : ∀ x ∈ Ts[kk], x < n := fun x hx => HAp.out.lt x (HAp.out.mem_at hkm hx)
          have hTeq : Ts[kk]? = some Ts[kk] := List.getElem?_eq_getElem hkm
          have hO256 := HAp.out.hO
          have hn256 : n ≤ 255 := HAp.out.hn
          generalize clearAll R Ts[kk] = R2 at *
          generalize Ts[kk] = T at *
          have hTle : T.length ≤ 255 := by omega
          have HDr := Lib.hid hDr
          have Hvh := Lib.hid hvh
          have Hte := Lib.hid hte
          have HAp2 := Lib.hid hAp2
          have HTn := Lib.hid hTn
          have HO := Lib.hid hO256
          have HTeq := Lib.hid hTeq
          clear hDr hvh hel hte hAp2 hTn hO256 hTeq
          have hkmi : (kk : Int) < (Ts.length : Int) := by omega
          go_wp2_with fail
          refine HDr.out.mono ?_
          rintro e w4 ⟨Ax, cx, rfl, hx4, hb4⟩
          have hSt4 := (HSt.out.below hb4).turn (own_mono hx4 HSt.out.bel.size)
          have hck4 := (hb4.cell (p := ⟨g7, kk, none⟩) hg7lt).trans hck
          have HSt4 := Lib.hid hSt4
          clear hSt4 hx4 hb4 HDr
          go_wp2
          go_loopw [18] (fun i wq => ∃ q : Nat, q ≤ T.length ∧ i = .int .i64 (q : Int) ∧ St w g6 wq (.slice Ax 4 cx) (.slice (some ⟨g7, 0, none⟩) Ts.length c7) R2 (setO O (T.take q) 0) hs Ts) (fun i _ => T.length - (intOf i).toNat)
          case atStart => exact ⟨0, Nat.zero_le _, rfl, HSt4.out⟩
          case round =>
            obtain ⟨q, hq, rfl, hst⟩ := hrel
            have hckq := hst.hav.cellAt kk (by omega)
            rw [Hvh.out] at hckq
            have hel := hst.el Hvh.out HTeq.out
            by_cases hqk : q < T.length
            · have ht1 := HTn.out _ (List.getElem_mem hqk)
              have hsn : setO O (T.take (q + 1)) 0 = (setO O (T.take q) 0).set (T[q] + 1) 0 := by rw [List.take_succ_eq_append_getElem hqk, setO_snoc]
              obtain ⟨b2, o2, rfl, hc2⟩ := (Rd.of_own hel).at_ (i64s_at (show q < (nums T).length by rw [nums_length]; exact hqk))
              rw [nums_getElem T q hqk] at hc2
              have hol : (setO O (T.take q) 0).length = 256 := by rw [setO_length, HO.out]
              have hcz := hst.own.cellAt (T[q] + 1) (by omega)
              rw [i64s_at (show T[q] + 1 < (setO O (T.take q) 0).length by rw [hol]; omega)] at hcz
              obtain ⟨z, hz⟩ : ∃ z, (setO O (T.take q) 0)[T[q] + 1]'(by rw [hol]; omega) = z := ⟨_, rfl⟩
              rw [hz] at hcz
              have hfz := hst.own.frozenAt (T[q] + 1)
              have hst' := hst.store (T[q] + 1) 0
              rw [← hsn] at hst'
              clear hz hol hsn
              generalize T[q] = t at *
              have HSt5 := Lib.hid hst'
              have hq1 : (q : Int) < (T.length : Int) := by omega
              have hq3 : (t : Int) + 1 < 256 := by omega
              clear hst hst' hel
              go_wp2
              go_roundw
              case rel => exact ⟨q + 1, by omega, by go_num, HSt5.out⟩
              case measure => simp [intOf]; omega
            · obtain rfl : q = T.length := by omega
              rw [List.take_length] at hst
              obtain ⟨i2, hi2, hz02, hz12, hz22⟩ := info_parts infoSl
              have hhl := hst.hlen
              -- where 'have[k+1:]' begins
              obtain ⟨A', hA', hnews⟩ : ∃ A' : Addr, (if c7 = kk + 1 then some (⟨g7, 0, none⟩ : Addr) else some ⟨g7, kk + 1, none⟩) = some A' ∧ Hid (∀ j u, (hs.drop (kk + 1))[j]? = some u → wr.drew.cell? (A'.add j) = some u) := by
                by_cases h : c7 = kk + 1
                · refine ⟨⟨g7, 0, none⟩, by simp [h], fun j u hu => ?_⟩
                  rw [List.getElem?_eq_none (by rw [List.length_drop]; omega)] at hu
                  cases hu
                · refine ⟨⟨g7, kk + 1, none⟩, by simp [h], fun j u hu => ?_⟩
                  have hj := (List.getElem?_eq_some_iff.1 hu).1
                  rw [List.length_drop] at hj
                  rw [Addr.add_lit]
                  rw [List.getElem?_drop] at hu
                  exact (hst.hav.cellAt (kk + 1 + j) (by omega)).trans hu
              have s1 : Hid ((hs.drop (kk + 1)).length = (Ts.length - (kk + 1)) * 1) := by rw [Nat.mul_one, List.length_drop, hhl]; exact Lib.hid rfl
              have s2 : Hid (∀ u ∈ hs.drop (kk + 1), u.oneCell' = true) := Lib.hid (by
                intro u hu
                obtain ⟨i, hi, rfl⟩ := List.mem_iff_getElem.1 (List.mem_of_mem_drop hu)
                obtain ⟨A9, c9, h9⟩ := own_form (hst.els i hi (by omega))
                rw [h9]
                rfl)
              have s3 : Hid (∀ j, j < (hs.drop (kk + 1)).length → (wr.drew.cell? ⟨g7, 0 + kk * 1 + j, none⟩).isSome = true ∧ wr.drew.frozen? ⟨g7, 0 + kk * 1 + j, none⟩ = false) := Lib.hid (by
                intro j hj
                rw [List.length_drop] at hj
                rw [Nat.mul_one, Nat.zero_add]
                have h1 := hst.hav.cellAt (kk + j) (by omega)
                rw [List.getElem?_eq_getElem (by omega)] at h1
                exact ⟨by show (wr.cell? _).isSome = true; rw [h1]; rfl, hst.hav.frozenAt (kk + j)⟩)
              have hic : kk ≤ c7 := by omega
              have hwr : IntKind.i64.wrap ((kk : Int) + 1) = (kk : Int) + 1 := by rw [IntKind.wrap_i64]; omega
              have hp0 : (0 : Int) ≤ (kk : Int) + 1 := by omega
              have hp1 : (kk : Int) + 1 ≤ (Ts.length : Int) := by omega
              have hp2 : ((kk : Int) + 1).toNat = kk + 1 := by omega
              have hfit : kk + (Ts.length - (kk + 1)) ≤ c7 := by omega
              have hpl := (hst.drew).pull hkm
              have hel7 : (Ts.eraseIdx kk).length = Ts.length - 1 := by rw [List.length_eraseIdx, if_pos hkm]
              rw [show Ts.length - 1 = kk + (Ts.length - (kk + 1)) by omega] at hpl hel7
              have hfr := Free_apart hpl HAp2.out
              obtain ⟨f, hf⟩ : ∃ f, f = n - tot (Ts.eraseIdx kk) := ⟨_, rfl⟩
              have hte := Hte.out
              have hAc := HAp2.out.count
              have hAc2 : (frees R2 n).length + tot (Ts.eraseIdx kk) = n := hAc
              rw [← hf] at hfr
              have hfd : ((f : Int) != (n : Int) - ((tot Ts : Int) - (T.length : Int))) = false := by simp; omega
              have Hfr := Lib.hid hfr
              have Hpl := Lib.hid hpl
              have Hel7 := Lib.hid hel7
              have htl : (T.length : Int) ≤ (tot Ts : Int) := by omega
              clear hst hel hqk hq hhl hpl hfr hf hte hel7 hAc hAc2 HSt HSt4
              go_wp2_with fail
              go_region_law (refine step_append_room rfl (.tmp 180) (.tmp 184) 42 rfl 25 i2 1 Try.underlying42 hi2 hz12 g7 0 kk c7 (by simp [Act.eval, Act.put]) A' (Ts.length - (kk + 1)) (c7 - (kk + 1)) (hs.drop (kk + 1)) (by simp [Act.eval, Act.put]) s1.out hnews.out s2.out hfit s3.out ?_)
              go_wp2_with fail
              refine Hfr.out.mono ?_
              rintro e w6 ⟨rfl, hb6⟩
              have HSt6 := Lib.hid (Hpl.out.below hb6)
              clear hb6 Hpl Hfr
              go_wp2
              go_roundw
              case rel => exact ⟨j + 1, _, _, _, _, _, _, _, _, by omega, by rw [Hel7.out]; omega, by go_num, rfl, by rw [Hel7.out], by rw [← Hte.out]; go_num, by rw [Hel7.out]; exact HSt6.out, HAp2.out⟩
              case measure => simp [intOf]; omega
    · obtain rfl : j = l.length := by omega
      go_wp2_with fail
      refine (alive_any _).mono ?_
      rintro e w' ⟨rfl, hb⟩
      have Hb := Lib.hid (below_then HSt.out.bel hb)
      clear hb
      go_wp2
      go_ret
      exact ⟨rfl, Hb.out⟩
end Go.Proofs.Yteojodddfanepaa
