/- The walk of the law PoolTurned. -/
import Derived.Test.YteojodddfanepaaPoolAlive
import Derived.Test.YteojodddfanepaaPoolTurnPlain
import Derived.StillTailTactics
import Derived.Deep.RegionHeld3
import Derived.Deep.QuietTactic
import Derived.BigQuiet
namespace Go.Proofs.Yteojodddfanepaa
open Go.RowKit
set_option linter.unusedVariables false
attribute [local go_sem ↓] run_least2

theorem Rd.first {w : World} {A : Option Addr} {c n m : Nat} {l : List Nat} (h : Rd w (.slice A n c) n (u64s l)) (hm : m ≤ n) : Rd w (.slice A m c) m (u64s (l.take m)) := by
  have := h.take rfl hm
  rwa [u64s_take] at this

set_option maxRecDepth 100000 in
set_option maxHeartbeats 4000000 in
theorem poolTurned_walk (w : World) (v : Value) (l : List Nat) (hl : ∀ x ∈ l, x < 2 ^ 64) (hr : Rd w v l.length (u64s l)) (v' : Value) (m : List Nat) (hm : ∀ x ∈ m, x < 2 ^ 64) (hr' : Rd w v' m.length (u64s m)) :
    Calls Try.prog 7 #[v, v'] w fun e w' => e = .returned (.bool true) ∧ Below w.heap.size w w' := by
  have HL := Lib.hid (large_any v l w hr)
  have HM := Lib.hid (large_any v' m w hr')
  have HR := Lib.hid hr
  have HR' := Lib.hid hr'
  obtain ⟨A, c, rfl, hlc, hcm, hx⟩ := hr
  obtain ⟨B, d, rfl, hld, hdm, hx'⟩ := hr'
  have HW := Lib.hid hl
  have HW' := Lib.hid hm
  clear hx hx' hl hm
  unfold maxLen at hcm hdm
  by_cases h1 : 40 < l.length
  · rw [decide_eq_true h1] at HL
    clear h1
    go_enter Try.func7, Try.ntmps7
    go_wp2_with fail
    refine HL.out.mono ?_
    rintro e w' ⟨rfl, rfl⟩
    go_wp2_with fail
    refine (alive_any _).mono ?_
    rintro e w' ⟨rfl, hb⟩
    have Hb := Lib.hid hb
    clear hb
    go_wp2
    go_ret
    exact ⟨rfl, Hb.out⟩
  rw [decide_eq_false h1] at HL
  by_cases h2 : 40 < m.length
  · rw [decide_eq_true h2] at HM
    clear h1 h2
    go_enter Try.func7, Try.ntmps7
    go_wp2_with fail
    refine HL.out.mono ?_
    rintro e w' ⟨rfl, rfl⟩
    go_wp2_with fail
    refine HM.out.mono ?_
    rintro e w' ⟨rfl, rfl⟩
    go_wp2_with fail
    refine (alive_any _).mono ?_
    rintro e w' ⟨rfl, hb⟩
    have Hb := Lib.hid hb
    clear hb
    go_wp2
    go_ret
    exact ⟨rfl, Hb.out⟩
  rw [decide_eq_false h2] at HM
  have hl40 : l.length ≤ 40 := by omega
  have hm40 : m.length ≤ 40 := by omega
  clear h1 h2
  go_enter Try.func7, Try.ntmps7
  go_wp2_with fail
  refine HL.out.mono ?_
  rintro e w' ⟨rfl, rfl⟩
  go_wp2_with fail
  refine HM.out.mono ?_
  rintro e w' ⟨rfl, rfl⟩
  go_wp2_with (at_builtin; refine copy64 rfl (.const (.slice none 0 0)) (.tmp 17) rfl rfl _ l _ rfl rfl HR.out (by omega) ?_; intro A1 c1 w1 hown1 hb1)
  have hcc : l.length ≤ c1 := by
    obtain ⟨_, _, hv, h1, _, _⟩ := Rd.of_own hown1
    injection hv with _ _ e
    rw [e]; exact h1
  refine (turned_any _ _ l m _ (HR.out.below hb1) (HR'.out.below hb1) (by omega) (by omega)).mono ?_
  rintro e w2 ⟨G, gc, rfl, hg2, hb2⟩
  have Ho2 := Lib.hid (own_below hown1 hb2)
  have Hb2 := Lib.hid (below_then hb1 hb2)
  have Hg2 := Lib.hid (own_mono hg2 hb1.size)
  clear hown1 hb1 hg2 hb2
  have hTs := turned_sorted l m
  have hTm := fun i => @mem_turned l m i
  have hTl := turned_len l m
  have hTk := fixTo_take l m
  have hTc := turned_comm l m
  generalize hT : turned l m = T at *
  have HT := Lib.hid hT
  have Hs := Lib.hid hTs
  have Hm := Lib.hid hTm
  have Htk := Lib.hid hTk
  have Htc := Lib.hid hTc
  clear hT hTs hTm hTk hTc
  go_wp2
  go_loopw [7, 8] (fun la i wr => ∃ j : Nat, j ≤ T.length ∧ i = .int .i64 (j : Int) ∧ la = .int .i64 (lastOf T j) ∧ wr.ownsRow w.heap.size 38 1 (.slice A1 l.length c1) l.length (u64s (fixTo l m (T.take j))) ∧ Below w.heap.size w wr ∧ wr.ownsRow w.heap.size 3 1 (.slice G T.length gc) T.length (i64s (ints T))) (fun _ i _ => T.length - (intOf i).toNat)
  case atStart => exact ⟨0, Nat.zero_le _, rfl, rfl, Ho2.out, Hb2.out, Hg2.out⟩
  case round =>
    obtain ⟨j, hj, rfl, rfl, hown, hbel, hgr⟩ := hrel
    by_cases hlt : j < T.length
    · obtain ⟨hi1, hne⟩ := (Hm.out _).1 (List.getElem_mem hlt)
      have hi2 : T[j] < l.length := by omega
      have hi3 : T[j] < m.length := by omega
      have hla := lastOf_lt Hs.out hlt
      have hls := lastOf_succ T j hlt
      have htk : T.take (j + 1) = T.take j ++ [T[j]] := List.take_succ_eq_append_getElem hlt
      obtain ⟨b, o, rfl, hc⟩ := (Rd.of_own hgr).at_ (i64s_at (show j < (ints T).length by rw [ints_length]; exact hlt))
      have hce : (ints T)[j]'(by rw [ints_length]; exact hlt) = (T[j] : Nat) := by simp [ints]
      rw [hce] at hc
      have hfx : fixTo l m (T.take (j + 1)) = (fixTo l m (T.take j)).set T[j] (m.getD T[j] 0) := by rw [htk, fixTo_snoc]
      obtain ⟨bA, oA, rfl, hcA⟩ := (HR.out.below hbel).at_ (u64s_at hi2)
      obtain ⟨bB, oB, rfl, hcB⟩ := (HR'.out.below hbel).at_ (u64s_at hi3)
      have hxy : l[T[j]] ≠ m[T[j]] := by
        intro h
        apply hne
        rw [List.getD_eq_getElem?_getD, List.getD_eq_getElem?_getD, List.getElem?_eq_getElem hi2, List.getElem?_eq_getElem hi3, h]
      have hmg : m.getD T[j] 0 = m[T[j]] := by rw [List.getD_eq_getElem?_getD, List.getElem?_eq_getElem hi3]; rfl
      rw [hmg] at hfx
      obtain ⟨g, cap, hv, hg, hglt⟩ := hown.form (by omega)
      injection hv with hA1 _ hcc1
      subst hA1
      subst hcc1
      have hz := hown.cellAt T[j] (by omega)
      have hfl : T[j] < (fixTo l m (T.take j)).length := by rw [fixTo_length l m (T.take j)]; exact hi2
      obtain ⟨z, hz'⟩ : ∃ z, (u64s (fixTo l m (T.take j)))[T[j]]? = some z := ⟨_, u64s_at hfl⟩
      clear hfl
      rw [hz'] at hz
      have hf := hown.frozenAt T[j]
      have hsx : (u64s (fixTo l m (T.take j))).set T[j] (.int .u64 (m[T[j]] : Nat)) = u64s (fixTo l m (T.take (j + 1))) := by rw [hfx]; simp [u64s, List.map_set]
      clear hz' hne hmg htk hce hfx
      generalize l[T[j]] = x at *
      generalize m[T[j]] = y at *
      generalize T[j] = t at *
      generalize lastOf T j = L at *
      have hbg : ¬ b = g := by
        rcases own_ne hgr hown (by decide) with h | h
        · simp [Value.ownBlock] at h
        · intro e
          subst e
          exact h rfl
      have hbg' : ¬ g = b := fun e => hbg e.symm
      have Hsx := Lib.hid hsx
      have Hown := Lib.hid hown
      have Hgr := Lib.hid hgr
      have Hb := Lib.hid hbel
      have Hls := Lib.hid hls
      have hd : decide ((t : Int) ≤ L) = false := by simp; omega
      have hxy' : ((x : Int) == (y : Int)) = false := by simp; omega
      have hb0 : (0 : Int) ≤ (t : Int) := by omega
      have hb1 : (t : Int) < (l.length : Int) := by omega
      have hb2 : (t : Int) < (m.length : Int) := by omega
      have hb3 : (j : Int) < (T.length : Int) := by omega
      have hge1 : decide (l.length ≤ t) = false := by simp; omega
      have hge2 : decide (m.length ≤ t) = false := by simp; omega
      clear hsx hgr hls hown hbel hxy hla hi1
      go_wp2
      go_quiet (fail)
      go_wp2
      obtain ⟨W1, hW1⟩ : ∃ W, W = wr.drewN nq := ⟨_, rfl⟩
      have hc' : W1.cell? ⟨b, o + j, none⟩ = some (.int .i64 (t : Int)) := by rw [hW1]; exact hc
      have hcB' : W1.cell? ⟨bB, oB + t, none⟩ = some (.int .u64 (y : Int)) := by rw [hW1]; exact hcB
      have hz' : W1.cell? ⟨g, t, none⟩ = some z := by rw [hW1]; exact hz
      have Hown' : Hid (W1.ownsRow w.heap.size 38 1 (.slice (some ⟨g, 0, none⟩) l.length c1) l.length (u64s (fixTo l m (T.take j)))) := Lib.hid (by rw [hW1]; exact Hown.out)
      have hf' := Hown'.out.frozenAt t
      have Hgr' : Hid (W1.ownsRow w.heap.size 3 1 (.slice (some ⟨b, o, none⟩) T.length gc) T.length (i64s (ints T))) := Lib.hid (by rw [hW1]; exact Hgr.out)
      have Hb' : Hid (Below w.heap.size w W1) := Lib.hid (by rw [hW1]; exact below_drewN Hb.out nq)
      rw [← hW1]
      clear hW1 hc hcB hcA hz hf Hown Hgr Hb
      go_still_tail 13, (by kernel_rfl)
      go_wp2
      go_roundw
      case rel => 
        have hst := Hown'.out.stored t (.int .u64 (y : Nat))
        rw [Hsx.out] at hst
        have hg3 := own_grown Hgr'.out Hown'.out (by decide) hst.2
        exact ⟨j + 1, by omega, by go_num, by rw [Hls.out], hst.1, Hb'.out.drew.setCell hg _, hg3⟩
      case measure => simp [intOf]; omega
    · obtain rfl : j = T.length := by omega
      rw [List.take_length] at hown
      obtain ⟨n, hn⟩ : ∃ n, n = min l.length m.length := ⟨_, rfl⟩
      have hleast : least2 (l.length : Int) (m.length : Int) = (n : Int) := least2_nat _ _ n hn
      have hnl : n ≤ l.length := by omega
      have hnm : n ≤ m.length := by omega
      have Hk := Htk
      rw [← hn] at Hk
      have hmn : (m.take n).length = n := by rw [List.length_take]; omega
      have r1 : Rd wr (.slice A1 n c1) n (u64s (m.take n)) := by
        have := (Rd.of_own hown).first (m := n) hnl
        rwa [Hk.out] at this
      have r2 : Rd wr (.slice B n d) n (u64s (m.take n)) := (HR'.out.below hbel).first hnm
      have CS := Lib.hid (fun W (hW : Below wr.heap.size wr W) => same_yes (.slice A1 n c1) (.slice B n d) (m.take n) n hmn W (r1.below hW) (r2.below hW))
      have CT := Lib.hid (fun W (hW : Below wr.heap.size wr W) => turned_any (.slice B m.length d) (.slice A l.length c) m l W (HR'.out.below (below_then hbel hW)) (HR.out.below (below_then hbel hW)) (by omega) (by omega))
      have CU := Lib.hid (fun W (hW : Below wr.heap.size wr W) => turned_any (.slice A l.length c) (.slice A l.length c) l l W (HR.out.below (below_then hbel hW)) (HR.out.below (below_then hbel hW)) (by omega) (by omega))
      rw [Htc.out] at CT
      rw [turned_self] at CU
      have sl0 := slice_to A1 l.length c1 n (by omega)
      have sl1 := slice_to B m.length d n (by omega)
      have Hb := Lib.hid hbel
      have hTT : ((T.length : Int) == (T.length : Int)) = true := by simp
      clear hown hgr hbel r1 r2 hmn hn hlt hj
      go_wp2
      go_region_held3 (fun w' => Below wr.heap.size wr w')
        (first | assumption | exact (Below.refl _ _).drew | (refine below_then ?_ hbN <;> assumption))
        (first
          | (go_at_call 15; (with_reducible refine (CS.out _ (by assumption)).mono ?_); rintro e w2 ⟨rfl, hbN⟩)
          | (go_at_call 16; (with_reducible refine (CU.out _ (by assumption)).mono ?_); rintro e w2 ⟨A3, c3, rfl, _, hbN⟩)
          | (go_at_call 16; (with_reducible refine (CT.out _ (by assumption)).mono ?_); rintro e w2 ⟨A3, c3, rfl, _, hbN⟩)
          | (go_at_call 9; refine (alive_any _).mono ?_; rintro e w2 ⟨rfl, hbN⟩))
      have hfin := below_then Hb.out (by assumption)
      go_wp2
      go_ret
      exact ⟨rfl, hfin⟩
end Go.Proofs.Yteojodddfanepaa
