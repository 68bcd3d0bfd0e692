/- The walk of the law MediaFenced. -/
import Derived.Test.YtdkcghicobakhaaMediaTwo
namespace Go.Proofs.Ytdkcghicobakhaa
open Go.RowKit
set_option linter.unusedVariables false

/-- the stores of the first k lines are flushed -/
def markTo (k : Nat) (L : List Pd) : List Pd := L.map fun x => x.mark (x.f || decide (x.p / 8 < k))
theorem markTo_zero (L : List Pd) : markTo 0 L = L := by
  refine (List.map_congr_left ?_).trans (List.map_id L)
  rintro ⟨p, w, f⟩ _
  simp [Pd.mark]
theorem markTo_succ (k : Nat) (L : List Pd) : (markTo k L).map (flushes (k : Int)) = markTo (k + 1) L := by
  unfold markTo
  rw [List.map_map]
  apply List.map_congr_left
  rintro ⟨p, w, f⟩ _
  simp only [Function.comp, flushes, Pd.mark, Pd.mk.injEq, true_and, Bool.or_assoc]
  congr 1
  rw [Bool.eq_iff_iff]
  simp only [Bool.or_eq_true, decide_eq_true_eq, beq_iff_eq]
  omega
theorem markTo_length (k : Nat) (L : List Pd) : (markTo k L).length = L.length := by simp [markTo]
theorem markTo_now (k : Nat) : ∀ (L : List Pd) (K : List Nat), apP K (markTo k L) = apP K L := by
  intro L
  induction L with
  | nil => intro K; rfl
  | cons x L ih => intro K; unfold markTo at ih ⊢; rw [List.map_cons, apP_cons, apP_cons, ih]; rfl
theorem takes_flagged : ∀ (L : List Pd) (i : Nat), (∀ x ∈ L, x.f = true) → takes isF i L = L ∧ rests isF i L = [] := by
  intro L
  induction L with
  | nil => intro i _; exact ⟨rfl, rfl⟩
  | cons x L ih =>
    intro i h
    have hx : isF i x = true := h x (by simp)
    obtain ⟨h1, h2⟩ := ih (i + 1) (fun y hy => h y (by simp [hy]))
    simp only [takes, rests]
    rw [if_pos hx, if_pos hx, h1, h2]
    exact ⟨rfl, rfl⟩
theorem markTo_all {m : Nat} {L : List Pd} (h : ∀ x ∈ L, OkP (8 * m) x) : ∀ x ∈ markTo m L, x.f = true := by
  intro y hy
  obtain ⟨x, hx, rfl⟩ := List.mem_map.1 hy
  have := (h x hx).1
  simp only [Pd.mark, Bool.or_eq_true, decide_eq_true_eq]
  right
  omega
/-- no store that waits is of the word a -/
def Away (a : Nat) (L : List Pd) : Prop := ∀ x ∈ L, x.p ≠ a
theorem word_away {m : Nat} {a : Nat} {K : List Nat} {L T : List Pd} (hi : Inv m K L) (h : Away a L) (hs : ∀ x ∈ T, x ∈ L) : wd (apP K T) a = wd K a := by
  rcases crash_word a T K (fun x hx => by rw [hi.len]; exact (hi.ok x (hs x hx)).1) with h1 | ⟨x, hx, h1, _⟩
  · exact h1
  · exact (h x (hs x hx) h1).elim
theorem stepP_away {m : Nat} {a : Nat} {s : Stp} {K : List Nat} {L : List Pd} (hi : Inv m K L) (h : Away a L) (hs : ¬ (s.d = 0 ∧ s.a = a)) :
    wd (stepP m s K L).1 a = wd K a ∧ Away a (stepP m s K L).2 := by
  unfold stepP
  by_cases h0 : s.d = 0
  · rw [if_pos h0]
    by_cases hv : valid m s.a
    · rw [if_pos hv]
      refine ⟨rfl, fun x hx => ?_⟩
      rcases List.mem_append.1 hx with hx | hx
      · exact h x hx
      · rw [List.mem_singleton.1 hx]
        have := hv.1
        show s.a.toNat ≠ a
        intro hh
        exact hs ⟨h0, by omega⟩
    · rw [if_neg hv]; exact ⟨rfl, h⟩
  · rw [if_neg h0]
    by_cases h1 : s.d = 1
    · rw [if_pos h1]
      by_cases hv : lined m s.a
      · rw [if_pos hv]
        refine ⟨rfl, fun x hx => ?_⟩
        obtain ⟨y, hy, rfl⟩ := List.mem_map.1 hx
        exact h y hy
      · rw [if_neg hv]; exact ⟨rfl, h⟩
    · rw [if_neg h1]
      by_cases h2 : s.d = 2
      · rw [if_pos h2]
        exact ⟨word_away hi h (fun x hx => takes_mem _ _ _ _ hx), fun x hx => h x (rests_mem _ _ _ _ hx)⟩
      · rw [if_neg h2]
        by_cases h3 : s.d = 3
        · rw [if_pos h3]
          exact ⟨word_away hi h (fun x hx => takes_mem _ _ _ _ hx), fun x hx => by simp at hx⟩
        · rw [if_neg h3]; exact ⟨rfl, h⟩
/-- one device behind world W -/
def OneD (W w : World) (g m : Nat) (K : List Nat) (L : List Pd) : Prop := ∃ S, At w g S m K L ∧ (∀ b, S b → W.heap.size ≤ b) ∧ Below W.heap.size W w
theorem one_goes {W w w' : World} {g m : Nat} {S : Nat → Prop} {K K' : List Nat} {L L' : List Pd} (h : At w g S m K L) (h4 : ∀ b, S b → W.heap.size ≤ b) (h6 : Below W.heap.size W w) (hg : GoAt w w' g S m K' L') : OneD W w' g m K' L' := by
  obtain ⟨S', hd, ht, hs⟩ := hg
  exact ⟨S', hd, fun b hb => (hs b hb).elim (h4 b) (fun h => Nat.le_trans h6.size h), h6.trans (ht.below h6.size h4)⟩
theorem own_away {T : Nat → Prop} {w w' : World} {base : Nat} {e : TypeId} {size n : Nat} {v : Value} {xs : List Value} (h : w.ownsRow base e size v n xs) (ht : Touch T w w') (hb : ∀ b, T b → v.ownBlock ≠ some b) : w'.ownsRow base e size v n xs := by
  refine ⟨h.1, ?_⟩
  rcases h.2 with h2 | ⟨g, cap, cur, hv, hg, hh, r⟩
  · exact .inl h2
  · exact .inr ⟨g, cap, cur, hv, hg, (ht.block g (Array.getElem?_eq_some_iff.1 hh).1 (fun h3 => hb g h3 (by rw [hv]; rfl))).trans hh, r⟩
/-- a device and a row beside it -/
def OneR (W w : World) (g m : Nat) (K : List Nat) (L : List Pd) (v : Value) (base n : Nat) (xs : List Value) : Prop :=
  ∃ S, At w g S m K L ∧ (∀ b, S b → W.heap.size ≤ b) ∧ Below W.heap.size W w ∧ w.ownsRow base 32 1 v n xs ∧ ∀ b, S b → v.ownBlock ≠ some b
theorem oneR_goes {W w w' : World} {g m : Nat} {S : Nat → Prop} {K K' : List Nat} {L L' : List Pd} {v : Value} {base n : Nat} {xs : List Value} (h : At w g S m K L) (h4 : ∀ b, S b → W.heap.size ≤ b) (h6 : Below W.heap.size W w) (ho : w.ownsRow base 32 1 v n xs) (hv : ∀ b, S b → v.ownBlock ≠ some b) (hg : GoAt w w' g S m K' L') : OneR W w' g m K' L' v base n xs := by
  obtain ⟨S', hd, ht, hs⟩ := hg
  refine ⟨S', hd, fun b hb => (hs b hb).elim (h4 b) (fun h => Nat.le_trans h6.size h), h6.trans (ht.below h6.size h4), own_away ho ht hv, fun b hb => (hs b hb).elim (hv b) (fun h hh => ?_)⟩
  have := (ho.lt b hh).1
  have := (ho.lt b hh).2
  omega

set_option maxRecDepth 100000 in
set_option maxHeartbeats 16000000 in
theorem mediaFenced_walk (w : World) (n0 : Nat) (hn0 : n0 < 256) (v : Value) (l : List Stp) (hl : ∀ s ∈ l, OkS w s) (hr : Rd w v l.length (scells l)) (at0 : Nat) (hat : at0 < 256) (v' : Value) (l' : List Stp) (hl' : ∀ s ∈ l', OkS w s) (hr' : Rd w v' l'.length (scells l')) (vk : Value) (keep : List Bool) (hk : Rd w vk keep.length (bools keep)) :
    Calls Try.prog 6 #[.int .u8 n0, v, .int .u8 at0, v', vk] w fun e w' => e = .returned (.bool true) ∧ Below w.heap.size w w' := by
  have HH := Lib.hid (heavy_any v l w hr hl)
  have HH' := Lib.hid (heavy_any v' l' w hr' hl')
  have HL := Lib.hid hr
  have HO := Lib.hid hl
  have HL' := Lib.hid hr'
  have HO' := Lib.hid hl'
  have HKp := Lib.hid hk
  obtain ⟨A, c, rfl, h1, h2, _⟩ := hr
  obtain ⟨A', c', rfl, h1', h2', _⟩ := hr'
  obtain ⟨Ak, ck, rfl, k1, k2, _⟩ := hk
  unfold maxLen at h2 h2' k2
  clear hl hl'
  obtain ⟨m, hm⟩ : ∃ m, m = n0 % 30 + 1 := ⟨_, rfl⟩
  have hm1 : 1 ≤ m := by omega
  have hm2 : m ≤ 30 := by omega
  have hmi : (n0 : Int) % 30 + 1 = (m : Int) := by omega
  have HM := Lib.hid hmi
  clear hm hmi
  obtain ⟨own, hown⟩ : ∃ own, own = at0 % (8 * m) := ⟨_, rfl⟩
  have ho1 : own < 8 * m := by rw [hown]; exact Nat.mod_lt _ (by omega)
  have hoi : (at0 : Int) % (8 * (m : Int)) = (own : Int) := by rw [hown]; simp
  have HOi := Lib.hid hoi
  clear hown hoi
  have HN := Lib.hid (fun W => New_at m W hm1 (by omega))
  obtain ⟨i0, hi0, hz0, hz1, hz2⟩ := info_parts infoB
  go_enter Try.func6, Try.ntmps6
  go_wp2_with fail
  refine HH.out.mono ?_
  rintro e w' ⟨b, hb, rfl, rfl⟩
  cases b with
  | true =>
    clear hb
    go_wp2_with fail
    refine (alive_any _).mono ?_
    rintro e w' ⟨rfl, hb⟩
    have Hb := Lib.hid hb
    clear hb
    go_wp2
    go_ret
    exact ⟨rfl, Hb.out⟩
  | false =>
  obtain ⟨hl1, hks⟩ := hb rfl
  have HKs := Lib.hid hks
  clear hb hks
  go_wp2_with fail
  refine HH'.out.mono ?_
  rintro e w' ⟨b, hb, rfl, rfl⟩
  cases b with
  | true =>
    clear hb
    go_wp2_with fail
    refine (alive_any _).mono ?_
    rintro e w' ⟨rfl, hb⟩
    have Hb := Lib.hid hb
    clear hb
    go_wp2
    go_ret
    exact ⟨rfl, Hb.out⟩
  | false =>
  obtain ⟨hl1', hks'⟩ := hb rfl
  have HKs' := Lib.hid hks'
  clear hb hks'
  by_cases hbig : 400 < keep.length
  · have hd : decide ((400 : Int) < (keep.length : Int)) = true := by simp; omega
    go_wp2_with fail
    refine (alive_any _).mono ?_
    rintro e w' ⟨rfl, hb⟩
    have Hb := Lib.hid hb
    clear hb
    go_wp2
    go_ret
    exact ⟨rfl, Hb.out⟩
  have hd : decide ((400 : Int) < (keep.length : Int)) = false := by simp; omega
  have hkl : keep.length ≤ 400 := by omega
  go_wp2_with fail
  rw [HM.out]
  refine (HN.out _).mono ?_
  rintro e w1 ⟨gd, rfl, S1, h1', hb1, hs1⟩
  have H1 := Lib.hid (show OneD w w1 gd m (List.replicate (8 * m) 0) [] from ⟨S1, h1', hs1, hb1⟩)
  clear h1' hb1 hs1
  go_wp2
  go_loopw [14] (fun i wr => ∃ j : Nat, j ≤ l.length ∧ i = .int .i64 j ∧ OneD w wr gd m (runP m (l.take j) (List.replicate (8 * m) 0, [])).1 (runP m (l.take j) (List.replicate (8 * m) 0, [])).2) (fun i _ => l.length - (intOf i).toNat)
  case atStart => exact ⟨0, by omega, rfl, H1.out⟩
  case round =>
    obtain ⟨j, hj, rfl, htw⟩ := hrel
    clear H1
    have hlen := runP_len m l (List.replicate (8 * m) 0, []) j hj
    by_cases hlt : j < l.length
    · have hrt := runP_take m l (List.replicate (8 * m) 0, []) j hlt
      have hso := HO.out _ (List.getElem_mem hlt)
      have hsk := HKs.out _ (List.getElem_mem hlt)
      obtain ⟨b, o, rfl, hq⟩ := step_cells HL.out hlt
      generalize runP m (l.take j) (List.replicate (8 * m) 0, []) = x at *
      obtain ⟨K, L⟩ := x
      dsimp only [List.length_nil] at hlen hrt htw
      have Hrt := Lib.hid hrt
      clear hrt
      obtain ⟨S, t1, t4, t6⟩ := htw
      generalize l[j] = s at *
      obtain ⟨d, a, x, kv, kp⟩ := s
      dsimp only at hq hsk
      have hlt' : (j : Int) < (l.length : Int) := by omega
      have HSo := Lib.hid (fun (W : World) (hb : Below w.heap.size w W) => (show OkS W ⟨d, a, x, kv, kp⟩ from ⟨hso.1, hso.2.1, hso.2.2.1, hso.2.2.2.below hb⟩))
      obtain ⟨Akv, ckv, hkv, _, _, _⟩ := hso.2.2.2
      dsimp only at hkv
      subst hkv
      have HDo := Lib.hid (fun (W : World) g S (h : At W g S m K L) (hb : Below w.heap.size w W) => does_any W g S m K L h hm1 (by omega) (by omega) ⟨d, a, x, .slice Akv kp.length ckv, kp⟩ (HSo.out W hb) (by show kp.length ≤ 65536; omega))
      have H1 := Lib.hid t1
      have H4 := Lib.hid t4
      have H6 := Lib.hid t6
      obtain ⟨q0, q1, q2, q3⟩ := hq wr t6
      clear hso hq t1 t4 t6
      go_wp2_with fail
      refine (HDo.out _ _ _ H1.out H6.out).mono ?_
      rintro e w3 ⟨rfl, hg3⟩
      have Hg3 := Lib.hid (one_goes H1.out H4.out H6.out hg3)
      clear hg3 q0 q1 q2 q3
      go_wp2
      go_roundw
      case rel => exact ⟨j + 1, by omega, by go_num, by rw [Hrt.out]; exact Hg3.out⟩
      case measure => simp [intOf]; omega
    · obtain rfl : j = l.length := by omega
      rw [List.take_length] at htw hlen
      generalize runP m l (List.replicate (8 * m) 0, []) = x at *
      obtain ⟨K, L⟩ := x
      dsimp only [List.length_nil] at hlen htw
      have hL : L.length ≤ 150 := by omega
      obtain ⟨S, t1, t4, t6⟩ := htw
      have H1 := Lib.hid t1
      have H4 := Lib.hid t4
      have H6 := Lib.hid t6
      clear t1 t4 t6 hlen hj
      go_wp2_with fail
      rw [HOi.out]
      refine (Load_at H1.out (by omega) own ho1).mono ?_
      rintro e w3 ⟨rfl, rfl⟩
      obtain ⟨cw, hcw⟩ : ∃ cw, cw = wd (apP K L) own := ⟨_, rfl⟩
      rw [← hcw]
      have Hcw := Lib.hid hcw
      clear hcw
      go_wp2_with fail
      refine (Words_at H1.out (by omega)).mono ?_
      rintro e w4 ⟨A4, c4, rfl, ho4, hb4⟩
      have H4' := Lib.hid (show OneR w w4 gd m K (markTo 0 L) (.slice A4 (8 * m) c4) wr.heap.size (8 * m) (u64s (apP K L)) from
        ⟨S, by rw [markTo_zero]; exact H1.out.below hb4, H4.out, below_then H6.out hb4, ho4, fun b hb hh => by have := H1.out.lt b hb; have := (ho4.lt b hh).1; omega⟩)
      clear ho4 hb4
      go_wp2
      go_loopw [19] (fun i wr' => ∃ k : Nat, k ≤ m ∧ i = .int .i64 k ∧ OneR w wr' gd m K (markTo k L) (.slice A4 (8 * m) c4) wr.heap.size (8 * m) (u64s (apP K L))) (fun i _ => m - (intOf i).toNat)
      case atStart => exact ⟨0, by omega, rfl, H4'.out⟩
      case round =>
        obtain ⟨k, hk, rfl, htw⟩ := hrel
        clear H4'
        obtain ⟨S2, t1, t4, t6, t7, t8⟩ := htw
        have hml := markTo_length k L
        by_cases hlt : k < m
        · have hlt' : (k : Int) < (m : Int) := by omega
          have H1 := Lib.hid t1
          have H4 := Lib.hid t4
          have H6 := Lib.hid t6
          have H7 := Lib.hid t7
          have H8 := Lib.hid t8
          clear t1 t4 t6 t7 t8
          go_wp2_with fail
          refine (Flush_at H1.out (by omega) (by omega) (k : Int) ⟨by omega, hlt'⟩).mono ?_
          rintro e w5 ⟨rfl, hg5⟩
          rw [markTo_succ] at hg5
          have Hg5 := Lib.hid (oneR_goes H1.out H4.out H6.out H7.out H8.out hg5)
          clear hg5
          go_wp2
          go_roundw
          case rel => exact ⟨k + 1, by omega, by go_num, Hg5.out⟩
          case measure => simp [intOf]; omega
        · obtain rfl : k = m := by omega
          have hlt' : ¬ (k : Int) < (k : Int) := by omega
          obtain ⟨f1, f2⟩ := takes_flagged (markTo k L) 0 (markTo_all (by
            intro x hx
            have := H1.out.2.ok
            exact this x hx))
          have hF := Fence_at t1 (by omega) (by omega)
          rw [f1, f2, markTo_now] at hF
          have HF := Lib.hid hF
          have T1 := Lib.hid t1
          have T4 := Lib.hid t4
          have T6 := Lib.hid t6
          have T7 := Lib.hid t7
          have T8 := Lib.hid t8
          clear t1 t4 t6 t7 t8 f1 f2 hF hlt hk
          go_wp2_with fail
          refine HF.out.mono ?_
          rintro e w6 ⟨rfl, hg6⟩
          obtain ⟨S6, a6, d6, e6, o6, g6⟩ := oneR_goes T1.out T4.out T6.out T7.out T8.out hg6
          have A6 := Lib.hid a6
          have D6 := Lib.hid d6
          have E6 := Lib.hid e6
          have O6 := Lib.hid o6
          clear hg6 a6 d6 e6 o6 g6
          go_wp2_with fail
          refine (Pending_at A6.out (by simp)).mono ?_
          rintro e w7 ⟨A7, c7, rfl, ho7, hb7⟩
          have A7' := Lib.hid (A6.out.below hb7)
          have E7 := Lib.hid (below_then E6.out hb7)
          have O7 := Lib.hid (own_below O6.out hb7)
          clear ho7 hb7
          go_wp2_with fail
          refine (Kept_at A7'.out (by omega)).mono ?_
          rintro e w8 ⟨A8, c8, rfl, ho8, hb8⟩
          have A8' := Lib.hid (A7'.out.below hb8)
          have E8 := Lib.hid (below_then E7.out hb8)
          have O8 := Lib.hid (Rd.of_own (own_below O7.out hb8))
          have R8 := Lib.hid (Rd.of_own ho8)
          clear ho8 hb8
          go_wp2_with fail
          refine (sameW_yes _ _ (apP K L) _ H1.out.nlen _ R8.out O8.out).mono ?_
          rintro e w9 ⟨rfl, hb9⟩
          have hi9 := (A8'.out.below hb9).2
          have H9 := Lib.hid (show OneD w w9 gd k (apP K L) [] from ⟨S6, A8'.out.below hb9, D6.out, below_then E8.out hb9⟩)
          clear hb9 hi9
          go_wp2
          go_loopw [20] (fun i wr' => ∃ (j : Nat) (K' : List Nat) (L' : List Pd), j ≤ l'.length ∧ i = .int .i64 j ∧ OneD w wr' gd k K' L' ∧ L'.length ≤ j ∧ wd K' own = cw ∧ Away own L') (fun i _ => l'.length - (intOf i).toNat)
          case atStart => exact ⟨0, _, _, by omega, rfl, H9.out, by simp, Hcw.out.symm, fun x hx => by simp at hx⟩
          case round =>
            obtain ⟨j, K', L', hj, rfl, htw, hLl, hwd, haw⟩ := hrel
            clear H9
            obtain ⟨S3, t1, t4, t6⟩ := htw
            by_cases hlt : j < l'.length
            · have hso := HO'.out _ (List.getElem_mem hlt)
              have hsk := HKs'.out _ (List.getElem_mem hlt)
              obtain ⟨b, o, rfl, hq⟩ := step_cells HL'.out hlt
              generalize l'[j] = s at *
              obtain ⟨d, a, x, kv, kp⟩ := s
              dsimp only at hq hsk
              have hlt' : (j : Int) < (l'.length : Int) := by omega
              have HSo := Lib.hid (fun (W : World) (hb : Below w.heap.size w W) => (show OkS W ⟨d, a, x, kv, kp⟩ from ⟨hso.1, hso.2.1, hso.2.2.1, hso.2.2.2.below hb⟩))
              obtain ⟨Akv, ckv, hkv, _, _, _⟩ := hso.2.2.2
              dsimp only at hkv
              subst hkv
              have HDo := Lib.hid (fun (W : World) g S (h : At W g S k K' L') (hb : Below w.heap.size w W) => does_any W g S k K' L' h hm1 (by omega) (by omega) ⟨d, a, x, .slice Akv kp.length ckv, kp⟩ (HSo.out W hb) (by show kp.length ≤ 65536; omega))
              have HI := Lib.hid t1.2
              have H1 := Lib.hid t1
              have H4 := Lib.hid t4
              have H6 := Lib.hid t6
              have HQ := Lib.hid hq
              have Hwd := Lib.hid hwd
              have Haw := Lib.hid haw
              obtain ⟨q0, q1, q2, q3⟩ := hq _ t6
              clear hso hq t1 t4 t6 hwd haw
              by_cases h0 : d = 0 ∧ a = own
              · obtain ⟨rfl, rfl⟩ := h0
                go_wp2
                go_roundw
                case rel => exact ⟨j + 1, K', L', by omega, by go_num, ⟨S3, H1.out, H4.out, H6.out⟩, by omega, Hwd.out, Haw.out⟩
                case measure => simp [intOf]; omega
              · have hst := stepP_away (s := ⟨d, a, x, .slice Akv kp.length ckv, kp⟩) HI.out Haw.out h0
                rw [Hwd.out] at hst
                have hsl := stepP_len k ⟨d, a, x, .slice Akv kp.length ckv, kp⟩ K' L'
                have Hst := Lib.hid hst
                have Hsl := Lib.hid hsl
                clear hst hsl
                by_cases h00 : d = 0
                · subst h00
                  have ha : (a == (own : Int)) = false := by
                    rw [beq_eq_false_iff_ne]
                    exact fun hh => h0 ⟨rfl, hh⟩
                  clear h0
                  go_wp2_with fail
                  refine (HDo.out _ _ _ H1.out H6.out).mono ?_
                  rintro e w3 ⟨rfl, hg3⟩
                  have Hg3 := Lib.hid (one_goes H1.out H4.out H6.out hg3)
                  clear hg3 q0 q1 q2 q3
                  go_wp2
                  go_roundw
                  case rel => exact ⟨j + 1, _, _, by omega, by go_num, Hg3.out, by have := Hsl.out; omega, Hst.out.1, Hst.out.2⟩
                  case measure => simp [intOf]; omega
                · have hd : (d == 0) = false := by rw [beq_eq_false_iff_ne]; exact h00
                  clear h0
                  go_wp2_with fail
                  refine (HDo.out _ _ _ H1.out H6.out).mono ?_
                  rintro e w3 ⟨rfl, hg3⟩
                  have Hg3 := Lib.hid (one_goes H1.out H4.out H6.out hg3)
                  clear hg3 q0 q1 q2 q3
                  go_wp2
                  go_roundw
                  case rel => exact ⟨j + 1, _, _, by omega, by go_num, Hg3.out, by have := Hsl.out; omega, Hst.out.1, Hst.out.2⟩
                  case measure => simp [intOf]; omega
            · obtain rfl : j = l'.length := by omega
              have H1 := Lib.hid t1
              have H4 := Lib.hid t4
              have H6 := Lib.hid t6
              have hww := (word_away t1.2 haw (T := takes (isK keep) 0 L') (fun x hx => takes_mem _ _ _ _ hx)).trans hwd
              have Hww := Lib.hid hww
              clear t1 t4 t6 hww hwd haw
              go_wp2_with (at_builtin; refine wpList_copy_rd rfl (.const (.slice none 0 0)) (.tmp 132) _ rfl 4 i0 _ 1 1 Try.underlying33 hi0 hz0 hz1 hz2 rfl (by decide) rfl (.slice Ak keep.length ck) keep.length (bools keep) rfl (HKp.out.below H6.out) (by rw [bools_length, Nat.mul_one]) (bools_one keep) (by unfold maxLen; omega) (by omega) ?_; intro A6 c6 w6 hown6 hb6; have Hown6 := Lib.hid hown6; have Hb6 := Lib.hid hb6; clear hown6 hb6)
              refine (Crash_at (H1.out.below Hb6.out) hm1 (by omega) (by omega) _ keep (Rd.of_own Hown6.out) ?_ (by omega)).mono ?_
              · intro b o cc hv hS
                injection hv with hv _ _
                have h3 := H1.out.lt b hS
                have h4 := (Hown6.out.lt b (by rw [hv]; rfl)).1
                omega
              rintro e w7 ⟨rfl, hg7⟩
              obtain ⟨S7, a7, d7, e7⟩ := one_goes (H1.out.below Hb6.out) H4.out (below_then H6.out Hb6.out) hg7
              have A7 := Lib.hid a7
              have E7 := Lib.hid e7
              clear hg7 a7 d7 e7
              have hL7 := Load_at A7.out (by omega) own ho1
              rw [apP_nil, Hww.out] at hL7
              have HL7 := Lib.hid hL7
              clear hL7
              go_wp2_with fail
              refine HL7.out.mono ?_
              rintro e w8 ⟨rfl, rfl⟩
              go_wp2_with fail
              refine (alive_any _).mono ?_
              rintro e w9 ⟨rfl, hb9⟩
              have B9 := Lib.hid (below_then E7.out hb9)
              clear hb9
              go_wp2
              go_ret
              exact ⟨rfl, B9.out⟩
end Go.Proofs.Ytdkcghicobakhaa
