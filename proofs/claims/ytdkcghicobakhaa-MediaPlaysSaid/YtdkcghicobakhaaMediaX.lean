/- Chapter 3's law: Heavy, does. -/
import Derived.Test.YtdkcghicobakhaaMediaAlive
import Derived.Test.YtdkcghicobakhaaMediaArg
namespace Go.Proofs.Ytdkcghicobakhaa
open Go.RowKit
set_option linter.unusedVariables false

theorem infoB : (Try.prog.info? 4).map (fun i => (i.zero, i.size, i.bytes)) = some (some (.bool false), 1, 1) := by kernel_rfl
theorem bools_length (l : List Bool) : (bools l).length = l.length := by simp [bools]
theorem bools_one (l : List Bool) : ∀ u ∈ bools l, u.oneCell' = true := by
  intro u hu
  obtain ⟨_, _, rfl⟩ := List.mem_map.1 hu
  rfl
/-- what a script's step makes of a device -/
def valid (m : Nat) (a : Int) : Prop := 0 ≤ a ∧ a < 8 * (m : Int)
def lined (m : Nat) (a : Int) : Prop := 0 ≤ a ∧ a < (m : Int)
instance (m : Nat) (a : Int) : Decidable (valid m a) := by unfold valid; infer_instance
instance (m : Nat) (a : Int) : Decidable (lined m a) := by unfold lined; infer_instance
def stepP (m : Nat) (s : Stp) (K : List Nat) (L : List Pd) : List Nat × List Pd :=
  if s.d = 0 then (if valid m s.a then (K, L ++ [⟨s.a.toNat, s.w, false⟩]) else (K, L))
  else if s.d = 1 then (if lined m s.a then (K, L.map (flushes s.a)) else (K, L))
  else if s.d = 2 then (apP K (takes isF 0 L), rests isF 0 L)
  else if s.d = 3 then (apP K (takes (isK s.keep) 0 L), [])
  else (K, L)
theorem stepP_len (m : Nat) (s : Stp) (K : List Nat) (L : List Pd) : (stepP m s K L).2.length ≤ L.length + 1 := by
  unfold stepP
  have hr := rests_le isF L 0
  repeat' split
  all_goals simp <;> omega
theorem stepP_inv {m : Nat} {s : Stp} {K : List Nat} {L : List Pd} (h : Inv m K L) (hs : s.w < 18446744073709551616) : Inv m (stepP m s K L).1 (stepP m s K L).2 := by
  unfold stepP
  by_cases h0 : s.d = 0
  · rw [if_pos h0]
    by_cases hv : valid m s.a
    · rw [if_pos hv]
      exact h.store _ _ (by have := hv.1; have := hv.2; omega) hs
    · rw [if_neg hv]; exact h
  · rw [if_neg h0]
    by_cases h1 : s.d = 1
    · rw [if_pos h1]
      by_cases hv : lined m s.a
      · rw [if_pos hv]; exact h.flush _
      · rw [if_neg hv]; exact h
    · rw [if_neg h1]
      by_cases h2 : s.d = 2
      · rw [if_pos h2]; exact h.fence
      · rw [if_neg h2]
        by_cases h3 : s.d = 3
        · rw [if_pos h3]; exact h.crash _
        · rw [if_neg h3]; exact h
/-- of a whole script -/
def runP (m : Nat) (l : List Stp) (x : List Nat × List Pd) : List Nat × List Pd := l.foldl (fun x s => stepP m s x.1 x.2) x
theorem runP_take (m : Nat) (l : List Stp) (x : List Nat × List Pd) (j : Nat) (h : j < l.length) : runP m (l.take (j + 1)) x = stepP m l[j] (runP m (l.take j) x).1 (runP m (l.take j) x).2 := by
  unfold runP
  rw [List.take_succ_eq_append_getElem h, List.foldl_append]
  rfl

/-- what Heavy answers -/
def HeavyOut (w : World) (l : List Stp) (e : Ending) (w' : World) : Prop := ∃ b : Bool, (b = false → l.length ≤ 150 ∧ ∀ s ∈ l, s.keep.length ≤ 1000) ∧ e = .returned (.bool b) ∧ w = w'
set_option maxRecDepth 100000 in
set_option maxHeartbeats 4000000 in
theorem heavy_any (v : Value) (l : List Stp) (w : World) (hr : Rd w v l.length (scells l)) (hs : ∀ s ∈ l, OkS w s) :
    Calls Try.prog 8 #[v] w (HeavyOut w l) := by
  have HR := Lib.hid hr
  have HS := Lib.hid hs
  obtain ⟨A, c, rfl, h1, h2, h3⟩ := hr
  unfold maxLen at h2
  clear h3 hs
  go_enter Try.func8, Try.ntmps8
  go_wp2
  go_loop [3, 4] (fun n i => ∃ (j : Nat) (z : Int), j ≤ l.length ∧ j ≤ 200 ∧ i = .int .i64 j ∧ n = .int .i64 z ∧ (0 ≤ z ∧ z ≤ 1000 * j) ∧ (∀ k (hk : k < l.length), k < j → l[k].keep.length ≤ 1000)) (fun _ i => 200 - (intOf i).toNat)
  case atStart => exact ⟨0, 0, by omega, by omega, rfl, rfl, by omega, fun k hk h => by omega⟩
  case round =>
    obtain ⟨j, z, hj, hj2, rfl, rfl, hz, hk⟩ := hrel
    obtain ⟨hz1, hz2⟩ := hz
    have HK := Lib.hid hk
    clear hk
    by_cases hlt : j < l.length ∧ j < 200
    · obtain ⟨hlt, hlt2⟩ := hlt
      obtain ⟨p0, p1, p2, p3⟩ := scells_at l j hlt
      obtain ⟨b, o, rfl, q3⟩ := HR.out.at_ p3
      rw [← Nat.add_assoc] at q3
      obtain ⟨_, _, _, hkr⟩ := HS.out _ (List.getElem_mem hlt)
      obtain ⟨A2, c2, hkv, k1, k2, _⟩ := hkr
      rw [hkv] at q3
      unfold maxLen at k2
      have hd1 : (j : Int) < (l.length : Int) := by omega
      have hd2 : (j : Int) < 200 := by omega
      generalize hkl : l[j].keep.length = n at *
      have Hkl := Lib.hid hkl
      clear hkl hkv p0 p1 p2 p3
      by_cases hbig : 1000 < n
      · have hd3 : decide ((1000 : Int) < (n : Int)) = true := by simp; omega
        go_wp2
        go_ret
        exact ⟨true, by simp, rfl, rfl⟩
      · have hd3 : decide ((1000 : Int) < (n : Int)) = false := by simp; omega
        have hn : n ≤ 1000 := by omega
        go_wp2
        go_round
        case rel =>
          refine ⟨j + 1, z + n, by omega, by omega, by go_num, rfl, by omega, fun k hk h => ?_⟩
          rcases Nat.lt_or_ge k j with h1 | h1
          · exact HK.out k hk h1
          · obtain rfl : k = j := by omega
            rw [Hkl.out]; exact hn
        case measure => simp [intOf]; omega
    · have hfin : l.length ≤ 150 → ∀ s ∈ l, s.keep.length ≤ 1000 := fun hle s hs => by
        obtain ⟨k, hk, rfl⟩ := List.mem_iff_getElem.1 hs
        exact HK.out k hk (by omega)
      have Hfin := Lib.hid hfin
      clear hfin
      have hd12 : (j < l.length ∧ 200 ≤ (j : Int)) ∨ ¬ j < l.length := by omega
      have hres : (150 < l.length) ∨ (l.length ≤ 150 ∧ 5000 < z) ∨ (l.length ≤ 150 ∧ z ≤ 5000) := by omega
      clear hlt
      rcases hd12 with ⟨ha, hb⟩ | ha
      · rcases hres with hc | ⟨hc, hd⟩ | ⟨hc, hd⟩
        · have he : decide ((150 : Int) < (l.length : Int)) = true := by simp; omega
          have hla : (j : Int) < (l.length : Int) := by omega
          go_wp2
          go_ret
          exact ⟨true, by simp, rfl, rfl⟩
        · exfalso; omega
        · exfalso; omega
      · obtain rfl : j = l.length := by omega
        clear ha hj
        rcases hres with hc | ⟨hc, hd⟩ | ⟨hc, hd⟩
        · have he : decide ((150 : Int) < (l.length : Int)) = true := by simp; omega
          go_wp2
          go_ret
          exact ⟨true, by simp, rfl, rfl⟩
        · have he : decide ((150 : Int) < (l.length : Int)) = false := by simp; omega
          go_wp2
          go_ret
          exact ⟨true, by simp, rfl, rfl⟩
        · have he : decide ((150 : Int) < (l.length : Int)) = false := by simp; omega
          go_wp2
          go_ret
          exact ⟨false, fun _ => ⟨hc, Hfin.out hc⟩, by first | rfl | (simp; omega), rfl⟩

set_option maxRecDepth 100000 in
set_option maxHeartbeats 4000000 in
theorem does_any (w : World) (g : Nat) (S : Nat → Prop) (m : Nat) (K : List Nat) (L : List Pd) (h : At w g S m K L) (hm1 : 1 ≤ m) (hm2 : m ≤ 65536) (hL : L.length ≤ 65535) (s : Stp) (hs : OkS w s) (hk : s.keep.length ≤ 65536) :
    Calls Try.prog 32 #[.pointer (some ⟨g, 0, none⟩), .agg #[.int .i64 s.d, .int .i64 s.a, .int .u64 s.w, s.kv]] w fun e w' => e = .returned (.tuple #[]) ∧ GoAt w w' g S m (stepP m s K L).1 (stepP m s K L).2 := by
  obtain ⟨d, a, x, kv, keep⟩ := s
  obtain ⟨hd, ha, hx, hkr⟩ := hs
  dsimp only at *
  have hkr0 := hkr
  obtain ⟨A, c, rfl, k1, k2, _⟩ := hkr
  have hb : Below w.heap.size w (w.alloc (.cells #[.int .i64 d, .int .i64 a, .int .u64 x, .slice A keep.length c] 35)) := (Below.refl _ _).alloc (Nat.le_refl _) _
  have h2 := h.below hb
  have hkr2 := hkr0.below hb
  have hlt := h.lt
  have hgo : ∀ (W' : World) (K' : List Nat) (L' : List Pd), GoAt (w.alloc (.cells #[.int .i64 d, .int .i64 a, .int .u64 x, .slice A keep.length c] 35)) W' g S m K' L' → GoAt w W' g S m K' L' := by
    rintro W' K' L' ⟨S', h3, ht, hs⟩
    refine ⟨S', h3, ((Touch.refl S w).alloc _).trans ht (fun b hb => .inl hb), fun b hb => (hs b hb).imp id (fun hh => ?_)⟩
    rw [World.size_alloc] at hh
    omega
  have hself : ∀ (K' : List Nat) (L' : List Pd), K' = K → L' = L → GoAt w (w.alloc (.cells #[.int .i64 d, .int .i64 a, .int .u64 x, .slice A keep.length c] 35)) g S m K' L' := by
    rintro K' L' rfl rfl
    exact hgo _ _ _ h2.goes
  have Hgo := Lib.hid hgo
  have Hself := Lib.hid hself
  have H2 := Lib.hid h2
  have HK := Lib.hid hkr2
  have Hlt := Lib.hid hlt
  obtain ⟨d1, d2⟩ := hd
  obtain ⟨a1, a2⟩ := ha
  unfold maxLen at k2
  clear hgo hself h2 hkr2 hkr0 hb h hlt
  by_cases e0 : d = 0
  · subst e0
    by_cases hv : valid m a
    · have hst : stepP m ⟨0, a, x, .slice A keep.length c, keep⟩ K L = (K, L ++ [⟨a.toNat, x, false⟩]) := by simp [stepP, hv]
      obtain ⟨k, rfl⟩ := Int.eq_ofNat_of_zero_le hv.1
      rw [Int.toNat_natCast] at hst
      have HC := Lib.hid (Store_at H2.out hm2 (by omega) k x (by have := hv.2; omega) hx)
      rw [hst]
      clear hst hv
      go_enter Try.func32, Try.ntmps32
      go_wp2_with fail
      refine HC.out.mono ?_
      rintro e w' ⟨rfl, hg⟩
      have Hg := Lib.hid hg
      clear hg
      go_wp2
      go_end0
      exact ⟨rfl, Hgo.out _ _ _ Hg.out⟩
    · have hst : stepP m ⟨0, a, x, .slice A keep.length c, keep⟩ K L = (K, L) := by simp [stepP, hv]
      have HC := Lib.hid (Store_out H2.out hm2 a x hv)
      rw [hst]
      clear hst hv
      go_enter Try.func32, Try.ntmps32
      go_wp2_with fail
      refine HC.out.mono ?_
      rintro e w' ⟨rfl, rfl⟩
      go_wp2
      go_end0
      exact ⟨rfl, Hself.out _ _ rfl rfl⟩
  have n0 : (d == 0) = false := by simp; omega
  by_cases e1 : d = 1
  · subst e1
    by_cases hv : lined m a
    · have hst : stepP m ⟨1, a, x, .slice A keep.length c, keep⟩ K L = (K, L.map (flushes a)) := by simp [stepP, hv]
      have HC := Lib.hid (Flush_at H2.out hm2 (by omega) a hv)
      rw [hst]
      clear hst hv n0 e0
      go_enter Try.func32, Try.ntmps32
      go_wp2_with fail
      refine HC.out.mono ?_
      rintro e w' ⟨rfl, hg⟩
      have Hg := Lib.hid hg
      clear hg
      go_wp2
      go_end0
      exact ⟨rfl, Hgo.out _ _ _ Hg.out⟩
    · have hst : stepP m ⟨1, a, x, .slice A keep.length c, keep⟩ K L = (K, L) := by simp [stepP, hv]
      have HC := Lib.hid (Flush_out H2.out hm2 a hv)
      rw [hst]
      clear hst hv n0 e0
      go_enter Try.func32, Try.ntmps32
      go_wp2_with fail
      refine HC.out.mono ?_
      rintro e w' ⟨rfl, rfl⟩
      go_wp2
      go_end0
      exact ⟨rfl, Hself.out _ _ rfl rfl⟩
  have n1 : (d == 1) = false := by simp; omega
  by_cases e2 : d = 2
  · subst e2
    have hst : stepP m ⟨2, a, x, .slice A keep.length c, keep⟩ K L = (apP K (takes isF 0 L), rests isF 0 L) := by simp [stepP]
    have HC := Lib.hid (Fence_at H2.out hm2 (by omega))
    rw [hst]
    clear hst n0 n1 e0 e1
    go_enter Try.func32, Try.ntmps32
    go_wp2_with fail
    refine HC.out.mono ?_
    rintro e w' ⟨rfl, hg⟩
    have Hg := Lib.hid hg
    clear hg
    go_wp2
    go_end0
    exact ⟨rfl, Hgo.out _ _ _ Hg.out⟩
  have n2 : (d == 2) = false := by simp; omega
  by_cases e3 : d = 3
  · subst e3
    have hst : stepP m ⟨3, a, x, .slice A keep.length c, keep⟩ K L = (apP K (takes (isK keep) 0 L), []) := by simp [stepP]
    rw [hst]
    obtain ⟨i0, hi0, hz0, hz1, hz2⟩ := info_parts infoB
    clear hst n0 n1 n2 e0 e1 e2
    go_enter Try.func32, Try.ntmps32
    go_wp2_with (at_builtin; refine wpList_copy_rd rfl (.const (.slice none 0 0)) (.tmp 28) _ rfl 4 i0 _ 1 1 Try.underlying33 hi0 hz0 hz1 hz2 rfl (by decide) rfl (.slice A keep.length c) keep.length (bools keep) rfl HK.out (by rw [bools_length, Nat.mul_one]) (bools_one keep) (by unfold maxLen; omega) (by omega) ?_; intro A2 c2 w2 hown2 hb2; have Hown2 := Lib.hid hown2; have Hb2 := Lib.hid hb2; clear hown2 hb2)
    refine (Crash_at (H2.out.below Hb2.out) hm1 hm2 (by omega) _ keep (Rd.of_own Hown2.out) ?_ hk).mono ?_
    · intro b o cc hv hS
      injection hv with hv _ _
      have h3 := Hlt.out b hS
      have h4 := (Hown2.out.lt b (by rw [hv]; rfl)).1
      rw [World.size_alloc] at h4
      omega
    · rintro e w' ⟨rfl, S', h3, ht, hs⟩
      have Hg := Lib.hid (show GoAt (w.alloc (.cells #[.int .i64 3, .int .i64 a, .int .u64 x, .slice A keep.length c] 35)) w' g S m (apP K (takes (isK keep) 0 L)) [] from ⟨S', h3, (Touch.of_below (S := S) Hb2.out).trans ht (fun b hb => .inl hb), fun b hb => (hs b hb).imp id (fun hh => Nat.le_trans Hb2.out.size hh)⟩)
      clear h3 ht hs
      go_wp2
      go_end0
      exact ⟨rfl, Hgo.out _ _ _ Hg.out⟩
  have n3 : (d == 3) = false := by simp; omega
  have hst : stepP m ⟨d, a, x, .slice A keep.length c, keep⟩ K L = (K, L) := by simp [stepP, e0, e1, e2, e3]
  rw [hst]
  clear hst e0 e1 e2 e3
  go_enter Try.func32, Try.ntmps32
  go_wp2
  go_end0
  exact ⟨rfl, Hself.out _ _ rfl rfl⟩
end Go.Proofs.Ytdkcghicobakhaa
