/- media: New, Of, Words, Kept, Pending. -/
import Derived.Test.YtdkcghicobakhaaMediaA
import Derived.Test.YtdkcghicobakhaaClone
namespace Go.Proofs.Ytdkcghicobakhaa
open Go.RowKit
set_option linter.unusedVariables false

set_option maxHeartbeats 1000000 in
theorem clonePd_any (v : Value) (L : List Pd) (w : World) (h : Rd w v L.length (pends L)) (hl : L.length ≤ 4294967296) :
    Calls Try.prog 37 #[v] w (Hands w 61 3 L.length (pends L)) := by
  have hR := h
  obtain ⟨A, c, rfl, h1, h2, h3⟩ := h
  cases A with
  | none =>
    have hn : L = [] := by
      cases L with
      | nil => rfl
      | cons u r => obtain ⟨b, o, hA, _⟩ := h3 0 _ rfl; cases hA
    subst hn
    have hE := fun (w : World) => Lib.run_eql_slice_nil (P := Try.prog) w 48 61 none 0 c 0 0 Try.underlying48
    clear h3 hR
    go_enter Try.func37, Try.ntmps37
    go_wp2
    go_ret
    exact ⟨_, _, rfl, World.ownsRow_nil _ _ _ _, Below.refl _ _⟩
  | some ad =>
    have hE := fun (w : World) => Lib.run_eql_slice_nil (P := Try.prog) w 48 61 (some ad) L.length c 0 0 Try.underlying48
    obtain ⟨i0, hi, hz0, hz1, hz2⟩ := info_parts infoPd
    have HR := Lib.hid hR
    clear hR h3
    go_enter Try.func37, Try.ntmps37
    go_wp2_with (at_builtin; refine wpList_append_rd rfl (.tmp 5) (.tmp 6) _ rfl w.heap.size 61 i0 _ 3 24 Try.underlying48 hi hz0 hz1 hz2 rfl (by decide) (.slice (some ⟨w.heap.size, 0, none⟩) 0 0) 0 [] rfl (World.ownsRow_made w _ 0 (Nat.le_refl _) (Nat.zero_le _) rfl) _ L.length (pends L) rfl (HR.out.alloc _) (pends_length L) (pends_oneCell L) (by unfold maxLen; omega) (by omega) (by simp) ?_; intro A1 c1 w1 hown1 hg1)
    go_ret
    simp only [Nat.zero_add, List.nil_append] at hown1
    refine ⟨A1, c1, rfl, hown1, ?_⟩
    refine ((Below.refl _ _).alloc (Nat.le_refl _) _).grown hg1 (by simp) (fun k hk => ?_)
    simp [Value.ownBlock] at hk
    omega

set_option maxHeartbeats 400000 in
theorem Words_nil (w : World) : Calls Try.prog 27 #[.pointer none] w fun e w' => e = .returned (.slice none 0 0) ∧ w = w' := by
  go_enter Try.func27, Try.ntmps27
  go_wp2
  go_ret
  exact ⟨rfl, rfl⟩
set_option maxHeartbeats 400000 in
theorem Kept_nil (w : World) : Calls Try.prog 29 #[.pointer none] w fun e w' => e = .returned (.slice none 0 0) ∧ w = w' := by
  go_enter Try.func29, Try.ntmps29
  go_wp2
  go_ret
  exact ⟨rfl, rfl⟩
set_option maxHeartbeats 400000 in
theorem Pending_nil (w : World) : Calls Try.prog 25 #[.pointer none] w fun e w' => e = .returned (.slice none 0 0) ∧ w = w' := by
  go_enter Try.func25, Try.ntmps25
  go_wp2
  go_ret
  exact ⟨rfl, rfl⟩
set_option maxHeartbeats 400000 in
theorem Words_any (w : World) (g : Nat) (S : Nat → Prop) (K N : List Nat) (L : List Pd) (h : Dev w DT g S K N L) (hn : N.length ≤ 4294967296) :
    Calls Try.prog 27 #[.pointer (some ⟨g, 0, none⟩)] w (Hands w 32 1 N.length (u64s N)) := by
  obtain ⟨kb, nb, wb, vk, vn, vw, hd, hs⟩ := h
  obtain ⟨c0, c1, c2⟩ := hd.cell
  have HR := Lib.hid (hd.2.2.1.rd)
  clear hd hs
  go_enter Try.func27, Try.ntmps27
  go_wp2_with fail
  refine (clone_any _ N _ HR.out hn).mono ?_
  rintro e w1 ⟨A1, c1, rfl, ho, hb⟩
  go_wp2
  go_ret
  exact ⟨A1, _, rfl, ho, hb⟩
set_option maxHeartbeats 400000 in
theorem Kept_any (w : World) (g : Nat) (S : Nat → Prop) (K N : List Nat) (L : List Pd) (h : Dev w DT g S K N L) (hn : K.length ≤ 4294967296) :
    Calls Try.prog 29 #[.pointer (some ⟨g, 0, none⟩)] w (Hands w 32 1 K.length (u64s K)) := by
  obtain ⟨kb, nb, wb, vk, vn, vw, hd, hs⟩ := h
  obtain ⟨c0, c1, c2⟩ := hd.cell
  have HR := Lib.hid (hd.2.1.rd)
  clear hd hs
  go_enter Try.func29, Try.ntmps29
  go_wp2_with fail
  refine (clone_any _ K _ HR.out hn).mono ?_
  rintro e w1 ⟨A1, c1, rfl, ho, hb⟩
  go_wp2
  go_ret
  exact ⟨A1, _, rfl, ho, hb⟩
set_option maxHeartbeats 400000 in
theorem Pending_any (w : World) (g : Nat) (S : Nat → Prop) (K N : List Nat) (L : List Pd) (h : Dev w DT g S K N L) (hn : L.length ≤ 4294967296) :
    Calls Try.prog 25 #[.pointer (some ⟨g, 0, none⟩)] w (Hands w 61 3 L.length (pends L)) := by
  obtain ⟨kb, nb, wb, vk, vn, vw, hd, hs⟩ := h
  obtain ⟨c0, c1, c2⟩ := hd.cell
  have HR := Lib.hid (hd.2.2.2.1.rd)
  clear hd hs
  go_enter Try.func25, Try.ntmps25
  go_wp2_with fail
  refine (clonePd_any _ L _ HR.out hn).mono ?_
  rintro e w1 ⟨A1, c1, rfl, ho, hb⟩
  go_wp2
  go_ret
  exact ⟨A1, _, rfl, ho, hb⟩

/-- a new device -/
def News (w w' : World) (D : TypeId) (g : Nat) (K : List Nat) : Prop := ∃ S, Dev w' D g S K K [] ∧ Below w.heap.size w w' ∧ ∀ b, S b → w.heap.size ≤ b
def MayOf (n : Nat) : Prop := n ≠ 0 ∧ n % 8 = 0 ∧ n ≤ 32768
set_option maxHeartbeats 1000000 in
theorem Of_no (v : Value) (l : List Nat) (w : World) (h : Rd w v l.length (u64s l)) (hn : ¬ MayOf l.length) :
    Calls Try.prog 30 #[v] w fun e w' => e = .returned (.tuple #[.pointer none, .int .i64 2]) ∧ w = w' := by
  obtain ⟨A, c, rfl, h1, h2, h3⟩ := h
  unfold maxLen at h2
  have hh : l.length = 0 ∨ (l.length ≠ 0 ∧ l.length % 8 ≠ 0) ∨ (l.length ≠ 0 ∧ l.length % 8 = 0 ∧ 32768 < l.length) := by unfold MayOf at hn; omega
  clear h3 hn
  generalize l.length = n at *
  rcases hh with h0 | ⟨h0, h4⟩ | ⟨h0, h4, h5⟩
  · have e1 : ((n : Int) == 0) = true := by simp; omega
    clear h0
    go_enter Try.func30, Try.ntmps30
    go_wp2
    go_ret2
    exact ⟨rfl, rfl⟩
  · have e1 : ((n : Int) == 0) = false := by simp; omega
    have e2 : ((n : Int) % 8 != 0) = true := by simp; omega
    clear h0 h4
    go_enter Try.func30, Try.ntmps30
    go_wp2
    go_ret2
    exact ⟨rfl, rfl⟩
  · have e1 : ((n : Int) == 0) = false := by simp; omega
    have e2 : ((n : Int) % 8 != 0) = false := by simp; omega
    have e3 : decide ((32768 : Int) < (n : Int)) = true := by simp; omega
    clear h0 h4
    go_enter Try.func30, Try.ntmps30
    go_wp2
    go_ret2
    exact ⟨rfl, rfl⟩
set_option maxHeartbeats 1000000 in
theorem Of_yes (v : Value) (l : List Nat) (n : Nat) (hln : l.length = n) (w : World) (h : Rd w v n (u64s l)) (hn : MayOf n) :
    Calls Try.prog 30 #[v] w fun e w' => ∃ g, e = .returned (.tuple #[.pointer (some ⟨g, 0, none⟩), .int .i64 0]) ∧ News w w' DT g l := by
  have HR := Lib.hid h
  obtain ⟨A, c, rfl, h1, h2, h3⟩ := h
  obtain ⟨h0, h4, h5⟩ := hn
  have e1 : ((n : Int) == 0) = false := by simp; omega
  have e2 : ((n : Int) % 8 != 0) = false := by simp; omega
  have e3 : decide ((32768 : Int) < (n : Int)) = false := by simp; omega
  have HN := Lib.hid h0
  have HLN := Lib.hid hln
  clear h3 h0 h4 hln
  go_enter Try.func30, Try.ntmps30
  go_wp2_with fail
  refine (clone_any _ l _ (by rw [HLN.out]; exact HR.out) (by rw [HLN.out]; omega)).mono ?_
  rintro e w1 ⟨A1, c1, rfl, ho1, hb1⟩
  rw [HLN.out] at ho1
  rw [HLN.out]
  have HR1 := Lib.hid (HR.out.below hb1)
  have HO1 := Lib.hid ho1
  have HB1 := Lib.hid hb1
  clear ho1 hb1
  go_wp2_with fail
  refine (clone_any _ l _ (by rw [HLN.out]; exact HR1.out) (by rw [HLN.out]; omega)).mono ?_
  rintro e w2 ⟨A2, c2, rfl, ho2, hb2⟩
  rw [HLN.out] at ho2
  rw [HLN.out]
  have HO2 := Lib.hid ho2
  have HB2 := Lib.hid hb2
  clear ho2 hb2
  go_wp2
  go_ret2
  obtain ⟨b1, hb1, hr1⟩ := Row.of_own HO1.out (by have := HN.out; omega)
  obtain ⟨b2, hb2, hr2⟩ := Row.of_own HO2.out (by have := HN.out; omega)
  have hlt1 := hr1.lt
  have hr1' := hr1.kept (HB2.out.block b1 hlt1)
  have hn := HLN.out
  subst hn
  refine ⟨w2.heap.size, rfl, _, ⟨b1, b2, none, _, _, _, ⟨heap_alloc_new w2 _, hr1'.kept (heap_alloc_old _ _ hr1'.lt), hr2.kept (heap_alloc_old _ _ hr2.lt), WRow.nil _ _ _, by omega, by decide, by decide⟩, fun b => Iff.rfl⟩, (below_then HB1.out HB2.out).alloc (Nat.le_trans HB1.out.size HB2.out.size) _, fun b hb => ?_⟩
  have hs1 := HB1.out.size
  have hs2 := HB2.out.size
  rcases hb with rfl | rfl | rfl | hb
  · omega
  · omega
  · omega
  · cases hb
set_option maxHeartbeats 1000000 in
theorem New_no (n : Int) (w : World) (hn : ¬ (1 ≤ n ∧ n ≤ 4096)) :
    Calls Try.prog 10 #[.int .i64 n] w fun e w' => e = .returned (.tuple #[.pointer none, .int .i64 2]) ∧ w = w' := by
  have hh : n < 1 ∨ (1 ≤ n ∧ 4096 < n) := by omega
  clear hn
  rcases hh with h1 | ⟨h1, h2⟩
  all_goals
    go_enter Try.func10, Try.ntmps10
    go_wp2
    go_ret2
    exact ⟨rfl, rfl⟩
set_option maxHeartbeats 1000000 in
theorem New_yes (n : Nat) (w : World) (h1 : 1 ≤ n) (h2 : n ≤ 4096) :
    Calls Try.prog 10 #[.int .i64 n] w fun e w' => ∃ g, e = .returned (.tuple #[.pointer (some ⟨g, 0, none⟩), .int .i64 0]) ∧ News w w' DT g (List.replicate (8 * n) 0) := by
  obtain ⟨i0, hi, hz0, hz1, hz2⟩ := info_parts info64
  go_enter Try.func10, Try.ntmps10
  go_wp2_with (first
    | (at_make; refine wpList_make_full _ rfl (.tmp 11) (.tmp 11) 50 rfl w.heap.size 32 i0 _ 1 Try.underlying50 hi hz0 hz1 .i64 .i64 _ _ (8 * n) rfl rfl rfl rfl (by rw [hz2]; omega) (by unfold maxLen; omega) (Nat.le_refl _) ?_; intro w1 hown1 hg1; have hb1 : Below w.heap.size w w1 := (Below.refl _ _).grown hg1 (Nat.le_refl _) (by intro k h; cases h)))
  rw [made64] at hown1
  refine (Of_yes _ (List.replicate (8 * n) 0) (8 * n) (by simp) _ (Rd.of_own hown1) (by unfold MayOf; omega)).mono ?_
  rintro e w2 ⟨g, rfl, S, hd, hb2, hs⟩
  have HD := Lib.hid hd
  have HB := Lib.hid (below_then hb1 hb2)
  have Hs := Lib.hid (fun b hb => Nat.le_trans hb1.size (hs b hb))
  clear hd hb2 hs hown1 hb1 hg1
  go_wp2
  go_ret2
  exact ⟨g, rfl, S, HD.out, HB.out, Hs.out⟩
end Go.Proofs.Ytdkcghicobakhaa
