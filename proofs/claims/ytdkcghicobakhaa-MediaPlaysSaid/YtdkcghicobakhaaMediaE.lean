/- media: Fence, Crash. -/
import Derived.Test.YtdkcghicobakhaaMediaD
namespace Go.Proofs.Ytdkcghicobakhaa
open Go.RowKit
set_option linter.unusedVariables false

set_option maxHeartbeats 400000 in
theorem Fence_nil (w : World) : Calls Try.prog 18 #[.pointer none] w fun e w' => e = .returned (.int .i64 1) ∧ w = w' := by
  go_enter Try.func18, Try.ntmps18
  go_wp2
  go_ret
  exact ⟨rfl, rfl⟩
set_option maxHeartbeats 1000000 in
theorem Fence_yes (w : World) (g : Nat) (S : Nat → Prop) (K N : List Nat) (L : List Pd) (h : Dev w DT g S K N L) (m : Nat) (hm : K.length = 8 * m) (hm2 : m ≤ 65536) (hL : L.length ≤ 65536) (hP : ∀ x ∈ L, OkP (8 * m) x) :
    Calls Try.prog 18 #[.pointer (some ⟨g, 0, none⟩)] w fun e w' => e = .returned (.int .i64 0) ∧ Goes w w' DT g S (apP K (takes isF 0 L)) N (rests isF 0 L) := by
  have HS := Lib.hid (settle_fence w g S K N L h m hm hm2 hL hP)
  clear h hm hP
  go_enter Try.func18, Try.ntmps18
  go_wp2_with fail
  refine HS.out.mono ?_
  rintro e w' ⟨rfl, hg⟩
  have Hg := Lib.hid hg
  clear hg
  go_wp2
  go_ret
  exact ⟨rfl, Hg.out⟩

set_option maxHeartbeats 400000 in
theorem Crash_nil (A : Option Addr) (n c : Nat) (w : World) : Calls Try.prog 20 #[.pointer none, .slice A n c] w fun e w' => e = .returned (.int .i64 1) ∧ Below w.heap.size w w' := by
  go_enter Try.func20, Try.ntmps20
  go_wp2
  go_ret
  exact ⟨rfl, (Below.refl _ _).alloc (Nat.le_refl _) _⟩

theorem DevB.setNow {w w' : World} {D : TypeId} {g kb nb : Nat} {wb : Option Nat} {vk vn vw : Value} {K N N' : List Nat} {L : List Pd} (h : DevB w D g kb nb wb vk vn vw K N L) (ht : Touch (fun k => k = nb) w w')
    (hr : Row w' nb 32 1 vn N'.length (u64s N')) : DevB w' D g kb nb wb vk vn vw K N' L := by
  obtain ⟨n1, n2, n3, n4, n5⟩ := h.ne
  have hlt := h.lt
  obtain ⟨hg, hk, hn, hw, hkn, d1, d2⟩ := h
  exact ⟨(ht.block g (hlt g (.inl rfl)) (fun e => n2 e.symm)).trans hg, hk.kept (ht.block kb hk.lt hkn), hr, hw.kept (fun b hb => ht.block b (hw.lt b hb) (fun e => n5 (by rw [hb, e]))), hkn, d1, d2⟩

set_option maxHeartbeats 2000000 in
theorem Crash_yes (w : World) (g : Nat) (S : Nat → Prop) (K N : List Nat) (L : List Pd) (h : Dev w DT g S K N L) (m : Nat) (hm : K.length = 8 * m) (hmn : N.length = 8 * m) (hm1 : 1 ≤ m) (hm2 : m ≤ 65536) (hL : L.length ≤ 65536) (hP : ∀ x ∈ L, OkP (8 * m) x)
    (v : Value) (keep : List Bool) (hr : Rd w v keep.length (bools keep)) (hrS : ∀ b o c, v = .slice (some ⟨b, o, none⟩) keep.length c → ¬ S b) (hk : keep.length ≤ 65536) :
    Calls Try.prog 20 #[.pointer (some ⟨g, 0, none⟩), v] w fun e w' => e = .returned (.int .i64 0) ∧ Goes w w' DT g S (apP K (takes (isK keep) 0 L)) (apP K (takes (isK keep) 0 L)) [] := by
  obtain ⟨i0, hi, hz0, hz1, hz2⟩ := info_parts info64
  have hsz : (Try.prog.info? 32).map (·.size) = some 1 := by rw [hi]; simp [hz1]
  have hSl := h.lt
  obtain ⟨A, c, rfl, hkc, hcm, hcells⟩ : ∃ A c, v = .slice A keep.length c ∧ keep.length ≤ c ∧ c ≤ maxLen ∧ True := by
    obtain ⟨A, c, hv, h1, h2, _⟩ := hr
    exact ⟨A, c, hv, h1, h2, trivial⟩
  have hA : Below w.heap.size w (w.alloc (.cells #[.slice A keep.length c] 33)) := (Below.refl _ _).alloc (Nat.le_refl _) _
  have hq : (w.alloc (.cells #[.slice A keep.length c] 33)).cell? ⟨w.heap.size, 0, none⟩ = some (.slice A keep.length c) := by rw [cell_of_row _ _ 0 _ _ _ (heap_alloc_new w _)]; rfl
  have HS := Lib.hid (settle_crash (w.alloc (.cells #[.slice A keep.length c] 33)) g S K N L (h.below hA) m hm hm2 hL hP w.heap.size (.slice A keep.length c) keep hq (fun hh => by have := hSl _ hh; omega) (hr.below hA) hrS hk)
  have HA := Lib.hid hA
  have HSl := Lib.hid hSl
  have HK := Lib.hid (show (apP K (takes (isK keep) 0 L)).length = 8 * m by rw [apP_length, hm])
  have Hmn := Lib.hid hmn
  have Hsz := Lib.hid hsz
  generalize apP K (takes (isK keep) 0 L) = K' at *
  generalize rests (isK keep) 0 L = L' at *
  clear h hm hP hSl hA hq hr hrS hmn hsz hi hz0 hz1 hz2
  go_enter Try.func20, Try.ntmps20
  go_wp2_with fail
  refine HS.out.mono ?_
  rintro e W1 ⟨rfl, S1, ⟨kb, nb, wb, vk, vn, vw, hd, hs1⟩, ht1, hn1⟩
  obtain ⟨c0, c1, c2⟩ := hd.cell
  have f2 := hd.frozen 2
  have hd2 := hd.setW (wb' := none) (v' := .slice none 0 0) (L' := []) (WRow.nil _ _ _)
  obtain ⟨ck, rfl⟩ := hd.2.1.form
  obtain ⟨cn, rfl⟩ := hd.2.2.1.form
  have Hd := Lib.hid hd
  have Ht1 := Lib.hid ht1
  have Hs1 := Lib.hid hs1
  have Hn1 := Lib.hid hn1
  have Hd2 := Lib.hid hd2
  clear hd ht1 hs1 hn1 hd2
  have ht2 : Touch S w (W1.setCell ⟨g, 2, none⟩ (.slice none 0 0)) := by
    refine (((Touch.refl S w).alloc _).trans Ht1.out (fun b hb => .inl hb)).setCell ⟨g, 2, none⟩ ?_ _
    rcases Hn1.out g ((Hs1.out g).2 (.inl rfl)) with h | h
    · exact .inl h
    · right; rw [World.size_alloc] at h; show w.heap.size ≤ g; omega
  have Ht2 := Lib.hid ht2
  clear ht2
  go_wp2_with fail
  generalize hW : W1.setCell ⟨g, 2, none⟩ (.slice none 0 0) = W2
  have hd2 := Hd2.out
  rw [hW] at hd2
  obtain ⟨d0, d1, d2⟩ := hd2.cell
  have ht2 := Ht2.out
  rw [hW] at ht2
  rw [HK.out] at d0
  rw [Hmn.out] at d1
  have hrn := hd2.2.2.1
  have hrk := hd2.2.1
  rw [HK.out] at hrk
  rw [Hmn.out] at hrn
  obtain ⟨W3, hrun, hr3, ht3⟩ := run_copy_over (P := Try.prog) 3 50 32 W2.drew Try.underlying50 Hsz.out (v := .slice (some ⟨nb, 0, none⟩) (8 * m) cn) hrn (hrk.rd : Rd W2 _ _ _) (by rw [u64s_length, HK.out]) (u64s_one K') (by omega)
  have Hd3 := Lib.hid hd2
  have Ht3 := Lib.hid ht3
  have Hr3 := Lib.hid hr3
  have HT2 := Lib.hid ht2
  clear hd2 ht2 hr3 ht3 hW c0 c1 c2 f2 Hd2 Ht2
  go_still_tail 8, (by kernel_rfl)
  go_wp2
  go_ret
  have hS1 : ∀ b, foot g kb nb none b → S b ∨ w.heap.size ≤ b := fun b hb => by
    have hb1 : S1 b := (Hs1.out b).2 (by
      rcases hb with hb | hb | hb | hb
      · exact .inl hb
      · exact .inr (.inl hb)
      · exact .inr (.inr (.inl hb))
      · cases hb)
    rcases Hn1.out b hb1 with h | h
    · exact .inl h
    · right; rw [World.size_alloc] at h; omega
  have hd4 := (Hd3.out.below (w' := W2.drew) (Below.refl _ _).drew).setNow (N' := K') Ht3.out (by rw [HK.out, Hmn.out]; exact Hr3.out)
  refine ⟨rfl, _, ⟨kb, nb, none, _, _, _, hd4, fun b => Iff.rfl⟩, ?_, hS1⟩
  refine HT2.out.drew.trans Ht3.out (fun b hb => ?_)
  subst hb
  exact hS1 b (.inr (.inr (.inl rfl)))
end Go.Proofs.Ytdkcghicobakhaa
