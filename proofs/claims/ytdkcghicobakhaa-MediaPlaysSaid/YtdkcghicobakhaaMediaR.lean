/- parcloseref03.Dev in memory; New, Of, Is, Store. -/
import Derived.Test.YtdkcghicobakhaaMediaE
namespace Go.Proofs.Ytdkcghicobakhaa
open Go.RowKit
set_option linter.unusedVariables false

abbrev RT := 52
/-- a device of the document's at block g -/
def RDevB (w : World) (g kb : Nat) (wb : Option Nat) (vk vw : Value) (K : List Nat) (L : List Pd) : Prop :=
  w.heap[g]? = some (.cells #[vk, vw] RT (0, 0)) ∧ Row w kb 32 1 vk K.length (u64s K) ∧ WRow w wb 61 3 vw L.length (pends L)
def rfoot (g kb : Nat) (wb : Option Nat) (b : Nat) : Prop := b = g ∨ b = kb ∨ wb = some b
section
variable {w w' : World} {g kb : Nat} {wb : Option Nat} {vk vw : Value} {K : List Nat} {L : List Pd}
theorem RDevB.cell (h : RDevB w g kb wb vk vw K L) : w.cell? ⟨g, 0, none⟩ = some vk ∧ w.cell? ⟨g, 1, none⟩ = some vw := by
  obtain ⟨hg, _⟩ := h
  refine ⟨?_, ?_⟩
  · rw [cell_of_row w g 0 _ RT (0, 0) hg]; rfl
  · rw [cell_of_row w g 1 _ RT (0, 0) hg]; rfl
theorem RDevB.frozen (h : RDevB w g kb wb vk vw K L) (o : Nat) : w.frozen? ⟨g, o, none⟩ = false := by
  obtain ⟨hg, _⟩ := h
  simp [World.frozen?, hg]
theorem RDevB.lt (h : RDevB w g kb wb vk vw K L) : ∀ b, rfoot g kb wb b → b < w.heap.size := by
  obtain ⟨hg, hk, hw⟩ := h
  intro b hb
  rcases hb with rfl | rfl | hb
  · exact (Array.getElem?_eq_some_iff.1 hg).1
  · exact hk.lt
  · exact hw.lt b hb
theorem RDevB.ne (h : RDevB w g kb wb vk vw K L) : kb ≠ g ∧ wb ≠ some g ∧ wb ≠ some kb := by
  obtain ⟨hg, hk, hw⟩ := h
  exact ⟨hk.ne_block hg (by decide), hw.ne_block hg (by decide), hw.ne hk (by decide)⟩
theorem RDevB.kept (h : RDevB w g kb wb vk vw K L) (hb : ∀ b, rfoot g kb wb b → w'.heap[b]? = w.heap[b]?) : RDevB w' g kb wb vk vw K L := by
  obtain ⟨hg, hk, hw⟩ := h
  exact ⟨(hb g (.inl rfl)).trans hg, hk.kept (hb kb (.inr (.inl rfl))), hw.kept (fun b e => hb b (.inr (.inr e)))⟩
theorem RDevB.touch {T : Nat → Prop} (h : RDevB w g kb wb vk vw K L) (ht : Touch T w w') (hd : ∀ b, T b → ¬ rfoot g kb wb b) : RDevB w' g kb wb vk vw K L :=
  h.kept fun b hb => ht.block b (h.lt b hb) (fun hh => hd b hh hb)
theorem RDevB.below (h : RDevB w g kb wb vk vw K L) (hb : Below w.heap.size w w') : RDevB w' g kb wb vk vw K L := h.kept fun b hh => hb.block b (h.lt b hh)
theorem RDevB.setK (h : RDevB w g kb wb vk vw K L) (j x : Nat) : RDevB (w.setCell ⟨kb, j, none⟩ (.int .u64 (x : Nat))) g kb wb vk vw (K.set j x) L := by
  obtain ⟨h1, h2, h3⟩ := h.ne
  obtain ⟨hg, hk, hw⟩ := h
  have hst := hk.stored j (.int .u64 (x : Nat))
  have e : (u64s K).set j (.int .u64 (x : Nat)) = u64s (K.set j x) := by simp [u64s, List.map_set]
  rw [e, ← (List.length_set : (K.set j x).length = K.length)] at hst
  exact ⟨(Below.heap_setCell _ _ _ g h1.symm).trans hg, hst, hw.kept (fun b hb => Below.heap_setCell _ _ _ b (fun e2 => h3 (by rw [hb, e2])))⟩
/-- another row waits -/
theorem RDevB.grow (h : RDevB w g kb wb vk vw K L) (ht : Touch (fun b => wb = some b) w w') {wb' : Option Nat} {v' : Value} {L' : List Pd} (hw' : WRow w' wb' 61 3 v' L'.length (pends L')) :
    RDevB (w'.setCell ⟨g, 1, none⟩ v') g kb wb' vk v' K L' := by
  obtain ⟨h1, h2, h3⟩ := h.ne
  have hlt := h.lt
  obtain ⟨hg, hk, hw⟩ := h
  have hg' := (ht.block g (hlt g (.inl rfl)) h2).trans hg
  have hk' := hk.kept (ht.block kb hk.lt h3)
  have h3' := hw'.ne_block hg' (by decide)
  exact ⟨heap_setCell_same w' g 1 _ RT v' hg', hk'.kept (Below.heap_setCell _ _ _ kb h1), hw'.kept (fun b hb => Below.heap_setCell _ _ _ b (fun e2 => h3' (by rw [hb, e2])))⟩
theorem RDevB.cell1 (h : RDevB w g kb wb vk vw K L) (ht : Touch (fun b => wb = some b) w w') : w'.cell? ⟨g, 1, none⟩ = some vw := ht.cell h.ne.2.1 h.cell.2
theorem RDevB.frozen1 (h : RDevB w g kb wb vk vw K L) (ht : Touch (fun b => wb = some b) w w') : w'.frozen? ⟨g, 1, none⟩ = false := by
  have h1 := (ht.block g (h.lt g (.inl rfl)) h.ne.2.1).trans h.1
  simp [World.frozen?, h1]
/-- one that waits is laid anew -/
theorem RDevB.setP {b : Nat} (h : RDevB w g kb (some b) vk vw K L) {i : Nat} (hi : i < L.length) (f : Bool) :
    RDevB (((w.setCell ⟨b, i * 3, none⟩ (.int .i64 (L[i].p : Nat))).setCell ⟨b, i * 3 + 1, none⟩ (.int .u64 (L[i].w : Nat))).setCell ⟨b, i * 3 + 2, none⟩ (.bool f)) g kb (some b) vk vw K (L.set i (L[i].mark f)) := by
  obtain ⟨h1, h2, h3⟩ := h.ne
  obtain ⟨hg, hk, hw⟩ := h
  obtain ⟨p0, p1, p2⟩ := pends_at L i hi
  have hst := ((Row.stored hw (i * 3) (.int .i64 (L[i].p : Nat))).stored (i * 3 + 1) (.int .u64 (L[i].w : Nat))).stored (i * 3 + 2) (.bool f)
  have e0 : (pends L).set (i * 3) (.int .i64 (L[i].p : Nat)) = pends L := by
    obtain ⟨hlt, he⟩ := List.getElem?_eq_some_iff.1 p0
    rw [← he]; exact List.set_getElem_self hlt
  have e1 : (pends L).set (i * 3 + 1) (.int .u64 (L[i].w : Nat)) = pends L := by
    obtain ⟨hlt, he⟩ := List.getElem?_eq_some_iff.1 p1
    rw [← he]; exact List.set_getElem_self hlt
  rw [e0, e1, pends_setF L i hi f, ← (List.length_set : (L.set i (L[i].mark f)).length = L.length)] at hst
  have k1 : ∀ o v (W : World), (W.setCell ⟨b, o, none⟩ v).heap[g]? = W.heap[g]? := fun o v W => Below.heap_setCell _ _ _ g (fun e => h2 (by rw [e]))
  have k2 : ∀ o v (W : World), (W.setCell ⟨b, o, none⟩ v).heap[kb]? = W.heap[kb]? := fun o v W => Below.heap_setCell _ _ _ kb (fun e => h3 (by rw [e]))
  exact ⟨by rw [k1, k1, k1]; exact hg, hk.kept (by rw [k2, k2, k2]), hst⟩
end
def RDev (w : World) (g : Nat) (S : Nat → Prop) (K : List Nat) (L : List Pd) : Prop := ∃ kb wb vk vw, RDevB w g kb wb vk vw K L ∧ ∀ b, S b ↔ rfoot g kb wb b
def RGoes (w w' : World) (g : Nat) (S : Nat → Prop) (K : List Nat) (L : List Pd) : Prop := ∃ S', RDev w' g S' K L ∧ Touch S w w' ∧ ∀ b, S' b → S b ∨ w.heap.size ≤ b
section
variable {w w' : World} {g : Nat} {S T : Nat → Prop} {K : List Nat} {L : List Pd}
theorem RDev.lt (h : RDev w g S K L) : ∀ b, S b → b < w.heap.size := by
  obtain ⟨kb, wb, vk, vw, h, hs⟩ := h
  exact fun b hb => h.lt b ((hs b).1 hb)
theorem RDev.touch (h : RDev w g S K L) (ht : Touch T w w') (hd : ∀ b, T b → ¬ S b) : RDev w' g S K L := by
  obtain ⟨kb, wb, vk, vw, h, hs⟩ := h
  exact ⟨kb, wb, vk, vw, h.touch ht (fun b hb hh => hd b hb ((hs b).2 hh)), hs⟩
theorem RDev.below (h : RDev w g S K L) (hb : Below w.heap.size w w') : RDev w' g S K L := by
  obtain ⟨kb, wb, vk, vw, h, hs⟩ := h
  exact ⟨kb, wb, vk, vw, h.below hb, hs⟩
/-- the row that is kept, to be read -/
theorem RDev.kept_rd (h : RDev w g S K L) : ∃ vk, w.cell? ⟨g, 0, none⟩ = some vk ∧ Rd w vk K.length (u64s K) := by
  obtain ⟨kb, wb, vk, vw, h, hs⟩ := h
  exact ⟨vk, h.cell.1, h.2.1.rd⟩
theorem RDev.wait_rd (h : RDev w g S K L) : ∃ vw, w.cell? ⟨g, 1, none⟩ = some vw ∧ Rd w vw L.length (pends L) := by
  obtain ⟨kb, wb, vk, vw, h, hs⟩ := h
  exact ⟨vw, h.cell.2, h.2.2.rd⟩
end
def RNews (w w' : World) (g : Nat) (K : List Nat) : Prop := ∃ S, RDev w' g S K [] ∧ Below w.heap.size w w' ∧ ∀ b, S b → w.heap.size ≤ b

set_option maxHeartbeats 1000000 in
theorem refNew_no (n : Int) (w : World) (hn : ¬ (1 ≤ n ∧ n ≤ 4096)) :
    Calls Try.prog 11 #[.int .i64 n] w fun e w' => e = .returned (.pointer none) ∧ w = w' := by
  have hh : n < 1 ∨ (1 ≤ n ∧ 4096 < n) := by omega
  clear hn
  rcases hh with h1 | ⟨h1, h2⟩
  all_goals
    go_enter Try.func11, Try.ntmps11
    go_wp2
    go_ret
    exact ⟨rfl, rfl⟩
set_option maxHeartbeats 1000000 in
theorem refNew_yes (n : Nat) (w : World) (h1 : 1 ≤ n) (h2 : n ≤ 4096) :
    Calls Try.prog 11 #[.int .i64 n] w fun e w' => ∃ g, e = .returned (.pointer (some ⟨g, 0, none⟩)) ∧ RNews w w' g (List.replicate (8 * n) 0) := by
  obtain ⟨i0, hi, hz0, hz1, hz2⟩ := info_parts info64
  go_enter Try.func11, Try.ntmps11
  go_wp2_with (first
    | (at_make; refine wpList_make_full _ rfl (.tmp 10) (.tmp 10) 50 rfl w.heap.size 32 i0 _ 1 Try.underlying50 hi hz0 hz1 .i64 .i64 _ _ (8 * n) rfl rfl rfl rfl (by rw [hz2]; omega) (by unfold maxLen; omega) (Nat.le_refl _) ?_; intro w1 hown1 hg1; have hb1 : Below w.heap.size w w1 := (Below.refl _ _).grown hg1 (Nat.le_refl _) (by intro k h; cases h)))
  go_ret
  rw [made64] at hown1
  obtain ⟨b, hbb, hr⟩ := Row.of_own hown1 (by omega)
  refine ⟨w1.heap.size, rfl, _, ⟨b, none, _, _, ⟨heap_alloc_new w1 _, ?_, WRow.nil _ _ _⟩, fun b => Iff.rfl⟩, hb1.alloc hb1.size _, fun k hk => ?_⟩
  · have h3 := hr.kept (w' := w1.alloc (.cells #[.slice (some ⟨w.heap.size, 0, none⟩) (8 * n) (8 * n), .slice none 0 0] RT)) (heap_alloc_old _ _ hr.lt)
    rw [List.length_replicate]
    exact h3
  · have hs1 := hb1.size
    rcases hk with rfl | rfl | hk
    · omega
    · omega
    · cases hk
set_option maxHeartbeats 1000000 in
theorem refOf_no (v : Value) (l : List Nat) (w : World) (h : Rd w v l.length (u64s l)) (hn : ¬ MayOf l.length) :
    Calls Try.prog 31 #[v] w fun e w' => e = .returned (.pointer none) ∧ w = w' := by
  obtain ⟨A, c, rfl, h1, h2, h3⟩ := h
  unfold maxLen at h2
  have hh : l.length = 0 ∨ (l.length ≠ 0 ∧ l.length % 8 ≠ 0) ∨ (l.length ≠ 0 ∧ l.length % 8 = 0 ∧ 4096 < l.length / 8) := by unfold MayOf at hn; omega
  clear h3 hn
  generalize l.length = n at *
  rcases hh with h0 | ⟨h0, h4⟩ | ⟨h0, h4, h5⟩
  · have e1 : ((n : Int) == 0) = true := by simp; omega
    clear h0
    go_enter Try.func31, Try.ntmps31
    go_wp2
    go_ret
    exact ⟨rfl, rfl⟩
  · have e1 : ((n : Int) == 0) = false := by simp; omega
    have e2 : ((n : Int) % 8 != 0) = true := by simp; omega
    clear h0 h4
    go_enter Try.func31, Try.ntmps31
    go_wp2
    go_ret
    exact ⟨rfl, rfl⟩
  · have e1 : ((n : Int) == 0) = false := by simp; omega
    have e2 : ((n : Int) % 8 != 0) = false := by simp; omega
    have e3 : decide ((4096 : Int) < (n : Int) / 8) = true := by simp; omega
    clear h0 h4
    go_enter Try.func31, Try.ntmps31
    go_wp2
    go_ret
    exact ⟨rfl, rfl⟩
set_option maxHeartbeats 1000000 in
theorem refOf_yes (v : Value) (l : List Nat) (n : Nat) (hln : l.length = n) (w : World) (h : Rd w v n (u64s l)) (hn : MayOf n) :
    Calls Try.prog 31 #[v] w fun e w' => ∃ g, e = .returned (.pointer (some ⟨g, 0, none⟩)) ∧ RNews w w' g l := by
  have HR := Lib.hid h
  obtain ⟨A, c, rfl, h1, h2, h3⟩ := h
  obtain ⟨h0, h4, h5⟩ := hn
  have e1 : ((n : Int) == 0) = false := by simp; omega
  have e2 : ((n : Int) % 8 != 0) = false := by simp; omega
  have e3 : decide ((4096 : Int) < (n : Int) / 8) = false := by simp; omega
  have HN := Lib.hid h0
  have HLN := Lib.hid hln
  clear h3 h0 h4 hln
  go_enter Try.func31, Try.ntmps31
  go_wp2_with (at_builtin; refine copy64 rfl (.const (.slice none 0 0)) (.tmp 18) rfl rfl _ l _ HLN.out rfl HR.out (by omega) ?_; intro A1 c1 w1 hown1 hb1; have Ho1 := Lib.hid hown1; have Hb1 := Lib.hid hb1; clear hown1 hb1)
  go_ret
  obtain ⟨b, hbb, hr⟩ := Row.of_own Ho1.out (by have := HN.out; omega)
  refine ⟨w1.heap.size, rfl, _, ⟨b, none, _, _, ⟨heap_alloc_new w1 _, ?_, WRow.nil _ _ _⟩, fun b => Iff.rfl⟩, Hb1.out.alloc Hb1.out.size _, fun k hk => ?_⟩
  · have h3 := hr.kept (w' := w1.alloc (.cells #[.slice A1 n c1, .slice none 0 0] RT)) (heap_alloc_old _ _ hr.lt)
    rw [HLN.out]
    exact h3
  · have hs1 := Hb1.out.size
    rcases hk with rfl | rfl | hk
    · omega
    · omega
    · cases hk

set_option maxHeartbeats 1000000 in
theorem Is_yes (w : World) (g : Nat) (S : Nat → Prop) (K : List Nat) (L : List Pd) (h : RDev w g S K L) (m : Nat) (hm : K.length = 8 * m) (hm2 : m ≤ 65536) (a : Int) (ha : 0 ≤ a ∧ a < 8 * (m : Int)) :
    Calls Try.prog 14 #[.pointer (some ⟨g, 0, none⟩), .int .i64 a] w fun e w' => e = .returned (.bool true) ∧ w = w' := by
  obtain ⟨vk, c0, hr⟩ := h.kept_rd
  obtain ⟨A, c, rfl, _, _, _⟩ := hr
  obtain ⟨a1, a2⟩ := ha
  rw [hm] at c0
  have hd : decide (a < ((8 * m : Nat) : Int)) = true := by simp; omega
  have hd' : decide (a < 8 * (m : Int)) = true := by simp; omega
  have hd2 : decide (0 ≤ a) = true := by simpa using a1
  clear h hm
  go_enter Try.func14, Try.ntmps14
  go_wp2
  go_ret
  exact ⟨ret_bool (by first | rfl | exact hd | exact hd'), rfl⟩
set_option maxHeartbeats 1000000 in
theorem Is_no (w : World) (g : Nat) (S : Nat → Prop) (K : List Nat) (L : List Pd) (h : RDev w g S K L) (m : Nat) (hm : K.length = 8 * m) (hm2 : m ≤ 65536) (a : Int) (ha : ¬ (0 ≤ a ∧ a < 8 * (m : Int))) :
    Calls Try.prog 14 #[.pointer (some ⟨g, 0, none⟩), .int .i64 a] w fun e w' => e = .returned (.bool false) ∧ w = w' := by
  obtain ⟨vk, c0, hr⟩ := h.kept_rd
  obtain ⟨A, c, rfl, _, _, _⟩ := hr
  rw [hm] at c0
  clear h hm
  by_cases h0 : a < 0
  · have hd2 : decide (0 ≤ a) = false := by simpa using h0
    clear ha
    go_enter Try.func14, Try.ntmps14
    go_wp2
    go_ret
    exact ⟨ret_bool (by first | rfl | (simp; omega)), rfl⟩
  · have hd2 : decide (0 ≤ a) = true := by simp; omega
    have a1 : 0 ≤ a := by omega
    have hd : decide (a < ((8 * m : Nat) : Int)) = false := by simp; omega
    have hd' : decide (a < 8 * (m : Int)) = false := by simp; omega
    clear ha
    go_enter Try.func14, Try.ntmps14
    go_wp2
    go_ret
    exact ⟨ret_bool (by first | rfl | exact hd | exact hd'), rfl⟩

set_option maxHeartbeats 2000000 in
theorem refStore_any (w : World) (g : Nat) (S : Nat → Prop) (K : List Nat) (L : List Pd) (h : RDev w g S K L) (hL : L.length ≤ 65536) (a x : Nat) :
    Calls Try.prog 15 #[.pointer (some ⟨g, 0, none⟩), .int .i64 a, .int .u64 x] w fun e w' => e = .returned (.tuple #[]) ∧ RGoes w w' g S K (L ++ [⟨a, x, false⟩]) := by
  obtain ⟨i0, hi, hz0, hz1, hz2⟩ := info_parts infoPd
  obtain ⟨kb, wb, vk, vw, hd, hs⟩ := h
  obtain ⟨c0, c1⟩ := hd.cell
  have hw := hd.2.2
  have HN2 := Lib.hid (hd.below ((Below.refl _ _).alloc (Nat.le_refl _) (.cells #[.int .i64 (a : Nat), .int .u64 (x : Nat), .bool false] 61)))
  have HRn := Lib.hid (Rd.newAt w w.heap.size rfl (pend ⟨a, x, false⟩) 61 (by simp [pend]) 1 (by omega))
  have HW := Lib.hid hw
  have Hs := Lib.hid hs
  clear hd hw hs
  go_enter Try.func15, Try.ntmps15
  go_wp2_with (at_builtin; refine wpList_append_row rfl (.tmp 10) (.tmp 14) 48 rfl 61 i0 _ 3 24 Try.underlying48 hi hz0 hz1 hz2 rfl (by decide) wb vw L.length (pends L) rfl (HW.out.alloc _) _ 1 (pend ⟨a, x, false⟩) rfl HRn.out rfl (by omega) (by rw [← pends_one]; exact pends_oneCell _) (by unfold maxLen; omega) (by omega) ?_; intro b3 c3 w3 hr3 ht3 hb3; have hcg := HN2.out.cell1 ht3; have hfg := HN2.out.frozen1 ht3; have Hr3 := Lib.hid hr3; have Ht3 := Lib.hid ht3; have HB3 := Lib.hid hb3; clear hr3 ht3 hb3)
  go_end0
  have hr3 := Hr3.out
  rw [← pends_one, ← pends_append] at hr3
  refine ⟨rfl, _, ⟨kb, some b3, _, _, HN2.out.grow Ht3.out (wb' := some b3) (L' := L ++ [⟨a, x, false⟩]) (by rw [List.length_append]; exact hr3), fun b => Iff.rfl⟩, ?_, fun b hb => ?_⟩
  · exact (((Touch.refl S w).alloc _).trans Ht3.out (fun b hb => .inl ((Hs.out b).2 (.inr (.inr hb))))).setCell ⟨g, 1, none⟩ (.inl ((Hs.out g).2 (.inl rfl))) _
  · rcases hb with hb | hb | hb
    · exact .inl ((Hs.out b).2 (.inl hb))
    · exact .inl ((Hs.out b).2 (.inr (.inl hb)))
    · injection hb with hb
      subst hb
      rcases HB3.out with h3 | h3
      · exact .inl ((Hs.out b3).2 (.inr (.inr h3)))
      · right
        rw [h3]
        simp
end Go.Proofs.Ytdkcghicobakhaa
