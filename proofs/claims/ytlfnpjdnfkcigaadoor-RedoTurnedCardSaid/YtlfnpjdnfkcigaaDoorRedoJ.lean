/- parcloselaw16.reads: a slot is read as the document says. -/
import Derived.Test.YtlfnpjdnfkcigaaDoorRedoI
namespace Go.Proofs.YtlfnpjdnfkcigaaDoor
open Go.RowKit
set_option linter.unusedVariables false

/-- what redo.Read answers, by the three kinds of slots -/
def ReadOut3 (w : World) (s : List Nat) (e : Ending) (w' : World) : Prop :=
  (SlotBad s ∧ e = .returned (.tuple #[.slice none 0 0, .bool false, .iface 52 (.agg #[.int .i64 0, .int .i64 7])]) ∧ Below w.heap.size w w') ∨
  (SlotNone s ∧ e = .returned (.tuple #[.slice none 0 0, .bool false, .nilIface]) ∧ Below w.heap.size w w') ∨
  (SlotList s ∧ ∃ A cp, e = .returned (.tuple #[.slice A (s.getD 0 0 % 256) cp, .bool true, .nilIface]) ∧ w'.ownsRow w.heap.size 45 2 (.slice A (s.getD 0 0 % 256) cp) (s.getD 0 0 % 256) (rcells (entOf s (s.getD 0 0 % 256))) ∧ Below w.heap.size w w')
theorem ReadOut.three {w : World} {s : List Nat} {e : Ending} {w' : World} (h : ReadOut w s e w') : ReadOut3 w s e w' := by
  rcases h with ⟨h1, h2, h3⟩ | ⟨h1, h2, h3, h4⟩ | ⟨h1, h2, h3, h4, h5⟩ | ⟨h1, h2, h3, h4⟩
  · exact .inl ⟨.inl h1, h2, h3⟩
  · exact .inr (.inl ⟨⟨h1, h2⟩, h3, h4⟩)
  · exact .inl ⟨.inr ⟨h1, h2, h3⟩, h4, h5⟩
  · exact .inr (.inr ⟨⟨h1, h2, h3⟩, h4⟩)
theorem Read_three (v : Value) (s : List Nat) (w : World) (hw : ∀ x ∈ s, x < 18446744073709551616) (hr : Rd w v s.length (u64s s)) :
    Calls Tryd.prog 19 #[v] w (ReadOut3 w s) := (Read_any v s w hw hr).mono fun e w' h => h.three
theorem not_bad_none {s : List Nat} (h : SlotBad s) (k : SlotNone s) : False := by
  rcases h with h | ⟨_, h, _⟩
  · exact h k.1
  · exact h k.2
theorem not_bad_list {s : List Nat} (h : SlotBad s) (k : SlotList s) : False := by
  rcases h with h | ⟨_, _, h⟩
  · exact h k.1
  · exact h k.2.2
theorem not_none_list {s : List Nat} (h : SlotNone s) (k : SlotList s) : False := k.2.1 h.2
theorem sameW_yes (a b : Value) (l : List Nat) (n : Nat) (hn : l.length = n) (w : World) (ha : Rd w a n (u64s l)) (hb : Rd w b n (u64s l)) :
    Calls Tryd.prog 12 #[a, b] w fun e w' => e = .returned (.bool true) ∧ Below w.heap.size w w' := by
  subst hn
  refine (same_any a b l l w ha hb).mono ?_
  rintro e w' ⟨rfl, k, rfl⟩
  exact ⟨by simp, below_drewN (Below.refl _ _) k⟩
theorem refSame_n (a b : Value) (l : List Rdo) (n : Nat) (hn : l.length = n) (w : World) (ha : Rd w a n (rcells l)) (hb : Rd w b n (rcells l)) :
    Calls Tryd.prog 15 #[a, b] w fun e w' => e = .returned (.bool true) ∧ Below w.heap.size w w' := by
  subst hn
  exact refSame_yes a b l w ha hb
theorem told_form (w : World) (hg : Laid w) :
    Calls Tryd.prog 20 #[.iface 52 (.agg #[.int .i64 0, .int .i64 7]), .agg #[.int .i64 0, .int .i64 7]] w fun e w' => e = .returned (.bool true) ∧ Below w.heap.size w w' :=
  (told_fault 0 7 0 7 w hg).mono fun e w' h => ⟨h.1.trans rfl, h.2⟩
theorem told_none (w : World) :
    Calls Tryd.prog 20 #[.nilIface, .agg #[.int .i64 0, .int .i64 0]] w fun e w' => e = .returned (.bool true) ∧ Below w.heap.size w w' :=
  (told_nil 0 0 w).mono fun e w' h => ⟨h.1.trans rfl, h.2⟩
/-- a Fault's new box -/
theorem FB.made (w : World) (a k : Int) : FB (((w.alloc (.cells #[.int .i64 0, .int .i64 0] 52)).setCell ⟨w.heap.size, 0, none⟩ (.int .i64 a)).setCell ⟨w.heap.size, 1, none⟩ (.int .i64 k)) w.heap.size a k ∧
    Below w.heap.size w (((w.alloc (.cells #[.int .i64 0, .int .i64 0] 52)).setCell ⟨w.heap.size, 0, none⟩ (.int .i64 a)).setCell ⟨w.heap.size, 1, none⟩ (.int .i64 k)) := by
  refine ⟨?_, ((((Below.refl _ _).alloc (Nat.le_refl _) _).setCell (Nat.le_refl _) _).setCell (Nat.le_refl _) _)⟩
  have h2 := heap_alloc_new w (.cells #[.int .i64 0, .int .i64 0] 52)
  have e1 := heap_setCell_same _ w.heap.size 0 _ _ (.int .i64 a) h2
  have e2 := heap_setCell_same _ w.heap.size 1 _ _ (.int .i64 k) e1
  unfold FB
  rw [e2]; rfl

set_option maxRecDepth 100000 in
set_option maxHeartbeats 8000000 in
theorem reads_any (v : Value) (s : List Nat) (w : World) (hl : s.length ≤ 65536) (hw : ∀ x ∈ s, x < 18446744073709551616) (hr : Rd w v s.length (u64s s)) (hg : Laid w) :
    Calls Tryd.prog 16 #[v] w fun e w' => e = .returned (.bool true) ∧ Below w.heap.size w w' := by
  have HR := Lib.hid hr
  have HW := Lib.hid hw
  have HG := Lib.hid hg
  obtain ⟨A, cp, rfl, h1, h2, h3⟩ := hr
  unfold maxLen at h2
  clear h3 hw hg
  go_enter Tryd.func16, Tryd.ntmps16
  go_wp2_with (at_builtin; refine copy64 rfl (.const (.slice none 0 0)) (.tmp 10) rfl rfl _ s _ rfl rfl HR.out (by omega) ?_; intro A1 c1 w1 hown1 hb1; have HR1 := Lib.hid (Rd.of_own hown1); have HB1 := Lib.hid hb1; clear hown1 hb1)
  have HRd := Lib.hid (fun W (hW : Below w.heap.size w W) => refRead_any _ s W HW.out (HR.out.below hW))
  have HSm := Lib.hid (fun W (hW : Below w1.heap.size w1 W) => sameW_yes _ _ s s.length rfl W (HR1.out.below hW) (HR.out.below (below_then HB1.out hW)))
  have HTd := Lib.hid (fun W (hW : Below w.heap.size w W) => told_form W (HG.out.below hW))
  have HTn := Lib.hid told_none
  refine (Read_three _ s _ HW.out HR1.out).mono ?_
  rintro e w2 (⟨hk, rfl, hb2⟩ | ⟨hk, rfl, hb2⟩ | ⟨hk, A2, c2, rfl, ho2, hb2⟩)
  · have HK := Lib.hid hk
    have HB2 := Lib.hid hb2
    clear hk hb2
    go_wp2_with fail
    refine (HRd.out _ (below_then HB1.out HB2.out)).mono ?_
    rintro e w3 (⟨hk, rfl, hb3⟩ | ⟨hk, rfl, hb3⟩ | ⟨hk, A3, c3, rfl, ho3, hb3⟩)
    · have HB3 := Lib.hid (below_then HB2.out hb3)
      clear hk hb3
      go_wp2_with fail
      have hbx := (Below.refl w3.heap.size w3).alloc (Nat.le_refl _) (.cells #[.int .i64 0, .int .i64 7] 52)
      have hF : FB (w3.alloc (.cells #[.int .i64 0, .int .i64 7] 52)) w3.heap.size 0 7 := heap_alloc_new w3 _
      refine (refSame_n _ _ [] 0 rfl _ (Rd.nil _) (Rd.nil _)).mono ?_
      rintro e w4 ⟨rfl, hb4⟩
      obtain ⟨g0, g1, _, _⟩ := (FB.below hF hb4).cells
      have Hb14 := Lib.hid (below_then (below_then HB3.out hbx) hb4)
      clear hbx hF hb4
      go_wp2_with fail
      refine (HTd.out _ (below_then HB1.out Hb14.out)).mono ?_
      rintro e w5 ⟨rfl, hb5⟩
      have Hb15 := Lib.hid (below_then Hb14.out hb5)
      clear hb5
      go_wp2_with fail
      refine (HSm.out _ Hb15.out).mono ?_
      rintro e w6 ⟨rfl, hb6⟩
      have Hb16 := Lib.hid (below_then (below_then HB1.out Hb15.out) hb6)
      clear hb6
      go_wp2
      go_ret
      exact ⟨rfl, Hb16.out⟩
    · exact (not_bad_none HK.out hk).elim
    · exact (not_bad_list HK.out hk).elim
  · have HK := Lib.hid hk
    have HB2 := Lib.hid hb2
    clear hk hb2
    go_wp2_with fail
    refine (HRd.out _ (below_then HB1.out HB2.out)).mono ?_
    rintro e w3 (⟨hk, rfl, hb3⟩ | ⟨hk, rfl, hb3⟩ | ⟨hk, A3, c3, rfl, ho3, hb3⟩)
    · exact (not_bad_none hk HK.out).elim
    · have HB3 := Lib.hid (below_then HB2.out hb3)
      clear hk hb3
      go_wp2_with fail
      have hbx := (Below.refl w3.heap.size w3).alloc (Nat.le_refl _) (.cells #[.int .i64 0, .int .i64 0] 52)
      have hF : FB (w3.alloc (.cells #[.int .i64 0, .int .i64 0] 52)) w3.heap.size 0 0 := heap_alloc_new w3 _
      refine (refSame_n _ _ [] 0 rfl _ (Rd.nil _) (Rd.nil _)).mono ?_
      rintro e w4 ⟨rfl, hb4⟩
      obtain ⟨g0, g1, _, _⟩ := (FB.below hF hb4).cells
      have Hb14 := Lib.hid (below_then (below_then HB3.out hbx) hb4)
      clear hbx hF hb4
      go_wp2_with fail
      refine (HTn.out _).mono ?_
      rintro e w5 ⟨rfl, hb5⟩
      have Hb15 := Lib.hid (below_then Hb14.out hb5)
      clear hb5
      go_wp2_with fail
      refine (HSm.out _ Hb15.out).mono ?_
      rintro e w6 ⟨rfl, hb6⟩
      have Hb16 := Lib.hid (below_then (below_then HB1.out Hb15.out) hb6)
      clear hb6
      go_wp2
      go_ret
      exact ⟨rfl, Hb16.out⟩
    · exact (not_none_list HK.out hk).elim
  · have HK := Lib.hid hk
    have HB2 := Lib.hid hb2
    obtain ⟨n, hn⟩ : ∃ n, n = s.getD 0 0 % 256 := ⟨_, rfl⟩
    have hlen := entOf_length s n
    obtain ⟨L, hL⟩ : ∃ L, L = entOf s n := ⟨_, rfl⟩
    rw [← hn, ← hL] at ho2
    rw [← hL] at hlen
    rw [← hn]
    have Hn := Lib.hid hn
    have HL := Lib.hid hL
    have Hlen := Lib.hid hlen
    have HO2 := Lib.hid ho2
    clear ho2 hlen hn hL
    clear hk hb2
    go_wp2_with fail
    refine (HRd.out _ (below_then HB1.out HB2.out)).mono ?_
    rintro e w3 (⟨hk, rfl, hb3⟩ | ⟨hk, rfl, hb3⟩ | ⟨hk, A3, c3, rfl, ho3, hb3⟩)
    · exact (not_bad_list hk HK.out).elim
    · exact (not_none_list hk HK.out).elim
    · have HB3 := Lib.hid (below_then HB2.out hb3)
      rw [← Hn.out, ← HL.out] at ho3
      rw [← Hn.out]
      have HO3 := Lib.hid ho3
      have HB3' := Lib.hid hb3
      clear hk hb3 ho3
      go_wp2_with fail
      have hbx := (Below.refl w3.heap.size w3).alloc (Nat.le_refl _) (.cells #[.int .i64 0, .int .i64 0] 52)
      have hF : FB (w3.alloc (.cells #[.int .i64 0, .int .i64 0] 52)) w3.heap.size 0 0 := heap_alloc_new w3 _
      refine (refSame_n _ _ L n Hlen.out _ ((Rd.of_own HO2.out).below (below_then HB3'.out hbx)) ((Rd.of_own HO3.out).below hbx)).mono ?_
      rintro e w4 ⟨rfl, hb4⟩
      obtain ⟨g0, g1, _, _⟩ := (FB.below hF hb4).cells
      have Hb14 := Lib.hid (below_then (below_then HB3.out hbx) hb4)
      clear hbx hF hb4
      go_wp2_with fail
      refine (HTn.out _).mono ?_
      rintro e w5 ⟨rfl, hb5⟩
      have Hb15 := Lib.hid (below_then Hb14.out hb5)
      clear hb5
      go_wp2_with fail
      refine (HSm.out _ Hb15.out).mono ?_
      rintro e w6 ⟨rfl, hb6⟩
      have Hb16 := Lib.hid (below_then (below_then HB1.out Hb15.out) hb6)
      clear hb6
      go_wp2
      go_ret
      exact ⟨rfl, Hb16.out⟩
end Go.Proofs.YtlfnpjdnfkcigaaDoor
