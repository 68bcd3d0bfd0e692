/- super.Encode's closure; super.numbers. -/
import Derived.Test.YtfmjhmgpnlmkkaaDoorWordPut
import Derived.Test.YtfmjhmgpnlmkkaaDoorGeomCheck
import Derived.Test.YtfmjhmgpnlmkkaaDoorRowMem
import Derived.Deep.AppendLies
import Derived.Deep.RegionWith
import Derived.BigRegion
namespace Go.Proofs.YtfmjhmgpnlmkkaaDoor
open Go.RowKit
set_option linter.unusedVariables false

/-- what the closure captures: the row's variable, the place's, and the row itself -/
structure EncSt (w : World) (base bl ba g cap : Nat) (L : List Nat) (at_ : Nat) : Prop where
  box : w.heap[bl]? = some (.cells #[.slice (some ⟨g, 0, none⟩) 7 cap] 24 (0, 0))
  pl : w.heap[ba]? = some (.cells #[.int .i64 (at_ : Nat)] 3 (0, 0))
  row : w.ownsRow base 42 1 (.slice (some ⟨g, 0, none⟩) 7 cap) 7 (u64s L)
  b1 : base ≤ bl
  b2 : base ≤ ba
theorem own_block {w : World} {base : Nat} {e : TypeId} {size g n cap : Nat} {xs : List Value} (h : w.ownsRow base e size (.slice (some ⟨g, 0, none⟩) n cap) n xs) : base ≤ g ∧ ∃ cur, w.heap[g]? = some (.cells cur e (0, 0)) := by
  rcases h.2 with ⟨h2, _⟩ | ⟨g', cap', cur, hv, hb, hg, _⟩
  · cases h2
  · injection hv with e1 _ _
    injection e1 with e1
    injection e1 with e1 _
    subst e1
    exact ⟨hb, cur, hg⟩
theorem blocks_ne {w : World} {b g : Nat} {c1 c2 : Array Value} {t1 t2 : TypeId} {f1 f2 : Nat × Nat} (h1 : w.heap[b]? = some (.cells c1 t1 f1)) (h2 : w.heap[g]? = some (.cells c2 t2 f2)) (ht : t1 ≠ t2) : b ≠ g := by
  rintro rfl
  rw [h1] at h2
  injection h2 with h2
  injection h2 with _ h2
  exact ht h2
theorem EncSt.ne {w : World} {base bl ba g cap : Nat} {L : List Nat} {at_ : Nat} (h : EncSt w base bl ba g cap L at_) : bl ≠ g ∧ ba ≠ g ∧ bl ≠ ba := by
  obtain ⟨_, cur, hg⟩ := own_block h.row
  exact ⟨blocks_ne h.box hg (by decide), blocks_ne h.pl hg (by decide), blocks_ne h.box h.pl (by decide)⟩

theorem EncSt.put {w : World} {base bl ba g cap : Nat} {L : List Nat} {at_ : Nat} (h : EncSt w base bl ba g cap L at_) (y : Nat) :
    EncSt (((w.setCell ⟨g, 1, none⟩ (.int .u64 (y : Nat))).setCell ⟨ba, 0, none⟩ (.int .i64 ((at_ : Int) + 16))).drew) base bl ba g cap (L.set 1 y) (at_ + 16) ∧
    Touch (fun b => b = g ∨ b = ba) w (((w.setCell ⟨g, 1, none⟩ (.int .u64 (y : Nat))).setCell ⟨ba, 0, none⟩ (.int .i64 ((at_ : Int) + 16))).drew) := by
  obtain ⟨n1, n2, n3⟩ := h.ne
  obtain ⟨hbg, _⟩ := own_block h.row
  have hs := (h.row.stored 1 (.int .u64 (y : Nat))).1
  rw [u64s_setAt] at hs
  have hp : (w.setCell ⟨g, 1, none⟩ (.int .u64 (y : Nat))).heap[ba]? = some (.cells #[.int .i64 (at_ : Nat)] 3 (0, 0)) := by
    rw [Below.heap_setCell _ _ _ _ n2]; exact h.pl
  have hq := one_setCell (u := .int .i64 ((at_ : Int) + 16)) hp
  refine ⟨⟨?_, ?_, ?_, h.b1, h.b2⟩, ((((Touch.refl _ _).setCell ⟨g, 1, none⟩ (.inl (.inl rfl)) _).setCell ⟨ba, 0, none⟩ (.inl (.inr rfl)) _)).drew⟩
  · show ((w.setCell ⟨g, 1, none⟩ (.int .u64 (y : Nat))).setCell ⟨ba, 0, none⟩ _).heap[bl]? = _
    rw [Below.heap_setCell _ _ _ _ n3, Below.heap_setCell _ _ _ _ n1]; exact h.box
  · rw [show ((at_ + 16 : Nat) : Int) = (at_ : Int) + 16 by omega]; exact hq
  · exact (ownsRow_setCell_other hs (a := ⟨ba, 0, none⟩) (by simp [Value.ownBlock]; omega) _).drew

set_option maxRecDepth 100000 in
set_option maxHeartbeats 4000000 in
theorem enc1_any (n : Nat) (hn : n < 65536) (base bl ba g cap at_ : Nat) (hat : at_ + 16 ≤ 64) (L : List Nat) (hL : L.length = 7) (hx : L.getD 1 0 < 18446744073709551616) (w : World) (h : EncSt w base bl ba g cap L at_) :
    Calls Tryd.prog 18 #[.int .i64 (n : Nat), .pointer (some ⟨bl, 0, none⟩), .pointer (some ⟨ba, 0, none⟩)] w fun e w' => e = .returned (.tuple #[]) ∧ EncSt w' base bl ba g cap (L.set 1 (putW (L.getD 1 0) at_ 16 n)) (at_ + 16) ∧ Touch (fun b => b = g ∨ b = ba) w w' := by
  have h1 : 1 < L.length := by omega
  have hgd : L.getD 1 0 = L[1] := by simp [List.getD, h1]
  have HP := fun W => Put_yes (L.getD 1 0) n (at_ : Int) 16 (by unfold Fld; omega) hx (by simpa using hn) W
  rw [hgd] at *
  have hz := h.row.cellAt 1 (by omega)
  rw [u64s_at h1] at hz
  have hf := h.row.frozenAt 1
  have c1 := cell_of_one h.box
  have c2 := cell_of_one h.pl
  have f2 := free_of_one h.pl
  obtain ⟨n1, n2, n3⟩ := h.ne
  have HF := Lib.hid (h.put (putW L[1] at_ 16 n))
  have hw : IntKind.u64.wrap (n : Int) = (n : Int) := by rw [IntKind.wrap_u64]; omega
  rw [show (16 : Int).toNat = 16 from rfl, Int.toNat_natCast] at HP
  generalize L[1] = x at *
  have HPP := Lib.hid HP
  clear h HP hgd h1
  go_enter Tryd.func18, Tryd.ntmps18
  go_wp2
  go_region_with (go_at_call 19; refine (HPP.out _).mono ?_; rintro e w' ⟨rfl, rfl⟩)
  all_goals go_wp2
  all_goals go_end0
  all_goals exact ⟨rfl, HF.out⟩
end Go.Proofs.YtfmjhmgpnlmkkaaDoor
