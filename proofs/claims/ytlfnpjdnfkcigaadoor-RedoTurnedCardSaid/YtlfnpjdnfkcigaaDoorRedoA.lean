/- parcloseref16: May, Same, Body. -/
import Derived.Test.YtlfnpjdnfkcigaaDoorRedoPlain
import Derived.Test.YtlfnpjdnfkcigaaDoorTypes
import Derived.Test.YtlfnpjdnfkcigaaDoorSumWords
import Derived.Test.YtlfnpjdnfkcigaaDoorCopy
import Derived.Deep.RegionHeld3
import Derived.StillTailTactics
import Derived.Deep.QuietTactic
import Derived.BigQuiet
namespace Go.Proofs.YtlfnpjdnfkcigaaDoor
open Go.RowKit
set_option linter.unusedVariables false

theorem infoR : (Tryd.prog.info? 45).map (fun i => (i.zero, i.size, i.bytes)) = some (some (.agg #[.int .i64 0, .int .u64 0]), 2, 16) := by kernel_rfl
theorem Rd.newAt2 (W : World) (H : Nat) (hH : W.heap.size = H) (a b : Nat) (e : TypeId) : Rd (W.alloc (.cells #[.int .u64 (a : Nat), .int .u64 (b : Nat)] e)) (.slice (some ⟨H, 0, none⟩) 2 2) 2 (u64s [a, b]) := by
  subst hH
  exact Rd.new W (u64s [a, b]) e (by simp [u64s]) 2 (by omega)
/-- 'append' as a step of a region that draws its order -/
theorem step_append_rd {P : Program} {ops : Array Oper} {o : Oper} {a : Act} {w : World} {K : Act → World → Prop} {Q : Exit → Act → World → Prop} {E : Prop} (hgd : o.guard = none) (s x : Operand) (t : TypeId)
    (ho : o.op = .call { callee := .builtin .append, args := #[s, x], argTypes := #[t, t] })
    (base : Nat) (e : TypeId) (i : TypeInfo) (z : Value) (size bytes : Nat) (ht : P.underlying t = some (.slice e)) (hi : P.info? e = some i) (hz : i.zero = some z)
    (hsize : i.size = size) (hby : i.bytes = bytes) (hzs : z.cells.size = size) (hsz : 0 < size)
    (v : Value) (n : Nat) (xs : List Value) (hs : a.eval s = v) (hown : w.ownsRow base e size v n xs)
    (u : Value) (m : Nat) (news : List Value) (hx : a.eval x = u) (hr : Rd w u m news) (hl : news.length = m * size) (h1 : ∀ u ∈ news, u.oneCell' = true)
    (h63 : n + m ≤ maxLen) (hbytes : (n + m) * bytes ≤ 140737488355328) (hbase : base ≤ w.heap.size)
    (h : ∀ A c w', w'.ownsRow base e size (.slice A (n + m) c) (n + m) (xs ++ news) → w.grownBy w' v.ownBlock → K (a.put o.dst (.slice A (n + m) c)) w') :
    if Region.wanted o (yielded ops a.tmps) = true then Oper.wp P o a w K Q else E := by
  have hw : Region.wanted o (yielded ops a.tmps) = true := by simp [Region.wanted, hgd]
  rw [if_pos hw]
  exact wp_append_rd s x t ho base e i z size bytes ht hi hz hsize hby hzs hsz v n xs hs hown u m news hx hr hl h1 h63 hbytes hbase h
/-- the cells of an entry, in whatever later world -/
theorem redo_cells {w : World} {A : Option Addr} {c : Nat} {l : List Rdo} (h : Rd w (.slice A l.length c) l.length (rcells l)) {j : Nat} (hj : j < l.length) :
    ∃ b o, A = some ⟨b, o, none⟩ ∧ ∀ W : World, Below w.heap.size w W → W.cell? ⟨b, o + j * 2, none⟩ = some (.int .i64 l[j].a) ∧ W.cell? ⟨b, o + j * 2 + 1, none⟩ = some (.int .u64 (l[j].w : Nat)) := by
  obtain ⟨p0, p1⟩ := rcells_at l j hj
  obtain ⟨b, o, hA, q0⟩ := h.at_ p0
  subst hA
  obtain ⟨b3, o3, hB, q1⟩ := h.at_ p1
  injection hB with hB
  injection hB with e1 e2
  subst e1; subst e2
  rw [← Nat.add_assoc] at q1
  exact ⟨b, o, rfl, fun W hb => ⟨(hb.cell (World.block_lt_of_cell? _ _ q0)).trans q0, (hb.cell (World.block_lt_of_cell? _ _ q1)).trans q1⟩⟩

set_option maxRecDepth 100000 in
set_option maxHeartbeats 4000000 in
theorem refMay_any (v : Value) (l : List Rdo) (w : World) (hr : Rd w v l.length (rcells l)) :
    Calls Tryd.prog 11 #[v] w fun e w' => e = .returned (.int .i64 (mayE l)) ∧ w = w' := by
  have HR := Lib.hid hr
  obtain ⟨A, c, rfl, h1, h2, h3⟩ := hr
  unfold maxLen at h2
  clear h3
  by_cases hbig : 64 < l.length
  · have hd : decide ((64 : Int) < (l.length : Int)) = true := by simp; omega
    have hm : mayE l = 5 := by unfold mayE; rw [if_pos hbig]
    rw [hm]
    clear hm hbig
    go_enter Tryd.func11, Tryd.ntmps11
    go_wp2
    go_ret
    exact ⟨rfl, rfl⟩
  · have hd : decide ((64 : Int) < (l.length : Int)) = false := by simp; omega
    have hle : l.length ≤ 64 := by omega
    clear hbig
    go_enter Tryd.func11, Tryd.ntmps11
    go_wp2
    go_loop [3] (fun i => ∃ j : Nat, j ≤ l.length ∧ i = .int .i64 j ∧ ∀ k (hk : k < l.length), k < j → mayOne l[k]) (fun i => l.length - (intOf i).toNat)
    case atStart => exact ⟨0, by omega, rfl, fun k hk h => by omega⟩
    case round =>
      obtain ⟨j, hj, rfl, hk⟩ := hrel
      have HK := Lib.hid hk
      clear hk
      by_cases hlt : j < l.length
      · obtain ⟨b, o, rfl, hq⟩ := redo_cells HR.out hlt
        obtain ⟨q0, q1⟩ := hq _ (Below.refl _ _)
        have hno : ¬ mayOne l[j] → mayE l = 2 := fun h => by
          unfold mayE
          rw [if_neg (by omega), if_neg (fun hh => h (hh _ (List.getElem_mem hlt)))]
        have hyes : mayOne l[j] → ∀ k (hk : k < l.length), k < j + 1 → mayOne l[k] := fun h k hk h2 => by
          rcases Nat.lt_or_ge k j with h3 | h3
          · exact HK.out k hk h3
          · obtain rfl : k = j := by omega
            exact h
        have Hno := Lib.hid hno
        have Hyes := Lib.hid hyes
        clear hno hyes hq
        unfold mayOne at Hno Hyes
        generalize l[j].a = a at *
        generalize l[j].w = x at *
        have hlt' : (j : Int) < (l.length : Int) := by omega
        by_cases ha : a < 0
        · have hd1 : decide (a < 0) = true := by simp; omega
          have hn := Hno.out (by omega)
          have Hn := Lib.hid hn
          clear hn
          go_wp2
          go_ret
          exact ⟨by rw [Hn.out]; rfl, rfl⟩
        · have hd1 : decide (a < 0) = false := by simp; omega
          by_cases hb : a < 1048576
          · have hd2 : decide ((1048576 : Int) ≤ a) = false := by simp; omega
            have Hy := Lib.hid (Hyes.out ⟨by omega, hb⟩)
            go_wp2
            go_round
            case rel => exact ⟨j + 1, by omega, by go_num, Hy.out⟩
            case measure => simp [intOf]; omega
          · have hd2 : decide ((1048576 : Int) ≤ a) = true := by simp; omega
            have hn := Hno.out (by omega)
            have Hn := Lib.hid hn
            clear hn
            go_wp2
            go_ret
            exact ⟨by rw [Hn.out]; rfl, rfl⟩
      · obtain rfl : j = l.length := by omega
        have hm : mayE l = 0 := mayE_ok.2 ⟨hle, fun r hr => by
          obtain ⟨k, hk, rfl⟩ := List.mem_iff_getElem.1 hr
          exact HK.out k hk hk⟩
        have Hm := Lib.hid hm
        clear hm
        go_wp2
        go_ret
        exact ⟨by rw [Hm.out]; rfl, rfl⟩

set_option maxRecDepth 100000 in
set_option maxHeartbeats 4000000 in
theorem refBody_any (v : Value) (l : List Rdo) (w : World) (hr : Rd w v l.length (rcells l)) (ho : ∀ r ∈ l, mayOne r) (hl : l.length ≤ 64) :
    Calls Tryd.prog 13 #[v] w (Hands w 26 1 (l.length * 2) (u64s (rbody l))) := by
  have HR := Lib.hid hr
  have HO := Lib.hid ho
  obtain ⟨A, c, rfl, h1, h2, h3⟩ := hr
  obtain ⟨i0, hi, hz0, hz1, hz2⟩ := info_parts info64
  clear h3 ho
  go_enter Tryd.func13, Tryd.ntmps13
  go_wp2
  go_loopw [3, 4] (fun s i wr => ∃ (j : Nat) (B : Option Addr) (cb : Nat), j ≤ l.length ∧ i = .int .i64 j ∧ s = .slice B (j * 2) cb ∧ wr.ownsRow w.heap.size 26 1 (.slice B (j * 2) cb) (j * 2) (u64s (rbody (l.take j))) ∧ Below w.heap.size w wr) (fun _ i _ => l.length - (intOf i).toNat)
  case atStart => exact ⟨0, none, 0, by omega, rfl, rfl, World.ownsRow_nil _ _ _ _, Below.refl _ _⟩
  case round =>
    obtain ⟨j, B, cb, hj, rfl, rfl, hown, hb⟩ := hrel
    by_cases hlt : j < l.length
    · obtain ⟨b, o, rfl, hq⟩ := redo_cells HR.out hlt
      obtain ⟨q0, q1⟩ := hq _ hb
      have hbt := rbody_take l j hlt
      obtain ⟨hm1, hm2⟩ := HO.out _ (List.getElem_mem hlt)
      generalize l[j] = r at *
      obtain ⟨a, x⟩ := r
      dsimp only at q0 q1 hbt hm1 hm2
      obtain ⟨k, rfl⟩ := Int.eq_ofNat_of_zero_le hm1
      rw [Int.toNat_natCast] at hbt
      have Hbt := Lib.hid hbt
      have HQ := Lib.hid hq
      have hwk : IntKind.u64.wrap (k : Int) = (k : Int) := by simp [IntKind.wrap, IntKind.signed, IntKind.bits]; omega
      have Hb0 := Lib.hid hb.drew
      have hbx : Below wr.heap.size wr (wr.drew.alloc (.cells #[.int .u64 (k : Nat), .int .u64 (x : Nat)] 26)) := ((Below.refl _ _).drew).alloc (Nat.le_refl _) _
      have HRn := Lib.hid (Rd.newAt2 wr.drew wr.heap.size rfl k x 26)
      have Hox := Lib.hid (own_below hown hbx)
      have Hbx := Lib.hid (below_then hb hbx)
      have hlt' : (j : Int) < (l.length : Int) := by omega
      clear hq hbt hown hb hm1 hbx
      go_wp2
      go_region_held3 (fun w' => w'.cell? ⟨b, o + j * 2, none⟩ = some (.int .i64 (k : Nat)) ∧ w'.cell? ⟨b, o + j * 2 + 1, none⟩ = some (.int .u64 (x : Nat)))
        (first | assumption | exact HQ.out _ Hb0.out | exact HQ.out _ Hbx.out | exact HQ.out _ Hb2.out)
        (first | (refine step_append_rd rfl (.tmp 11) (.tmp 23) 25 rfl w.heap.size 26 i0 _ 1 8 Tryd.underlying25 hi hz0 hz1 hz2 rfl (by decide) (.slice B (j * 2) cb) (j * 2) (u64s (rbody (l.take j))) (by simp [Act.eval]) Hox.out _ 2 (u64s [k, x]) (by simp [Act.eval]) HRn.out rfl (u64s_one _) (by unfold maxLen; omega) (by omega) Hbx.out.size ?_; intro A2 c2 w2 hown2 hg2; have Hown2 := Lib.hid hown2; have Hb2 := Lib.hid (below_grown Hbx.out Hox.out (Nat.le_refl _) Hbx.out.size hg2); clear hown2 hg2))
      go_wp2
      go_roundw
      case rel =>
        refine ⟨j + 1, A2, c2, by omega, by go_num, ?_, ?_, Hb2.out⟩
        · rw [show (j + 1) * 2 = j * 2 + 2 by omega]
        · rw [Hbt.out, u64s_append, show (j + 1) * 2 = j * 2 + 2 by omega]; exact Hown2.out
      case measure => simp [intOf]; omega
    · obtain rfl : j = l.length := by omega
      rw [List.take_length] at hown
      have Hown := Lib.hid hown
      have Hb := Lib.hid hb
      clear hown hb
      go_wp2
      go_ret
      exact ⟨_, _, rfl, Hown.out, Hb.out⟩
end Go.Proofs.YtlfnpjdnfkcigaaDoor
