/- The walk of the law PoolDrops. -/
import Derived.Test.YteojodddfanepaaPoolAlive
namespace Go.Proofs.Yteojodddfanepaa
open Go.RowKit
set_option linter.unusedVariables false

/-- 'append([]int(nil), s...)' -/
theorem copyI {ops : Array Oper} {rest : List Oper} {o : Oper} {a : Act} {w : World} {Q : Exit → Act → World → Prop} (hw : Region.wanted o (yielded ops a.tmps) = true) (s x : Operand)
    (ho : o.op = .call { callee := .builtin .append, args := #[s, x], argTypes := #[25, 25] }) (hs : a.eval s = .slice none 0 0)
    (u : Value) (l : List Int) (m : Nat) (hm : l.length = m) (hx : a.eval x = u) (hr : Rd w u m (i64s l)) (hb : m ≤ 4294967296)
    (h : ∀ A c w', w'.ownsRow w.heap.size 3 1 (.slice A m c) m (i64s l) → Below w.heap.size w w' → wpList Try.prog ops Q rest (a.put o.dst (.slice A m c)) w') : wpList Try.prog ops Q (o :: rest) a w := by
  obtain ⟨i0, hi, hz0, hz1, hz2⟩ := info_parts infoInt
  exact wpList_copy_rd hw s x _ ho 3 i0 _ 1 8 Try.underlying25 hi hz0 hz1 hz2 rfl (by decide) hs u m (i64s l) hx hr (by rw [i64s_length, hm, Nat.mul_one]) (i64s_one l) (by unfold maxLen; omega) (by omega) h

set_option maxHeartbeats 4000000 in
theorem poolDrops_walk (w : World) (v : Value) (l : List Nat) (hl : ∀ x ∈ l, x < 2 ^ 64) (hr : Rd w v l.length (u64s l)) (n : Int) (hn1 : -9223372036854775808 ≤ n) (hn2 : n ≤ 9223372036854775807) (v' : Value) (m : List Int) (hm : ∀ x ∈ m, -9223372036854775808 ≤ x ∧ x ≤ 9223372036854775807) (hr' : Rd w v' m.length (i64s m)) :
    Calls Try.prog 4 #[v, .int .i64 n, v'] w fun e w' => e = .returned (.bool true) ∧ Below w.heap.size w w' := by
  have HL := Lib.hid (large_any v l w hr)
  have HR := Lib.hid hr
  have HR' := Lib.hid hr'
  have HW := Lib.hid hl
  have HW' := Lib.hid hm
  obtain ⟨B, d, rfl, _, _, hx⟩ := hr'
  clear hr hl hm hx
  by_cases h1 : 40 < l.length
  · rw [decide_eq_true h1] at HL
    clear h1
    go_enter Try.func4, Try.ntmps4
    go_wp2_with fail
    refine HL.out.mono ?_
    rintro e w' ⟨rfl, rfl⟩
    go_wp2_with fail
    refine (alive_any _).mono ?_
    rintro e w' ⟨rfl, hb⟩
    have Hb := Lib.hid hb
    clear hb
    go_wp2
    go_ret
    exact ⟨rfl, Hb.out⟩
  · rw [decide_eq_false h1] at HL
    by_cases h2 : 200 < m.length
    · have hd : decide ((m.length : Int) > 200) = true := by simp; omega
      go_enter Try.func4, Try.ntmps4
      go_wp2_with fail
      refine HL.out.mono ?_
      rintro e w' ⟨rfl, rfl⟩
      go_wp2_with fail
      refine (alive_any _).mono ?_
      rintro e w' ⟨rfl, hb⟩
      have Hb := Lib.hid hb
      clear hb
      go_wp2
      go_ret
      exact ⟨rfl, Hb.out⟩
    · have hd : decide ((m.length : Int) > 200) = false := by simp; omega
      go_enter Try.func4, Try.ntmps4
      go_wp2_with fail
      refine HL.out.mono ?_
      rintro e w' ⟨rfl, rfl⟩
      go_wp2_with (first
        | (at_builtin; refine copy64 rfl (.const (.slice none 0 0)) (.tmp 21) rfl rfl _ l _ rfl rfl HR.out (by omega) ?_; intro A1 c1 w1 hown1 hb1)
        | (at_builtin; refine copyI rfl (.const (.slice none 0 0)) (.tmp 23) rfl rfl _ m _ rfl rfl (HR'.out.below hb1) (by omega) ?_; intro A2 c2 w2 hown2 hb2))
      have Ho2 := Lib.hid ((Rd.of_own hown1).below hb2)
      have Hm2 := Lib.hid (Rd.of_own hown2)
      have hb12 := below_then hb1 hb2
      have Hl2 := Lib.hid (HR.out.below hb12)
      have Hn2 := Lib.hid (HR'.out.below hb12)
      have Hb2 := Lib.hid hb12
      clear hown1 hown2 hb1 hb2 hb12
      refine (Drop_gives _ _ l n m _ Ho2.out HW.out Hm2.out hn1 hn2 (by omega) (by omega) HW'.out).mono ?_
      rintro e w3 ⟨r3, rfl, hr3, hb3⟩
      have Hb3 := Lib.hid (below_then Hb2.out hb3)
      have Ho3 := Lib.hid (Ho2.out.below hb3)
      have Hm3 := Lib.hid (Hm2.out.below hb3)
      have Hl3 := Lib.hid (Hl2.out.below hb3)
      have Hn3 := Lib.hid (Hn2.out.below hb3)
      have Hr3 := Lib.hid hr3
      clear hr3 hb3 Hb2 Ho2 Hm2 Hl2 Hn2
      go_wp2_with fail
      refine (refDrop_gives _ _ l n m _ Hl3.out HW.out Hn3.out hn1 hn2 (by omega) (by omega) HW'.out).mono ?_
      rintro e w4 ⟨r4, rfl, hr4, hb4⟩
      have Hb4 := Lib.hid (below_then Hb3.out hb4)
      have Ho4 := Lib.hid (Ho3.out.below hb4)
      have Hm4 := Lib.hid (Hm3.out.below hb4)
      have Hl4 := Lib.hid (Hl3.out.below hb4)
      have Hn4 := Lib.hid (Hn3.out.below hb4)
      have Hr4 := Lib.hid (Hr3.out.below hb4)
      have Hr4' := Lib.hid hr4
      clear hr4 hb4 Hb3 Ho3 Hm3 Hl3 Hn3 Hr3
      generalize dropOut l n m = T at *
      obtain ⟨tr, te⟩ := T
      dsimp only at *
      have hte : (te == te) = true := by simp
      go_wp2_with fail
      refine (same_yes _ _ tr _ rfl _ Hr4.out Hr4'.out).mono ?_
      rintro e w5 ⟨rfl, hb5⟩
      have Hb5 := Lib.hid (below_then Hb4.out hb5)
      have Ho5 := Lib.hid (Ho4.out.below hb5)
      have Hm5 := Lib.hid (Hm4.out.below hb5)
      have Hl5 := Lib.hid (Hl4.out.below hb5)
      have Hn5 := Lib.hid (Hn4.out.below hb5)
      clear hb5 Hb4 Ho4 Hm4 Hl4 Hn4 Hr4 Hr4'
      go_wp2_with fail
      refine (same_yes _ _ l _ rfl _ Ho5.out Hl5.out).mono ?_
      rintro e w6 ⟨rfl, hb6⟩
      have Hb6 := Lib.hid (below_then Hb5.out hb6)
      have Hm6 := Lib.hid (Hm5.out.below hb6)
      have Hn6 := Lib.hid (Hn5.out.below hb6)
      clear hb6 Hb5 Ho5 Hm5 Hl5 Hn5
      go_wp2_with fail
      refine (sameI_yes _ _ m _ rfl _ Hm6.out Hn6.out).mono ?_
      rintro e w7 ⟨rfl, hb7⟩
      have Hb7 := Lib.hid (below_then Hb6.out hb7)
      clear hb7 Hb6 Hm6 Hn6
      go_wp2_with fail
      refine (alive_any _).mono ?_
      rintro e w8 ⟨rfl, hb8⟩
      have Hb8 := Lib.hid (below_then Hb7.out hb8)
      clear hb8 Hb7
      go_wp2
      go_ret
      exact ⟨rfl, Hb8.out⟩
end Go.Proofs.Yteojodddfanepaa
