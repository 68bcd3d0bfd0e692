/- Pieces of the walk of InodeBack. -/
import Derived.Test.YtnpmepklgakaiaaDoorInodeAlive
import Derived.Test.YtnpmepklgakaiaaDoorInodeJ
namespace Go.Proofs.YtnpmepklgakaiaaDoor
open Go.RowKit
set_option linter.unusedVariables false

theorem dec_turnedI (x : Ino) (hx : OkI x) (P I B : Int) (h : mayI x P I B = true) (K t : Nat) (ht : t < 2 ^ 32) (hK : K + 32 ≤ 512) :
    decF (turnsTo (sealed (wordsI x)) K t 32) P I B = none ↔ t = 0 := by
  have hS := ((mayI_iff x hx P I B).1 h).1
  have ho := turned_opens (wordsI x) (wordsI_wd x hx hS) K t ht hK
  constructor
  · intro hd
    have hop : opens (turnsTo (sealed (wordsI x)) K t 32) = true := by
      unfold decF at hd
      split at hd
      · cases hd
      split at hd
      · cases hd
      split at hd
      · cases hd
      · rename_i q
        simpa using q
    rw [hop] at ho
    simpa using ho.symm
  · rintro rfl
    have e : ∀ n, turnsTo (sealed (wordsI x)) K 0 n = sealed (wordsI x) := by
      intro n
      induction n with
      | zero => rfl
      | succ n ih => simp only [turnsTo]; rw [Nat.zero_div, if_neg (by decide), ih]
    rw [e]
    exact (dec_enc x hx P I B h).1
/-- what Decode answers, by cases on the Fault alone -/
def DecW (s : List Nat) (P I B : Int) (y : Ino) (ev : Value) : Prop :=
  (decF s P I B = none ∧ y = recOf (s.take 7) ∧ ev = .nilIface) ∨ (∃ a er : Int, decF s P I B = some (a, er) ∧ ev = .iface 52 (.agg #[.int .i64 a, .int .i64 er]))
theorem Decode_ex (v : Value) (s : List Nat) (P I B : Int) (W : World) (hw : ∀ x ∈ s, x < 18446744073709551616) (hl : s.length ≤ 65536) (hr : Rd W v s.length (u64s s)) :
    Calls Tryd.prog 15 #[v, gv P I B] W fun e w' => ∃ (k : Nat) (ln : Int) (gn : Nat) (sz ar mp h0 h1 h2 h3 pa mt ct : Int) (ev : Value), e = .returned (.tuple #[.agg #[.int .u8 k, .int .i64 ln, .int .u32 gn, .int .i64 sz, .int .i64 ar, .int .i64 mp, .int .i64 h0, .int .i64 h1, .int .i64 h2, .int .i64 h3, .int .i64 pa, .int .i64 mt, .int .i64 ct], ev]) ∧ DecW s P I B ⟨k, ln, gn, sz, ar, mp, h0, h1, h2, h3, pa, mt, ct⟩ ev ∧ Below W.heap.size W w' := by
  refine (Decode_any v s P I B W hw hl hr).mono ?_
  rintro e w' (⟨h, rfl, hb⟩ | ⟨a, er, h, rfl, hb⟩)
  · refine ⟨_, _, _, _, _, _, _, _, _, _, _, _, _, _, rfl, .inl ⟨h, rfl, rfl⟩, hb⟩
  · exact ⟨_, _, _, _, _, _, _, _, _, _, _, _, _, _, rfl, .inr ⟨a, er, h, rfl⟩, hb⟩
theorem nil_eq (W : World) : (binOp .eql 40 .nilIface .nilIface).run Tryd.prog W = .ok (.bool true) W := by kernel_rfl
theorem fault_eq (W : World) (a er : Int) : (binOp .eql 40 (.iface 52 (.agg #[.int .i64 a, .int .i64 er])) .nilIface).run Tryd.prog W = .ok (.bool false) W := by kernel_rfl
theorem nil_guard (W : World) : (eqGuard .eql 40 (.tmp 32) (.const .nilIface) .nilIface .nilIface).run Tryd.prog W = .ok () W := by kernel_rfl
theorem fault_guard (W : World) (a er : Int) : (eqGuard .eql 40 (.tmp 32) (.const .nilIface) (.iface 52 (.agg #[.int .i64 a, .int .i64 er])) .nilIface).run Tryd.prog W = .ok () W := by kernel_rfl
theorem sameW_yes2 (a b : Value) (l : List Nat) (n m : Nat) (hn : l.length = n) (hm : l.length = m) (w : World) (ha : Rd w a n (u64s l)) (hb : Rd w b m (u64s l)) :
    Calls Tryd.prog 11 #[a, b] w fun e w' => e = .returned (.bool true) ∧ Below w.heap.size w w' := by
  subst hn
  subst hm
  exact sameW_yes a b l _ rfl w ha hb
/-- what is decoded is encoded as itself -/
theorem Encode_dec (s : List Nat) (hw : ∀ y ∈ s, y < 18446744073709551616) (P I B : Int) (h : decF s P I B = none) (y : Ino) (hy : y = recOf (s.take 7)) :
    s.length = 8 ∧ ∀ W, Calls Tryd.prog 7 #[iv y, gv P I B] W fun e W' => ∃ A c, e = .returned (.tuple #[.slice A 8 c, .int .i64 0]) ∧ Rd W' (.slice A 8 c) 8 (u64s s) ∧ Below W.heap.size W W' := by
  subst hy
  obtain ⟨h1, h2, h3, h4⟩ := enc_dec s hw P I B h
  refine ⟨h1, fun W => ?_⟩
  refine (Encode_yes _ h2 P I B h3 W).mono ?_
  rintro e W' ⟨A, c, rfl, ho, hb⟩
  rw [ofI_words _ h2 ((mayI_iff _ h2 P I B).1 h3).1] at ho
  dsimp only at ho
  rw [h4] at ho
  exact ⟨A, c, rfl, Rd.of_own ho, hb⟩
/-- what was encoded is decoded as itself -/
theorem Decode_encI (x : Ino) (hx : OkI x) (P I B : Int) (hm : mayI x P I B = true) (v : Value) (W : World) (hr : Rd W v 8 (u64s (sealed (wordsI x)))) :
    Calls Tryd.prog 15 #[v, gv P I B] W fun e w' => e = .returned (.tuple #[iv x, .nilIface]) ∧ Below W.heap.size W w' := by
  obtain ⟨d0, d1, d2⟩ := dec_enc x hx P I B hm
  refine (Decode_any v (sealed (wordsI x)) P I B W (sealed_wd (wordsI_wd x hx ((mayI_iff x hx P I B).1 hm).1)) (by show 8 ≤ 65536; decide) hr).mono ?_
  rintro e w' (⟨_, h1, h2⟩ | ⟨a, er, h, _⟩)
  · rw [d1, d2] at h1
    exact ⟨h1, h2⟩
  · rw [d0] at h; cases h
theorem keepG {w0 W' : World} {g : Nat} {v0 v1 v2 : Value} (h : w0.cell? ⟨g, 0, none⟩ = some v0 ∧ w0.cell? ⟨g, 1, none⟩ = some v1 ∧ w0.cell? ⟨g, 2, none⟩ = some v2) (hb : Below w0.heap.size w0 W') : (W'.cell? ⟨g, 0, none⟩ = some v0 ∧ W'.cell? ⟨g, 1, none⟩ = some v1 ∧ W'.cell? ⟨g, 2, none⟩ = some v2) ∧ Below w0.heap.size w0 W' := by
  have K : ∀ (p : Addr) (v : Value), w0.cell? p = some v → W'.cell? p = some v := fun p v hv => (hb.cell (World.block_lt_of_cell? _ _ hv)).trans hv
  exact ⟨⟨K _ _ h.1, K _ _ h.2.1, K _ _ h.2.2⟩, hb⟩
/-- a record's box -/
def BoxI (W : World) (b : Nat) (x : Ino) : Prop := W.cell? ⟨b, 0, none⟩ = some (.int .u8 (x.k : Nat)) ∧ W.cell? ⟨b, 1, none⟩ = some (.int .i64 x.ln) ∧ W.cell? ⟨b, 2, none⟩ = some (.int .u32 (x.gn : Nat)) ∧ W.cell? ⟨b, 3, none⟩ = some (.int .i64 x.sz) ∧ W.cell? ⟨b, 4, none⟩ = some (.int .i64 x.ar) ∧ W.cell? ⟨b, 5, none⟩ = some (.int .i64 x.mp) ∧ W.cell? ⟨b, 6, none⟩ = some (.int .i64 x.h0) ∧ W.cell? ⟨b, 7, none⟩ = some (.int .i64 x.h1) ∧ W.cell? ⟨b, 8, none⟩ = some (.int .i64 x.h2) ∧ W.cell? ⟨b, 9, none⟩ = some (.int .i64 x.h3) ∧ W.cell? ⟨b, 10, none⟩ = some (.int .i64 x.pa) ∧ W.cell? ⟨b, 11, none⟩ = some (.int .i64 x.mt) ∧ W.cell? ⟨b, 12, none⟩ = some (.int .i64 x.ct)
theorem BoxI.keep {W W' : World} {b : Nat} {x : Ino} (h : BoxI W b x) (hb : Below W.heap.size W W') : BoxI W' b x := keep13 h hb
set_option maxHeartbeats 2000000 in
theorem box_set13 {a : World} {b : Nat} {u0 u1 u2 u3 u4 u5 u6 u7 u8 u9 u10 u11 u12 v0 v1 v2 v3 v4 v5 v6 v7 v8 v9 v10 v11 v12 : Value} (h0 : a.cell? ⟨b, 0, none⟩ = some u0) (h1 : a.cell? ⟨b, 1, none⟩ = some u1) (h2 : a.cell? ⟨b, 2, none⟩ = some u2) (h3 : a.cell? ⟨b, 3, none⟩ = some u3) (h4 : a.cell? ⟨b, 4, none⟩ = some u4) (h5 : a.cell? ⟨b, 5, none⟩ = some u5) (h6 : a.cell? ⟨b, 6, none⟩ = some u6) (h7 : a.cell? ⟨b, 7, none⟩ = some u7) (h8 : a.cell? ⟨b, 8, none⟩ = some u8) (h9 : a.cell? ⟨b, 9, none⟩ = some u9) (h10 : a.cell? ⟨b, 10, none⟩ = some u10) (h11 : a.cell? ⟨b, 11, none⟩ = some u11) (h12 : a.cell? ⟨b, 12, none⟩ = some u12) :
    (((((((((((((a.setCell ⟨b, 0, none⟩ v0).setCell ⟨b, 1, none⟩ v1).setCell ⟨b, 2, none⟩ v2).setCell ⟨b, 3, none⟩ v3).setCell ⟨b, 4, none⟩ v4).setCell ⟨b, 5, none⟩ v5).setCell ⟨b, 6, none⟩ v6).setCell ⟨b, 7, none⟩ v7).setCell ⟨b, 8, none⟩ v8).setCell ⟨b, 9, none⟩ v9).setCell ⟨b, 10, none⟩ v10).setCell ⟨b, 11, none⟩ v11).setCell ⟨b, 12, none⟩ v12).cell? ⟨b, 0, none⟩ = some v0 ∧ (((((((((((((a.setCell ⟨b, 0, none⟩ v0).setCell ⟨b, 1, none⟩ v1).setCell ⟨b, 2, none⟩ v2).setCell ⟨b, 3, none⟩ v3).setCell ⟨b, 4, none⟩ v4).setCell ⟨b, 5, none⟩ v5).setCell ⟨b, 6, none⟩ v6).setCell ⟨b, 7, none⟩ v7).setCell ⟨b, 8, none⟩ v8).setCell ⟨b, 9, none⟩ v9).setCell ⟨b, 10, none⟩ v10).setCell ⟨b, 11, none⟩ v11).setCell ⟨b, 12, none⟩ v12).cell? ⟨b, 1, none⟩ = some v1 ∧ (((((((((((((a.setCell ⟨b, 0, none⟩ v0).setCell ⟨b, 1, none⟩ v1).setCell ⟨b, 2, none⟩ v2).setCell ⟨b, 3, none⟩ v3).setCell ⟨b, 4, none⟩ v4).setCell ⟨b, 5, none⟩ v5).setCell ⟨b, 6, none⟩ v6).setCell ⟨b, 7, none⟩ v7).setCell ⟨b, 8, none⟩ v8).setCell ⟨b, 9, none⟩ v9).setCell ⟨b, 10, none⟩ v10).setCell ⟨b, 11, none⟩ v11).setCell ⟨b, 12, none⟩ v12).cell? ⟨b, 2, none⟩ = some v2 ∧ (((((((((((((a.setCell ⟨b, 0, none⟩ v0).setCell ⟨b, 1, none⟩ v1).setCell ⟨b, 2, none⟩ v2).setCell ⟨b, 3, none⟩ v3).setCell ⟨b, 4, none⟩ v4).setCell ⟨b, 5, none⟩ v5).setCell ⟨b, 6, none⟩ v6).setCell ⟨b, 7, none⟩ v7).setCell ⟨b, 8, none⟩ v8).setCell ⟨b, 9, none⟩ v9).setCell ⟨b, 10, none⟩ v10).setCell ⟨b, 11, none⟩ v11).setCell ⟨b, 12, none⟩ v12).cell? ⟨b, 3, none⟩ = some v3 ∧ (((((((((((((a.setCell ⟨b, 0, none⟩ v0).setCell ⟨b, 1, none⟩ v1).setCell ⟨b, 2, none⟩ v2).setCell ⟨b, 3, none⟩ v3).setCell ⟨b, 4, none⟩ v4).setCell ⟨b, 5, none⟩ v5).setCell ⟨b, 6, none⟩ v6).setCell ⟨b, 7, none⟩ v7).setCell ⟨b, 8, none⟩ v8).setCell ⟨b, 9, none⟩ v9).setCell ⟨b, 10, none⟩ v10).setCell ⟨b, 11, none⟩ v11).setCell ⟨b, 12, none⟩ v12).cell? ⟨b, 4, none⟩ = some v4 ∧ (((((((((((((a.setCell ⟨b, 0, none⟩ v0).setCell ⟨b, 1, none⟩ v1).setCell ⟨b, 2, none⟩ v2).setCell ⟨b, 3, none⟩ v3).setCell ⟨b, 4, none⟩ v4).setCell ⟨b, 5, none⟩ v5).setCell ⟨b, 6, none⟩ v6).setCell ⟨b, 7, none⟩ v7).setCell ⟨b, 8, none⟩ v8).setCell ⟨b, 9, none⟩ v9).setCell ⟨b, 10, none⟩ v10).setCell ⟨b, 11, none⟩ v11).setCell ⟨b, 12, none⟩ v12).cell? ⟨b, 5, none⟩ = some v5 ∧ (((((((((((((a.setCell ⟨b, 0, none⟩ v0).setCell ⟨b, 1, none⟩ v1).setCell ⟨b, 2, none⟩ v2).setCell ⟨b, 3, none⟩ v3).setCell ⟨b, 4, none⟩ v4).setCell ⟨b, 5, none⟩ v5).setCell ⟨b, 6, none⟩ v6).setCell ⟨b, 7, none⟩ v7).setCell ⟨b, 8, none⟩ v8).setCell ⟨b, 9, none⟩ v9).setCell ⟨b, 10, none⟩ v10).setCell ⟨b, 11, none⟩ v11).setCell ⟨b, 12, none⟩ v12).cell? ⟨b, 6, none⟩ = some v6 ∧ (((((((((((((a.setCell ⟨b, 0, none⟩ v0).setCell ⟨b, 1, none⟩ v1).setCell ⟨b, 2, none⟩ v2).setCell ⟨b, 3, none⟩ v3).setCell ⟨b, 4, none⟩ v4).setCell ⟨b, 5, none⟩ v5).setCell ⟨b, 6, none⟩ v6).setCell ⟨b, 7, none⟩ v7).setCell ⟨b, 8, none⟩ v8).setCell ⟨b, 9, none⟩ v9).setCell ⟨b, 10, none⟩ v10).setCell ⟨b, 11, none⟩ v11).setCell ⟨b, 12, none⟩ v12).cell? ⟨b, 7, none⟩ = some v7 ∧ (((((((((((((a.setCell ⟨b, 0, none⟩ v0).setCell ⟨b, 1, none⟩ v1).setCell ⟨b, 2, none⟩ v2).setCell ⟨b, 3, none⟩ v3).setCell ⟨b, 4, none⟩ v4).setCell ⟨b, 5, none⟩ v5).setCell ⟨b, 6, none⟩ v6).setCell ⟨b, 7, none⟩ v7).setCell ⟨b, 8, none⟩ v8).setCell ⟨b, 9, none⟩ v9).setCell ⟨b, 10, none⟩ v10).setCell ⟨b, 11, none⟩ v11).setCell ⟨b, 12, none⟩ v12).cell? ⟨b, 8, none⟩ = some v8 ∧ (((((((((((((a.setCell ⟨b, 0, none⟩ v0).setCell ⟨b, 1, none⟩ v1).setCell ⟨b, 2, none⟩ v2).setCell ⟨b, 3, none⟩ v3).setCell ⟨b, 4, none⟩ v4).setCell ⟨b, 5, none⟩ v5).setCell ⟨b, 6, none⟩ v6).setCell ⟨b, 7, none⟩ v7).setCell ⟨b, 8, none⟩ v8).setCell ⟨b, 9, none⟩ v9).setCell ⟨b, 10, none⟩ v10).setCell ⟨b, 11, none⟩ v11).setCell ⟨b, 12, none⟩ v12).cell? ⟨b, 9, none⟩ = some v9 ∧ (((((((((((((a.setCell ⟨b, 0, none⟩ v0).setCell ⟨b, 1, none⟩ v1).setCell ⟨b, 2, none⟩ v2).setCell ⟨b, 3, none⟩ v3).setCell ⟨b, 4, none⟩ v4).setCell ⟨b, 5, none⟩ v5).setCell ⟨b, 6, none⟩ v6).setCell ⟨b, 7, none⟩ v7).setCell ⟨b, 8, none⟩ v8).setCell ⟨b, 9, none⟩ v9).setCell ⟨b, 10, none⟩ v10).setCell ⟨b, 11, none⟩ v11).setCell ⟨b, 12, none⟩ v12).cell? ⟨b, 10, none⟩ = some v10 ∧ (((((((((((((a.setCell ⟨b, 0, none⟩ v0).setCell ⟨b, 1, none⟩ v1).setCell ⟨b, 2, none⟩ v2).setCell ⟨b, 3, none⟩ v3).setCell ⟨b, 4, none⟩ v4).setCell ⟨b, 5, none⟩ v5).setCell ⟨b, 6, none⟩ v6).setCell ⟨b, 7, none⟩ v7).setCell ⟨b, 8, none⟩ v8).setCell ⟨b, 9, none⟩ v9).setCell ⟨b, 10, none⟩ v10).setCell ⟨b, 11, none⟩ v11).setCell ⟨b, 12, none⟩ v12).cell? ⟨b, 11, none⟩ = some v11 ∧ (((((((((((((a.setCell ⟨b, 0, none⟩ v0).setCell ⟨b, 1, none⟩ v1).setCell ⟨b, 2, none⟩ v2).setCell ⟨b, 3, none⟩ v3).setCell ⟨b, 4, none⟩ v4).setCell ⟨b, 5, none⟩ v5).setCell ⟨b, 6, none⟩ v6).setCell ⟨b, 7, none⟩ v7).setCell ⟨b, 8, none⟩ v8).setCell ⟨b, 9, none⟩ v9).setCell ⟨b, 10, none⟩ v10).setCell ⟨b, 11, none⟩ v11).setCell ⟨b, 12, none⟩ v12).cell? ⟨b, 12, none⟩ = some v12 := by
  refine ⟨?_, ?_, ?_, ?_, ?_, ?_, ?_, ?_, ?_, ?_, ?_, ?_, ?_⟩ <;> go_simp
theorem right_of {a b : Prop} (h : a ∧ b) : b := h.2
end Go.Proofs.YtnpmepklgakaiaaDoor
