/- Chapter 6: what was encoded is decoded, and back, as plain data. '==' of two records. What the laws of chapter 6 ask of the shared packages: Same, Told. parcloselaw06.reads. -/
import Derived.Test.YtnpmepklgakaiaaDoorInodeRefW
import Derived.Test.YtnpmepklgakaiaaDoorInodeF
import Derived.Test.YtnpmepklgakaiaaDoorFaultTold
import Derived.Test.YtnpmepklgakaiaaDoorSame
import Derived.Deep.RegionHeld3
import Derived.Test.YtnpmepklgakaiaaDoorCopy
namespace Go.Proofs.YtnpmepklgakaiaaDoor
section
set_option linter.unusedVariables false

/-- have a record's numbers room, and are its map and its heads in their place? -/
def SmallI (x : Ino) : Prop := (0 ≤ x.ln ∧ x.ln < 256) ∧ 0 ≤ x.sz ∧ 0 ≤ x.ar ∧ 0 ≤ x.mp ∧ 0 ≤ x.pa ∧ 0 ≤ x.mt ∧ 0 ≤ x.ct ∧ (0 ≤ x.h0 ∧ x.h0 < 256) ∧ (0 ≤ x.h1 ∧ x.h1 < 256) ∧ (0 ≤ x.h2 ∧ x.h2 < 256) ∧ (0 ≤ x.h3 ∧ x.h3 < 256) ∧
  (x.k = 2 → x.mp = 0) ∧ (x.k ≠ 2 → x.h0 = 0 ∧ x.h1 = 0 ∧ x.h2 = 0 ∧ x.h3 = 0)
def wordsI (x : Ino) : List Nat := wordsN x.k x.ln.toNat x.gn x.sz.toNat x.ar.toNat x.mp.toNat x.h0.toNat x.h1.toNat x.h2.toNat x.h3.toNat x.pa.toNat x.mt.toNat x.ct.toNat

theorem ofI_words (x : Ino) (hx : OkI x) (h : SmallI x) : ofI x = (wordsI x, true) := by
  obtain ⟨k, ln, gn, sz, ar, mp, h0, h1, h2, h3, pa, mt, ct⟩ := x
  obtain ⟨o0, o1, o2, o3, o4, o5, o6, o7, o8, o9, o10, o11, o12⟩ := hx
  obtain ⟨⟨s1, s1'⟩, s2, s3, s4, s5, s6, s7, ⟨s8, s8'⟩, ⟨s9, s9'⟩, ⟨s10, s10'⟩, ⟨s11, s11'⟩, s12, s13⟩ := h
  unfold Z64 at *
  dsimp only at *
  obtain ⟨ln, rfl⟩ := Int.eq_ofNat_of_zero_le s1
  obtain ⟨sz, rfl⟩ := Int.eq_ofNat_of_zero_le s2
  obtain ⟨ar, rfl⟩ := Int.eq_ofNat_of_zero_le s3
  obtain ⟨mp, rfl⟩ := Int.eq_ofNat_of_zero_le s4
  obtain ⟨pa, rfl⟩ := Int.eq_ofNat_of_zero_le s5
  obtain ⟨mt, rfl⟩ := Int.eq_ofNat_of_zero_le s6
  obtain ⟨ct, rfl⟩ := Int.eq_ofNat_of_zero_le s7
  obtain ⟨h0, rfl⟩ := Int.eq_ofNat_of_zero_le s8
  obtain ⟨h1, rfl⟩ := Int.eq_ofNat_of_zero_le s9
  obtain ⟨h2, rfl⟩ := Int.eq_ofNat_of_zero_le s10
  obtain ⟨h3, rfl⟩ := Int.eq_ofNat_of_zero_le s11
  have R : ∀ (v n : Nat), v < 2 ^ n → roomB (v : Int) n = true := fun v n hv => by
    unfold roomB
    have : ((v : Int) < 2 ^ n) := by rw [show ((2 : Int) ^ n) = ((2 ^ n : Nat) : Int) by simp]; omega
    simp [this]
  have PI : ∀ (w a n v : Nat), v < 2 ^ n → putI w a n (v : Int) = putW w a n v := fun w a n v hv => by
    unfold putI; rw [if_pos (R v n hv), Int.toNat_natCast]
  have r0 : k < 2 ^ 8 := by omega
  have r1 : ln < 2 ^ 8 := by omega
  have r2 : gn < 2 ^ 32 := by omega
  have r3 : sz < 2 ^ 63 := by omega
  have r4 : ar < 2 ^ 63 := by omega
  have r5 : mp < 2 ^ 63 := by omega
  have r6 : pa < 2 ^ 63 := by omega
  have r7 : mt < 2 ^ 63 := by omega
  have r8 : ct < 2 ^ 63 := by omega
  have r9 : h0 < 2 ^ 8 := by omega
  have r10 : h1 < 2 ^ 8 := by omega
  have r11 : h2 < 2 ^ 8 := by omega
  have r12 : h3 < 2 ^ 8 := by omega
  have W0 : putW (putW (putW 0 0 8 k) 8 8 ln) 32 32 gn = k + ln * 256 + gn * 4294967296 := by
    unfold putW; simp only [show (2 : Nat) ^ 0 = 1 from rfl, show (2 : Nat) ^ 8 = 256 from rfl, show (2 : Nat) ^ 32 = 4294967296 from rfl, show (2 : Nat) ^ (8 + 8) = 65536 from rfl, show (2 : Nat) ^ (32 + 32) = 18446744073709551616 from rfl]; omega
  have WV : ∀ v : Nat, v < 2 ^ 63 → putW 0 0 63 v = v := fun v hv => by
    unfold putW; simp only [show (2 : Nat) ^ 0 = 1 from rfl]; omega
  unfold ofI
  by_cases hk : k = 2
  · have hm : mp = 0 := by have := s12 hk; omega
    subst hm
    have W3 : putW (putW (putW (putW 0 0 8 h0) 8 8 h1) 16 8 h2) 24 8 h3 = h0 + h1 * 256 + h2 * 65536 + h3 * 16777216 := by
      unfold putW; simp only [show (2 : Nat) ^ 0 = 1 from rfl, show (2 : Nat) ^ 8 = 256 from rfl, show (2 : Nat) ^ 16 = 65536 from rfl, show (2 : Nat) ^ 24 = 16777216 from rfl, show (2 : Nat) ^ (24 + 8) = 4294967296 from rfl]; omega
    unfold headsI putsI ofIs0
    rw [if_pos hk, if_pos hk]
    simp only [List.foldl, stepI, R _ _ r0, R _ _ r1, R _ _ r2, R _ _ r3, R _ _ r4, R _ _ r5, R _ _ r6, R _ _ r7, R _ _ r8, R _ _ r9, R _ _ r10, R _ _ r11, R _ _ r12, PI _ _ _ _ r0, PI _ _ _ _ r1, PI _ _ _ _ r2, PI _ _ _ _ r3, PI _ _ _ _ r4, PI _ _ _ _ r5, PI _ _ _ _ r6, PI _ _ _ _ r7, PI _ _ _ _ r8, PI _ _ _ _ r9, PI _ _ _ _ r10, PI _ _ _ _ r11, PI _ _ _ _ r12]
    simp only [List.replicate, List.set, List.getD_cons_zero, List.getD_cons_succ, Bool.and_true]
    rw [W0, WV _ r3, WV _ r4, WV _ r5, WV _ r6, WV _ r7, WV _ r8, W3]
    unfold wordsI wordsN
    simp
  · obtain ⟨z0, z1, z2, z3⟩ := s13 hk
    have e0 : h0 = 0 := by omega
    have e1 : h1 = 0 := by omega
    have e2 : h2 = 0 := by omega
    have e3 : h3 = 0 := by omega
    subst e0; subst e1; subst e2; subst e3
    unfold headsI putsI ofIs0
    rw [if_neg hk, if_neg hk]
    simp only [List.foldl, stepI, R _ _ r0, R _ _ r1, R _ _ r2, R _ _ r3, R _ _ r4, R _ _ r5, R _ _ r6, R _ _ r7, R _ _ r8, PI _ _ _ _ r0, PI _ _ _ _ r1, PI _ _ _ _ r2, PI _ _ _ _ r3, PI _ _ _ _ r4, PI _ _ _ _ r5, PI _ _ _ _ r6, PI _ _ _ _ r7, PI _ _ _ _ r8]
    simp only [List.replicate, List.set, List.getD_cons_zero, List.getD_cons_succ, Bool.and_true]
    rw [W0, WV _ r3, WV _ r4, WV _ r5, WV _ r6, WV _ r7, WV _ r8]
    unfold wordsI wordsN
    simp
theorem ofI_small (x : Ino) (hx : OkI x) (h : (ofI x).2 = true) : SmallI x := by
  obtain ⟨k, ln, gn, sz, ar, mp, h0, h1, h2, h3, pa, mt, ct⟩ := x
  obtain ⟨o0, o1, o2, o3, o4, o5, o6, o7, o8, o9, o10, o11, o12⟩ := hx
  unfold Z64 at *
  dsimp only at *
  have RB : ∀ (v : Int) (n : Nat), roomB v n = true → 0 ≤ v ∧ v < 2 ^ n := fun v n hv => by
    unfold roomB at hv
    simpa using hv
  unfold ofI at h
  unfold SmallI
  dsimp only
  by_cases hk : k = 2
  · unfold headsI putsI ofIs0 at h
    rw [if_pos hk, if_pos hk] at h
    simp only [List.foldl, stepI, Bool.and_eq_true, decide_eq_true_eq] at h
    obtain ⟨⟨⟨⟨⟨⟨⟨⟨⟨⟨⟨⟨⟨b0, b1⟩, b2⟩, b3⟩, b4⟩, b5⟩, b6⟩, b7⟩, b8⟩, b9⟩, b10⟩, b11⟩, b12⟩, b13⟩ := h
    have := RB _ _ b2; have := RB _ _ b4; have := RB _ _ b5; have := RB _ _ b6; have := RB _ _ b7; have := RB _ _ b8; have := RB _ _ b9; have := RB _ _ b10; have := RB _ _ b11; have := RB _ _ b12; have := RB _ _ b13
    omega
  · unfold headsI putsI ofIs0 at h
    rw [if_neg hk, if_neg hk] at h
    simp only [List.foldl, stepI, Bool.and_eq_true, decide_eq_true_eq] at h
    obtain ⟨⟨⟨⟨⟨⟨⟨⟨⟨⟨b0, b0', b0'', b0'''⟩, b1⟩, b2⟩, b3⟩, b4⟩, b5⟩, b6⟩, b7⟩, b8⟩, b9⟩ := h
    have := RB _ _ b2; have := RB _ _ b4; have := RB _ _ b5; have := RB _ _ b6; have := RB _ _ b7; have := RB _ _ b8; have := RB _ _ b9
    omega
theorem sealed_take (l : List Nat) : (sealed l).take l.length = l := by unfold sealed; simp
/-- the record that its words say is itself -/
theorem rec_words (x : Ino) (hx : OkI x) (h : SmallI x) : recOf (wordsI x) = x := by
  obtain ⟨k, ln, gn, sz, ar, mp, h0, h1, h2, h3, pa, mt, ct⟩ := x
  obtain ⟨o0, o1, o2, o3, o4, o5, o6, o7, o8, o9, o10, o11, o12⟩ := hx
  obtain ⟨⟨s1, s1'⟩, s2, s3, s4, s5, s6, s7, ⟨s8, s8'⟩, ⟨s9, s9'⟩, ⟨s10, s10'⟩, ⟨s11, s11'⟩, s12, s13⟩ := h
  unfold Z64 at *
  dsimp only at *
  unfold recOf wordsI wordsN
  simp only [List.getD_cons_zero, List.getD_cons_succ]
  have hkk : (k + ln.toNat * 256 + gn * 4294967296) % 256 = k := by omega
  rw [hkk]
  by_cases hk : k = 2
  · have := s12 hk
    rw [decide_eq_true hk]
    simp only [↓reduceIte, Ino.mk.injEq]
    refine ⟨?_, ?_, ?_, ?_, ?_, ?_, ?_, ?_, ?_, ?_, ?_, ?_, ?_⟩ <;> first | trivial | omega
  · obtain ⟨z0, z1, z2, z3⟩ := s13 hk
    rw [decide_eq_false hk]
    simp only [Bool.false_eq_true, ↓reduceIte, Ino.mk.injEq]
    refine ⟨?_, ?_, ?_, ?_, ?_, ?_, ?_, ?_, ?_, ?_, ?_, ?_, ?_⟩ <;> first | trivial | omega
theorem wordsI_len (x : Ino) : (wordsI x).length = 7 := rfl
/-- the words of the record that good words say are the words -/
theorem words_rec (t : List Nat) (hl : t.length = 7) (hw : ∀ y ∈ t, y < 18446744073709551616) (I B : Nat) (h : wrongAt t (t.getD 0 0 % 256) I B < 0) : SmallI (recOf t) ∧ OkI (recOf t) ∧ wordsI (recOf t) = t := by
  have hall := wrong_neg h
  have h0 := hall 0 (by decide)
  have hle : ∀ q, q < 7 → 1 ≤ q → t.getD q 0 ≤ 4611686018427387904 := fun q h1 h2 => wordOK_le h2 (hall q h1)
  have h3 := hall 3 (by decide)
  match t, hl with
  | [a0, a1, a2, a3, a4, a5, a6], _ =>
    have g0 : a0 < 18446744073709551616 := hw a0 (List.mem_cons_self ..)
    have l1 : a1 ≤ 4611686018427387904 := hle 1 (by decide) (by decide)
    have l2 : a2 ≤ 4611686018427387904 := hle 2 (by decide) (by decide)
    have l3 : a3 ≤ 4611686018427387904 := hle 3 (by decide) (by decide)
    have l4 : a4 ≤ 4611686018427387904 := hle 4 (by decide) (by decide)
    have l5 : a5 ≤ 4611686018427387904 := hle 5 (by decide) (by decide)
    have l6 : a6 ≤ 4611686018427387904 := hle 6 (by decide) (by decide)
    clear hw hle hall h
    simp only [List.getD_cons_zero, List.getD_cons_succ] at h0 h3
    have hlk : a0 % 4294967296 / 256 ≤ 8 := by
      unfold wordOK firstOK at h0
      rw [if_pos rfl] at h0
      split at h0
      · have := of_decide_eq_true h0; omega
      split at h0
      · have := of_decide_eq_true h0; omega
      split at h0
      · have := of_decide_eq_true h0; omega
      · cases h0
    by_cases hk : a0 % 256 = 2
    · have h32 : a3 < 4294967296 := by
        unfold wordOK at h3
        rw [if_neg (by decide), if_neg (by omega), if_neg (by decide), if_neg (by decide), if_pos rfl, if_pos hk] at h3
        unfold headsOK at h3
        simp only [Bool.and_eq_true, decide_eq_true_eq] at h3
        omega
      unfold SmallI OkI wordsI wordsN recOf Z64
      simp only [List.getD_cons_zero, List.getD_cons_succ]
      rw [decide_eq_true hk]
      simp only [↓reduceIte, Int.toNat_natCast, Int.toNat_zero]
      refine ⟨?_, by omega, ?_⟩
      · refine ⟨⟨?_, ?_⟩, ?_, ?_, ?_, ?_, ?_, ?_, ⟨?_, ?_⟩, ⟨?_, ?_⟩, ⟨?_, ?_⟩, ⟨?_, ?_⟩, ?_, ?_⟩ <;> first | trivial | omega | (intro hh; omega) | (intro hh; exact absurd hk hh) | simp
      · simp only [List.cons.injEq, and_true, true_and]
        omega
    · unfold SmallI OkI wordsI wordsN recOf Z64
      simp only [List.getD_cons_zero, List.getD_cons_succ]
      rw [decide_eq_false hk]
      simp only [Bool.false_eq_true, ↓reduceIte, Int.toNat_natCast, Int.toNat_zero]
      refine ⟨?_, by omega, ?_⟩
      · refine ⟨⟨?_, ?_⟩, ?_, ?_, ?_, ?_, ?_, ?_, ⟨?_, ?_⟩, ⟨?_, ?_⟩, ⟨?_, ?_⟩, ⟨?_, ?_⟩, ?_, ?_⟩ <;> first | trivial | omega | (intro hh; omega) | (intro hh; exact absurd hk hh) | simp
      · simp only [List.cons.injEq, and_true, true_and]
        omega
theorem wIn_mono {w : Nat} {a b b' : Int} (h : wIn w a b = true) (hb : b ≤ b') : wIn w a b' = true := by
  unfold wIn at h ⊢
  simp only [Bool.and_eq_true, decide_eq_true_eq] at h ⊢
  omega
/-- more inodes, more blocks: a word that may be may be -/
theorem wordOK_mono {p k w I B I' B' : Nat} (h : wordOK p k w I B = true) (hI : I ≤ I') (hB : B ≤ B') : wordOK p k w I' B' = true := by
  unfold wordOK at h ⊢
  split
  · rename_i c; rw [if_pos c] at h; exact h
  rename_i c0; rw [if_neg c0] at h
  split
  · rename_i c; rw [if_pos c] at h; exact h
  rename_i c1; rw [if_neg c1] at h
  split
  · rename_i c; rw [if_pos c] at h; exact h
  rename_i c2; rw [if_neg c2] at h
  split
  · rename_i c; rw [if_pos c] at h; exact wIn_mono h (by omega)
  rename_i c3; rw [if_neg c3] at h
  split
  · rename_i c; rw [if_pos c] at h
    split
    · rename_i c'; rw [if_pos c'] at h
      unfold headsOK at h ⊢
      simp only [Bool.and_eq_true, decide_eq_true_eq] at h ⊢
      omega
    · rename_i c'; rw [if_neg c'] at h
      split
      · rename_i c''; rw [if_pos c''] at h; exact wIn_mono h (by omega)
      · rename_i c''; rw [if_neg c''] at h; exact wIn_mono h (by omega)
  rename_i c4; rw [if_neg c4] at h
  split
  · rename_i c; rw [if_pos c] at h
    split
    · rename_i c'; rw [if_pos c'] at h; exact wIn_mono h (by omega)
    · rename_i c'; rw [if_neg c'] at h; exact h
  rename_i c5; rw [if_neg c5] at h
  exact h
theorem wrong_all {t : List Nat} {k I B : Nat} (h : ∀ q, q < 7 → wordOK q k (t.getD q 0) I B = true) : wrongAt t k I B = -1 := wrong_none h
/-- may a record be: its numbers have room, and each word may be -/
theorem mayI_iff (x : Ino) (hx : OkI x) (P I B : Int) : mayI x P I B = true ↔ SmallI x ∧ MayG P I B ∧ wrongAt (wordsI x) x.k I.toNat B.toNat < 0 := by
  unfold mayI
  simp only [Bool.and_eq_true, decide_eq_true_eq]
  have hk : SmallI x → (wordsI x).getD 0 0 % 256 = x.k := fun hs => by
    have h1 : x.k < 256 := hx.1
    unfold wordsI wordsN
    simp only [List.getD_cons_zero]
    have := hs.1
    omega
  constructor
  · rintro ⟨h1, h2, h3⟩
    have hs := ofI_small x hx h1
    rw [ofI_words x hx hs] at h3
    rw [hk hs] at h3
    exact ⟨hs, h2, h3⟩
  · rintro ⟨hs, h2, h3⟩
    rw [ofI_words x hx hs, hk hs]
    exact ⟨rfl, h2, h3⟩
theorem wordsI_wd (x : Ino) (hx : OkI x) (h : SmallI x) : ∀ y ∈ wordsI x, y < 18446744073709551616 := by
  have := (ofI_ok x).2
  rw [ofI_words x hx h] at this
  exact this
theorem mayI_mono (x : Ino) (hx : OkI x) (P I B P' I' B' : Int) (h : mayI x P I B = true) (hI : I ≤ I') (hB : B ≤ B') (hG : MayG P' I' B') : mayI x P' I' B' = true := by
  rw [mayI_iff x hx] at h ⊢
  obtain ⟨h1, h2, h3⟩ := h
  refine ⟨h1, hG, ?_⟩
  have := wrong_all (fun q hq => wordOK_mono (wrong_neg h3 q hq) (show I.toNat ≤ I'.toNat by omega) (show B.toNat ≤ B'.toNat by omega))
  omega
/-- what a record that may be is read as: itself -/
theorem dec_enc (x : Ino) (hx : OkI x) (P I B : Int) (h : mayI x P I B = true) : decF (sealed (wordsI x)) P I B = none ∧ (sealed (wordsI x)).take 7 = wordsI x ∧ recOf (wordsI x) = x := by
  rw [mayI_iff x hx] at h
  obtain ⟨h1, h2, h3⟩ := h
  have ht : (sealed (wordsI x)).take 7 = wordsI x := by
    have := sealed_take (wordsI x)
    rw [wordsI_len] at this
    exact this
  have hl : (sealed (wordsI x)).length = 8 := by rw [sealed_len, wordsI_len]
  have h0 : (sealed (wordsI x)).getD 0 0 = (wordsI x).getD 0 0 := by
    have h1 : (sealed (wordsI x)).getD 0 0 = ((sealed (wordsI x)).take 7).getD 0 0 := by simp [List.getD]
    rw [h1, ht]
  have hk : (wordsI x).getD 0 0 % 256 = x.k := by
    have h5 : x.k < 256 := hx.1
    unfold wordsI wordsN
    simp only [List.getD_cons_zero]
    have := h1.1
    omega
  refine ⟨?_, ht, rec_words x hx h1⟩
  unfold decF
  rw [if_neg (fun h => h h2), if_neg (fun h => h hl), if_neg (by rw [opens_sealed]; decide), ht, h0, hk, if_neg (by omega)]
/-- a record that is small, and whose sealed words are read as it, may be -/
theorem may_dec (x : Ino) (hx : OkI x) (h : SmallI x) (P I B : Int) (hd : decF (sealed (wordsI x)) P I B = none) : mayI x P I B = true := by
  rw [mayI_iff x hx]
  have ht : (sealed (wordsI x)).take 7 = wordsI x := by
    have := sealed_take (wordsI x)
    rw [wordsI_len] at this
    exact this
  have hl : (sealed (wordsI x)).length = 8 := by rw [sealed_len, wordsI_len]
  have h0 : (sealed (wordsI x)).getD 0 0 = (wordsI x).getD 0 0 := by
    have h1 : (sealed (wordsI x)).getD 0 0 = ((sealed (wordsI x)).take 7).getD 0 0 := by simp [List.getD]
    rw [h1, ht]
  have hk : (wordsI x).getD 0 0 % 256 = x.k := by
    have h5 : x.k < 256 := hx.1
    unfold wordsI wordsN
    simp only [List.getD_cons_zero]
    have := h.1
    omega
  unfold decF at hd
  by_cases hG : MayG P I B
  case neg => rw [if_pos hG] at hd; cases hd
  rw [if_neg (fun h => h hG), if_neg (fun h => h hl), if_neg (by rw [opens_sealed]; decide), ht, h0, hk] at hd
  by_cases hc : 0 ≤ wrongAt (wordsI x) x.k I.toNat B.toNat
  · rw [if_pos hc] at hd; cases hd
  · exact ⟨h, hG, by omega⟩
/-- what words are read as is encoded as them -/
theorem enc_dec (s : List Nat) (hw : ∀ y ∈ s, y < 18446744073709551616) (P I B : Int) (h : decF s P I B = none) : s.length = 8 ∧ OkI (recOf (s.take 7)) ∧ mayI (recOf (s.take 7)) P I B = true ∧ sealed (wordsI (recOf (s.take 7))) = s := by
  unfold decF at h
  split at h
  · cases h
  rename_i c0
  split at h
  · cases h
  rename_i c1
  split at h
  · cases h
  rename_i c2
  split at h
  · cases h
  rename_i c3
  have hl : s.length = 8 := Classical.not_not.1 c1
  have hG : MayG P I B := Classical.not_not.1 c0
  have ho : opens s = true := by simpa using c2
  have h7 : (s.take 7).length = 7 := by rw [List.length_take]; omega
  have h0 : (s.take 7).getD 0 0 = s.getD 0 0 := by simp [List.getD]
  obtain ⟨w1, w2, w3⟩ := words_rec (s.take 7) h7 (fun y hy => hw y (List.mem_of_mem_take hy)) I.toNat B.toNat (by rw [h0]; omega)
  refine ⟨hl, w2, ?_, ?_⟩
  · rw [mayI_iff _ w2]
    refine ⟨w1, hG, ?_⟩
    rw [w3]
    have hk : (recOf (s.take 7)).k = s.getD 0 0 % 256 := by rw [← h0]; rfl
    rw [hk]
    omega
  · rw [w3]
    have hne : s ≠ [] := fun hh => by rw [hh] at hl; cases hl
    have := (opens_iff hne).2 ho
    rw [List.dropLast_eq_take, hl] at this
    exact this
end
section
open Go.RowKit
set_option linter.unusedVariables false

def eqI (x y : Ino) : Bool := decide (x.k = y.k) && (decide (x.ln = y.ln) && (decide (x.gn = y.gn) && (decide (x.sz = y.sz) && (decide (x.ar = y.ar) && (decide (x.mp = y.mp) && ((decide (x.h0 = y.h0) && (decide (x.h1 = y.h1) && (decide (x.h2 = y.h2) && decide (x.h3 = y.h3)))) && (decide (x.pa = y.pa) && (decide (x.mt = y.mt) && decide (x.ct = y.ct)))))))))
theorem eqI_iff (x y : Ino) : eqI x y = true ↔ x = y := by
  obtain ⟨k, ln, gn, sz, ar, mp, h0, h1, h2, h3, pa, mt, ct⟩ := x
  obtain ⟨k', ln', gn', sz', ar', mp', h0', h1', h2', h3', pa', mt', ct'⟩ := y
  unfold eqI
  simp only [Bool.and_eq_true, decide_eq_true_eq, Ino.mk.injEq]
  constructor
  · rintro ⟨a, b, c, d, e, f, ⟨g, h, i, j⟩, l, m, n⟩; exact ⟨a, b, c, d, e, f, g, h, i, j, l, m, n⟩
  · rintro ⟨a, b, c, d, e, f, g, h, i, j, l, m, n⟩; exact ⟨a, b, c, d, e, f, ⟨g, h, i, j⟩, l, m, n⟩
theorem guard_eqI : Tryd.prog.eqGuardType Tryd.prog.depth 25 = false := by kernel_rfl
set_option maxRecDepth 100000 in
set_option maxHeartbeats 8000000 in
theorem run_eqIn (w : World) (k ln gn sz ar mp h0 h1 h2 h3 pa mt ct k' ln' gn' sz' ar' mp' h0' h1' h2' h3' pa' mt' ct' : Int) :
    (Op.equalIn 10000 25 (.agg #[.int .u8 k, .int .i64 ln, .int .u32 gn, .int .i64 sz, .int .i64 ar, .int .i64 mp, .int .i64 h0, .int .i64 h1, .int .i64 h2, .int .i64 h3, .int .i64 pa, .int .i64 mt, .int .i64 ct]) (.agg #[.int .u8 k', .int .i64 ln', .int .u32 gn', .int .i64 sz', .int .i64 ar', .int .i64 mp', .int .i64 h0', .int .i64 h1', .int .i64 h2', .int .i64 h3', .int .i64 pa', .int .i64 mt', .int .i64 ct'])).run Tryd.prog w =
      .ok (k == k' && (ln == ln' && (gn == gn' && (sz == sz' && (ar == ar' && (mp == mp' && ((h0 == h0' && (h1 == h1' && (h2 == h2' && h3 == h3'))) && (pa == pa' && (mt == mt' && ct == ct'))))))))) w := by
  have hS : Tryd.prog.underlying 25 = some (.struct (Tryd.prog.fieldsOf 25)) := by kernel_rfl
  have hp : Tryd.prog.stoodInHeld 25 = false := by kernel_rfl
  have h4 : (Op.equalIn 9999 23 (.agg #[.int .i64 h0, .int .i64 h1, .int .i64 h2, .int .i64 h3]) (.agg #[.int .i64 h0', .int .i64 h1', .int .i64 h2', .int .i64 h3'])).run Tryd.prog w = .ok (h0 == h0' && (h1 == h1' && (h2 == h2' && h3 == h3'))) w := run_eq4In w 9997 h0 h1 h2 h3 h0' h1' h2' h3'
  rw [show (10000 : Nat) = 9999 + 1 from rfl, run_equalIn_agg w 9999 25 _ _ hS hp]
  simp only [Program.fieldsOf, Tryd.underlying25]
  clear hS hp
  generalize (h0 == h0' && (h1 == h1' && (h2 == h2' && h3 == h3'))) = bh at *
  go_simp
  by_cases e_k : k = k'
  case neg => simp [e_k]
  by_cases e_ln : ln = ln'
  case neg => simp [e_k, e_ln]
  by_cases e_gn : gn = gn'
  case neg => simp [e_k, e_ln, e_gn]
  by_cases e_sz : sz = sz'
  case neg => simp [e_k, e_ln, e_gn, e_sz]
  by_cases e_ar : ar = ar'
  case neg => simp [e_k, e_ln, e_gn, e_sz, e_ar]
  by_cases e_mp : mp = mp'
  case neg => simp [e_k, e_ln, e_gn, e_sz, e_ar, e_mp]
  cases bh
  case false => simp [e_k, e_ln, e_gn, e_sz, e_ar, e_mp]
  by_cases e_pa : pa = pa'
  case neg => simp [e_k, e_ln, e_gn, e_sz, e_ar, e_mp, e_pa]
  by_cases e_mt : mt = mt'
  case neg => simp [e_k, e_ln, e_gn, e_sz, e_ar, e_mp, e_pa, e_mt]
  by_cases e_ct : ct = ct'
  case neg => simp [e_k, e_ln, e_gn, e_sz, e_ar, e_mp, e_pa, e_mt, e_ct]
  simp [e_k, e_ln, e_gn, e_sz, e_ar, e_mp, e_pa, e_mt, e_ct]
theorem run_eqI (w : World) (k ln gn sz ar mp h0 h1 h2 h3 pa mt ct k' ln' gn' sz' ar' mp' h0' h1' h2' h3' pa' mt' ct' : Int) :
    (binOp .eql 25 (.agg #[.int .u8 k, .int .i64 ln, .int .u32 gn, .int .i64 sz, .int .i64 ar, .int .i64 mp, .int .i64 h0, .int .i64 h1, .int .i64 h2, .int .i64 h3, .int .i64 pa, .int .i64 mt, .int .i64 ct]) (.agg #[.int .u8 k', .int .i64 ln', .int .u32 gn', .int .i64 sz', .int .i64 ar', .int .i64 mp', .int .i64 h0', .int .i64 h1', .int .i64 h2', .int .i64 h3', .int .i64 pa', .int .i64 mt', .int .i64 ct'])).run Tryd.prog w =
      .ok (.bool (k == k' && (ln == ln' && (gn == gn' && (sz == sz' && (ar == ar' && (mp == mp' && ((h0 == h0' && (h1 == h1' && (h2 == h2' && h3 == h3'))) && (pa == pa' && (mt == mt' && ct == ct')))))))))) w := by
  rw [run_eql_struct, run_eqIn]
  rfl
theorem run_neI (w : World) (k ln gn sz ar mp h0 h1 h2 h3 pa mt ct k' ln' gn' sz' ar' mp' h0' h1' h2' h3' pa' mt' ct' : Int) :
    (binOp .neq 25 (.agg #[.int .u8 k, .int .i64 ln, .int .u32 gn, .int .i64 sz, .int .i64 ar, .int .i64 mp, .int .i64 h0, .int .i64 h1, .int .i64 h2, .int .i64 h3, .int .i64 pa, .int .i64 mt, .int .i64 ct]) (.agg #[.int .u8 k', .int .i64 ln', .int .u32 gn', .int .i64 sz', .int .i64 ar', .int .i64 mp', .int .i64 h0', .int .i64 h1', .int .i64 h2', .int .i64 h3', .int .i64 pa', .int .i64 mt', .int .i64 ct'])).run Tryd.prog w =
      .ok (.bool (!(k == k' && (ln == ln' && (gn == gn' && (sz == sz' && (ar == ar' && (mp == mp' && ((h0 == h0' && (h1 == h1' && (h2 == h2' && h3 == h3'))) && (pa == pa' && (mt == mt' && ct == ct'))))))))))) w := by
  rw [run_neq_struct, run_eqIn]
  rfl
/-- '==' of a record and itself -/
theorem run_eqI_self (w : World) (k ln gn sz ar mp h0 h1 h2 h3 pa mt ct : Int) :
    (binOp .eql 25 (.agg #[.int .u8 k, .int .i64 ln, .int .u32 gn, .int .i64 sz, .int .i64 ar, .int .i64 mp, .int .i64 h0, .int .i64 h1, .int .i64 h2, .int .i64 h3, .int .i64 pa, .int .i64 mt, .int .i64 ct]) (.agg #[.int .u8 k, .int .i64 ln, .int .u32 gn, .int .i64 sz, .int .i64 ar, .int .i64 mp, .int .i64 h0, .int .i64 h1, .int .i64 h2, .int .i64 h3, .int .i64 pa, .int .i64 mt, .int .i64 ct])).run Tryd.prog w = .ok (.bool true) w := by
  rw [run_eqI]
  simp
theorem run_neI_self (w : World) (k ln gn sz ar mp h0 h1 h2 h3 pa mt ct : Int) :
    (binOp .neq 25 (.agg #[.int .u8 k, .int .i64 ln, .int .u32 gn, .int .i64 sz, .int .i64 ar, .int .i64 mp, .int .i64 h0, .int .i64 h1, .int .i64 h2, .int .i64 h3, .int .i64 pa, .int .i64 mt, .int .i64 ct]) (.agg #[.int .u8 k, .int .i64 ln, .int .u32 gn, .int .i64 sz, .int .i64 ar, .int .i64 mp, .int .i64 h0, .int .i64 h1, .int .i64 h2, .int .i64 h3, .int .i64 pa, .int .i64 mt, .int .i64 ct])).run Tryd.prog w = .ok (.bool false) w := by
  rw [run_neI]
  simp
/-- the same of two records by name -/
theorem run_eqX (w : World) (x y : Ino) : (binOp .eql 25 (iv x) (iv y)).run Tryd.prog w = .ok (.bool (eqI x y)) w := by
  unfold iv icells
  rw [run_eqI]
  unfold eqI
  congr 2
  rw [Bool.eq_iff_iff]
  simp only [Bool.and_eq_true, decide_eq_true_eq, beq_iff_eq]
  constructor <;> (intro h; omega)
end
section
open Go.RowKit
set_option linter.unusedVariables false

theorem sameW_yes (a b : Value) (l : List Nat) (n : Nat) (hn : l.length = n) (w : World) (ha : Rd w a n (u64s l)) (hb : Rd w b n (u64s l)) :
    Calls Tryd.prog 11 #[a, b] w fun e w' => e = .returned (.bool true) ∧ Below w.heap.size w w' := by
  subst hn
  refine (same_any a b l l w ha hb).mono ?_
  rintro e w' ⟨rfl, k, rfl⟩
  exact ⟨by simp, below_drewN (Below.refl _ _) k⟩
theorem told_same2 (d k : Int) (hk : k ≠ 0) (w : World) (hg : Laid w) :
    Calls Tryd.prog 22 #[.iface 52 (.agg #[.int .i64 d, .int .i64 k]), .agg #[.int .i64 d, .int .i64 k]] w fun e w' => e = .returned (.bool true) ∧ Below w.heap.size w w' :=
  (told_fault d k d k w hg).mono fun e w' h => ⟨h.1.trans (by simp [hk]), h.2⟩
theorem told_same (d : Int) (w : World) (hg : Laid w) :
    Calls Tryd.prog 22 #[.iface 52 (.agg #[.int .i64 d, .int .i64 7]), .agg #[.int .i64 d, .int .i64 7]] w fun e w' => e = .returned (.bool true) ∧ Below w.heap.size w w' :=
  (told_fault d 7 d 7 w hg).mono fun e w' h => ⟨h.1.trans (by simp), h.2⟩
theorem told_none (w : World) :
    Calls Tryd.prog 22 #[.nilIface, .agg #[.int .i64 0, .int .i64 0]] w fun e w' => e = .returned (.bool true) ∧ Below w.heap.size w w' :=
  (told_nil 0 0 w).mono fun e w' h => ⟨h.1.trans rfl, h.2⟩
end
section
open Go.RowKit
set_option linter.unusedVariables false

theorem decF_er {s : List Nat} {P I B a er : Int} (h : decF s P I B = some (a, er)) : er ≠ 0 := by
  unfold decF at h
  split at h
  · injection h with h; injection h with h1 h2; omega
  split at h
  · injection h with h; injection h with h1 h2; omega
  split at h
  · injection h with h; injection h with h1 h2; omega
  split at h
  · injection h with h; injection h with h1 h2; omega
  · cases h

set_option maxRecDepth 100000 in
set_option maxHeartbeats 8000000 in
theorem reads_any (v : Value) (s : List Nat) (P I B : Int) (w : World) (hl : s.length ≤ 65536) (hw : ∀ x ∈ s, x < 18446744073709551616) (hr : Rd w v s.length (u64s s)) (hg : Laid w) :
    Calls Tryd.prog 13 #[v, gv P I B] w fun e w' => e = .returned (.bool true) ∧ Below w.heap.size w w' := by
  have HR := Lib.hid hr
  have HW := Lib.hid hw
  have HG := Lib.hid hg
  obtain ⟨A, cp, rfl, h1, h2, h3⟩ := hr
  unfold maxLen at h2
  have HB0 := Lib.hid ((Below.refl _ w).alloc (Nat.le_refl _) (.cells #[.int .i64 P, .int .i64 I, .int .i64 B] 27))
  have HGe := Lib.hid (show (w.alloc (.cells #[.int .i64 P, .int .i64 I, .int .i64 B] 27)).heap[w.heap.size]? = some (.cells #[.int .i64 P, .int .i64 I, .int .i64 B] 27 (0, 0)) from heap_alloc_new w _)
  have HR0 := Lib.hid (HR.out.below HB0.out)
  have hq := run_eqI_self
  have hgd := guard_eqI
  have HRd := Lib.hid (fun W (hW : Below w.heap.size w W) => rdec_any _ s P I B W HW.out hl (HR.out.below hW))
  have HDe := Lib.hid (fun W v (h : Rd W v s.length (u64s s)) => Decode_any v s P I B W HW.out hl h)
  have HTd := Lib.hid (fun d k hk W (hW : Below w.heap.size w W) => told_same2 d k hk W (HG.out.below hW))
  have HTn := Lib.hid told_none
  unfold DecI at HDe
  unfold RDecI at HRd
  unfold gv at HDe HRd ⊢
  clear h3 hw hg
  go_enter Tryd.func13, Tryd.ntmps13
  go_wp2_with (at_builtin; refine copy64 rfl (.const (.slice none 0 0)) (.tmp 10) rfl rfl _ s _ rfl rfl HR0.out (by omega) ?_; intro A1 c1 w1 hown1 hb1; have HR1 := Lib.hid (Rd.of_own hown1); have HB1 := Lib.hid (below_then HB0.out hb1); have HG1 := Lib.hid (blk_below HGe.out hb1); obtain ⟨g0, g1, g2, _, _, _⟩ := blk3 HG1.out; clear hown1 hb1)
  have HSm := Lib.hid (fun W (hW : Below w1.heap.size w1 W) => sameW_yes _ _ s s.length rfl W (HR1.out.below hW) (HR.out.below (below_then HB1.out hW)))
  refine (HDe.out _ _ HR1.out).mono ?_
  rintro e w2 (⟨hd, rfl, hb2⟩ | ⟨a, er, hd, rfl, hb2⟩)
  · have HD := Lib.hid hd
    generalize recOf (s.take 7) = x at *
    obtain ⟨k, ln, gn, sz, ar, mp, x0, x1, x2, x3, pa, mt, ct⟩ := x
    unfold iv icells at HRd ⊢
    dsimp only at HRd ⊢
    have hg2 := blk_below HG1.out hb2
    have hltg := lt_of_block hg2
    clear g0 g1 g2
    obtain ⟨g0, g1, g2, _, _, _⟩ := blk3 hg2
    have HX2 := Lib.hid (show (w2.alloc (.cells #[.int .u8 (k : Nat), .int .i64 ln, .int .u32 (gn : Nat), .int .i64 sz, .int .i64 ar, .int .i64 mp, .int .i64 x0, .int .i64 x1, .int .i64 x2, .int .i64 x3, .int .i64 pa, .int .i64 mt, .int .i64 ct] 25)).heap[w2.heap.size]? = some (.cells #[.int .u8 (k : Nat), .int .i64 ln, .int .u32 (gn : Nat), .int .i64 sz, .int .i64 ar, .int .i64 mp, .int .i64 x0, .int .i64 x1, .int .i64 x2, .int .i64 x3, .int .i64 pa, .int .i64 mt, .int .i64 ct] 25 (0, 0)) from heap_alloc_new w2 _)
    have HB2 := Lib.hid (hb2.alloc hb2.size (.cells #[.int .u8 (k : Nat), .int .i64 ln, .int .u32 (gn : Nat), .int .i64 sz, .int .i64 ar, .int .i64 mp, .int .i64 x0, .int .i64 x1, .int .i64 x2, .int .i64 x3, .int .i64 pa, .int .i64 mt, .int .i64 ct] 25))
    clear hd hb2 hg2
    go_wp2_with fail
    refine (HRd.out _ (below_then HB1.out HB2.out)).mono ?_
    rintro e w3 (⟨_, rfl, hb3⟩ | ⟨a3, er3, hd3, _⟩)
    case inr => exact absurd (HD.out.symm.trans hd3) (by simp)
    have hx3 := blk_below HX2.out hb3
    obtain ⟨a0, a1, a2, a3, a4, a5, a6, a7, a8, a9, a10, a11, a12⟩ := blk13 hx3
    have hlt3 := lt_of_block hx3
    have HB5 := Lib.hid (below_then (below_then HB2.out hb3) (((Below.refl w3.heap.size w3).alloc (Nat.le_refl _) (.cells #[.int .u8 (k : Nat), .int .i64 ln, .int .u32 (gn : Nat), .int .i64 sz, .int .i64 ar, .int .i64 mp, .int .i64 x0, .int .i64 x1, .int .i64 x2, .int .i64 x3, .int .i64 pa, .int .i64 mt, .int .i64 ct] 25)).alloc (by simp) (.cells #[.int .i64 0, .int .i64 0] 52)))
    clear hb3 hx3 g0 g1 g2
    go_wp2_with fail
    refine (HTn.out _).mono ?_
    rintro e w6 ⟨rfl, hb6⟩
    have HB6 := Lib.hid (below_then HB5.out hb6)
    clear hb6 a0 a1 a2 a3 a4 a5 a6 a7 a8 a9 a10 a11 a12
    go_wp2_with fail
    refine (HSm.out _ HB6.out).mono ?_
    rintro e w7 ⟨rfl, hb7⟩
    have HB7 := Lib.hid (below_then (below_then HB1.out HB6.out) hb7)
    clear hb7
    go_wp2
    go_ret
    exact ⟨rfl, HB7.out⟩
  · have HD := Lib.hid hd
    have HEr := Lib.hid (decF_er hd)
    rw [iv_zero] at HRd ⊢
    have hg2 := blk_below HG1.out hb2
    have hltg := lt_of_block hg2
    clear g0 g1 g2
    obtain ⟨g0, g1, g2, _, _, _⟩ := blk3 hg2
    have HX2 := Lib.hid (show (w2.alloc (.cells #[.int .u8 0, .int .i64 0, .int .u32 0, .int .i64 0, .int .i64 0, .int .i64 0, .int .i64 0, .int .i64 0, .int .i64 0, .int .i64 0, .int .i64 0, .int .i64 0, .int .i64 0] 25)).heap[w2.heap.size]? = some (.cells #[.int .u8 0, .int .i64 0, .int .u32 0, .int .i64 0, .int .i64 0, .int .i64 0, .int .i64 0, .int .i64 0, .int .i64 0, .int .i64 0, .int .i64 0, .int .i64 0, .int .i64 0] 25 (0, 0)) from heap_alloc_new w2 _)
    have HB2 := Lib.hid (hb2.alloc hb2.size (.cells #[.int .u8 0, .int .i64 0, .int .u32 0, .int .i64 0, .int .i64 0, .int .i64 0, .int .i64 0, .int .i64 0, .int .i64 0, .int .i64 0, .int .i64 0, .int .i64 0, .int .i64 0] 25))
    clear hd hb2 hg2
    go_wp2_with fail
    refine (HRd.out _ (below_then HB1.out HB2.out)).mono ?_
    rintro e w3 (⟨hd3, _⟩ | ⟨a3, er3, hd3, rfl, hb3⟩)
    case inl => exact absurd (HD.out.symm.trans hd3) (by simp)
    have h33 := HD.out.symm.trans hd3
    injection h33 with h33
    injection h33 with h34 h35
    subst h34
    subst h35
    have hx3 := blk_below HX2.out hb3
    obtain ⟨a0, a1, a2, a3, a4, a5, a6, a7, a8, a9, a10, a11, a12⟩ := blk13 hx3
    have hlt3 := lt_of_block hx3
    have HB5 := Lib.hid (below_then (below_then HB2.out hb3) (((Below.refl w3.heap.size w3).alloc (Nat.le_refl _) (.cells #[.int .u8 0, .int .i64 0, .int .u32 0, .int .i64 0, .int .i64 0, .int .i64 0, .int .i64 0, .int .i64 0, .int .i64 0, .int .i64 0, .int .i64 0, .int .i64 0, .int .i64 0] 25)).alloc (by simp) (.cells #[.int .i64 a, .int .i64 er] 52)))
    clear hb3 hx3 g0 g1 g2 hd3
    go_wp2_with fail
    refine (HTd.out a er HEr.out _ (below_then HB1.out HB5.out)).mono ?_
    rintro e w6 ⟨rfl, hb6⟩
    have HB6 := Lib.hid (below_then HB5.out hb6)
    clear hb6 a0 a1 a2 a3 a4 a5 a6 a7 a8 a9 a10 a11 a12
    go_wp2_with fail
    refine (HSm.out _ HB6.out).mono ?_
    rintro e w7 ⟨rfl, hb7⟩
    have HB7 := Lib.hid (below_then (below_then HB1.out HB6.out) hb7)
    clear hb7
    go_wp2
    go_ret
    exact ⟨rfl, HB7.out⟩
end
end Go.Proofs.YtnpmepklgakaiaaDoor
