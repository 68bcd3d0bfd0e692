/- How many bits of a word are 1, by halves, quarters, eighths: plain numbers. No program. -/
namespace Go.Proofs.YtlencbjaggaabaaDoor
set_option linter.unusedVariables false

/-- a number out of its bytes -/
def ofB : List Nat → Nat
  | [] => 0
  | b :: r => b + 256 * ofB r
/-- a byte n times -/
def rep (m : Nat) : Nat → Nat
  | 0 => 0
  | n + 1 => m + 256 * rep m n
theorem and_split {lo m : Nat} (hl : lo < 256) (hm : m < 256) (hi M : Nat) : (lo + 256 * hi) &&& (m + 256 * M) = (lo &&& m) + 256 * (hi &&& M) := by
  have hlm : lo &&& m < 2 ^ 8 := Nat.lt_of_le_of_lt Nat.and_le_left hl
  apply Nat.eq_of_testBit_eq
  intro i
  rw [Nat.testBit_and, Nat.add_comm lo, Nat.add_comm m, Nat.add_comm (lo &&& m)]
  have e1 := Nat.testBit_two_pow_mul_add hi (show lo < 2 ^ 8 from hl) i
  have e2 := Nat.testBit_two_pow_mul_add M (show m < 2 ^ 8 from hm) i
  have e3 := Nat.testBit_two_pow_mul_add (hi &&& M) hlm i
  rw [show (256 : Nat) = 2 ^ 8 by rfl, e1, e2, e3]
  by_cases h : i < 8
  · simp [h, Nat.testBit_and]
  · simp [h, Nat.testBit_and]
def f1 (b : Nat) : Nat := (b / 2 &&& 85) + (b &&& 85)
def f2 (b : Nat) : Nat := (b / 4 &&& 51) + (b &&& 51)
def f3 (b : Nat) : Nat := b / 16 + b &&& 15
theorem f1_lt : ∀ b : Fin 256, f1 b.val < 256 := by decide +kernel
theorem f2_lt : ∀ b : Fin 256, f2 b.val < 256 := by decide +kernel
theorem f21_nib : ∀ b : Fin 256, f2 (f1 b.val) % 16 ≤ 4 ∧ f2 (f1 b.val) / 16 ≤ 4 := by decide +kernel
theorem f321_le : ∀ b : Fin 256, f3 (f2 (f1 b.val)) ≤ 8 := by decide +kernel
theorem f1_up : ∀ (b : Fin 256) (e : Fin 2), b.val / 2 + 128 * e.val &&& 85 = b.val / 2 &&& 85 := by decide +kernel
theorem f2_up : ∀ (b : Fin 256) (e : Fin 4), b.val / 4 + 64 * e.val &&& 51 = b.val / 4 &&& 51 := by decide +kernel
theorem f3_up : ∀ (b : Fin 256) (e : Fin 5), b.val / 16 + 16 * e.val + b.val &&& 15 = b.val / 16 + b.val &&& 15 := by decide +kernel
theorem s1_all : ∀ bs : List Nat, (∀ b ∈ bs, b < 256) → (ofB bs / 2 &&& rep 85 bs.length) + (ofB bs &&& rep 85 bs.length) = ofB (bs.map f1) := by
  intro bs
  induction bs with
  | nil => intro _; rfl
  | cons b r ih =>
    intro h
    have hb := h b (by simp)
    have ih := ih (fun x hx => h x (by simp [hx]))
    simp only [ofB, rep, List.length_cons, List.map_cons]
    have hup := f1_up ⟨b, hb⟩ ⟨ofB r % 2, by omega⟩
    simp only at hup
    rw [show (b + 256 * ofB r) / 2 = (b / 2 + 128 * (ofB r % 2)) + 256 * (ofB r / 2) by omega, and_split (by omega) (by omega), and_split hb (by omega), hup, ← ih]
    unfold f1
    omega
theorem s2_all : ∀ bs : List Nat, (∀ b ∈ bs, b < 256) → (ofB bs / 4 &&& rep 51 bs.length) + (ofB bs &&& rep 51 bs.length) = ofB (bs.map f2) := by
  intro bs
  induction bs with
  | nil => intro _; rfl
  | cons b r ih =>
    intro h
    have hb := h b (by simp)
    have ih := ih (fun x hx => h x (by simp [hx]))
    simp only [ofB, rep, List.length_cons, List.map_cons]
    have hup := f2_up ⟨b, hb⟩ ⟨ofB r % 4, by omega⟩
    simp only at hup
    rw [show (b + 256 * ofB r) / 4 = (b / 4 + 64 * (ofB r % 4)) + 256 * (ofB r / 4) by omega, and_split (by omega) (by omega), and_split hb (by omega), hup, ← ih]
    unfold f2
    omega
theorem s3_all : ∀ bs : List Nat, (∀ b ∈ bs, b < 256 ∧ b % 16 ≤ 4 ∧ b / 16 ≤ 4) → (ofB bs / 16 + ofB bs &&& rep 15 bs.length) = ofB (bs.map f3) := by
  intro bs
  induction bs with
  | nil => intro _; rfl
  | cons b r ih =>
    intro h
    obtain ⟨hb, h1, h2⟩ := h b (by simp)
    have hr : ofB r % 16 ≤ 4 := by
      cases r with
      | nil => simp [ofB]
      | cons c r =>
        have := (h c (by simp)).2.1
        simp only [ofB]
        omega
    have ih := ih (fun x hx => h x (by simp [hx]))
    simp only [ofB, rep, List.length_cons, List.map_cons]
    have hup := f3_up ⟨b, hb⟩ ⟨ofB r % 16, by omega⟩
    simp only at hup
    rw [show (b + 256 * ofB r) / 16 + (b + 256 * ofB r) = (b / 16 + 16 * (ofB r % 16) + b) + 256 * (ofB r / 16 + ofB r) by omega, and_split (by omega) (by omega), hup, ih]
    rfl
/-- the bytes of a word -/
def bytes8 (x : Nat) : List Nat := [x % 256, x / 256 % 256, x / 65536 % 256, x / 16777216 % 256, x / 4294967296 % 256, x / 1099511627776 % 256, x / 281474976710656 % 256, x / 72057594037927936 % 256]
theorem ofB_bytes8 {x : Nat} (hx : x < 18446744073709551616) : ofB (bytes8 x) = x := by
  simp only [bytes8, ofB]
  omega
/-- how many of the first n bits of a number are 1 -/
def ones (x n : Nat) : Nat := ((List.range n).filter x.testBit).length
theorem ones_succ (x n : Nat) : ones x (n + 1) = ones x n + if x.testBit n = true then 1 else 0 := by
  unfold ones
  rw [List.range_succ, List.filter_append, List.length_append]
  congr 1
  by_cases h : x.testBit n = true <;> simp [h]
theorem ones_byte (x m : Nat) : ones x (8 + m) = ones (x % 256) 8 + ones (x / 256) m := by
  induction m with
  | zero =>
    show ones x 8 = ones (x % 256) 8 + 0
    unfold ones
    rw [Nat.add_zero]
    congr 1
    refine List.filter_congr fun i hi => ?_
    have := List.mem_range.1 hi
    rw [show (256 : Nat) = 2 ^ 8 by rfl, Nat.testBit_mod_two_pow]
    simp [this]
  | succ m ih =>
    have e : (x / 2 ^ 8).testBit m = x.testBit (m + 8) := Nat.testBit_div_two_pow x m
    rw [show (2 : Nat) ^ 8 = 256 by rfl, Nat.add_comm m 8] at e
    rw [← Nat.add_assoc, ones_succ x (8 + m), ones_succ (x / 256) m, ih, e]
    omega
theorem ones_f : ∀ b : Fin 256, ones b.val 8 = f3 (f2 (f1 b.val)) := by decide +kernel
theorem ones_bytes {x : Nat} : ones x 64 = ((bytes8 x).map fun b => f3 (f2 (f1 b))).sum := by
  have hb : ∀ y, ones (y % 256) 8 = f3 (f2 (f1 (y % 256))) := fun y => ones_f ⟨y % 256, by omega⟩
  have step : ∀ y n, ones y (8 + n) = f3 (f2 (f1 (y % 256))) + ones (y / 256) n := fun y n => by rw [ones_byte, hb]
  have e0 := step x 56
  have e1 := step (x / 256) 48
  have e2 := step (x / 65536) 40
  have e3 := step (x / 16777216) 32
  have e4 := step (x / 4294967296) 24
  have e5 := step (x / 1099511627776) 16
  have e6 := step (x / 281474976710656) 8
  have e7 := step (x / 72057594037927936) 0
  simp only [Nat.div_div_eq_div_mul, Nat.reduceMul, Nat.reduceAdd] at e0 e1 e2 e3 e4 e5 e6 e7
  have e8 : ones (x / 18446744073709551616) 0 = 0 := rfl
  simp only [bytes8, List.map_cons, List.map_nil, List.sum_cons, List.sum_nil]
  rw [e0, e1, e2, e3, e4, e5, e6, e7, e8]
theorem bytes8_lt (x : Nat) : ∀ b ∈ bytes8 x, b < 256 := by
  intro b hb
  simp only [bytes8, List.mem_cons, List.mem_nil_iff, or_false] at hb
  omega
theorem rep85 : rep 85 8 = 6148914691236517205 := by decide
theorem rep51 : rep 51 8 = 3689348814741910323 := by decide
theorem rep15 : rep 15 8 = 1085102592571150095 := by decide
/-- the three steps inside bytes -/
theorem pop_steps (x : Nat) (hx : x < 18446744073709551616) : ∃ y z c0 c1 c2 c3 c4 c5 c6 c7 : Nat,
    (x / 2 &&& 6148914691236517205) + (x &&& 6148914691236517205) = y ∧ y < 18446744073709551616 ∧
    (y / 4 &&& 3689348814741910323) + (y &&& 3689348814741910323) = z ∧ z < 9838263505978427529 ∧
    (z / 16 + z &&& 1085102592571150095) = c0 + 256 * c1 + 65536 * c2 + 16777216 * c3 + 4294967296 * c4 + 1099511627776 * c5 + 281474976710656 * c6 + 72057594037927936 * c7 ∧
    (c0 ≤ 8 ∧ c1 ≤ 8 ∧ c2 ≤ 8 ∧ c3 ≤ 8 ∧ c4 ≤ 8 ∧ c5 ≤ 8 ∧ c6 ≤ 8 ∧ c7 ≤ 8) ∧ ones x 64 = c0 + c1 + c2 + c3 + c4 + c5 + c6 + c7 := by
  have hb := bytes8_lt x
  have h1 := s1_all (bytes8 x) hb
  have e1 : (bytes8 x).length = 8 := rfl
  rw [ofB_bytes8 hx, e1, rep85] at h1
  have hb1 : ∀ b ∈ (bytes8 x).map f1, b < 256 := by
    intro b h
    obtain ⟨a, ha, rfl⟩ := List.mem_map.1 h
    exact f1_lt ⟨a, hb a ha⟩
  have h2 := s2_all ((bytes8 x).map f1) hb1
  rw [List.length_map, e1, rep51] at h2
  have hb2 : ∀ b ∈ ((bytes8 x).map f1).map f2, b < 256 ∧ b % 16 ≤ 4 ∧ b / 16 ≤ 4 := by
    intro b h
    obtain ⟨a, ha, rfl⟩ := List.mem_map.1 h
    refine ⟨f2_lt ⟨a, hb1 a ha⟩, ?_⟩
    obtain ⟨a', ha', rfl⟩ := List.mem_map.1 ha
    exact f21_nib ⟨a', hb a' ha'⟩
  have h3 := s3_all (((bytes8 x).map f1).map f2) hb2
  rw [List.length_map, List.length_map, e1, rep15] at h3
  have ho := ones_bytes (x := x)
  have hle : ∀ b ∈ bytes8 x, f3 (f2 (f1 b)) ≤ 8 := fun b h => f321_le ⟨b, hb b h⟩
  have hy : ∀ l : List Nat, l.length = 8 → (∀ b ∈ l, b < 256) → ofB l < 18446744073709551616 := by
    intro l hl hb
    match l, hl with
    | [a0, a1, a2, a3, a4, a5, a6, a7], _ =>
      simp only [List.mem_cons, List.mem_nil_iff, or_false, forall_eq_or_imp, forall_eq] at hb
      simp only [ofB]
      omega
  have hz : ∀ l : List Nat, l.length = 8 → (∀ b ∈ l, b < 256 ∧ b % 16 ≤ 4 ∧ b / 16 ≤ 4) → ofB l < 9838263505978427529 := by
    intro l hl hb
    match l, hl with
    | [a0, a1, a2, a3, a4, a5, a6, a7], _ =>
      simp only [List.mem_cons, List.mem_nil_iff, or_false, forall_eq_or_imp, forall_eq] at hb
      obtain ⟨g0, g1, g2, g3, g4, g5, g6, g7⟩ := hb
      have k0 : a0 ≤ 68 := by omega
      have k1 : a1 ≤ 68 := by omega
      have k2 : a2 ≤ 68 := by omega
      have k3 : a3 ≤ 68 := by omega
      have k4 : a4 ≤ 68 := by omega
      have k5 : a5 ≤ 68 := by omega
      have k6 : a6 ≤ 68 := by omega
      have k7 : a7 ≤ 68 := by omega
      clear g0 g1 g2 g3 g4 g5 g6 g7
      simp only [ofB]
      omega
  refine ⟨_, _, f3 (f2 (f1 (x % 256))), f3 (f2 (f1 (x / 256 % 256))), f3 (f2 (f1 (x / 65536 % 256))), f3 (f2 (f1 (x / 16777216 % 256))), f3 (f2 (f1 (x / 4294967296 % 256))), f3 (f2 (f1 (x / 1099511627776 % 256))), f3 (f2 (f1 (x / 281474976710656 % 256))), f3 (f2 (f1 (x / 72057594037927936 % 256))), h1, hy _ (by simp [e1]) hb1, h2, hz _ (by simp [e1]) hb2, ?_, ?_, ?_⟩
  case refine_1 =>
    rw [h3]
    simp only [bytes8, List.map_cons, List.map_nil, ofB]
    generalize f3 (f2 (f1 (x % 256))) = c0
    generalize f3 (f2 (f1 (x / 256 % 256))) = c1
    generalize f3 (f2 (f1 (x / 65536 % 256))) = c2
    generalize f3 (f2 (f1 (x / 16777216 % 256))) = c3
    generalize f3 (f2 (f1 (x / 4294967296 % 256))) = c4
    generalize f3 (f2 (f1 (x / 1099511627776 % 256))) = c5
    generalize f3 (f2 (f1 (x / 281474976710656 % 256))) = c6
    generalize f3 (f2 (f1 (x / 72057594037927936 % 256))) = c7
    omega
  case refine_2 =>
    refine ⟨hle _ ?_, hle _ ?_, hle _ ?_, hle _ ?_, hle _ ?_, hle _ ?_, hle _ ?_, hle _ ?_⟩ <;> simp [bytes8]
  case refine_3 =>
    rw [ho]
    simp only [bytes8, List.map_cons, List.map_nil, List.sum_cons, List.sum_nil]
    omega
theorem div_out {v a q b : Nat} (h : v = a + q * b) (ha : a < q) : v / q = b := by
  subst h
  rw [Nat.add_mul_div_left _ _ (by omega), Nat.div_eq_of_lt ha, Nat.zero_add]
theorem mod_out {v a q b : Nat} (h : v = a + q * b) (ha : a < q) : v % q = a := by
  subst h
  rw [Nat.add_mul_mod_self_left, Nat.mod_eq_of_lt ha]
/-- the sum of the bytes -/
theorem pop_sum (c0 c1 c2 c3 c4 c5 c6 c7 v t1 t2 t3 : Nat) (h : c0 ≤ 8 ∧ c1 ≤ 8 ∧ c2 ≤ 8 ∧ c3 ≤ 8 ∧ c4 ≤ 8 ∧ c5 ≤ 8 ∧ c6 ≤ 8 ∧ c7 ≤ 8)
    (hv : v = c0 + 256 * c1 + 65536 * c2 + 16777216 * c3 + 4294967296 * c4 + 1099511627776 * c5 + 281474976710656 * c6 + 72057594037927936 * c7)
    (h1 : t1 = v + v / 256) (h2 : t2 = t1 + t1 / 65536) (h3 : t3 = t2 + t2 / 4294967296) :
    t3 % 128 = c0 + c1 + c2 + c3 + c4 + c5 + c6 + c7 ∧ v < 18446744073709551616 ∧ t1 < 18446744073709551616 ∧ t2 < 18446744073709551616 ∧ t3 < 9223372036854775808 := by
  obtain ⟨g0, g1, g2, g3, g4, g5, g6, g7⟩ := h
  have e1 : v / 256 = c1 + 256 * c2 + 65536 * c3 + 16777216 * c4 + 4294967296 * c5 + 1099511627776 * c6 + 281474976710656 * c7 := div_out (a := c0) (by rw [hv]; clear hv h1 h2 h3; omega) (by omega)
  rw [e1, hv] at h1
  have e2 : t1 / 65536 = (c2 + c3) + 256 * (c3 + c4) + 65536 * (c4 + c5) + 16777216 * (c5 + c6) + 4294967296 * (c6 + c7) + 1099511627776 * c7 := div_out (a := (c0 + c1) + 256 * (c1 + c2)) (by rw [h1]; clear hv h1 h2 h3 e1; omega) (by omega)
  rw [e2, h1] at h2
  have e3 : t2 / 4294967296 = (c4 + c5 + c6 + c7) + 256 * (c5 + c6 + c7) + 65536 * (c6 + c7) + 16777216 * c7 := div_out (a := (c0 + c1 + c2 + c3) + 256 * (c1 + c2 + c3 + c4) + 65536 * (c2 + c3 + c4 + c5) + 16777216 * (c3 + c4 + c5 + c6)) (by rw [h2]; clear hv h1 h2 h3 e1 e2; omega) (by clear hv h1 h2 h3 e1 e2; omega)
  rw [e3, h2] at h3
  clear e1 e2 e3
  refine ⟨?_, ?_, ?_, ?_, ?_⟩
  · refine mod_out (b := 2 * ((c1 + c2 + c3 + c4 + c5 + c6 + c7) + 256 * (c2 + c3 + c4 + c5 + c6 + c7) + 65536 * (c3 + c4 + c5 + c6 + c7) + 16777216 * (c4 + c5 + c6 + c7) + 4294967296 * (c5 + c6 + c7) + 1099511627776 * (c6 + c7) + 281474976710656 * c7)) ?_ (by omega)
    rw [h3]
    clear hv h1 h2 h3
    omega
  · rw [hv]; clear hv h1 h2 h3; omega
  · rw [h1]; clear hv h1 h2 h3; omega
  · rw [h2]; clear hv h1 h2 h3; omega
  · rw [h3]; clear hv h1 h2 h3; omega
end Go.Proofs.YtlencbjaggaabaaDoor
