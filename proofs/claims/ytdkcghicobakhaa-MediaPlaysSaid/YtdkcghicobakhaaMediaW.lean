/- What the calls on a device do, said of what is kept and what waits. -/
import Derived.Test.YtdkcghicobakhaaMediaV
import Derived.Test.YtdkcghicobakhaaMediaPlain2
namespace Go.Proofs.Ytdkcghicobakhaa
open Go.RowKit
set_option linter.unusedVariables false

def At (w : World) (g : Nat) (S : Nat → Prop) (m : Nat) (K : List Nat) (L : List Pd) : Prop := Dev w DT g S K (apP K L) L ∧ Inv m K L
def GoAt (w w' : World) (g : Nat) (S : Nat → Prop) (m : Nat) (K : List Nat) (L : List Pd) : Prop := ∃ S', At w' g S' m K L ∧ Touch S w w' ∧ ∀ b, S' b → S b ∨ w.heap.size ≤ b
section
variable {w w' : World} {g m : Nat} {S T : Nat → Prop} {K : List Nat} {L : List Pd}
theorem At.lt (h : At w g S m K L) : ∀ b, S b → b < w.heap.size := h.1.lt
theorem At.touch (h : At w g S m K L) (ht : Touch T w w') (hd : ∀ b, T b → ¬ S b) : At w' g S m K L := ⟨h.1.touch ht hd, h.2⟩
theorem At.below (h : At w g S m K L) (hb : Below w.heap.size w w') : At w' g S m K L := ⟨h.1.below hb, h.2⟩
theorem At.goes (h : At w g S m K L) : GoAt w w g S m K L := ⟨S, h, Touch.refl _ _, fun b hb => .inl hb⟩
theorem At.nlen (h : At w g S m K L) : (apP K L).length = 8 * m := by rw [apP_length, h.2.len]

theorem Load_out (h : At w g S m K L) (hm2 : m ≤ 65536) (a : Int) (ha : ¬ (0 ≤ a ∧ a < 8 * (m : Int))) :
    Calls Try.prog 22 #[.pointer (some ⟨g, 0, none⟩), .int .i64 a] w fun e w' => e = .returned (.tuple #[.int .u64 0, .int .i64 2]) ∧ w = w' := Load_no w g S K _ L h.1 m h.2.len hm2 a ha
theorem Load_at (h : At w g S m K L) (hm2 : m ≤ 65536) (a : Nat) (ha : a < 8 * m) :
    Calls Try.prog 22 #[.pointer (some ⟨g, 0, none⟩), .int .i64 a] w fun e w' => e = .returned (.tuple #[.int .u64 (wd (apP K L) a : Nat), .int .i64 0]) ∧ w = w' := Load_yes w g S K _ L h.1 m h.2.len h.nlen hm2 a ha
theorem Store_out (h : At w g S m K L) (hm2 : m ≤ 65536) (a : Int) (x : Nat) (ha : ¬ (0 ≤ a ∧ a < 8 * (m : Int))) :
    Calls Try.prog 13 #[.pointer (some ⟨g, 0, none⟩), .int .i64 a, .int .u64 x] w fun e w' => e = .returned (.int .i64 2) ∧ w = w' := Store_no w g S K _ L h.1 m h.2.len hm2 a x ha
theorem Store_at (h : At w g S m K L) (hm2 : m ≤ 65536) (hL : L.length ≤ 65536) (a x : Nat) (ha : a < 8 * m) (hx : x < 18446744073709551616) :
    Calls Try.prog 13 #[.pointer (some ⟨g, 0, none⟩), .int .i64 a, .int .u64 x] w fun e w' => e = .returned (.int .i64 0) ∧ GoAt w w' g S m K (L ++ [⟨a, x, false⟩]) := by
  refine (Store_yes w g S K _ L h.1 m h.2.len h.nlen hm2 hL a x ha).mono ?_
  rintro e w' ⟨rfl, S', hd, ht, hs⟩
  exact ⟨rfl, S', ⟨by rw [apP_snoc]; exact hd, h.2.store a x ha hx⟩, ht, hs⟩
theorem Flush_out (h : At w g S m K L) (hm2 : m ≤ 65536) (a : Int) (ha : ¬ (0 ≤ a ∧ a < (m : Int))) :
    Calls Try.prog 16 #[.pointer (some ⟨g, 0, none⟩), .int .i64 a] w fun e w' => e = .returned (.int .i64 2) ∧ w = w' := Flush_no w g S K _ L h.1 m h.2.len hm2 a ha
theorem Flush_at (h : At w g S m K L) (hm2 : m ≤ 65536) (hL : L.length ≤ 65536) (a : Int) (ha : 0 ≤ a ∧ a < (m : Int)) :
    Calls Try.prog 16 #[.pointer (some ⟨g, 0, none⟩), .int .i64 a] w fun e w' => e = .returned (.int .i64 0) ∧ GoAt w w' g S m K (L.map (flushes a)) := by
  refine (Flush_yes w g S K _ L h.1 m h.2.len hm2 hL h.2.ok a ha).mono ?_
  rintro e w' ⟨rfl, S', hd, ht, hs⟩
  exact ⟨rfl, S', ⟨by rw [flush_now]; exact hd, h.2.flush a⟩, ht, hs⟩
theorem Fence_at (h : At w g S m K L) (hm2 : m ≤ 65536) (hL : L.length ≤ 65536) :
    Calls Try.prog 18 #[.pointer (some ⟨g, 0, none⟩)] w fun e w' => e = .returned (.int .i64 0) ∧ GoAt w w' g S m (apP K (takes isF 0 L)) (rests isF 0 L) := by
  refine (Fence_yes w g S K _ L h.1 m h.2.len hm2 hL h.2.ok).mono ?_
  rintro e w' ⟨rfl, S', hd, ht, hs⟩
  exact ⟨rfl, S', ⟨by rw [fence_now L 0 K h.2.ord]; exact hd, h.2.fence⟩, ht, hs⟩
theorem Crash_at (h : At w g S m K L) (hm1 : 1 ≤ m) (hm2 : m ≤ 65536) (hL : L.length ≤ 65536) (v : Value) (keep : List Bool) (hr : Rd w v keep.length (bools keep)) (hrS : ∀ b o c, v = .slice (some ⟨b, o, none⟩) keep.length c → ¬ S b) (hk : keep.length ≤ 65536) :
    Calls Try.prog 20 #[.pointer (some ⟨g, 0, none⟩), v] w fun e w' => e = .returned (.int .i64 0) ∧ GoAt w w' g S m (apP K (takes (isK keep) 0 L)) [] := by
  refine (Crash_yes w g S K _ L h.1 m h.2.len h.nlen hm1 hm2 hL h.2.ok v keep hr hrS hk).mono ?_
  rintro e w' ⟨rfl, S', hd, ht, hs⟩
  exact ⟨rfl, S', ⟨hd, h.2.crash _⟩, ht, hs⟩
theorem Words_at (h : At w g S m K L) (hm2 : m ≤ 65536) : Calls Try.prog 27 #[.pointer (some ⟨g, 0, none⟩)] w (Hands w 32 1 (8 * m) (u64s (apP K L))) := by
  have := Words_any w g S K _ L h.1 (by rw [h.nlen]; omega)
  rwa [h.nlen] at this
theorem Kept_at (h : At w g S m K L) (hm2 : m ≤ 65536) : Calls Try.prog 29 #[.pointer (some ⟨g, 0, none⟩)] w (Hands w 32 1 (8 * m) (u64s K)) := by
  have := Kept_any w g S K _ L h.1 (by rw [h.2.len]; omega)
  rwa [h.2.len] at this
theorem Pending_at (h : At w g S m K L) (hL : L.length ≤ 65536) : Calls Try.prog 25 #[.pointer (some ⟨g, 0, none⟩)] w (Hands w 61 3 L.length (pends L)) :=
  Pending_any w g S K _ L h.1 (by omega)
theorem Lines_at (h : At w g S m K L) (hm2 : m ≤ 65536) : Calls Try.prog 12 #[.pointer (some ⟨g, 0, none⟩)] w fun e w' => e = .returned (.int .i64 (m : Nat)) ∧ w = w' := Lines_any w g S K _ L h.1 m h.2.len hm2
end
def NewAt (w w' : World) (g m : Nat) (K : List Nat) : Prop := ∃ S, At w' g S m K [] ∧ Below w.heap.size w w' ∧ ∀ b, S b → w.heap.size ≤ b
theorem New_at (n : Nat) (w : World) (h1 : 1 ≤ n) (h2 : n ≤ 4096) :
    Calls Try.prog 10 #[.int .i64 n] w fun e w' => ∃ g, e = .returned (.tuple #[.pointer (some ⟨g, 0, none⟩), .int .i64 0]) ∧ NewAt w w' g n (List.replicate (8 * n) 0) := by
  refine (New_yes n w h1 h2).mono ?_
  rintro e w' ⟨g, rfl, S, hd, hb, hs⟩
  exact ⟨g, rfl, S, ⟨hd, Inv.new n⟩, hb, hs⟩
end Go.Proofs.Ytdkcghicobakhaa
