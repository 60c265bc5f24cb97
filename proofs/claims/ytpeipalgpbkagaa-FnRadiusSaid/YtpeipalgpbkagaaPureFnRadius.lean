/- The radius is the smallest one that is allowed, and does not grow with percent, at every drawn rollout. No condition. -/
import Derived.Test.YtpeipalgpbkagaaPFnRadiusx4
namespace Go.Proofs.Ytpeipalgpbkagaa.Pure
open Go.RowKit Go.Proofs.Ytpeipalgpbkagaa.PFnRadius Go.Proofs.YtpeipalgpbkagaaW.PrintWords Go.Proofs.YtpeipalgpbkagaaW.PrintLast Go.Proofs.YtpeipalgpbkagaaW.PrintMore

theorem w64 {x : Int} (h0 : -9223372036854775808 ≤ x) (h1 : x ≤ 9223372036854775807) : wrap64 x = x := by unfold wrap64; omega
theorem w64_nat (a : Nat) (h : a ≤ 9223372036854775807) : wrap64 (a : Int) = a := w64 (by omega) (by omega)
theorem w64_sub (a b : Nat) (h : b ≤ a) (ha : a ≤ 9223372036854775807) : wrap64 ((a : Int) - (b : Int)) = ((a - b : Nat) : Int) := by rw [w64 (by omega) (by omega)]; omega
theorem w64_add (a b : Nat) (h : a + b ≤ 9223372036854775807) : wrap64 ((a : Int) + (b : Int)) = ((a + b : Nat) : Int) := by rw [w64 (by omega) (by omega)]; omega
theorem w64_succ (a : Nat) (h : a + 1 ≤ 9223372036854775807) : wrap64 ((a : Int) + 1) = ((a + 1 : Nat) : Int) := by rw [w64 (by omega) (by omega)]; omega
theorem w64_mul (a b : Nat) (h : a * b ≤ 9223372036854775807) : wrap64 ((a : Int) * (b : Int)) = ((a * b : Nat) : Int) := by
  rw [← Int.natCast_mul]
  exact w64_nat _ h
theorem mulle {a b R : Nat} (A B : Nat) (h0 : a ≤ A) (h1 : b ≤ B) (h : A * B ≤ R) : a * b ≤ R := Nat.le_trans (Nat.mul_le_mul h0 h1) h

/-- Whether five numbers are a valid Rollout. -/
def isRo (n s q a b : Int) : Bool :=
  decide (0 ≤ n ∧ n ≤ 200 ∧ 0 ≤ s ∧ s ≤ n * 1000000 ∧ 0 ≤ q ∧ q ≤ n * 1000000000000 ∧ -(11 * n * 1000000) ≤ a ∧ a ≤ 11 * n * 1000000 ∧ 0 ≤ b ∧ b ≤ 121 * n * 1000000000000 ∧ s * s ≤ n * q ∧ a * a ≤ n * b)

theorem mul_abs {a A : Int} (h0 : -A ≤ a) (h1 : a ≤ A) : 0 ≤ a * a ∧ a * a ≤ A * A := by
  refine ⟨by rcases Int.le_total 0 a with h | h; exact Int.mul_nonneg h h; exact Int.mul_nonneg_of_nonpos_of_nonpos h h, ?_⟩
  have hA : 0 ≤ A := by omega
  rcases Int.le_total 0 a with h | h
  · exact Int.mul_le_mul h1 h1 h hA
  · have h2 : -a * -a ≤ A * A := Int.mul_le_mul (by omega) (by omega) (by omega) hA
    rwa [Int.neg_mul_neg] at h2

theorem mul_bd {a b A B : Int} (h0 : 0 ≤ a) (h1 : a ≤ A) (h2 : 0 ≤ b) (h3 : b ≤ B) : 0 ≤ a * b ∧ a * b ≤ A * B :=
  ⟨Int.mul_nonneg h0 h2, Int.mul_le_mul h1 h3 h2 (by omega)⟩

theorem w_ss {n s : Int} (h0 : 0 ≤ n) (h1 : n ≤ 200) (h2 : 0 ≤ s) (h3 : s ≤ n * 1000000) : wrap64 (s * s) = s * s := by
  have := mul_abs (a := s) (A := 200000000) (by omega) (by omega)
  exact w64 (by omega) (by omega)
theorem w_nq {n q : Int} (h0 : 0 ≤ n) (h1 : n ≤ 200) (h2 : 0 ≤ q) (h3 : q ≤ n * 1000000000000) : wrap64 (n * q) = n * q := by
  have := mul_bd (a := n) (b := q) (A := 200) (B := 200000000000000) h0 h1 h2 (by omega)
  exact w64 (by omega) (by omega)
theorem w_aa {n a : Int} (h0 : 0 ≤ n) (h1 : n ≤ 200) (h2 : -(11 * n * 1000000) ≤ a) (h3 : a ≤ 11 * n * 1000000) : wrap64 (a * a) = a * a := by
  have := mul_abs (a := a) (A := 2200000000) (by omega) (by omega)
  exact w64 (by omega) (by omega)
theorem w_nb {n b : Int} (h0 : 0 ≤ n) (h1 : n ≤ 200) (h2 : 0 ≤ b) (h3 : b ≤ 121 * n * 1000000000000) : wrap64 (n * b) = n * b := by
  have := mul_bd (a := n) (b := b) (A := 200) (B := 24200000000000000) h0 h1 h2 (by omega)
  exact w64 (by omega) (by omega)

theorem w_e1 {n : Int} (h0 : 0 ≤ n) (h1 : n ≤ 200) : wrap64 (n * 1000000) = n * 1000000 := w64 (by omega) (by omega)
theorem w_e2 {n : Int} (h0 : 0 ≤ n) (h1 : n ≤ 200) : wrap64 (n * 1000000 * 1000000) = n * 1000000000000 := by rw [w64 (by omega) (by omega)]; omega
theorem w_e3 {n : Int} (h0 : 0 ≤ n) (h1 : n ≤ 200) : wrap64 (-11 * n) = -(11 * n) := by rw [w64 (by omega) (by omega)]; omega
theorem w_e4 {n : Int} (h0 : 0 ≤ n) (h1 : n ≤ 200) : wrap64 (-(11 * n) * 1000000) = -(11 * n * 1000000) := by rw [w64 (by omega) (by omega)]; omega
theorem w_e5 {n : Int} (h0 : 0 ≤ n) (h1 : n ≤ 200) : wrap64 (11 * n) = 11 * n := w64 (by omega) (by omega)
theorem w_e6 {n : Int} (h0 : 0 ≤ n) (h1 : n ≤ 200) : wrap64 (11 * n * 1000000) = 11 * n * 1000000 := w64 (by omega) (by omega)
theorem w_e7 {n : Int} (h0 : 0 ≤ n) (h1 : n ≤ 200) : wrap64 (121 * n) = 121 * n := w64 (by omega) (by omega)
theorem w_e8 {n : Int} (h0 : 0 ≤ n) (h1 : n ≤ 200) : wrap64 (121 * n * 1000000) = 121 * n * 1000000 := w64 (by omega) (by omega)
theorem w_e9 {n : Int} (h0 : 0 ≤ n) (h1 : n ≤ 200) : wrap64 (121 * n * 1000000 * 1000000) = 121 * n * 1000000000000 := by rw [w64 (by omega) (by omega)]; omega
theorem w_f3 {n : Int} (h0 : 0 ≤ n) (h1 : n ≤ 200) : wrap64 (-11 * (n * 1000000)) = -(11 * n * 1000000) := by rw [w64 (by omega) (by omega)]; omega
theorem w_f6 {n : Int} (h0 : 0 ≤ n) (h1 : n ≤ 200) : wrap64 (11 * (n * 1000000)) = 11 * n * 1000000 := by rw [w64 (by omega) (by omega)]; omega
theorem w_f8 {n : Int} (h0 : 0 ≤ n) (h1 : n ≤ 200) : wrap64 (121 * (n * 1000000)) = 121 * n * 1000000 := by rw [w64 (by omega) (by omega)]; omega

theorem within_is (a b c : Int) : impl_within.f a b c = some (decide (b ≤ a ∧ a ≤ c)) := by
  unfold impl_within.f
  by_cases h : a ≥ b <;> simp [h]
theorem in_is (a b c : Int) : spec_l01In.f a b c = some (decide (b ≤ a ∧ a ≤ c)) := by
  unfold spec_l01In.f
  by_cases h : a ≥ b <;> simp [h]

theorem impl_isRo (n s q a b : Int) : impl_IsRollout.f n s q a b = some (isRo n s q a b) := by
  unfold impl_IsRollout.f isRo
  simp only [within_is, Option.bind_some, decide_eq_true_eq]
  by_cases h1 : 0 ≤ n ∧ n ≤ 200
  · rw [if_pos h1]
    obtain ⟨h1, h2⟩ := h1
    rw [w_e1 h1 h2, w_e2 h1 h2, w_e3 h1 h2, w_e4 h1 h2, w_e5 h1 h2, w_e6 h1 h2, w_e7 h1 h2, w_e8 h1 h2, w_e9 h1 h2]
    by_cases h3 : 0 ≤ s ∧ s ≤ n * 1000000
    · by_cases h4 : 0 ≤ q ∧ q ≤ n * 1000000000000
      · by_cases h5 : -(11 * n * 1000000) ≤ a ∧ a ≤ 11 * n * 1000000
        · by_cases h6 : 0 ≤ b ∧ b ≤ 121 * n * 1000000000000
          · rw [if_pos h3, if_pos h4, if_pos h5, if_pos h6, w_ss h1 h2 h3.1 h3.2, w_nq h1 h2 h4.1 h4.2, w_aa h1 h2 h5.1 h5.2, w_nb h1 h2 h6.1 h6.2]
            by_cases h7 : s * s ≤ n * q
            · simp [h1, h2, h3, h4, h5, h6, h7]
            · simp [h7]
          · rw [if_pos h3, if_pos h4, if_pos h5, if_neg h6]; simp only [Option.some.injEq]; symm; rw [decide_eq_false_iff_not]; rintro ⟨_, _, _, _, _, _, _, _, z0, z1, _⟩; exact h6 ⟨z0, z1⟩
        · rw [if_pos h3, if_pos h4, if_neg h5]; simp only [Option.some.injEq]; symm; rw [decide_eq_false_iff_not]; rintro ⟨_, _, _, _, _, _, z0, z1, _⟩; exact h5 ⟨z0, z1⟩
      · rw [if_pos h3, if_neg h4]; simp only [Option.some.injEq]; symm; rw [decide_eq_false_iff_not]; rintro ⟨_, _, _, _, z0, z1, _⟩; exact h4 ⟨z0, z1⟩
    · rw [if_neg h3]; simp only [Option.some.injEq]; symm; rw [decide_eq_false_iff_not]; rintro ⟨_, _, z0, z1, _⟩; exact h3 ⟨z0, z1⟩
  · rw [if_neg h1]; simp only [Option.some.injEq]; symm; rw [decide_eq_false_iff_not]; rintro ⟨z0, z1, _⟩; exact h1 ⟨z0, z1⟩

theorem spec_isRo (f : Nat) (n s q a b : Int) : spec_IsRollout.f (f + 1) n s q a b = some (isRo n s q a b) := by
  unfold spec_IsRollout.f isRo
  simp only [spec_IsRollout.j0, in_is, Option.bind_some, decide_eq_true_eq, Bool.not_eq_true', decide_eq_false_iff_not, ite_not, if_true]
  by_cases h1 : 0 ≤ n ∧ n ≤ 200
  · rw [if_pos h1]
    obtain ⟨h1, h2⟩ := h1
    rw [w_e1 h1 h2, w_e2 h1 h2, w_f3 h1 h2, w_f6 h1 h2, w_f8 h1 h2, w_e9 h1 h2]
    by_cases h3 : 0 ≤ s ∧ s ≤ n * 1000000
    · by_cases h4 : 0 ≤ q ∧ q ≤ n * 1000000000000
      · by_cases h5 : -(11 * n * 1000000) ≤ a ∧ a ≤ 11 * n * 1000000
        · by_cases h6 : 0 ≤ b ∧ b ≤ 121 * n * 1000000000000
          · rw [if_pos h3, if_pos h4, if_pos h5, if_pos h6, w_ss h1 h2 h3.1 h3.2, w_nq h1 h2 h4.1 h4.2, w_aa h1 h2 h5.1 h5.2, w_nb h1 h2 h6.1 h6.2]
            by_cases h7 : s * s ≤ n * q
            · simp [h1, h2, h3, h4, h5, h6, h7]
            · simp [h7]
          · rw [if_pos h3, if_pos h4, if_pos h5, if_neg h6]; simp only [Option.some.injEq]; symm; rw [decide_eq_false_iff_not]; rintro ⟨_, _, _, _, _, _, _, _, z0, z1, _⟩; exact h6 ⟨z0, z1⟩
        · rw [if_pos h3, if_pos h4, if_neg h5]; simp only [Option.some.injEq]; symm; rw [decide_eq_false_iff_not]; rintro ⟨_, _, _, _, _, _, z0, z1, _⟩; exact h5 ⟨z0, z1⟩
      · rw [if_pos h3, if_neg h4]; simp only [Option.some.injEq]; symm; rw [decide_eq_false_iff_not]; rintro ⟨_, _, _, _, z0, z1, _⟩; exact h4 ⟨z0, z1⟩
    · rw [if_neg h3]; simp only [Option.some.injEq]; symm; rw [decide_eq_false_iff_not]; rintro ⟨_, _, z0, z1, _⟩; exact h3 ⟨z0, z1⟩
  · rw [if_neg h1]; simp only [Option.some.injEq]; symm; rw [decide_eq_false_iff_not]; rintro ⟨z0, z1, _⟩; exact h1 ⟨z0, z1⟩

theorem ro_parts {n s q a b : Int} (h : isRo n s q a b = true) : (0 ≤ n ∧ n ≤ 200) ∧ (0 ≤ s ∧ s ≤ n * 1000000) ∧ (0 ≤ q ∧ q ≤ n * 1000000000000) ∧ (-(11 * n * 1000000) ≤ a ∧ a ≤ 11 * n * 1000000) ∧ (0 ≤ b ∧ b ≤ 121 * n * 1000000000000) ∧ s * s ≤ n * q ∧ a * a ≤ n * b := by
  have h := of_decide_eq_true h
  obtain ⟨h0, h1, h2, h3, h4, h5, h6, h7, h8, h9, h10, h11⟩ := h
  exact ⟨⟨h0, h1⟩, ⟨h2, h3⟩, ⟨h4, h5⟩, ⟨h6, h7⟩, ⟨h8, h9⟩, h10, h11⟩

/-- The spread, plain. -/
def spr (n s q a b : Int) (c : Bool) : Int := if c = true then n * b - a * a else n * q - s * s

theorem nn_le {n x K : Int} (h0 : 0 ≤ n) (h1 : x ≤ n * K) : n * x ≤ n * n * K := by
  have := Int.mul_le_mul_of_nonneg_left h1 h0
  rwa [← Int.mul_assoc] at this

theorem spr_bd {n s q a b : Int} {c : Bool} (h : isRo n s q a b = true) : 0 ≤ spr n s q a b c ∧ spr n s q a b c ≤ n * n * 121000000000000 := by
  obtain ⟨⟨n0, n1⟩, ⟨s0, s1⟩, ⟨q0, q1⟩, ⟨a0, a1⟩, ⟨b0, b1⟩, h1, h2⟩ := ro_parts h
  have g1 := nn_le (x := q) (K := 121000000000000) n0 (by omega)
  have g2 := nn_le (x := b) (K := 121000000000000) n0 (by omega)
  have g3 := mul_abs (a := s) (A := 200000000) (by omega) (by omega)
  have g4 := mul_abs (a := a) (A := 2200000000) (by omega) (by omega)
  unfold spr
  cases c
  · simp only [Bool.false_eq_true, if_false]; omega
  · simp only [if_true]; omega

theorem w_spr {n s q a b : Int} (h : isRo n s q a b = true) : wrap64 (wrap64 (n * b) - wrap64 (a * a)) = n * b - a * a ∧ wrap64 (wrap64 (n * q) - wrap64 (s * s)) = n * q - s * s := by
  obtain ⟨⟨n0, n1⟩, ⟨s0, s1⟩, ⟨q0, q1⟩, ⟨a0, a1⟩, ⟨b0, b1⟩, h1, h2⟩ := ro_parts h
  have d1 := mul_bd (a := n) (b := b) (A := 200) (B := 24200000000000000) n0 n1 b0 (by omega)
  have d2 := mul_bd (a := n) (b := q) (A := 200) (B := 200000000000000) n0 n1 q0 (by omega)
  have g3 := mul_abs (a := s) (A := 200000000) (by omega) (by omega)
  have g4 := mul_abs (a := a) (A := 2200000000) (by omega) (by omega)
  constructor
  · rw [w_nb n0 n1 b0 b1, w_aa n0 n1 a0 a1, w64 (by omega) (by omega)]
  · rw [w_nq n0 n1 q0 q1, w_ss n0 n1 s0 s1, w64 (by omega) (by omega)]

theorem impl_spr {n s q a b : Int} (c : Bool) (h : isRo n s q a b = true) : impl_spread.f n s q a b c = some (spr n s q a b c) := by
  obtain ⟨e1, e2⟩ := w_spr h
  unfold impl_spread.f spr
  cases c
  · simp only [Bool.false_eq_true, if_false]; rw [e2]
  · simp only [if_true]; rw [e1]

theorem spec_spr {n s q a b : Int} (c : Bool) (h : isRo n s q a b = true) (f : Nat) : spec_SpreadOf.f (f + 1) n s q a b c = some (spr n s q a b c) := by
  obtain ⟨e1, e2⟩ := w_spr h
  unfold spec_SpreadOf.f spr
  rw [spec_isRo f, h]
  simp only [Option.bind_some, if_true]
  cases c
  · simp only [Bool.false_eq_true, if_false]; rw [e2]
  · simp only [if_true]; rw [e1]

theorem cube {n : Int} (h0 : 1 ≤ n) (h1 : n ≤ 200) : ∃ m : Int, wrap64 ((wrap64 (n * n)) * n) = m ∧ 1 ≤ m ∧ m ≤ 8000000 ∧ n * n ≤ m := by
  obtain ⟨b0, b1⟩ := mul_bd (a := n) (b := n) (A := 200) (B := 200) (by omega) h1 (by omega) h1
  have p1 := Int.mul_pos (a := n) (b := n) (by omega) (by omega)
  rw [w64 (x := n * n) (by omega) (by omega)]
  generalize n * n = x at *
  obtain ⟨c0, c1⟩ := mul_bd (a := x) (b := n) (A := 40000) (B := 200) b0 (by omega) (by omega) h1
  have p2 := Int.mul_pos (a := x) (b := n) (by omega) (by omega)
  have p3 : x * 1 ≤ x * n := Int.mul_le_mul_of_nonneg_left h0 b0
  exact ⟨x * n, w64 (by omega) (by omega), by omega, by omega, by omega⟩

/-- The variance of the mean, rounded up: what both compute. -/
theorem variance {sp n m : Int} (h0 : 0 ≤ sp) (h1 : sp ≤ n * n * 121000000000000) (m0 : 1 ≤ m) (m1 : n * n ≤ m) : ∃ w : Nat, w ≤ 121000000000001 ∧ (Int.tmod sp m > 0 → wrap64 (wrap64 (Int.tdiv sp m) + 1) = (w : Int)) ∧ (¬ Int.tmod sp m > 0 → wrap64 (Int.tdiv sp m) = (w : Int)) := by
  have e : Int.tdiv sp m = sp / m := Int.tdiv_eq_ediv_of_nonneg h0
  have d0 : 0 ≤ sp / m := Int.ediv_nonneg h0 (by omega)
  have d1 : sp / m ≤ 121000000000000 := Int.ediv_le_of_le_mul (by omega) (by omega)
  obtain ⟨d, hd⟩ := Int.eq_ofNat_of_zero_le d0
  rw [e]
  by_cases h : Int.tmod sp m > 0
  · refine ⟨d + 1, by omega, fun _ => ?_, fun h' => absurd h h'⟩
    rw [w64 (x := sp / m) (by omega) (by omega), w64 (by omega) (by omega)]; omega
  · refine ⟨d, by omega, fun h' => absurd h' h, fun _ => ?_⟩
    rw [w64 (x := sp / m) (by omega) (by omega)]; omega

theorem half (lo hi : Nat) (h : hi ≤ 400000000) (hl : lo ≤ hi) : wrap64 (Int.tdiv (wrap64 ((lo : Int) + (hi : Int))) 2) = (((lo + hi) / 2 : Nat) : Int) := by
  rw [w64_add lo hi (by omega), Int.tdiv_eq_ediv_of_nonneg (by omega), w64 (by omega) (by omega)]; omega

theorem sq_mono {p a b : Nat} (h : a ≤ b) : p * a * a ≤ p * b * b := Nat.mul_le_mul (Nat.mul_le_mul_left _ h) h

/-- What a search in halves finds between lo and hi. -/
def Found (p w lo hi r : Nat) : Prop := lo ≤ r ∧ r ≤ hi ∧ (∀ h, lo ≤ h → h < r → p * h * h < 100 * w) ∧ (r < hi → 100 * w ≤ p * r * r)

theorem found_low {p w lo hi r : Nat} (hm : 100 * w ≤ p * ((lo + hi) / 2) * ((lo + hi) / 2)) (hf : Found p w lo ((lo + hi) / 2) r) : Found p w lo hi r := by
  obtain ⟨h1, h2, h3, h4⟩ := hf
  refine ⟨h1, by omega, h3, fun hr => ?_⟩
  rcases Nat.lt_or_ge r ((lo + hi) / 2) with h5 | h5
  · exact h4 h5
  · obtain rfl : r = (lo + hi) / 2 := by omega
    exact hm

theorem found_high {p w lo hi r : Nat} (hm : p * ((lo + hi) / 2) * ((lo + hi) / 2) < 100 * w) (hf : Found p w ((lo + hi) / 2 + 1) hi r) (hlt : lo < hi) : Found p w lo hi r := by
  obtain ⟨h1, h2, h3, h4⟩ := hf
  refine ⟨by omega, h2, fun h ha hb => ?_, h4⟩
  rcases Nat.lt_or_ge ((lo + hi) / 2) h with h5 | h5
  · exact h3 h h5 hb
  · exact Nat.lt_of_le_of_lt (sq_mono h5) hm

theorem prod_bd {p m : Nat} (hp : p ≤ 50) (hm : m ≤ 400000000) : p * m ≤ 9223372036854775807 ∧ p * m * m ≤ 9223372036854775807 := by
  have h1 : p * m ≤ 20000000000 := mulle 50 400000000 hp hm (by omega)
  exact ⟨by omega, mulle 20000000000 400000000 h1 hm (by omega)⟩

theorem spec_search (p w : Nat) (hp : p ≤ 50) (hw : w ≤ 121000000000001) (d : Nat) : ∀ (f lo hi : Nat), hi - lo < 2 ^ d → lo ≤ hi → hi ≤ 400000000 → d < f → ∃ r : Nat, spec_l27Radius.l0 f p w lo hi = some (r : Int) ∧ Found p w lo hi r := by
  induction d with
  | zero =>
    intro f lo hi h1 h2 h3 h4
    obtain ⟨f, rfl⟩ : ∃ m, f = m + 1 := ⟨f - 1, by omega⟩
    obtain rfl : lo = hi := by simp at h1; omega
    refine ⟨lo, ?_, Nat.le_refl _, Nat.le_refl _, fun h a b => by omega, fun h => by omega⟩
    simp only [spec_l27Radius.l0]; rw [if_neg (by omega)]
  | succ d ih =>
    intro f lo hi h1 h2 h3 h4
    obtain ⟨f, rfl⟩ : ∃ m, f = m + 1 := ⟨f - 1, by omega⟩
    rw [Nat.pow_succ] at h1
    simp only [spec_l27Radius.l0]
    by_cases hlt : lo < hi
    · have hm : (lo + hi) / 2 ≤ 400000000 := by omega
      obtain ⟨g1, g2⟩ := prod_bd hp hm
      have hw2 : 100 * w ≤ 9223372036854775807 := by omega
      rw [if_pos (by omega), half lo hi h3 h2, w64_mul p _ g1, w64_mul _ _ g2, show ((100 : Int) * (w : Int)) = ((100 * w : Nat) : Int) from by omega, w64_nat _ hw2, w64_succ _ (by omega)]
      by_cases hc : 100 * w ≤ p * ((lo + hi) / 2) * ((lo + hi) / 2)
      · rw [if_pos (Int.ofNat_le.mpr hc)]
        obtain ⟨r, e, hf⟩ := ih f lo ((lo + hi) / 2) (by omega) (by omega) hm (by omega)
        exact ⟨r, e, found_low hc hf⟩
      · rw [if_neg (fun h => hc (Int.ofNat_le.mp h))]
        obtain ⟨r, e, hf⟩ := ih f ((lo + hi) / 2 + 1) hi (by omega) (by omega) h3 (by omega)
        exact ⟨r, e, found_high (by omega) hf hlt⟩
    · obtain rfl : lo = hi := by omega
      refine ⟨lo, ?_, Nat.le_refl _, Nat.le_refl _, fun h a b => by omega, fun h => by omega⟩
      rw [if_neg (by omega)]

theorem impl_search (p w : Nat) (hp : p ≤ 50) (hw : w ≤ 121000000000001) (d : Nat) : ∀ (f lo hi : Nat), hi - lo < 2 ^ d → lo ≤ hi → hi ≤ 400000000 → d < f → ∃ r : Nat, impl_RadiusOf.l0 f p w lo hi = some ((r : Int), 0) ∧ Found p w lo hi r := by
  induction d with
  | zero =>
    intro f lo hi h1 h2 h3 h4
    obtain ⟨f, rfl⟩ : ∃ m, f = m + 1 := ⟨f - 1, by omega⟩
    obtain rfl : lo = hi := by simp at h1; omega
    refine ⟨lo, ?_, Nat.le_refl _, Nat.le_refl _, fun h a b => by omega, fun h => by omega⟩
    simp only [impl_RadiusOf.l0]; rw [if_neg (by omega)]
  | succ d ih =>
    intro f lo hi h1 h2 h3 h4
    obtain ⟨f, rfl⟩ : ∃ m, f = m + 1 := ⟨f - 1, by omega⟩
    rw [Nat.pow_succ] at h1
    simp only [impl_RadiusOf.l0]
    by_cases hlt : lo < hi
    · have hm : (lo + hi) / 2 ≤ 400000000 := by omega
      obtain ⟨g1, g2⟩ := prod_bd hp hm
      have hw2 : 100 * w ≤ 9223372036854775807 := by omega
      rw [if_pos (by omega), half lo hi h3 h2, w64_mul p _ g1, w64_mul _ _ g2, show ((100 : Int) * (w : Int)) = ((100 * w : Nat) : Int) from by omega, w64_nat _ hw2, w64_succ _ (by omega)]
      by_cases hc : 100 * w ≤ p * ((lo + hi) / 2) * ((lo + hi) / 2)
      · rw [if_pos (Int.ofNat_le.mpr hc)]
        obtain ⟨r, e, hf⟩ := ih f lo ((lo + hi) / 2) (by omega) (by omega) hm (by omega)
        exact ⟨r, e, found_low hc hf⟩
      · rw [if_neg (fun h => hc (Int.ofNat_le.mp h))]
        obtain ⟨r, e, hf⟩ := ih f ((lo + hi) / 2 + 1) hi (by omega) (by omega) h3 (by omega)
        exact ⟨r, e, found_high (by omega) hf hlt⟩
    · obtain rfl : lo = hi := by omega
      refine ⟨lo, ?_, Nat.le_refl _, Nat.le_refl _, fun h a b => by omega, fun h => by omega⟩
      rw [if_neg (by omega)]

/-- The two searches agree, but for the upper end of the shorter one. -/
theorem found_two {p w r1 r2 : Nat} (h1 : Found p w 0 400000000 r1) (h2 : Found p w 0 100000000 r2) : r2 = r1 ∨ (r2 = 100000000 ∧ 100000000 ≤ r1) := by
  obtain ⟨_, a2, a3, a4⟩ := h1
  obtain ⟨_, b2, b3, b4⟩ := h2
  rcases Nat.lt_trichotomy r1 r2 with h | h | h
  · have := b3 r1 (Nat.zero_le _) h
    have := a4 (by omega)
    omega
  · exact .inl h.symm
  · rcases Nat.lt_or_ge r2 100000000 with h5 | h5
    · have := a3 r2 (Nat.zero_le _) h
      have := b4 h5
      omega
    · exact .inr ⟨by omega, by omega⟩

/-- Both radii of a valid Rollout with games. -/
theorem radii {n s q a b : Int} (c : Bool) (p : Nat) (h : isRo n s q a b = true) (hn : ¬ n = 0) (p1 : 1 ≤ p) (hp : p ≤ 50) (f : Nat) (hf : 40 ≤ f) :
    ∃ (w r1 r2 : Nat), spec_RadiusOf.f f n s q a b c p = some ((r1 : Int), 0) ∧ impl_RadiusOf.f f n s q a b c p = some ((r2 : Int), 0) ∧ Found p w 0 400000000 r1 ∧ Found p w 0 100000000 r2 ∧
      ∃ m : Int, wrap64 ((wrap64 (n * n)) * n) = m ∧ 1 ≤ m ∧ m ≤ 8000000 ∧ n * n ≤ m ∧ w ≤ 121000000000001 ∧ (Int.tmod (spr n s q a b c) m > 0 → wrap64 (wrap64 (Int.tdiv (spr n s q a b c) m) + 1) = (w : Int)) ∧ (¬ Int.tmod (spr n s q a b c) m > 0 → wrap64 (Int.tdiv (spr n s q a b c) m) = (w : Int)) := by
  obtain ⟨f, rfl⟩ : ∃ m, f = m + 2 := ⟨f - 2, by omega⟩
  obtain ⟨⟨n0, n1⟩, _⟩ := ro_parts h
  obtain ⟨m, em, m0, m1, m2⟩ := cube (n := n) (by omega) n1
  obtain ⟨s0, s1⟩ := spr_bd (c := c) h
  obtain ⟨w, hw, e1, e2⟩ := variance s0 s1 m0 m2
  obtain ⟨r1, x1, f1⟩ := spec_search p w hp hw 29 (f + 1) 0 400000000 (by omega) (by omega) (by omega) (by omega)
  obtain ⟨r2, x2, f2⟩ := impl_search p w hp hw 29 (f + 1) 0 100000000 (by omega) (by omega) (by omega) (by omega)
  have hm0 : ¬ m = 0 := by omega
  have g1 : (p : Int) ≥ 1 := by omega
  have g2 : (p : Int) ≤ 50 := by omega
  refine ⟨w, r1, r2, ?_, ?_, f1, f2, m, em, m0, m1, m2, hw, e1, e2⟩
  · unfold spec_RadiusOf.f spec_l27Code.f spec_l27Percent.f spec_l27Radius.f
    rw [spec_isRo (f + 1), h, in_is, spec_spr c h (f + 1), em]
    simp only [Option.bind_some, if_true, decide_eq_true_eq]
    rw [if_pos ⟨g1, g2⟩, if_neg hn]
    simp only [Option.bind_some, if_true]
    rw [if_neg hm0]
    by_cases ht : Int.tmod (spr n s q a b c) m > 0
    · rw [if_pos ht, e1 ht]
      simp only [spec_l27Radius.j0]
      have x1' : spec_l27Radius.l0 (f + 1) p w 0 400000000 = some (r1 : Int) := x1
      rw [x1']; rfl
    · rw [if_neg ht, e2 ht]
      simp only [spec_l27Radius.j0]
      have x1' : spec_l27Radius.l0 (f + 1) p w 0 400000000 = some (r1 : Int) := x1
      rw [x1']; rfl
  · unfold impl_RadiusOf.f
    rw [impl_isRo, h, within_is, impl_spr c h, em]
    simp only [Option.bind_some, if_true, decide_eq_true_eq]
    rw [if_pos ⟨g1, g2⟩, if_neg hn, if_neg hm0]
    have x2' : impl_RadiusOf.l0 (f + 1) p w 0 100000000 = some ((r2 : Int), 0) := x2
    by_cases ht : Int.tmod (spr n s q a b c) m > 0
    · rw [if_pos ht, e1 ht]
      simp only [impl_RadiusOf.j0]
      exact x2'
    · rw [if_neg ht, e2 ht]
      simp only [impl_RadiusOf.j0]
      exact x2'

theorem floor_impl {x y : Int} (h : 1 ≤ y) (h0 : -(y * 11000000) ≤ x) (h1 : x ≤ y * 11000000) : ∃ r : Int, impl_floorDiv.f x y = some r ∧ -11000000 ≤ r ∧ r ≤ 11000000 := by
  have hy : ¬ y = 0 := by omega
  have t0 : -11000000 ≤ Int.tdiv x y ∧ Int.tdiv x y ≤ 11000000 ∧ (Int.tmod x y < 0 → -11000000 < Int.tdiv x y) := by
    have hx : y * Int.tdiv x y + Int.tmod x y = x := Int.mul_tdiv_add_tmod x y
    have b1 : Int.tmod x y < y := Int.tmod_lt_of_pos x (by omega)
    have b2 : -y < Int.tmod x y := by have := Int.lt_tmod_of_pos x (show 0 < y by omega); exact this
    generalize Int.tdiv x y = t at *
    generalize Int.tmod x y = u at *
    refine ⟨?_, ?_, fun hu => ?_⟩
    · rcases Int.lt_or_le t (-11000000) with h5 | h5
      · have := Int.mul_le_mul_of_nonneg_left (show t ≤ -11000001 by omega) (show 0 ≤ y by omega)
        omega
      · exact h5
    · rcases Int.lt_or_le 11000000 t with h5 | h5
      · have := Int.mul_le_mul_of_nonneg_left (show 11000001 ≤ t by omega) (show 0 ≤ y by omega)
        omega
      · exact h5
    · rcases Int.lt_or_le (-11000000) t with h5 | h5
      · exact h5
      · have := Int.mul_le_mul_of_nonneg_left (show t ≤ -11000000 by omega) (show 0 ≤ y by omega)
        omega
  obtain ⟨t0, t1, t2⟩ := t0
  unfold impl_floorDiv.f
  rw [if_neg hy]
  by_cases h5 : Int.tmod x y < 0
  · have t3 := t2 h5
    refine ⟨Int.tdiv x y - 1, ?_, by omega, by omega⟩; rw [if_pos h5, w64 (x := Int.tdiv x y) (by omega) (by omega), w64 (by omega) (by omega)]
  · refine ⟨Int.tdiv x y, ?_, t0, t1⟩; rw [if_neg h5, w64 (x := Int.tdiv x y) (by omega) (by omega)]

theorem means_impl {n s q a b : Int} (h : isRo n s q a b = true) (hn : ¬ n = 0) : ∃ x y : Int, True ∧ impl_RolloutMeans.f n s q a b = some (x, y, true) ∧ 0 ≤ x ∧ x ≤ 1000000 ∧ -11000000 ≤ y ∧ y ≤ 11000000 := by
  obtain ⟨⟨n0, n1⟩, ⟨s0, s1⟩, _, ⟨a0, a1⟩, _⟩ := ro_parts h
  obtain ⟨r, e2, r0, r1⟩ := floor_impl (x := a) (y := n) (by omega) (by omega) (by omega)
  have d0 : Int.tdiv s n = s / n := Int.tdiv_eq_ediv_of_nonneg s0
  have d1 : 0 ≤ s / n := Int.ediv_nonneg s0 n0
  have d2 : s / n ≤ 1000000 := Int.ediv_le_of_le_mul (by omega) (by omega)
  unfold impl_RolloutMeans.f
  rw [impl_isRo, h]
  simp only [Option.bind_some, if_true]
  rw [if_neg hn, e2, d0, w64 (x := s / n) (by omega) (by omega)]
  exact ⟨_, _, trivial, rfl, d1, d2, r0, r1⟩

/-- What a source of draws holds: its place and its seed. -/
def Src (at_ seed : Int) : Prop := 0 ≤ at_ ∧ at_ ≤ 9223372036854775806 ∧ 0 ≤ seed ∧ seed < 2147483647

theorem byte_of {l : List Int} (hl : ∀ x ∈ l, 0 ≤ x ∧ x < 256) (i : Int) : 0 ≤ rd l i ∧ rd l i < 256 := by
  unfold rd
  rw [List.getD_eq_getElem?_getD]
  cases h : l[i.toNat]? with
  | none => simp
  | some x => simpa using hl x (List.mem_of_getElem? h)

theorem wf_u8 {x : Int} (h : (Lit.int .u8 x).wf = true) : 0 ≤ x ∧ x < 256 := by
  simp [Lit.wf, IntKind.min, IntKind.max, IntKind.bits, IntKind.signed] at h
  omega

theorem tmod_bd {x m : Int} (hx : 0 ≤ x) (hm : 0 < m) : 0 ≤ Int.tmod x m ∧ Int.tmod x m < m :=
  ⟨Int.tmod_nonneg _ hx, Int.tmod_lt_of_pos _ hm⟩

theorem seed_step {s : Int} (h0 : 0 ≤ s) (h1 : s < 2147483647) : 0 ≤ Int.tmod (wrap64 ((wrap64 (s * 48271)) + 17)) 2147483647 ∧ Int.tmod (wrap64 ((wrap64 (s * 48271)) + 17)) 2147483647 < 2147483647 := by
  rw [w64 (x := s * 48271) (by omega) (by omega), w64 (x := s * 48271 + 17) (by omega) (by omega)]
  exact tmod_bd (by omega) (by omega)

theorem quo_bd {s : Int} (h0 : 0 ≤ s) (h1 : s < 2147483647) : 0 ≤ wrap64 (Int.tdiv s 11) ∧ wrap64 (Int.tdiv s 11) < 2147483647 := by
  have e : Int.tdiv s 11 = s / 11 := Int.tdiv_eq_ediv_of_nonneg h0
  rw [e, w64 (by omega) (by omega)]
  omega

theorem next_ok {l : List Int} (hl : ∀ x ∈ l, 0 ≤ x ∧ x < 256) (hn : l.length ≤ 140737488351232) {p s : Int} (hs : Src p s) (n : Int) :
    ∃ r p' s', spec_l01Next.f l p s n = some (r, p', s') ∧ Src p' s' ∧ (n ≤ 1 → r = 0) ∧ (1 < n → 0 ≤ r ∧ r < n) := by
  obtain ⟨p0, p1, s0, s1⟩ := hs
  unfold spec_l01Next.f
  by_cases h1 : n ≤ 1
  · exact ⟨0, p, s, by rw [if_pos h1], ⟨p0, p1, s0, s1⟩, fun _ => rfl, fun h => by omega⟩
  · obtain ⟨t0, t1⟩ := seed_step s0 s1
    generalize Int.tmod (wrap64 ((wrap64 (s * 48271)) + 17)) 2147483647 = t at *
    obtain ⟨q0, q1⟩ := quo_bd t0 t1
    rw [if_neg h1]
    by_cases h2 : p < (l.length : Int)
    · have b1 := byte_of hl p
      rw [if_pos h2, if_pos p0, w64 (x := p + 1) (by omega) (by omega), w64 (x := p + 1 - 1) (by omega) (by omega), show p + 1 - 1 = p from by omega, if_pos p0, if_pos h2]
      have e1 : wrap64 (rd l p) = rd l p := w64 (by omega) (by omega)
      rw [e1]
      have hsrc : Src (p + 1) t := ⟨by omega, by omega, t0, t1⟩
      by_cases h3 : n ≤ 256
      · by_cases h4 : Int.tmod (p + 1) 2 = 0
        · have := tmod_bd (x := rd l p) (m := n) (by omega) (by omega)
          exact ⟨_, _, _, by rw [if_pos h3, if_pos h4, if_neg (show ¬ n = 0 by omega)], hsrc, fun h => by omega, fun _ => this⟩
        · rw [if_pos h3, if_neg h4]
          generalize wrap64 (Int.tdiv t 11) = q at *
          have := tmod_bd (x := q + rd l p) (m := n) (by omega) (by omega)
          exact ⟨_, _, _, by rw [w64 (x := q + rd l p) (by omega) (by omega), if_neg (show ¬ n = 0 by omega)], hsrc, fun h => by omega, fun _ => this⟩
      · rw [if_neg h3]
        generalize wrap64 (Int.tdiv t 11) = q at *
        have := tmod_bd (x := q + rd l p) (m := n) (by omega) (by omega)
        exact ⟨_, _, _, by rw [w64 (x := q + rd l p) (by omega) (by omega), if_neg (show ¬ n = 0 by omega)], hsrc, fun h => by omega, fun _ => this⟩
    · rw [if_neg h2, if_neg (show ¬ n = 0 by omega)]
      have e : wrap64 (Int.tdiv t 11) = Int.tdiv t 11 := by
        have e0 : Int.tdiv t 11 = t / 11 := Int.tdiv_eq_ediv_of_nonneg t0
        rw [e0, w64 (by omega) (by omega)]
      generalize hq : wrap64 (Int.tdiv t 11) = q at *
      have := tmod_bd (x := q) (m := n) (by omega) (by omega)
      exact ⟨_, _, _, rfl, ⟨p0, p1, t0, t1⟩, fun h => by omega, fun _ => this⟩

theorem from_loop {l : List Int} (hl : ∀ x ∈ l, 0 ≤ x ∧ x < 256) (d : Nat) : ∀ (f i : Nat) (s : Int), i + d = 64 → d < f → 0 ≤ s → s < 2147483647 →
    ∃ s', spec_l01From.l0 f l i l 0 s = some (l, 0, s') ∧ 0 ≤ s' ∧ s' < 2147483647 := by
  induction d with
  | zero =>
    intro f i s hi hf h0 h1
    obtain ⟨f, rfl⟩ : ∃ m, f = m + 1 := ⟨f - 1, by omega⟩
    refine ⟨s, ?_, h0, h1⟩
    simp only [spec_l01From.l0]
    rw [if_neg (show ¬ (i : Int) < 64 by omega)]
    by_cases h : (i : Int) < l.length
    · rw [if_pos h]
    · rw [if_neg h]
  | succ d ih =>
    intro f i s hi hf h0 h1
    obtain ⟨f, rfl⟩ : ∃ m, f = m + 1 := ⟨f - 1, by omega⟩
    simp only [spec_l01From.l0]
    by_cases h : (i : Int) < l.length
    · have b1 := byte_of hl i
      rw [if_pos h, if_pos (by omega), if_pos (by omega), w64_succ i (by omega), w64 (x := s * 43) (by omega) (by omega), w64 (x := rd l i) (by omega) (by omega), w64 (x := s * 43 + rd l i) (by omega) (by omega)]
      have := tmod_bd (x := s * 43 + rd l i) (m := 2147483647) (by omega) (by omega)
      exact ih f (i + 1) _ (by omega) (by omega) this.1 this.2
    · rw [if_neg h]; exact ⟨s, rfl, h0, h1⟩

theorem from_ok {l : List Int} (hl : ∀ x ∈ l, 0 ≤ x ∧ x < 256) (f : Nat) (hf : 64 < f) : ∃ s, spec_l01From.f f l = some (l, 0, s) ∧ Src 0 s := by
  obtain ⟨s, h, h0, h1⟩ := from_loop hl 64 f 0 24157 (by omega) hf (by omega) (by omega)
  exact ⟨s, h, by omega, by omega, h0, h1⟩

theorem percent_ok {l : List Int} (hl : ∀ x ∈ l, 0 ≤ x ∧ x < 256) (hn : l.length ≤ 140737488351232) {p s : Int} (hs : Src p s) : ∃ r p' s', spec_l27DrawPercent.f l p s = some (r, p', s') ∧ Src p' s' := by
  unfold spec_l27DrawPercent.f
  simp only [Option.bind_some, List.length_cons, List.length_nil]
  obtain ⟨r5, p5, s5, e5, hs5, _, b5⟩ := next_ok hl hn hs 10
  rw [e5]; simp only [Option.bind_some]
  have c5 := b5 (by omega)
  rw [if_pos c5.1, if_pos (by omega)]
  exact ⟨_, _, _, rfl, hs5⟩


theorem draw_loop {l : List Int} (hl : ∀ x ∈ l, 0 ≤ x ∧ x < 256) (hn : l.length ≤ 140737488351232) (d : Nat) : ∀ (f : Nat) (i p s S Q A B : Int), d < f → d ≤ 7 → 0 ≤ i → i + d ≤ 7 → Src p s → 0 ≤ Q → Q ≤ i * 1440000000000 → 0 ≤ B → B ≤ i * 1440000000000 →
    ∃ G S' Q' A' B' p' s', spec_l26Draw.l0 f d l p s i S Q A B = some (G, S', Q', A', B', p', s') ∧ Src p' s' ∧ Q' ≤ G * 1440000000000 ∧ B' ≤ G * 1440000000000 := by
  induction d with
  | zero =>
    intro f i p s S Q A B hf hd hi0 hi hs hQ0 hQ hB0 hB
    obtain ⟨f, rfl⟩ : ∃ m, f = m + 1 := ⟨f - 1, by omega⟩
    simp only [spec_l26Draw.l0]
    rw [if_neg (by omega)]
    obtain ⟨r, p1, s1, e, hs1, _, b1⟩ := next_ok hl hn hs 16
    rw [e]
    simp only [Option.bind_some]
    by_cases h0 : r = 0
    · rw [if_pos h0, w64 (x := 30 * i) (by omega) (by omega)]
      exact ⟨_, _, _, _, _, _, _, rfl, hs1, by omega, by omega⟩
    · rw [if_neg h0]
      by_cases h1 : r = 1
      · rw [if_pos h1, w64 (x := Q - 1000000) (by omega) (by omega)]
        exact ⟨_, _, _, _, _, _, _, rfl, hs1, by omega, by omega⟩
      · rw [if_neg h1]
        by_cases h2 : r = 2
        · rw [if_pos h2]; exact ⟨_, _, _, _, _, _, _, rfl, hs1, by omega, by omega⟩
        · rw [if_neg h2]
          by_cases h3 : r = 3
          · rw [if_pos h3]; exact ⟨_, _, _, _, _, _, _, rfl, hs1, by omega, by omega⟩
          · rw [if_neg h3]; exact ⟨_, _, _, _, _, _, _, rfl, hs1, by omega, by omega⟩
  | succ d ih =>
    intro f i p s S Q A B hf hd hi0 hi hs hQ0 hQ hB0 hB
    obtain ⟨f, rfl⟩ : ∃ m, f = m + 1 := ⟨f - 1, by omega⟩
    simp only [spec_l26Draw.l0]
    rw [if_pos (by omega)]
    obtain ⟨r1, p1, s1, e1, hs1, _, b1⟩ := next_ok hl hn hs 1001
    rw [e1]
    simp only [Option.bind_some]
    obtain ⟨r2, p2, s2, e2, hs2, _, b2⟩ := next_ok hl hn hs1 400
    rw [e2]
    simp only [Option.bind_some]
    have c1 := b1 (by omega)
    have c2 := b2 (by omega)
    rw [w64 (x := ((d + 1 : Nat) : Int) - 1) (by omega) (by omega), show ((d + 1 : Nat) : Int) - 1 = (d : Int) from by omega, w64 (x := i + 1) (by omega) (by omega), w64 (x := r1 * 1000) (by omega) (by omega), w64 (x := r2 - 200) (by omega) (by omega), w64 (x := (r2 - 200) * 1000) (by omega) (by omega), w64 (x := r1 * 1000 + (r2 - 200) * 1000) (by omega) (by omega)]
    have g1 := mul_abs (a := r1 * 1000) (A := 1200000) (by omega) (by omega)
    have g2 := mul_abs (a := r1 * 1000 + (r2 - 200) * 1000) (A := 1200000) (by omega) (by omega)
    generalize r1 * 1000 + (r2 - 200) * 1000 = y at *
    generalize r1 * 1000 = x at *
    rw [w64 (x := x * x) (by omega) (by omega), w64 (x := y * y) (by omega) (by omega), w64 (x := Q + x * x) (by omega) (by omega), w64 (x := B + y * y) (by omega) (by omega)]
    exact ih f (i + 1) p2 s2 _ _ _ _ (by omega) (by omega) (by omega) (by omega) hs2 (by omega) (by omega) (by omega) (by omega)

theorem draw_ok {l : List Int} (hl : ∀ x ∈ l, 0 ≤ x ∧ x < 256) (hn : l.length ≤ 140737488351232) (f : Nat) (hf : 100 ≤ f) : ∃ G S Q A B c p, spec_DrawRadiusOf.f f l = some (G, S, Q, A, B, c, p) ∧ Q ≤ G * 1440000000000 ∧ B ≤ G * 1440000000000 := by
  unfold spec_DrawRadiusOf.f spec_l26Draw.f
  obtain ⟨s, h, hs⟩ := from_ok hl f (by omega)
  rw [h]
  simp only [Option.bind_some]
  obtain ⟨r1, p1, s1, e1, hs1, _, b1⟩ := next_ok hl hn hs 8
  rw [e1]; simp only [Option.bind_some]
  have c1 := b1 (by omega)
  obtain ⟨d, rfl⟩ := Int.eq_ofNat_of_zero_le c1.1
  obtain ⟨G, S, Q, A, B, p2, s2, e2, hs2, q2, bb2⟩ := draw_loop hl hn d f 0 p1 s1 0 0 0 0 (by omega) (by omega) (by omega) (by omega) hs1 (by omega) (by omega) (by omega) (by omega)
  rw [e2]; simp only [Option.bind_some]
  obtain ⟨r3, p3, s3, e3, hs3, _, _⟩ := next_ok hl hn hs2 2
  rw [e3]; simp only [Option.bind_some]
  obtain ⟨r4, p4, s4, e4, _⟩ := percent_ok hl hn hs3
  rw [e4]; simp only [Option.bind_some]
  exact ⟨_, _, _, _, _, _, _, rfl, q2, bb2⟩

/-- Where there is no radius, both say so alike. -/
theorem radius_bad {n s q a b : Int} (c : Bool) (p : Int) (h : ¬ (isRo n s q a b = true ∧ (1 ≤ p ∧ p ≤ 50) ∧ ¬ n = 0)) (f : Nat) : ∃ k : Int, ¬ k = 0 ∧ spec_RadiusOf.f (f + 1) n s q a b c p = some (0, k) ∧ impl_RadiusOf.f (f + 1) n s q a b c p = some (0, k) := by
  unfold spec_RadiusOf.f spec_l27Code.f spec_l27Percent.f impl_RadiusOf.f
  rw [spec_isRo f, impl_isRo, in_is, within_is]
  cases h1 : isRo n s q a b with
  | false => exact ⟨1, by decide, by simp, by simp⟩
  | true =>
    by_cases h2 : 1 ≤ p ∧ p ≤ 50
    · have h3 : n = 0 := by
        by_cases h4 : n = 0
        · exact h4
        · exact absurd ⟨h1, h2, h4⟩ h
      exact ⟨5, by decide, by simp [h2, h3], by simp [h2, h3]⟩
    · exact ⟨2, by decide, by simp [h2], by simp [h2]⟩

theorem ceil_is {sp m : Int} (h0 : 0 ≤ sp) (hm : 1 ≤ m) : (sp + m - 1) / m = if Int.tmod sp m > 0 then sp / m + 1 else sp / m := by
  have e : Int.tmod sp m = sp % m := Int.tmod_eq_emod_of_nonneg h0
  have d := Int.mul_ediv_add_emod sp m
  have r0 := Int.emod_nonneg sp (show m ≠ 0 by omega)
  have r1 := Int.emod_lt_of_pos sp (show 0 < m by omega)
  rw [e]
  generalize sp / m = t at *
  generalize sp % m = r at *
  by_cases h : r > 0
  · rw [if_pos h]
    refine ((Int.ediv_emod_unique (show 0 < m by omega) (q := t + 1) (r := r - 1)).2 ⟨?_, by omega, by omega⟩).1
    rw [Int.mul_add, Int.mul_one]; omega
  · rw [if_neg h]
    exact ((Int.ediv_emod_unique (show 0 < m by omega) (q := t) (r := m - 1)).2 ⟨by omega, by omega, by omega⟩).1

theorem law_ok {n s q a b : Int} (c : Bool) (p : Nat) (h : isRo n s q a b = true) (hn : ¬ n = 0) (p1 : 1 ≤ p) (hp : p ≤ 50) (hq : q ≤ n * 1440000000000) (hb : b ≤ n * 1440000000000) (f : Nat) (hf : 60 ≤ f) :
    ∃ r : Int, spec_RadiusOf.f f n s q a b c p = some (r, 0) ∧ impl_RadiusOf.f f n s q a b c p = some (r, 0) ∧ laws_FnRadius.j0 f c p r 0 false n s q a b = some true := by
  obtain ⟨f, rfl⟩ : ∃ m, f = m + 2 := ⟨f - 2, by omega⟩
  obtain ⟨w, r1, r2, e1, e2, f1, f2, m, em, m0, m1, m2, hw, v1, v2⟩ := radii c p h hn p1 hp (f + 2) (by omega)
  obtain ⟨⟨n0, n1⟩, ⟨s0, s1⟩, ⟨q0, q1⟩, ⟨a0, a1⟩, ⟨b0, b1⟩, g1, g2⟩ := ro_parts h
  have sp0 := (spr_bd (c := c) h).1
  have sp1 : spr n s q a b c ≤ n * n * 1440000000000 := by
    have k1 := nn_le (x := q) (K := 1440000000000) n0 hq
    have k2 := nn_le (x := b) (K := 1440000000000) n0 hb
    have k3 := mul_abs (a := s) (A := 200000000) (by omega) (by omega)
    have k4 := mul_abs (a := a) (A := 2200000000) (by omega) (by omega)
    unfold spr
    cases c
    · simp only [Bool.false_eq_true, if_false]; omega
    · simp only [if_true]; omega
  have hsp := impl_spr c h
  generalize spr n s q a b c = sp at *
  have td : Int.tdiv sp m = sp / m := Int.tdiv_eq_ediv_of_nonneg sp0
  have d0 : 0 ≤ sp / m := Int.ediv_nonneg sp0 (by omega)
  have d1 : sp / m ≤ 1440000000000 := Int.ediv_le_of_le_mul (by omega) (by omega)
  have hceil := ceil_is sp0 m0
  have hwv : (sp + m - 1) / m = (w : Int) := by
    rw [hceil]
    by_cases ht : Int.tmod sp m > 0
    · have := v1 ht
      rw [td, w64 (x := sp / m) (by omega) (by omega), w64 (x := sp / m + 1) (by omega) (by omega)] at this
      rw [if_pos ht, this]
    · have := v2 ht
      rw [td, w64 (x := sp / m) (by omega) (by omega)] at this
      rw [if_neg ht, this]
  have hw2 : w ≤ 1440000000001 := by
    rw [hceil] at hwv
    by_cases ht : Int.tmod sp m > 0
    · rw [if_pos ht] at hwv; omega
    · rw [if_neg ht] at hwv; omega
  clear v1 v2 hceil
  have hr1 : r1 < 100000000 := by
    rcases Nat.lt_or_ge r1 100000000 with g | g
    · exact g
    · have := f1.2.2.1 50000000 (Nat.zero_le _) (by omega)
      have k : 1 * 50000000 * 50000000 ≤ p * 50000000 * 50000000 := Nat.mul_le_mul_right _ (Nat.mul_le_mul_right _ p1)
      omega
  have hr : r2 = r1 := by rcases found_two f1 f2 with g | g; exact g; omega
  subst hr
  refine ⟨(r2 : Int), e1, e2, ?_⟩
  simp only [laws_FnRadius.j0, Bool.false_eq_true, if_false, if_true]
  unfold impl_SpreadOf.f
  rw [impl_isRo, h, em]
  simp only [Option.bind_some, if_true]
  rw [hsp]
  simp only [Option.bind_some]
  have hsm : sp ≤ 9000000000000000000 := by
    have k3 := mul_bd (a := n) (b := n) (A := 200) (B := 200) n0 n1 n0 n1
    omega
  rw [if_neg (show ¬ m = 0 by omega), if_neg (show ¬ sp < 0 by omega), w64 (x := sp + m) (by omega) (by omega), w64 (x := sp + m - 1) (by omega) (by omega), Int.tdiv_eq_ediv_of_nonneg (show 0 ≤ sp + m - 1 by omega), hwv, w64_nat w (by omega)]
  obtain ⟨t1, t2⟩ := prod_bd (m := r2) hp (by omega)
  have hPr : 100 * w ≤ p * r2 * r2 := f1.2.2.2 (by omega)
  rw [w64_mul p r2 t1, w64_mul _ r2 t2, show ((100 : Int) * (w : Int)) = ((100 * w : Nat) : Int) from by omega, w64_nat (100 * w) (by omega), if_neg (fun g => absurd (Int.ofNat_lt.mp g) (by omega))]
  -- the second part: a greater percent, and the comparison with itself
  have hend : laws_FnRadius.j1 (f + 1) c p r2 false n s q a b = some true := by
    simp only [laws_FnRadius.j1, Bool.false_eq_true, if_false]
    have hmn : mn 50 (wrap64 ((p : Int) + 5)) = ((min 50 (p + 5) : Nat) : Int) := by
      rw [w64 (by omega) (by omega)]; unfold mn; split <;> omega
    rw [hmn]
    obtain ⟨w', r1', r2', _, x2, _, k2, m', em', _, _, _, _, y1, y2⟩ := radii c (min 50 (p + 5)) h hn (by omega) (by omega) f (by omega)
    rw [x2]
    simp only [Option.bind_some]
    have hcmp : impl_CompareRollouts.f f n s q a b n s q a b c p = some (0, 0) := by
      unfold impl_CompareRollouts.f impl_BoundsOf.f
      obtain ⟨w3, a1', a2', _, z2, _, k3, _⟩ := radii c p h hn p1 hp f (by omega)
      obtain ⟨x, y, _, gm, x0, x1, y0, y1⟩ := means_impl h hn
      have k3' := k3.2.1
      rw [z2]
      simp only [Option.bind_some, if_true]
      rw [gm]
      simp only [Option.bind_some]
      cases c
      · simp only [Bool.false_eq_true, if_false, Option.bind_some, if_true]
        rw [w64 (x := x - a2') (by omega) (by omega), w64 (x := x + 1) (by omega) (by omega), w64 (x := x + 1 + a2') (by omega) (by omega), if_neg (by omega), if_neg (by omega)]
      · simp only [if_true, Option.bind_some]
        rw [w64 (x := y - a2') (by omega) (by omega), w64 (x := y + 1) (by omega) (by omega), w64 (x := y + 1 + a2') (by omega) (by omega), if_neg (by omega), if_neg (by omega)]
    rw [hcmp]
    simp only [Option.bind_some, if_true]
    have hww : w' = w := by
      obtain rfl : m' = m := by rw [← em', em]
      have sp_eq := impl_spr c h
      rw [hsp] at sp_eq
      have sp_eq := Option.some.inj sp_eq
      rw [← sp_eq] at y1 y2
      have hceil := ceil_is sp0 m0
      rw [hwv] at hceil
      by_cases ht : Int.tmod sp m' > 0
      · have := y1 ht
        rw [td, w64 (x := sp / m') (by omega) (by omega), w64 (x := sp / m' + 1) (by omega) (by omega)] at this
        rw [if_pos ht] at hceil; omega
      · have := y2 ht
        rw [td, w64 (x := sp / m') (by omega) (by omega)] at this
        rw [if_neg ht] at hceil; omega
    have hle : r2' ≤ r2 := by
      rcases Nat.lt_or_ge r2 r2' with g | g
      · have := k2.2.2.1 r2 (Nat.zero_le _) g
        have kk : p * r2 * r2 ≤ min 50 (p + 5) * r2 * r2 := Nat.mul_le_mul_right _ (Nat.mul_le_mul_right _ (by omega))
        rw [hww] at this
        omega
      · exact g
    rw [if_pos (Int.ofNat_le.mpr hle)]
    rfl
  by_cases hz : (r2 : Int) > 0
  · have e9 : wrap64 ((r2 : Int) - 1) = ((r2 - 1 : Nat) : Int) := by rw [w64 (by omega) (by omega)]; omega
    rw [if_pos hz, e9]
    clear e9
    have hlow := f1.2.2.1 (r2 - 1) (Nat.zero_le _) (by omega)
    obtain ⟨t3, t4⟩ := prod_bd (m := r2 - 1) hp (by omega)
    rw [w64_mul p (r2 - 1) t3, w64_mul _ (r2 - 1) t4]
    have hd : decide (((p * (r2 - 1) * (r2 - 1) : Nat) : Int) ≥ ((100 * w : Nat) : Int)) = false := by
      rw [decide_eq_false_iff_not]
      intro g
      exact absurd (Int.ofNat_le.mp g) (by omega)
    rw [hd]
    exact hend
  · rw [if_neg hz]
    exact hend

theorem FnRadius : laws_FnRadius.Pure := by
  intro l _ hn hb
  have hl : ∀ x ∈ l, 0 ≤ x ∧ x < 256 := fun x hx => wf_u8 (hb x hx)
  obtain ⟨K, hK⟩ : ∃ K : Nat, K = 200 := ⟨_, rfl⟩
  refine ⟨K + 1, ?_⟩
  unfold laws_FnRadius.f laws_big.f
  simp only [Option.bind_some]
  by_cases h : (l.length : Int) > 4096
  · simp [h]
  · obtain ⟨G, S, Q, A, B, c, p, hd, hq, hbb⟩ := draw_ok hl (by omega) (K + 1) (by omega)
    rw [hd]
    simp only [Option.bind_some, decide_eq_true_eq]
    rw [if_neg h]
    by_cases hv : isRo G S Q A B = true ∧ (1 ≤ p ∧ p ≤ 50) ∧ ¬ G = 0
    · obtain ⟨h1, h2, h3⟩ := hv
      obtain ⟨p, rfl⟩ := Int.eq_ofNat_of_zero_le (show 0 ≤ p by omega)
      obtain ⟨r, e1, e2, e3⟩ := law_ok c p h1 h3 (by omega) (by omega) hq hbb (K + 1) (by omega)
      rw [e1, e2]
      simp only [Option.bind_some, if_true, bne_self_eq_false]
      exact e3
    · obtain ⟨k, hk, e1, e2⟩ := radius_bad c p hv K
      rw [e1, e2]
      simp only [Option.bind_some, if_true, bne_self_eq_false]
      simp only [laws_FnRadius.j0, Bool.false_eq_true, if_false]
      rw [if_neg hk]

end Go.Proofs.Ytpeipalgpbkagaa.Pure
