/- The sum of two rollouts: the program's function and the reference's answer alike for all arguments. No condition. -/
import Derived.Test.YtnidklakgdmkeaaPFnExactAddRolloutsx2
namespace Go.Proofs.Ytnidklakgdmkeaa.Pure
open Go.RowKit Go.Proofs.Ytnidklakgdmkeaa.PFnExactAddRollouts Go.Proofs.YtnidklakgdmkeaaW.PrintWords Go.Proofs.YtnidklakgdmkeaaW.PrintLast Go.Proofs.YtnidklakgdmkeaaW.PrintMore

theorem w64 {x : Int} (h0 : -9223372036854775808 ≤ x) (h1 : x ≤ 9223372036854775807) : wrap64 x = x := by unfold wrap64; omega
theorem w64_nat (a : Nat) (h : a ≤ 9223372036854775807) : wrap64 (a : Int) = a := w64 (by omega) (by omega)
theorem w64_sub (a b : Nat) (h : b ≤ a) (ha : a ≤ 9223372036854775807) : wrap64 ((a : Int) - (b : Int)) = ((a - b : Nat) : Int) := by rw [w64 (by omega) (by omega)]; omega
theorem w64_add (a b : Nat) (h : a + b ≤ 9223372036854775807) : wrap64 ((a : Int) + (b : Int)) = ((a + b : Nat) : Int) := by rw [w64 (by omega) (by omega)]; omega
theorem w64_succ (a : Nat) (h : a + 1 ≤ 9223372036854775807) : wrap64 ((a : Int) + 1) = ((a + 1 : Nat) : Int) := by rw [w64 (by omega) (by omega)]; omega
theorem w64_mul (a b : Nat) (h : a * b ≤ 9223372036854775807) : wrap64 ((a : Int) * (b : Int)) = ((a * b : Nat) : Int) := by
  rw [← Int.natCast_mul]
  exact w64_nat _ h
theorem mulle {a b R : Nat} (A B : Nat) (h0 : a ≤ A) (h1 : b ≤ B) (h : A * B ≤ R) : a * b ≤ R := Nat.le_trans (Nat.mul_le_mul h0 h1) h

/-- Whether five numbers are a valid Rollout. -/
def isRo (n s q a b : Int) : Bool :=
  decide (0 ≤ n ∧ n ≤ 200 ∧ 0 ≤ s ∧ s ≤ n * 1000000 ∧ 0 ≤ q ∧ q ≤ n * 1000000000000 ∧ -(11 * n * 1000000) ≤ a ∧ a ≤ 11 * n * 1000000 ∧ 0 ≤ b ∧ b ≤ 121 * n * 1000000000000 ∧ s * s ≤ n * q ∧ a * a ≤ n * b)

theorem mul_abs {a A : Int} (h0 : -A ≤ a) (h1 : a ≤ A) : 0 ≤ a * a ∧ a * a ≤ A * A := by
  refine ⟨by rcases Int.le_total 0 a with h | h; exact Int.mul_nonneg h h; exact Int.mul_nonneg_of_nonpos_of_nonpos h h, ?_⟩
  have hA : 0 ≤ A := by omega
  rcases Int.le_total 0 a with h | h
  · exact Int.mul_le_mul h1 h1 h hA
  · have h2 : -a * -a ≤ A * A := Int.mul_le_mul (by omega) (by omega) (by omega) hA
    rwa [Int.neg_mul_neg] at h2

theorem mul_bd {a b A B : Int} (h0 : 0 ≤ a) (h1 : a ≤ A) (h2 : 0 ≤ b) (h3 : b ≤ B) : 0 ≤ a * b ∧ a * b ≤ A * B :=
  ⟨Int.mul_nonneg h0 h2, Int.mul_le_mul h1 h3 h2 (by omega)⟩

theorem w_ss {n s : Int} (h0 : 0 ≤ n) (h1 : n ≤ 200) (h2 : 0 ≤ s) (h3 : s ≤ n * 1000000) : wrap64 (s * s) = s * s := by
  have := mul_abs (a := s) (A := 200000000) (by omega) (by omega)
  exact w64 (by omega) (by omega)
theorem w_nq {n q : Int} (h0 : 0 ≤ n) (h1 : n ≤ 200) (h2 : 0 ≤ q) (h3 : q ≤ n * 1000000000000) : wrap64 (n * q) = n * q := by
  have := mul_bd (a := n) (b := q) (A := 200) (B := 200000000000000) h0 h1 h2 (by omega)
  exact w64 (by omega) (by omega)
theorem w_aa {n a : Int} (h0 : 0 ≤ n) (h1 : n ≤ 200) (h2 : -(11 * n * 1000000) ≤ a) (h3 : a ≤ 11 * n * 1000000) : wrap64 (a * a) = a * a := by
  have := mul_abs (a := a) (A := 2200000000) (by omega) (by omega)
  exact w64 (by omega) (by omega)
theorem w_nb {n b : Int} (h0 : 0 ≤ n) (h1 : n ≤ 200) (h2 : 0 ≤ b) (h3 : b ≤ 121 * n * 1000000000000) : wrap64 (n * b) = n * b := by
  have := mul_bd (a := n) (b := b) (A := 200) (B := 24200000000000000) h0 h1 h2 (by omega)
  exact w64 (by omega) (by omega)

theorem w_e1 {n : Int} (h0 : 0 ≤ n) (h1 : n ≤ 200) : wrap64 (n * 1000000) = n * 1000000 := w64 (by omega) (by omega)
theorem w_e2 {n : Int} (h0 : 0 ≤ n) (h1 : n ≤ 200) : wrap64 (n * 1000000 * 1000000) = n * 1000000000000 := by rw [w64 (by omega) (by omega)]; omega
theorem w_e3 {n : Int} (h0 : 0 ≤ n) (h1 : n ≤ 200) : wrap64 (-11 * n) = -(11 * n) := by rw [w64 (by omega) (by omega)]; omega
theorem w_e4 {n : Int} (h0 : 0 ≤ n) (h1 : n ≤ 200) : wrap64 (-(11 * n) * 1000000) = -(11 * n * 1000000) := by rw [w64 (by omega) (by omega)]; omega
theorem w_e5 {n : Int} (h0 : 0 ≤ n) (h1 : n ≤ 200) : wrap64 (11 * n) = 11 * n := w64 (by omega) (by omega)
theorem w_e6 {n : Int} (h0 : 0 ≤ n) (h1 : n ≤ 200) : wrap64 (11 * n * 1000000) = 11 * n * 1000000 := w64 (by omega) (by omega)
theorem w_e7 {n : Int} (h0 : 0 ≤ n) (h1 : n ≤ 200) : wrap64 (121 * n) = 121 * n := w64 (by omega) (by omega)
theorem w_e8 {n : Int} (h0 : 0 ≤ n) (h1 : n ≤ 200) : wrap64 (121 * n * 1000000) = 121 * n * 1000000 := w64 (by omega) (by omega)
theorem w_e9 {n : Int} (h0 : 0 ≤ n) (h1 : n ≤ 200) : wrap64 (121 * n * 1000000 * 1000000) = 121 * n * 1000000000000 := by rw [w64 (by omega) (by omega)]; omega
theorem w_f3 {n : Int} (h0 : 0 ≤ n) (h1 : n ≤ 200) : wrap64 (-11 * (n * 1000000)) = -(11 * n * 1000000) := by rw [w64 (by omega) (by omega)]; omega
theorem w_f6 {n : Int} (h0 : 0 ≤ n) (h1 : n ≤ 200) : wrap64 (11 * (n * 1000000)) = 11 * n * 1000000 := by rw [w64 (by omega) (by omega)]; omega
theorem w_f8 {n : Int} (h0 : 0 ≤ n) (h1 : n ≤ 200) : wrap64 (121 * (n * 1000000)) = 121 * n * 1000000 := by rw [w64 (by omega) (by omega)]; omega

theorem within_is (a b c : Int) : impl_within.f a b c = some (decide (b ≤ a ∧ a ≤ c)) := by
  unfold impl_within.f
  by_cases h : a ≥ b <;> simp [h]
theorem in_is (a b c : Int) : spec_l01In.f a b c = some (decide (b ≤ a ∧ a ≤ c)) := by
  unfold spec_l01In.f
  by_cases h : a ≥ b <;> simp [h]

theorem impl_isRo (n s q a b : Int) : impl_IsRollout.f n s q a b = some (isRo n s q a b) := by
  unfold impl_IsRollout.f isRo
  simp only [within_is, Option.bind_some, decide_eq_true_eq]
  by_cases h1 : 0 ≤ n ∧ n ≤ 200
  · rw [if_pos h1]
    obtain ⟨h1, h2⟩ := h1
    rw [w_e1 h1 h2, w_e2 h1 h2, w_e3 h1 h2, w_e4 h1 h2, w_e5 h1 h2, w_e6 h1 h2, w_e7 h1 h2, w_e8 h1 h2, w_e9 h1 h2]
    by_cases h3 : 0 ≤ s ∧ s ≤ n * 1000000
    · by_cases h4 : 0 ≤ q ∧ q ≤ n * 1000000000000
      · by_cases h5 : -(11 * n * 1000000) ≤ a ∧ a ≤ 11 * n * 1000000
        · by_cases h6 : 0 ≤ b ∧ b ≤ 121 * n * 1000000000000
          · rw [if_pos h3, if_pos h4, if_pos h5, if_pos h6, w_ss h1 h2 h3.1 h3.2, w_nq h1 h2 h4.1 h4.2, w_aa h1 h2 h5.1 h5.2, w_nb h1 h2 h6.1 h6.2]
            by_cases h7 : s * s ≤ n * q
            · simp [h1, h2, h3, h4, h5, h6, h7]
            · simp [h7]
          · rw [if_pos h3, if_pos h4, if_pos h5, if_neg h6]; simp only [Option.some.injEq]; symm; rw [decide_eq_false_iff_not]; rintro ⟨_, _, _, _, _, _, _, _, z0, z1, _⟩; exact h6 ⟨z0, z1⟩
        · rw [if_pos h3, if_pos h4, if_neg h5]; simp only [Option.some.injEq]; symm; rw [decide_eq_false_iff_not]; rintro ⟨_, _, _, _, _, _, z0, z1, _⟩; exact h5 ⟨z0, z1⟩
      · rw [if_pos h3, if_neg h4]; simp only [Option.some.injEq]; symm; rw [decide_eq_false_iff_not]; rintro ⟨_, _, _, _, z0, z1, _⟩; exact h4 ⟨z0, z1⟩
    · rw [if_neg h3]; simp only [Option.some.injEq]; symm; rw [decide_eq_false_iff_not]; rintro ⟨_, _, z0, z1, _⟩; exact h3 ⟨z0, z1⟩
  · rw [if_neg h1]; simp only [Option.some.injEq]; symm; rw [decide_eq_false_iff_not]; rintro ⟨z0, z1, _⟩; exact h1 ⟨z0, z1⟩

theorem spec_isRo (f : Nat) (n s q a b : Int) : spec_IsRollout.f (f + 1) n s q a b = some (isRo n s q a b) := by
  unfold spec_IsRollout.f isRo
  simp only [spec_IsRollout.j0, in_is, Option.bind_some, decide_eq_true_eq, Bool.not_eq_true', decide_eq_false_iff_not, ite_not, if_true]
  by_cases h1 : 0 ≤ n ∧ n ≤ 200
  · rw [if_pos h1]
    obtain ⟨h1, h2⟩ := h1
    rw [w_e1 h1 h2, w_e2 h1 h2, w_f3 h1 h2, w_f6 h1 h2, w_f8 h1 h2, w_e9 h1 h2]
    by_cases h3 : 0 ≤ s ∧ s ≤ n * 1000000
    · by_cases h4 : 0 ≤ q ∧ q ≤ n * 1000000000000
      · by_cases h5 : -(11 * n * 1000000) ≤ a ∧ a ≤ 11 * n * 1000000
        · by_cases h6 : 0 ≤ b ∧ b ≤ 121 * n * 1000000000000
          · rw [if_pos h3, if_pos h4, if_pos h5, if_pos h6, w_ss h1 h2 h3.1 h3.2, w_nq h1 h2 h4.1 h4.2, w_aa h1 h2 h5.1 h5.2, w_nb h1 h2 h6.1 h6.2]
            by_cases h7 : s * s ≤ n * q
            · simp [h1, h2, h3, h4, h5, h6, h7]
            · simp [h7]
          · rw [if_pos h3, if_pos h4, if_pos h5, if_neg h6]; simp only [Option.some.injEq]; symm; rw [decide_eq_false_iff_not]; rintro ⟨_, _, _, _, _, _, _, _, z0, z1, _⟩; exact h6 ⟨z0, z1⟩
        · rw [if_pos h3, if_pos h4, if_neg h5]; simp only [Option.some.injEq]; symm; rw [decide_eq_false_iff_not]; rintro ⟨_, _, _, _, _, _, z0, z1, _⟩; exact h5 ⟨z0, z1⟩
      · rw [if_pos h3, if_neg h4]; simp only [Option.some.injEq]; symm; rw [decide_eq_false_iff_not]; rintro ⟨_, _, _, _, z0, z1, _⟩; exact h4 ⟨z0, z1⟩
    · rw [if_neg h3]; simp only [Option.some.injEq]; symm; rw [decide_eq_false_iff_not]; rintro ⟨_, _, z0, z1, _⟩; exact h3 ⟨z0, z1⟩
  · rw [if_neg h1]; simp only [Option.some.injEq]; symm; rw [decide_eq_false_iff_not]; rintro ⟨z0, z1, _⟩; exact h1 ⟨z0, z1⟩


theorem FnExactAddRollouts (n s q a b n' s' q' a' b' : Int) : ∃ k, laws_FnExactAddRollouts.f k n s q a b n' s' q' a' b' = some true := by
  obtain ⟨K, _⟩ : ∃ K : Nat, K = 60 := ⟨_, rfl⟩
  refine ⟨K + 1, ?_⟩
  unfold laws_FnExactAddRollouts.f laws_toRollout.f
  simp only [Option.bind_some]
  have h : ∃ r, spec_AddRollouts.f (K + 1) n s q a b n' s' q' a' b' = some r ∧ impl_AddRollouts.f n s q a b n' s' q' a' b' = some r := by
    unfold spec_AddRollouts.f impl_AddRollouts.f
    rw [spec_isRo, spec_isRo, impl_isRo, impl_isRo]
    simp only [Option.bind_some]
    by_cases h1 : isRo n s q a b = true
    · rw [if_pos h1]
      by_cases h2 : isRo n' s' q' a' b' = true
      · rw [if_pos h2]
        by_cases h3 : wrap64 (n + n') > 200
        · rw [if_pos h3]; exact ⟨_, rfl, rfl⟩
        · rw [if_neg h3]; exact ⟨_, rfl, rfl⟩
      · rw [if_neg h2]; exact ⟨_, rfl, rfl⟩
    · rw [if_neg h1]; exact ⟨_, rfl, rfl⟩
  obtain ⟨⟨r1, r2, r3, r4, r5, r6⟩, h1, h2⟩ := h
  rw [h1, h2]
  simp [laws_eqRollout.f]

end Go.Proofs.Ytnidklakgdmkeaa.Pure
