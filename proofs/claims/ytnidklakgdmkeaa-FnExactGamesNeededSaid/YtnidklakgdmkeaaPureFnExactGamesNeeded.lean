/- The number of games that are needed: the program's function and the reference's answer alike for all arguments. No condition. -/
import Derived.Test.YtnidklakgdmkeaaPFnExactGamesNeededx1
namespace Go.Proofs.Ytnidklakgdmkeaa.Pure
open Go.RowKit Go.Proofs.Ytnidklakgdmkeaa.PFnExactGamesNeeded Go.Proofs.YtnidklakgdmkeaaW.PrintWords Go.Proofs.YtnidklakgdmkeaaW.PrintLast

theorem gn_bd {a b A B : Int} (h0 : 0 ≤ a) (h1 : a ≤ A) (h2 : 0 ≤ b) (h3 : b ≤ B) : 0 ≤ a * b ∧ a * b ≤ A * B :=
  ⟨Int.mul_nonneg h0 h2, Int.mul_le_mul h1 h3 h2 (by omega)⟩

theorem gn_unit {a1 a2 : Int} (h0 : 1 ≤ a1) (h1 : a1 ≤ 20000000) (h2 : 1 ≤ a2) (h3 : a2 ≤ 50) : ¬ wrap64 ((wrap64 ((wrap64 (4 * a1)) * a1)) * a2) = 0 := by
  have e1 : wrap64 (4 * a1) = 4 * a1 := by unfold wrap64; omega
  rw [e1]
  obtain ⟨b0, b1⟩ := gn_bd (a := 4 * a1) (b := a1) (A := 80000000) (B := 20000000) (by omega) (by omega) (by omega) (by omega)
  have b2 : 1 ≤ 4 * a1 * a1 := by have := Int.mul_pos (a := 4 * a1) (b := a1) (by omega) (by omega); omega
  have e2 : wrap64 (4 * a1 * a1) = 4 * a1 * a1 := by unfold wrap64; omega
  rw [e2]
  generalize 4 * a1 * a1 = x at *
  obtain ⟨c0, c1⟩ := gn_bd (a := x) (b := a2) (A := 1600000000000000) (B := 50) (by omega) (by omega) (by omega) (by omega)
  have c2 : 1 ≤ x * a2 := by have := Int.mul_pos (a := x) (b := a2) (by omega) (by omega); omega
  unfold wrap64; omega

theorem FnExactGamesNeeded : laws_FnExactGamesNeeded.Pure := by
  intro a0 a1 a2 _ _ _
  unfold laws_FnExactGamesNeeded.f
  have h : ∃ r, spec_GamesNeeded.f a0 a1 a2 = some r ∧ impl_GamesNeeded.f a0 a1 a2 = some r := by
    unfold spec_GamesNeeded.f impl_GamesNeeded.f spec_l27Percent.f impl_ceiling.f spec_l01In.f impl_within.f
    by_cases h0 : a0 ≥ 0 <;> by_cases h1 : a0 ≤ 20000000 <;> by_cases h2 : a1 ≥ 1 <;> by_cases h3 : a1 ≤ 20000000 <;> by_cases h4 : a2 ≥ 1 <;> by_cases h5 : a2 ≤ 50 <;> first | (have hu := gn_unit h2 h3 h4 h5; simp [h0, h1, h2, h3, h4, h5, hu]) | simp [h0, h1, h2, h3, h4, h5]
  obtain ⟨r, hs, hi⟩ := h
  rw [hs, hi]; simp

end Go.Proofs.Ytnidklakgdmkeaa.Pure
