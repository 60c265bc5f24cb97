/- The seed of a game of a rollout: the program's function and the reference's answer alike for every seed and every index. No condition. -/
import Derived.Test.YtnidklakgdmkeaaPFnExactGameSeedx1
namespace Go.Proofs.Ytnidklakgdmkeaa.Pure
open Go.RowKit Go.Proofs.Ytnidklakgdmkeaa.PFnExactGameSeed Go.Proofs.YtnidklakgdmkeaaW.PrintWords Go.Proofs.YtnidklakgdmkeaaW.PrintLast

theorem FnExactGameSeed : laws_FnExactGameSeed.Pure := by
  intro a0 a1 _ _
  unfold laws_FnExactGameSeed.f
  have e : spec_GameSeed.f a0 a1 = impl_GameSeed.f a0 a1 := rfl
  rw [e]
  have h : ∃ r, impl_GameSeed.f a0 a1 = some r := by
    unfold impl_GameSeed.f impl_isSeed.f impl_within.f impl_gameSeed.f
    by_cases h0 : a0 ≥ 1 <;> by_cases h1 : a0 ≤ 2147483646 <;> by_cases h2 : a1 ≥ 0 <;> by_cases h3 : a1 ≤ 199 <;> simp [h0, h1, h2, h3]
  obtain ⟨r, hr⟩ := h
  rw [hr]; simp

end Go.Proofs.Ytnidklakgdmkeaa.Pure
