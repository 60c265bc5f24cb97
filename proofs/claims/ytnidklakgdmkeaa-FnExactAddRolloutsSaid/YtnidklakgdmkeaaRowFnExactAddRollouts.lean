/- The sum of two rollouts: the program's function and the reference's answer alike for all arguments. No condition. -/
import Derived.Test.YtnidklakgdmkeaaRows
import Derived.Test.YtnidklakgdmkeaaOpen
import Derived.Test.YtnidklakgdmkeaaPureFnExactAddRollouts
import Derived.Test.YtnidklakgdmkeaaPFnExactAddRolloutsx2
import Derived.WalkKit
import Derived.ProofKit
import Derived.OpenShut
import Derived.ShutString
import Derived.ChangeOld
import Derived.Below
import Derived.SizedLaws
namespace Go.Proofs.Ytnidklakgdmkeaa.fnExactAddRollouts
open Go.ChangeShapes Go.WideShapes Go.ChangeAt Go.RowKit Go.Proofs.YtnidklakgdmkeaaW.PrintWords
open Go.ChangeMaps (open_string shut_string)
set_option linter.unusedVariables false
set_option linter.unusedSimpArgs false
theorem own : ownKnob Try.prog.godebug = none := by kernel_rfl
theorem laidOut : laidOutB Try.prog = true := by kernel_rfl
set_option maxRecDepth 100000 in
theorem lifted (os : Os) (started : os.Started) (H : Type) (enc : TypeId × Value → H) :
    ReturnsInHanded {} Try.checked os 11 .any (Rows.fnExactAddRolloutsSpec.pre6 enc Try.prog Try.f11 Rows.fnExactAddRolloutsRow.domain false) (Rows.fnExactAddRolloutsSpec.post enc Try.prog Try.f11 false true false false) := by
  refine returnsInHanded_of_change_sized (C := Try.checked) own started (by kernel_rfl) Try.func11
    (ChangeSpec.witness6 (enc := enc) (C := Try.checked) false ⟨#[], #[.agg #[.int .i64 0, .int .i64 0, .int .i64 0, .int .i64 0, .int .i64 0], .agg #[.int .i64 0, .int .i64 0, .int .i64 0, .int .i64 0, .int .i64 0]], []⟩ 8 (by kernel_rfl) (by kernel_rfl) (by kernel_rfl) (by kernel_rfl)) ?_
  intro W base args ds gs before hval0 hW hcnd hsz0 _
  have hsz : (DataW.weightsEach Try.prog (Try.f11.params.toList ++ Rows.fnExactAddRolloutsSpec.plain.varTypes Try.prog) (ds ++ gs)).all (· ≤ reachBytes) = true := hsz0
  have hval : ∀ (j : Nat) t v, Try.f11.params[j]? = some t → args[j]? = some v → Value.okWide Try.prog W .any base t v := hval0
  have hW' := hW
  obtain ⟨p, q, hA0, hV, rfl, hfz, hnd⟩ := hW
  have hA : DataW.TrodAll enc Try.prog W 0 (fun _ => true) true Try.f11.params.toList args.toList ds p := hA0
  rw [Try.params11] at hA hval hsz
  obtain ⟨v0, vs0, d0, ds0, p0, q0, hargs, rfl, rfl, h0, r0⟩ := trodAll_cons hA
  obtain ⟨v1, vs1, d1, ds1, p1, q1, rfl, rfl, rfl, h1, r1⟩ := trodAll_cons r0
  obtain ⟨rfl, rfl, rfl⟩ := trodAll_nil r1
  obtain rfl : args = #[v0, v1] := by cases args; simp_all
  obtain ⟨rfl, rfl⟩ := trodVars_none hV
  have k0 := h0
  obtain ⟨⟨y0, K0, g0⟩, lt0⟩ := Open.param (Open.opens_struct Try.underlying28 (Open.opensL_cons (sz0 := 1) (sz1 := 4) (sz := 5) (Open.opens_int Try.underlying2) (Open.opensL_cons (sz0 := 1) (sz1 := 3) (sz := 4) (Open.opens_int Try.underlying2) (Open.opensL_cons (sz0 := 1) (sz1 := 2) (sz := 3) (Open.opens_int Try.underlying2) (Open.opensL_cons (sz0 := 1) (sz1 := 1) (sz := 2) (Open.opens_int Try.underlying2) (Open.opensL_one (sz := 1) (Open.opens_int Try.underlying2) rfl (by kernel_rfl)) rfl (by kernel_rfl) rfl) rfl (by kernel_rfl) rfl) rfl (by kernel_rfl) rfl) rfl (by kernel_rfl) rfl) (by kernel_rfl)) hsz (j := 0) (t := 28) rfl rfl h0
  have e0 := Open.agg_of Try.underlying28 (hval 0 28 v0 rfl rfl)
  obtain ⟨z, u, E0, rfl, ⟨z, u, rfl, rfl, ⟨z, u, rfl, rfl, ⟨z, u, rfl, rfl, rfl⟩⟩⟩⟩ := K0
  rw [E0] at e0
  simp only [List.append_assoc, List.cons_append, List.nil_append, List.singleton_append] at e0
  subst e0
  have k1 := h1
  obtain ⟨⟨y1, K1, g1⟩, lt1⟩ := Open.param (Open.opens_struct Try.underlying28 (Open.opensL_cons (sz0 := 1) (sz1 := 4) (sz := 5) (Open.opens_int Try.underlying2) (Open.opensL_cons (sz0 := 1) (sz1 := 3) (sz := 4) (Open.opens_int Try.underlying2) (Open.opensL_cons (sz0 := 1) (sz1 := 2) (sz := 3) (Open.opens_int Try.underlying2) (Open.opensL_cons (sz0 := 1) (sz1 := 1) (sz := 2) (Open.opens_int Try.underlying2) (Open.opensL_one (sz := 1) (Open.opens_int Try.underlying2) rfl (by kernel_rfl)) rfl (by kernel_rfl) rfl) rfl (by kernel_rfl) rfl) rfl (by kernel_rfl) rfl) rfl (by kernel_rfl) rfl) (by kernel_rfl)) hsz (j := 1) (t := 28) rfl rfl h1
  have e1 := Open.agg_of Try.underlying28 (hval 1 28 v1 rfl rfl)
  obtain ⟨z, u, E1, rfl, ⟨z, u, rfl, rfl, ⟨z, u, rfl, rfl, ⟨z, u, rfl, rfl, rfl⟩⟩⟩⟩ := K1
  rw [E1] at e1
  simp only [List.append_assoc, List.cons_append, List.nil_append, List.singleton_append] at e1
  subst e1
  clear hA0 hval0 hsz0 hsz
  obtain ⟨k, hk⟩ := Pure.FnExactAddRollouts y0.1 y0.2.1 y0.2.2.1 y0.2.2.2.1 y0.2.2.2.2 y1.1 y1.2.1 y1.2.2.1 y1.2.2.2.1 y1.2.2.2.2
  refine (PFnExactAddRollouts.laws_FnExactAddRollouts.calls k _ _ _ _ _ _ _ _ _ _ true W rfl hk).mono fun e W' ⟨he, bel⟩ => ?_
  subst he
  exact ⟨_, rfl, _, _, _, [], _, [], hW', trodAll_mk1 (shut_bool Try.underlying4 _), (trodAll_cons_mk (Below.trod laidOut (by kernel_rfl) (of_decide_eq_true (by kernel_rfl)) k0 bel lt0) (trodAll_cons_mk (Below.trod laidOut (by kernel_rfl) (of_decide_eq_true (by kernel_rfl)) k1 bel lt1) trodAll_mk0)), rfl, bel.frame _, fun h => by cases h⟩
theorem over : Rows.fnExactAddRolloutsRow.holds Try.pinned (OpenSpec.ofChange Rows.fnExactAddRolloutsSpec) :=
  OpenClaim.holds_of_wide 11 Try.f11 rfl rfl rfl rfl rfl rfl rfl ⟨rfl, rfl, rfl, rfl, rfl⟩ rfl rfl rfl rfl rfl (by kernel_rfl) Try.func11 (by kernel_rfl)
    (of_decide_eq_true (by kernel_rfl)) (by unfold Func.isWrapper; first | (rw [if_pos (by decide +kernel)]; kernel_rfl) | (rw [if_neg (by decide +kernel)]; exact ⟨rfl, rfl⟩))
    (fun os started H enc _ => lifted os started H enc)
end Go.Proofs.Ytnidklakgdmkeaa.fnExactAddRollouts
namespace Go.Proofs.Ytnidklakgdmkeaa
/-- The row, under a short name, for the claim. -/
theorem fnExactAddRollouts_holds : Rows.FnExactAddRolloutsSaid := fnExactAddRollouts.over
end Go.Proofs.Ytnidklakgdmkeaa
