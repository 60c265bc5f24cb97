/- The squared error of examples: the program's function and the reference's answer alike for all networks and examples. No condition. -/
import Derived.Test.YtpeipalgpbkagaaRows
import Derived.Test.YtpeipalgpbkagaaOpen
import Derived.Test.YtpeipalgpbkagaaPureFnExactSquaredError
import Derived.Test.YtpeipalgpbkagaaPFnExactSquaredErrorx8
import Derived.WalkKit
import Derived.ProofKit
import Derived.OpenShut
import Derived.ShutString
import Derived.ChangeOld
import Derived.Below
import Derived.SizedLaws
namespace Go.Proofs.Ytpeipalgpbkagaa.fnExactSquaredError
open Go.ChangeShapes Go.WideShapes Go.ChangeAt Go.RowKit Go.Proofs.YtpeipalgpbkagaaW.PrintWords
open Go.ChangeMaps (open_string shut_string)
set_option linter.unusedVariables false
set_option linter.unusedSimpArgs false
theorem own : ownKnob Try.prog.godebug = none := by kernel_rfl
theorem laidOut : laidOutB Try.prog = true := by kernel_rfl
set_option maxRecDepth 100000 in
theorem lifted (os : Os) (started : os.Started) (H : Type) (enc : TypeId × Value → H) :
    ReturnsInHanded {} Try.checked os 6 .any (Rows.fnExactSquaredErrorSpec.pre6 enc Try.prog Try.f6 Rows.fnExactSquaredErrorRow.domain false) (Rows.fnExactSquaredErrorSpec.post enc Try.prog Try.f6 false true false false) := by
  refine returnsInHanded_of_change_sized (C := Try.checked) own started (by kernel_rfl) Try.func6
    (ChangeSpec.witness6 (enc := enc) (C := Try.checked) false ⟨#[], #[.agg #[.int .i64 0, .int .i64 0, .slice none 0 0, .slice none 0 0], .slice none 0 0, .slice none 0 0], []⟩ 8 (by kernel_rfl) (by kernel_rfl) (by kernel_rfl) (by kernel_rfl)) ?_
  intro W base args ds gs before hval0 hW hcnd hsz0 _
  have hsz : (DataW.weightsEach Try.prog (Try.f6.params.toList ++ Rows.fnExactSquaredErrorSpec.plain.varTypes Try.prog) (ds ++ gs)).all (· ≤ reachBytes) = true := hsz0
  have hval : ∀ (j : Nat) t v, Try.f6.params[j]? = some t → args[j]? = some v → Value.okWide Try.prog W .any base t v := hval0
  have hW' := hW
  obtain ⟨p, q, hA0, hV, rfl, hfz, hnd⟩ := hW
  have hA : DataW.TrodAll enc Try.prog W 0 (fun _ => true) true Try.f6.params.toList args.toList ds p := hA0
  rw [Try.params6] at hA hval hsz
  obtain ⟨v0, vs0, d0, ds0, p0, q0, hargs, rfl, rfl, h0, r0⟩ := trodAll_cons hA
  obtain ⟨v1, vs1, d1, ds1, p1, q1, rfl, rfl, rfl, h1, r1⟩ := trodAll_cons r0
  obtain ⟨v2, vs2, d2, ds2, p2, q2, rfl, rfl, rfl, h2, r2⟩ := trodAll_cons r1
  obtain ⟨rfl, rfl, rfl⟩ := trodAll_nil r2
  obtain rfl : args = #[v0, v1, v2] := by cases args; simp_all
  obtain ⟨rfl, rfl⟩ := trodVars_none hV
  have k0 := h0
  obtain ⟨⟨y0, K0, g0⟩, lt0⟩ := Open.param (Open.opens_struct Try.underlying49 (Open.opensL_cons (sz0 := 1) (sz1 := 3) (sz := 4) (Open.opens_int Try.underlying2) (Open.opensL_cons (sz0 := 1) (sz1 := 2) (sz := 3) (Open.opens_int Try.underlying2) (Open.opensL_cons (sz0 := 1) (sz1 := 1) (sz := 2) (Open.opens_slice (e' := 2) Try.underlying31 (by kernel_rfl) (Open.opens_int Try.underlying2)) (Open.opensL_one (sz := 1) (Open.opens_slice (e' := 2) Try.underlying31 (by kernel_rfl) (Open.opens_int Try.underlying2)) rfl (by kernel_rfl)) rfl (by kernel_rfl) rfl) rfl (by kernel_rfl) rfl) rfl (by kernel_rfl) rfl) (by kernel_rfl)) hsz (j := 0) (t := 49) rfl rfl h0
  have e0 := Open.agg_of Try.underlying49 (hval 0 49 v0 rfl rfl)
  obtain ⟨z, u, E0, rfl, ⟨z, u, rfl, rfl, ⟨z, u, rfl, ⟨A0_2, c0_2, rfl, hc0_2, hC0_2⟩, ⟨A0_3, c0_3, rfl, hc0_3, hC0_3⟩⟩⟩⟩ := K0
  rw [E0] at e0
  simp only [List.append_assoc, List.cons_append, List.nil_append, List.singleton_append] at e0
  subst e0
  have k1 := h1
  obtain ⟨⟨y1, K1, g1⟩, lt1⟩ := Open.param (Open.opens_slice (e' := 31) Try.underlying50 (by kernel_rfl) (Open.opens_slice (e' := 2) Try.underlying31 (by kernel_rfl) (Open.opens_int Try.underlying2))) hsz (j := 1) (t := 50) rfl rfl h1
  obtain ⟨A1, n1, c1, rfl⟩ := okWide_slice Try.underlying50 (hval 1 50 v1 rfl rfl)
  obtain ⟨A1', c1', hcs, hc1, hC1⟩ := K1
  simp only [Value.cells, List.cons.injEq, Value.slice.injEq, and_true] at hcs
  obtain ⟨rfl, rfl, rfl⟩ := hcs
  have k2 := h2
  obtain ⟨⟨y2, K2, g2⟩, lt2⟩ := Open.param (Open.opens_slice (e' := 2) Try.underlying31 (by kernel_rfl) (Open.opens_int Try.underlying2)) hsz (j := 2) (t := 31) rfl rfl h2
  obtain ⟨A2, n2, c2, rfl⟩ := okWide_slice Try.underlying31 (hval 2 31 v2 rfl rfl)
  obtain ⟨A2', c2', hcs, hc2, hC2⟩ := K2
  simp only [Value.cells, List.cons.injEq, Value.slice.injEq, and_true] at hcs
  obtain ⟨rfl, rfl, rfl⟩ := hcs
  clear hA0 hval0 hsz0 hsz
  have hb2 : Try.prog.bytesOf 2 = 8 := by kernel_rfl
  have hb31 : Try.prog.bytesOf 31 = 24 := by kernel_rfl
  have z0 := g0.2.2.1.1
  have z1 := g0.2.2.2.1
  have z2 := g1.1
  have z3 : ∀ r ∈ y1, r.length ≤ 140737488351232 := fun r hr => by
    have := (g1.2.2 r hr).1
    rw [hb2] at this
    omega
  rw [hb2] at z0 z1
  rw [hb31] at z2
  obtain ⟨k, hk⟩ := Pure.FnExactSquaredError y0.1 y0.2.1 y0.2.2.1 y0.2.2.2 y1 y2 (by omega) (by omega) (by omega) z3
  refine (PFnExactSquaredError.laws_FnExactSquaredError.calls k _ _ A0_2 c0_2 y0.2.2.1 A0_3 c0_3 y0.2.2.2 A1 c1 y1 A2 c2 y2 true W hC0_2 hc0_2 hC0_3 hc0_3 hC1 hc1 hC2 hc2 hk).mono fun e W' ⟨he, bel⟩ => ?_
  subst he
  exact ⟨_, rfl, _, _, _, [], _, [], hW', trodAll_mk1 (shut_bool Try.underlying4 _), (trodAll_cons_mk (Below.trod laidOut (by kernel_rfl) (of_decide_eq_true (by kernel_rfl)) k0 bel lt0) (trodAll_cons_mk (Below.trod laidOut (by kernel_rfl) (of_decide_eq_true (by kernel_rfl)) k1 bel lt1) (trodAll_cons_mk (Below.trod laidOut (by kernel_rfl) (of_decide_eq_true (by kernel_rfl)) k2 bel lt2) trodAll_mk0))), rfl, bel.frame _, fun h => by cases h⟩
theorem over : Rows.fnExactSquaredErrorRow.holds Try.pinned (OpenSpec.ofChange Rows.fnExactSquaredErrorSpec) :=
  OpenClaim.holds_of_wide 6 Try.f6 rfl rfl rfl rfl rfl rfl rfl ⟨rfl, rfl, rfl, rfl, rfl⟩ rfl rfl rfl rfl rfl (by kernel_rfl) Try.func6 (by kernel_rfl)
    (of_decide_eq_true (by kernel_rfl)) (by unfold Func.isWrapper; first | (rw [if_pos (by decide +kernel)]; kernel_rfl) | (rw [if_neg (by decide +kernel)]; exact ⟨rfl, rfl⟩))
    (fun os started H enc _ => lifted os started H enc)
end Go.Proofs.Ytpeipalgpbkagaa.fnExactSquaredError
namespace Go.Proofs.Ytpeipalgpbkagaa
/-- The row, under a short name, for the claim. -/
theorem fnExactSquaredError_holds : Rows.FnExactSquaredErrorSaid := fnExactSquaredError.over
end Go.Proofs.Ytpeipalgpbkagaa
