-- Laid by a program of this session that drives the kit's printer with switches of its own: it is no text of the print.
import Derived.Test.YtpeipalgpbkagaaPFnRadiusx0
import Derived.Test.YtpeipalgpbkagaaPFnRadiusx1
import Derived.Test.YtpeipalgpbkagaaPFnRadiusx2
import Derived.Test.YtpeipalgpbkagaaPFnRadiusx3
namespace Go.Proofs.Ytpeipalgpbkagaa.PFnRadius
open Go.RowKit Go.Proofs.YtpeipalgpbkagaaW.PrintWords Go.Proofs.YtpeipalgpbkagaaW.PrintLast Go.Proofs.YtpeipalgpbkagaaW.PrintMore
attribute [local go_sem] max2_int min2_int max_two min_two max_three min_three max_four min_four   -- for this text's walks alone
set_option linter.unusedVariables false
set_option linter.unusedSimpArgs false

/-! ### laws_FnRadius: function 5 -/
mutual
def laws_FnRadius.j0 : Nat → Bool → Int → Int → Int → Bool → Int → Int → Int → Int → Int → Option (Bool)
  | 0, _, _, _, _, _, _, _, _, _, _ => none
  | k + 1, x4, x5, x6, x7, x46, x202000, x202001, x202002, x202003, x202004 => if x46 = true then (some false) else (if x7 = 0 then ((impl_SpreadOf.f x202000 x202001 x202002 x202003 x202004 x4).bind fun t206 => (if (wrap64 ((wrap64 (x202000 * x202000)) * x202000)) = 0 then (none) else (if t206 < 0 then (laws_FnRadius.j1 k x4 x5 x6 true x202000 x202001 x202002 x202003 x202004) else (if (wrap64 ((wrap64 (x5 * x6)) * x6)) < (wrap64 (100 * (wrap64 (Int.tdiv (wrap64 ((wrap64 (t206 + (wrap64 ((wrap64 (x202000 * x202000)) * x202000)))) - 1)) (wrap64 ((wrap64 (x202000 * x202000)) * x202000)))))) then (laws_FnRadius.j1 k x4 x5 x6 true x202000 x202001 x202002 x202003 x202004) else (if x6 > 0 then (laws_FnRadius.j1 k x4 x5 x6 (decide ((wrap64 ((wrap64 (x5 * (wrap64 (x6 - 1)))) * (wrap64 (x6 - 1)))) ≥ (wrap64 (100 * (wrap64 (Int.tdiv (wrap64 ((wrap64 (t206 + (wrap64 ((wrap64 (x202000 * x202000)) * x202000)))) - 1)) (wrap64 ((wrap64 (x202000 * x202000)) * x202000)))))))) x202000 x202001 x202002 x202003 x202004) else (laws_FnRadius.j1 k x4 x5 x6 false x202000 x202001 x202002 x202003 x202004)))))) else (some true))
def laws_FnRadius.j1 : Nat → Bool → Int → Int → Bool → Int → Int → Int → Int → Int → Option (Bool)
  | 0, _, _, _, _, _, _, _, _, _ => none
  | k + 1, x4, x5, x6, x93, x202000, x202001, x202002, x202003, x202004 => if x93 = true then (some false) else ((impl_RadiusOf.f k x202000 x202001 x202002 x202003 x202004 x4 (mn 50 (wrap64 (x5 + 5)))).bind fun bt207 => ((impl_CompareRollouts.f k x202000 x202001 x202002 x202003 x202004 x202000 x202001 x202002 x202003 x202004 x4 x5).bind fun bt209 => (if bt207.2 = 0 then (if bt207.1 ≤ x6 then (if bt209.2 = 0 then (some (bt209.1 == 0)) else (some false)) else (some false)) else (some false))))
end
def laws_FnRadius.f (k : Nat) (l0 : List Int) : Option (Bool) := (laws_big.f l0).bind fun t193 => (if t193 = true then (some true) else ((spec_DrawRadiusOf.f k l0).bind fun bt194 => ((impl_RadiusOf.f k bt194.1 bt194.2.1 bt194.2.2.1 bt194.2.2.2.1 bt194.2.2.2.2.1 bt194.2.2.2.2.2.1 bt194.2.2.2.2.2.2).bind fun bt202 => ((spec_RadiusOf.f k bt194.1 bt194.2.1 bt194.2.2.1 bt194.2.2.2.1 bt194.2.2.2.2.1 bt194.2.2.2.2.2.1 bt194.2.2.2.2.2.2).bind fun bt204 => (if bt202.2 = bt204.2 then (laws_FnRadius.j0 k bt194.2.2.2.2.2.1 bt194.2.2.2.2.2.2 bt202.1 bt202.2 (bt202.1 != bt204.1) bt194.1 bt194.2.1 bt194.2.2.1 bt194.2.2.2.1 bt194.2.2.2.2.1) else (laws_FnRadius.j0 k bt194.2.2.2.2.2.1 bt194.2.2.2.2.2.2 bt202.1 bt202.2 true bt194.1 bt194.2.1 bt194.2.2.1 bt194.2.2.2.1 bt194.2.2.2.2.1))))))
theorem laws_FnRadius.mono_l : ∀ k, (∀ y0 y1 y2 y3 y4 y5 y6 y7 y8 y9, LeO (laws_FnRadius.j0 k y0 y1 y2 y3 y4 y5 y6 y7 y8 y9) (laws_FnRadius.j0 (k + 1) y0 y1 y2 y3 y4 y5 y6 y7 y8 y9)) ∧ (∀ y0 y1 y2 y3 y4 y5 y6 y7 y8, LeO (laws_FnRadius.j1 k y0 y1 y2 y3 y4 y5 y6 y7 y8) (laws_FnRadius.j1 (k + 1) y0 y1 y2 y3 y4 y5 y6 y7 y8))
  | 0 => ⟨fun _ _ _ _ _ _ _ _ _ _ r h => by simp [laws_FnRadius.j0] at h, fun _ _ _ _ _ _ _ _ _ r h => by simp [laws_FnRadius.j1] at h⟩
  | k + 1 => by
    obtain ⟨ih0, ih1⟩ := laws_FnRadius.mono_l k
    refine ⟨?_, ?_⟩
    · intro y0 y1 y2 y3 y4 y5 y6 y7 y8 y9
      unfold laws_FnRadius.j0
      repeat' first
      | (with_reducible exact ih0 _ _ _ _ _ _ _ _ _ _)
      | (with_reducible exact ih1 _ _ _ _ _ _ _ _ _)
      | (with_reducible exact impl_CompareRollouts.mono _ _ _ _ _ _ _ _ _ _ _ _ _)
      | (with_reducible exact impl_RadiusOf.mono _ _ _ _ _ _ _ _)
      | (with_reducible exact spec_DrawRadiusOf.mono _ _)
      | (with_reducible exact spec_RadiusOf.mono _ _ _ _ _ _ _ _)
      | (with_reducible exact LeO.refl _)
      | (with_reducible exact LeO.none _)
      | (with_reducible refine LeO.ite ?_ ?_)
      | (with_reducible refine LeO.bind ?_ (fun _ => ?_))
      | exact ih0 _ _ _ _ _ _ _ _ _ _
      | exact ih1 _ _ _ _ _ _ _ _ _
      | exact impl_CompareRollouts.mono _ _ _ _ _ _ _ _ _ _ _ _ _
      | exact impl_RadiusOf.mono _ _ _ _ _ _ _ _
      | exact spec_DrawRadiusOf.mono _ _
      | exact spec_RadiusOf.mono _ _ _ _ _ _ _ _
      | exact LeO.none _
      | refine LeO.ite ?_ ?_
      | refine LeO.bind ?_ (fun _ => ?_)
    · intro y0 y1 y2 y3 y4 y5 y6 y7 y8
      unfold laws_FnRadius.j1
      repeat' first
      | (with_reducible exact ih0 _ _ _ _ _ _ _ _ _ _)
      | (with_reducible exact ih1 _ _ _ _ _ _ _ _ _)
      | (with_reducible exact impl_CompareRollouts.mono _ _ _ _ _ _ _ _ _ _ _ _ _)
      | (with_reducible exact impl_RadiusOf.mono _ _ _ _ _ _ _ _)
      | (with_reducible exact spec_DrawRadiusOf.mono _ _)
      | (with_reducible exact spec_RadiusOf.mono _ _ _ _ _ _ _ _)
      | (with_reducible exact LeO.refl _)
      | (with_reducible exact LeO.none _)
      | (with_reducible refine LeO.ite ?_ ?_)
      | (with_reducible refine LeO.bind ?_ (fun _ => ?_))
      | exact ih0 _ _ _ _ _ _ _ _ _ _
      | exact ih1 _ _ _ _ _ _ _ _ _
      | exact impl_CompareRollouts.mono _ _ _ _ _ _ _ _ _ _ _ _ _
      | exact impl_RadiusOf.mono _ _ _ _ _ _ _ _
      | exact spec_DrawRadiusOf.mono _ _
      | exact spec_RadiusOf.mono _ _ _ _ _ _ _ _
      | exact LeO.none _
      | refine LeO.ite ?_ ?_
      | refine LeO.bind ?_ (fun _ => ?_)
theorem laws_FnRadius.mono : ∀ a0 k, LeO (laws_FnRadius.f k a0) (laws_FnRadius.f (k + 1) a0) := by
  intro a0 k
  obtain ⟨ih0, ih1⟩ := laws_FnRadius.mono_l k
  unfold laws_FnRadius.f
  repeat' first
      | (with_reducible exact ih0 _ _ _ _ _ _ _ _ _ _)
      | (with_reducible exact ih1 _ _ _ _ _ _ _ _ _)
      | (with_reducible exact impl_CompareRollouts.mono _ _ _ _ _ _ _ _ _ _ _ _ _)
      | (with_reducible exact impl_RadiusOf.mono _ _ _ _ _ _ _ _)
      | (with_reducible exact spec_DrawRadiusOf.mono _ _)
      | (with_reducible exact spec_RadiusOf.mono _ _ _ _ _ _ _ _)
      | (with_reducible exact LeO.refl _)
      | (with_reducible exact LeO.none _)
      | (with_reducible refine LeO.ite ?_ ?_)
      | (with_reducible refine LeO.bind ?_ (fun _ => ?_))
      | exact ih0 _ _ _ _ _ _ _ _ _ _
      | exact ih1 _ _ _ _ _ _ _ _ _
      | exact impl_CompareRollouts.mono _ _ _ _ _ _ _ _ _ _ _ _ _
      | exact impl_RadiusOf.mono _ _ _ _ _ _ _ _
      | exact spec_DrawRadiusOf.mono _ _
      | exact spec_RadiusOf.mono _ _ _ _ _ _ _ _
      | exact LeO.none _
      | refine LeO.ite ?_ ?_
      | refine LeO.bind ?_ (fun _ => ?_)
set_option maxHeartbeats 8000000 in
set_option maxRecDepth 100000 in
theorem laws_FnRadius.calls (k : Nat) (A0 : Option Addr) (c0 : Nat) (l0 : List Int) (r : Bool) (w : World) (hr0 : Kd.C (Kd.int .u8) w A0 l0.length l0) (hc0 : l0.length ≤ c0) (h : laws_FnRadius.f k l0 = some r) :
    Calls Try.prog 5 #[.slice A0 l0.length c0] w fun e w' => e = .returned (.bool r) ∧ Below w.heap.size w w' := by
  have hu26 := Try.underlying26
  have HR0 := Aside0.mk hr0
  have HC0 := Aside0.mk hc0
  clear hr0 hc0
  have HB := Aside0.mk (Below.refl w.heap.size w)
  have H : ((laws_big.f l0).bind fun t193 => (if t193 = true then (some true) else ((spec_DrawRadiusOf.f k l0).bind fun bt194 => ((impl_RadiusOf.f k bt194.1 bt194.2.1 bt194.2.2.1 bt194.2.2.2.1 bt194.2.2.2.2.1 bt194.2.2.2.2.2.1 bt194.2.2.2.2.2.2).bind fun bt202 => ((spec_RadiusOf.f k bt194.1 bt194.2.1 bt194.2.2.1 bt194.2.2.2.1 bt194.2.2.2.2.1 bt194.2.2.2.2.2.1 bt194.2.2.2.2.2.2).bind fun bt204 => (if bt202.2 = bt204.2 then (laws_FnRadius.j0 k bt194.2.2.2.2.2.1 bt194.2.2.2.2.2.2 bt202.1 bt202.2 (bt202.1 != bt204.1) bt194.1 bt194.2.1 bt194.2.2.1 bt194.2.2.2.1 bt194.2.2.2.2.1) else (laws_FnRadius.j0 k bt194.2.2.2.2.2.1 bt194.2.2.2.2.2.2 bt202.1 bt202.2 true bt194.1 bt194.2.1 bt194.2.2.1 bt194.2.2.2.1 bt194.2.2.2.2.1))))))) = some r := h
  clear h
  replace H := Option.bind_eq_some_iff.mp H
  obtain ⟨t193, A20, H⟩ := H
  replace H : (if t193 = true then (some true) else ((spec_DrawRadiusOf.f k l0).bind fun bt194 => ((impl_RadiusOf.f k bt194.1 bt194.2.1 bt194.2.2.1 bt194.2.2.2.1 bt194.2.2.2.2.1 bt194.2.2.2.2.2.1 bt194.2.2.2.2.2.2).bind fun bt202 => ((spec_RadiusOf.f k bt194.1 bt194.2.1 bt194.2.2.1 bt194.2.2.2.1 bt194.2.2.2.2.1 bt194.2.2.2.2.2.1 bt194.2.2.2.2.2.2).bind fun bt204 => (if bt202.2 = bt204.2 then (laws_FnRadius.j0 k bt194.2.2.2.2.2.1 bt194.2.2.2.2.2.2 bt202.1 bt202.2 (bt202.1 != bt204.1) bt194.1 bt194.2.1 bt194.2.2.1 bt194.2.2.2.1 bt194.2.2.2.2.1) else (laws_FnRadius.j0 k bt194.2.2.2.2.2.1 bt194.2.2.2.2.2.2 bt202.1 bt202.2 true bt194.1 bt194.2.1 bt194.2.2.1 bt194.2.2.2.1 bt194.2.2.2.2.1)))))) = some r := H
  have A2 := Aside0.mk A20
  clear A20
  by_cases c3 : t193 = true
  · subst c3
    have H1 : (some true) = some r := by rw [if_pos rfl] at H; exact H
    clear H
    have H := H1
    clear H1
    obtain rfl := Option.some.inj H
    go_enter Try.func5, Try.ntmps5
    go_wp2_with (first | ((with_reducible refine gate_callee (f := 21) rfl ?_); refine goesL_ (some 18) rfl rfl Try.func21 (by kernel_rfl) rfl #[.slice A0 l0.length c0] rfl (by (try simp only [List.map_toArray, List.map_cons, List.map_nil]); first | done | rfl | (simp only [List.length_drop, List.length_take]; rfl)) ?_; (with_reducible refine (laws_big.calls _ _ l0 true _ ?side1 ?side2 A2.out).mono ?_); (case side1 => repeat (first | exact HR0.out | (with_reducible refine Kd.C_alloc ?_ _) | (with_reducible refine Kd.C_drewN ?_ _) | (with_reducible refine Kd.C_drew ?_))); (case side2 => exact HC0.out); rintro e w' ⟨rfl, ⟨nd, rfl⟩⟩; refine ⟨_, rfl, ?_⟩))
    go_ret
    exact ⟨by first | rfl | (simp [errW_none, errW_some] <;> rfl) | (simp [*, errW_none, errW_some] <;> rfl), by repeat (first | (with_reducible first | exact HB.out | apply below_alloc | apply pw_below_drewN | apply below_drew1) | exact HB.out)⟩
  · replace c3 := Bool.eq_false_iff.mpr c3
    subst c3
    have H1 : ((spec_DrawRadiusOf.f k l0).bind fun bt194 => ((impl_RadiusOf.f k bt194.1 bt194.2.1 bt194.2.2.1 bt194.2.2.2.1 bt194.2.2.2.2.1 bt194.2.2.2.2.2.1 bt194.2.2.2.2.2.2).bind fun bt202 => ((spec_RadiusOf.f k bt194.1 bt194.2.1 bt194.2.2.1 bt194.2.2.2.1 bt194.2.2.2.2.1 bt194.2.2.2.2.2.1 bt194.2.2.2.2.2.2).bind fun bt204 => (if bt202.2 = bt204.2 then (laws_FnRadius.j0 k bt194.2.2.2.2.2.1 bt194.2.2.2.2.2.2 bt202.1 bt202.2 (bt202.1 != bt204.1) bt194.1 bt194.2.1 bt194.2.2.1 bt194.2.2.2.1 bt194.2.2.2.2.1) else (laws_FnRadius.j0 k bt194.2.2.2.2.2.1 bt194.2.2.2.2.2.2 bt202.1 bt202.2 true bt194.1 bt194.2.1 bt194.2.2.1 bt194.2.2.2.1 bt194.2.2.2.2.1))))) = some r := by rw [if_neg (show ¬ (false = true) by decide)] at H; exact H
    clear H
    have H := H1
    clear H1
    replace H := Option.bind_eq_some_iff.mp H
    obtain ⟨⟨t194, t195, t196, t197, t198, t199, t200⟩, A40, H⟩ := H
    replace H : ((impl_RadiusOf.f k t194 t195 t196 t197 t198 t199 t200).bind fun bt202 => ((spec_RadiusOf.f k t194 t195 t196 t197 t198 t199 t200).bind fun bt204 => (if bt202.2 = bt204.2 then (laws_FnRadius.j0 k t199 t200 bt202.1 bt202.2 (bt202.1 != bt204.1) t194 t195 t196 t197 t198) else (laws_FnRadius.j0 k t199 t200 bt202.1 bt202.2 true t194 t195 t196 t197 t198)))) = some r := H
    have A4 := Aside0.mk A40
    clear A40
    replace H := Option.bind_eq_some_iff.mp H
    obtain ⟨⟨t202, t203⟩, A50, H⟩ := H
    replace H : ((spec_RadiusOf.f k t194 t195 t196 t197 t198 t199 t200).bind fun bt204 => (if t203 = bt204.2 then (laws_FnRadius.j0 k t199 t200 t202 t203 (t202 != bt204.1) t194 t195 t196 t197 t198) else (laws_FnRadius.j0 k t199 t200 t202 t203 true t194 t195 t196 t197 t198))) = some r := H
    have A5 := Aside0.mk A50
    clear A50
    replace H := Option.bind_eq_some_iff.mp H
    obtain ⟨⟨t204, t205⟩, A60, H⟩ := H
    replace H : (if t203 = t205 then (laws_FnRadius.j0 k t199 t200 t202 t203 (t202 != t204) t194 t195 t196 t197 t198) else (laws_FnRadius.j0 k t199 t200 t202 t203 true t194 t195 t196 t197 t198)) = some r := H
    have A6 := Aside0.mk A60
    clear A60
    have HC7 := Aside0.mk H
    clear H
    go_enter Try.func5, Try.ntmps5
    go_upto_region 6 with (first | ((with_reducible refine gate_callee (f := 21) rfl ?_); refine goesL_ (some 18) rfl rfl Try.func21 (by kernel_rfl) rfl #[.slice A0 l0.length c0] rfl (by (try simp only [List.map_toArray, List.map_cons, List.map_nil]); first | done | rfl | (simp only [List.length_drop, List.length_take]; rfl)) ?_; (with_reducible refine (laws_big.calls _ _ l0 false _ ?side1 ?side2 A2.out).mono ?_); (case side1 => repeat (first | exact HR0.out | (with_reducible refine Kd.C_alloc ?_ _) | (with_reducible refine Kd.C_drewN ?_ _) | (with_reducible refine Kd.C_drew ?_))); (case side2 => exact HC0.out); rintro e w' ⟨rfl, ⟨nd, rfl⟩⟩; refine ⟨_, rfl, ?_⟩) | ((with_reducible refine gate_callee (f := 22) rfl ?_); refine goesL_ (some 21) rfl rfl Try.func22 (by kernel_rfl) rfl #[.slice A0 l0.length c0] rfl (by (try simp only [List.map_toArray, List.map_cons, List.map_nil]); first | done | rfl | (simp only [List.length_drop, List.length_take]; rfl)) ?_; (with_reducible refine (spec_DrawRadiusOf.calls k _ _ l0 t194 t195 t196 t197 t198 t199 t200 _ ?side1 ?side2 A4.out).mono ?_); (case side1 => repeat (first | exact HR0.out | (with_reducible refine Kd.C_alloc ?_ _) | (with_reducible refine Kd.C_drewN ?_ _) | (with_reducible refine Kd.C_drew ?_))); (case side2 => exact HC0.out); rintro e w8 ⟨rfl, hb⟩; refine ⟨_, rfl, ?_⟩; have n0_ := Aside0.mk (below_step (by repeat (first | (with_reducible first | exact HB.out | apply below_alloc | apply pw_below_drewN | apply below_drew1) | exact HB.out)) hb); clear HB; have HB := n0_; clear n0_; (try clear hb); (try clear hb2); (try clear hk); (try clear hi)) | ((with_reducible refine gate_dst (N := 3) rfl ?_); refine box_event ?hg (N := 3) ?hd (cs := #[.int .i64 0, .int .i64 0, .int .i64 0, .int .i64 0, .int .i64 0]) (t := 26) ?hr ?_; (case hd => rfl); (case hg => rfl); (case hr => first | (go_simp; done) | (go_simp; rfl)); intro gb201 hg w9 hbox hb; have n0_ := Aside0.mk (below_step (by repeat (first | (with_reducible first | exact HB.out | apply below_alloc | apply pw_below_drewN | apply below_drew1) | exact HB.out)) hb); have n1_ := Aside0.mk (hbox); have n2_ := Aside0.mk ((by rw [hg]; exact (below_size (by repeat (first | (with_reducible first | exact HB.out | apply below_alloc | apply pw_below_drewN | apply below_drew1) | exact HB.out))) : w.heap.size ≤ gb201)); have n3_ := Aside0.mk ((by rw [hg]; exact (below_size (by repeat (first | (with_reducible first | exact HB.out | apply below_alloc | apply pw_below_drewN | apply below_drew1) | exact HB.out))) : w.heap.size ≤ gb201)); clear HB; have HB := n0_; have BK201 := n1_; have GW201 := n2_; have GE201 := n3_; clear n0_ n1_ n2_ n3_; clear hb hbox hg; have hcz10_0 : w9.cell? ⟨gb201, 0, none⟩ = some (.int .i64 0) := (blk_cell BK201.out 0).trans rfl; have hcz10_1 : w9.cell? ⟨gb201, 1, none⟩ = some (.int .i64 0) := (blk_cell BK201.out 1).trans rfl; have hcz10_2 : w9.cell? ⟨gb201, 2, none⟩ = some (.int .i64 0) := (blk_cell BK201.out 2).trans rfl; have hcz10_3 : w9.cell? ⟨gb201, 3, none⟩ = some (.int .i64 0) := (blk_cell BK201.out 3).trans rfl; have hcz10_4 : w9.cell? ⟨gb201, 4, none⟩ = some (.int .i64 0) := (blk_cell BK201.out 4).trans rfl; have hfz10_0 := blk_frozen BK201.out 0; have hfz10_1 := blk_frozen BK201.out 1; have hfz10_2 := blk_frozen BK201.out 2; have hfz10_3 := blk_frozen BK201.out 3; have hfz10_4 := blk_frozen BK201.out 4) | ((with_reducible refine gate_callee (f := 23) rfl ?_); refine goesL_ (some 29) rfl rfl Try.func23 (by kernel_rfl) rfl #[.agg #[.int .i64 t194, .int .i64 t195, .int .i64 t196, .int .i64 t197, .int .i64 t198], .bool t199, .int .i64 t200] rfl (by (try simp only [List.map_toArray, List.map_cons, List.map_nil]); first | done | rfl | (simp only [List.length_drop, List.length_take]; rfl)) ?_; (with_reducible refine (impl_RadiusOf.calls k t194 t195 t196 t197 t198 t199 t200 t202 t203 _ A5.out).mono ?_); rintro e w11 ⟨rfl, hb⟩; refine ⟨_, rfl, ?_⟩; have n0_ := Aside0.mk (blk_below (g := gb201) (o := .cells #[.int .i64 t194, .int .i64 t195, .int .i64 t196, .int .i64 t197, .int .i64 t198] 26 (0, 0)) (by (with_reducible repeat (first | refine blk_drewN ?_ _ | refine blk_drew ?_ | refine blk_alloc ?_ _)); refine blk_put (cs := #[.int .i64 t194, .int .i64 t195, .int .i64 t196, .int .i64 t197, .int .i64 0]) ?_ 4 _ rfl; (with_reducible repeat (first | refine blk_drewN ?_ _ | refine blk_drew ?_ | refine blk_alloc ?_ _)); refine blk_put (cs := #[.int .i64 t194, .int .i64 t195, .int .i64 t196, .int .i64 0, .int .i64 0]) ?_ 3 _ rfl; (with_reducible repeat (first | refine blk_drewN ?_ _ | refine blk_drew ?_ | refine blk_alloc ?_ _)); refine blk_put (cs := #[.int .i64 t194, .int .i64 t195, .int .i64 0, .int .i64 0, .int .i64 0]) ?_ 2 _ rfl; (with_reducible repeat (first | refine blk_drewN ?_ _ | refine blk_drew ?_ | refine blk_alloc ?_ _)); refine blk_put (cs := #[.int .i64 t194, .int .i64 0, .int .i64 0, .int .i64 0, .int .i64 0]) ?_ 1 _ rfl; (with_reducible repeat (first | refine blk_drewN ?_ _ | refine blk_drew ?_ | refine blk_alloc ?_ _)); refine blk_put (cs := #[.int .i64 0, .int .i64 0, .int .i64 0, .int .i64 0, .int .i64 0]) ?_ 0 _ rfl; (with_reducible repeat (first | refine blk_drewN ?_ _ | refine blk_drew ?_ | refine blk_alloc ?_ _)); exact BK201.out) hb); have n1_ := Aside0.mk (below_step (by repeat (first | (with_reducible first | exact HB.out | apply below_alloc | apply pw_below_drewN | apply below_drew1 | refine below_set ?_ GE201.out) | exact HB.out)) hb); clear BK201; clear HB; have BK201 := n0_; have HB := n1_; clear n0_ n1_; (try clear hb); (try clear hb2); (try clear hk); (try clear hi); have hcz12_0 : w11.cell? ⟨gb201, 0, none⟩ = some (.int .i64 t194) := (blk_cell BK201.out 0).trans rfl; have hcz12_1 : w11.cell? ⟨gb201, 1, none⟩ = some (.int .i64 t195) := (blk_cell BK201.out 1).trans rfl; have hcz12_2 : w11.cell? ⟨gb201, 2, none⟩ = some (.int .i64 t196) := (blk_cell BK201.out 2).trans rfl; have hcz12_3 : w11.cell? ⟨gb201, 3, none⟩ = some (.int .i64 t197) := (blk_cell BK201.out 3).trans rfl; have hcz12_4 : w11.cell? ⟨gb201, 4, none⟩ = some (.int .i64 t198) := (blk_cell BK201.out 4).trans rfl; have hfz12_0 := blk_frozen BK201.out 0; have hfz12_1 := blk_frozen BK201.out 1; have hfz12_2 := blk_frozen BK201.out 2; have hfz12_3 := blk_frozen BK201.out 3; have hfz12_4 := blk_frozen BK201.out 4) | ((with_reducible refine gate_callee (f := 24) rfl ?_); refine goesL_ (some 36) rfl rfl Try.func24 (by kernel_rfl) rfl #[.agg #[.int .i64 t194, .int .i64 t195, .int .i64 t196, .int .i64 t197, .int .i64 t198], .bool t199, .int .i64 t200] rfl (by (try simp only [List.map_toArray, List.map_cons, List.map_nil]); first | done | rfl | (simp only [List.length_drop, List.length_take]; rfl)) ?_; (with_reducible refine (spec_RadiusOf.calls k t194 t195 t196 t197 t198 t199 t200 t204 t205 _ A6.out).mono ?_); rintro e w13 ⟨rfl, hb⟩; refine ⟨_, rfl, ?_⟩; have n0_ := Aside0.mk (blk_below (g := gb201) (o := .cells #[.int .i64 t194, .int .i64 t195, .int .i64 t196, .int .i64 t197, .int .i64 t198] 26 (0, 0)) (by (with_reducible repeat (first | refine blk_drewN ?_ _ | refine blk_drew ?_ | refine blk_alloc ?_ _)); exact BK201.out) hb); have n1_ := Aside0.mk (below_step (by repeat (first | (with_reducible first | exact HB.out | apply below_alloc | apply pw_below_drewN | apply below_drew1 | refine below_set ?_ GE201.out) | exact HB.out)) hb); clear BK201; clear HB; have BK201 := n0_; have HB := n1_; clear n0_ n1_; (try clear hb); (try clear hb2); (try clear hk); (try clear hi)))
    (try simp only [Act.put, List.setIfInBounds_toArray, List.set_cons_zero, List.set_cons_succ])
    go_cut [46] (fun v46 wc => ∃ (kq : Nat) (x46_6 : Bool), v46 = .bool x46_6 ∧ Aside0 (laws_FnRadius.j0 kq t199 t200 t202 t203 x46_6 t194 t195 t196 t197 t198 = some r) ∧ Aside0 (kq ≤ k) ∧ Aside0 (wc.heap[gb201]? = some (.cells #[.int .i64 t194, .int .i64 t195, .int .i64 t196, .int .i64 t197, .int .i64 t198] 26 (0, 0))) ∧ Aside0 (Below w.heap.size w wc))
    case first =>
      have H := HC7.out
      clear HC7
      by_cases c14 : t203 = t205
      · rw [if_pos c14] at H
        have c14b0 : (t203 == t205) = true := beq_iff_eq.mpr c14
        have c14b1 : (t203 != t205) = false := bne_eq_false_iff_eq.mpr c14
        clear c14
        (first | rw [c14b0] | (simp only [i64_w, i32_w]; rw [c14b0]) | skip)
        have H' := Aside0.mk H
        clear H
        go_wp2
        go_meet
        case rel => exact ⟨_, ((t202 != t204)), (by first | rfl | (simp; done) | (simp [*]; done)), H', ⟨by first | omega | exact Nat.le_refl _⟩, ⟨by (with_reducible repeat (first | refine blk_drewN ?_ _ | refine blk_drew ?_ | refine blk_alloc ?_ _)); exact BK201.out⟩, ⟨by repeat (first | (with_reducible first | exact HB.out | apply below_alloc | apply pw_below_drewN | apply below_drew1 | refine below_set ?_ GE201.out) | exact HB.out)⟩⟩
      · rw [if_neg c14] at H
        have c14b0 : (t203 == t205) = false := beq_eq_false_iff_ne.mpr c14
        have c14b1 : (t203 != t205) = true := bne_iff_ne.mpr c14
        (first | rw [c14b0] | (simp only [i64_w, i32_w]; rw [c14b0]) | skip)
        have H' := Aside0.mk H
        clear H
        go_wp2
        go_meet
        case rel => exact ⟨_, (true), (by first | rfl | (simp; done) | (simp [*]; done)), H', ⟨by first | omega | exact Nat.le_refl _⟩, ⟨by (with_reducible repeat (first | refine blk_drewN ?_ _ | refine blk_drew ?_ | refine blk_alloc ?_ _)); exact BK201.out⟩, ⟨by repeat (first | (with_reducible first | exact HB.out | apply below_alloc | apply pw_below_drewN | apply below_drew1 | refine below_set ?_ GE201.out) | exact HB.out)⟩⟩
    case rest =>
      clear HC7
      try clear c1
      try clear c2
      try clear p2
      try clear c3
      try clear c5
      try clear c14
      try clear c14b0
      try clear c14b1
      try clear hcz10_0
      try clear hcz10_1
      try clear hcz10_2
      try clear hcz10_3
      try clear hcz10_4
      try clear hcz12_0
      try clear hcz12_1
      try clear hcz12_2
      try clear hcz12_3
      try clear hcz12_4
      try clear hfz10_0
      try clear hfz10_1
      try clear hfz10_2
      try clear hfz10_3
      try clear hfz10_4
      try clear hfz12_0
      try clear hfz12_1
      try clear hfz12_2
      try clear hfz12_3
      try clear hfz12_4
      obtain ⟨kq, x46_6, rfl, HA, HJ6, BK201, HB⟩ := hcut
      cases kq with
      | zero => exact absurd HA.out (by simp [laws_FnRadius.j0])
      | succ kj6 =>
        have H := HA.out
        clear HA
        simp only [laws_FnRadius.j0] at H
        by_cases c15 : x46_6 = true
        · subst c15
          have H1 : (some false) = some r := by rw [if_pos rfl] at H; exact H
          clear H
          have H := H1
          clear H1
          obtain rfl := Option.some.inj H
          go_wp2
          go_ret
          exact ⟨by first | rfl | (simp [errW_none, errW_some] <;> rfl) | (simp [*, errW_none, errW_some] <;> rfl), by repeat (first | (with_reducible first | exact HB.out | apply below_alloc | apply pw_below_drewN | apply below_drew1 | refine below_set ?_ GE201.out) | exact HB.out)⟩
        · replace c15 := Bool.eq_false_iff.mpr c15
          subst c15
          have H1 : (if t203 = 0 then ((impl_SpreadOf.f t194 t195 t196 t197 t198 t199).bind fun t206 => (if (wrap64 ((wrap64 (t194 * t194)) * t194)) = 0 then (none) else (if t206 < 0 then (laws_FnRadius.j1 kj6 t199 t200 t202 true t194 t195 t196 t197 t198) else (if (wrap64 ((wrap64 (t200 * t202)) * t202)) < (wrap64 (100 * (wrap64 (Int.tdiv (wrap64 ((wrap64 (t206 + (wrap64 ((wrap64 (t194 * t194)) * t194)))) - 1)) (wrap64 ((wrap64 (t194 * t194)) * t194)))))) then (laws_FnRadius.j1 kj6 t199 t200 t202 true t194 t195 t196 t197 t198) else (if t202 > 0 then (laws_FnRadius.j1 kj6 t199 t200 t202 (decide ((wrap64 ((wrap64 (t200 * (wrap64 (t202 - 1)))) * (wrap64 (t202 - 1)))) ≥ (wrap64 (100 * (wrap64 (Int.tdiv (wrap64 ((wrap64 (t206 + (wrap64 ((wrap64 (t194 * t194)) * t194)))) - 1)) (wrap64 ((wrap64 (t194 * t194)) * t194)))))))) t194 t195 t196 t197 t198) else (laws_FnRadius.j1 kj6 t199 t200 t202 false t194 t195 t196 t197 t198)))))) else (some true)) = some r := by rw [if_neg (show ¬ (false = true) by decide)] at H; exact H
          clear H
          have H := H1
          clear H1
          by_cases c16 : t203 = 0
          · rw [if_pos c16] at H
            have c16b0 : (t203 == 0) = true := beq_iff_eq.mpr c16
            have c16b1 : (t203 != 0) = false := bne_eq_false_iff_eq.mpr c16
            clear c16
            replace H := Option.bind_eq_some_iff.mp H
            obtain ⟨t206, A170, H⟩ := H
            replace H : (if (wrap64 ((wrap64 (t194 * t194)) * t194)) = 0 then (none) else (if t206 < 0 then (laws_FnRadius.j1 kj6 t199 t200 t202 true t194 t195 t196 t197 t198) else (if (wrap64 ((wrap64 (t200 * t202)) * t202)) < (wrap64 (100 * (wrap64 (Int.tdiv (wrap64 ((wrap64 (t206 + (wrap64 ((wrap64 (t194 * t194)) * t194)))) - 1)) (wrap64 ((wrap64 (t194 * t194)) * t194)))))) then (laws_FnRadius.j1 kj6 t199 t200 t202 true t194 t195 t196 t197 t198) else (if t202 > 0 then (laws_FnRadius.j1 kj6 t199 t200 t202 (decide ((wrap64 ((wrap64 (t200 * (wrap64 (t202 - 1)))) * (wrap64 (t202 - 1)))) ≥ (wrap64 (100 * (wrap64 (Int.tdiv (wrap64 ((wrap64 (t206 + (wrap64 ((wrap64 (t194 * t194)) * t194)))) - 1)) (wrap64 ((wrap64 (t194 * t194)) * t194)))))))) t194 t195 t196 t197 t198) else (laws_FnRadius.j1 kj6 t199 t200 t202 false t194 t195 t196 t197 t198))))) = some r := H
            have A17 := Aside0.mk A170
            clear A170
            by_cases c18 : (wrap64 ((wrap64 (t194 * t194)) * t194)) = 0
            · rw [if_pos c18] at H
              exact absurd H (by simp)
            · rw [if_neg c18] at H
              have c18b0 : ((wrap64 ((wrap64 (t194 * t194)) * t194)) == 0) = false := beq_eq_false_iff_ne.mpr c18
              have c18b1 : ((wrap64 ((wrap64 (t194 * t194)) * t194)) != 0) = true := bne_iff_ne.mpr c18
              have HC19 := Aside0.mk H
              clear H
              have hcz20_0 : wc.cell? ⟨gb201, 0, none⟩ = some (.int .i64 t194) := (blk_cell BK201.out 0).trans rfl
              have hcz20_1 : wc.cell? ⟨gb201, 1, none⟩ = some (.int .i64 t195) := (blk_cell BK201.out 1).trans rfl
              have hcz20_2 : wc.cell? ⟨gb201, 2, none⟩ = some (.int .i64 t196) := (blk_cell BK201.out 2).trans rfl
              have hcz20_3 : wc.cell? ⟨gb201, 3, none⟩ = some (.int .i64 t197) := (blk_cell BK201.out 3).trans rfl
              have hcz20_4 : wc.cell? ⟨gb201, 4, none⟩ = some (.int .i64 t198) := (blk_cell BK201.out 4).trans rfl
              have hfz20_0 := blk_frozen BK201.out 0
              have hfz20_1 := blk_frozen BK201.out 1
              have hfz20_2 := blk_frozen BK201.out 2
              have hfz20_3 := blk_frozen BK201.out 3
              have hfz20_4 := blk_frozen BK201.out 4
              go_upto_region 13 with (first | ((with_reducible refine gate_callee (f := 25) rfl ?_); refine goesL_ (some 51) rfl rfl Try.func25 (by kernel_rfl) rfl #[.agg #[.int .i64 t194, .int .i64 t195, .int .i64 t196, .int .i64 t197, .int .i64 t198], .bool t199] rfl (by (try simp only [List.map_toArray, List.map_cons, List.map_nil]); first | done | rfl | (simp only [List.length_drop, List.length_take]; rfl)) ?_; (with_reducible refine (impl_SpreadOf.calls t194 t195 t196 t197 t198 t199 t206 _ A17.out).mono ?_); rintro e w21 ⟨rfl, hb⟩; refine ⟨_, rfl, ?_⟩; have n0_ := Aside0.mk (blk_below (g := gb201) (o := .cells #[.int .i64 t194, .int .i64 t195, .int .i64 t196, .int .i64 t197, .int .i64 t198] 26 (0, 0)) (by (with_reducible repeat (first | refine blk_drewN ?_ _ | refine blk_drew ?_ | refine blk_alloc ?_ _)); exact BK201.out) hb); have n1_ := Aside0.mk (below_step (by repeat (first | (with_reducible first | exact HB.out | apply below_alloc | apply pw_below_drewN | apply below_drew1 | refine below_set ?_ GE201.out) | exact HB.out)) hb); clear BK201; clear HB; have BK201 := n0_; have HB := n1_; clear n0_ n1_; (try clear hb); (try clear hb2); (try clear hk); (try clear hi); have hcz22_0 : w21.cell? ⟨gb201, 0, none⟩ = some (.int .i64 t194) := (blk_cell BK201.out 0).trans rfl; have hcz22_1 : w21.cell? ⟨gb201, 1, none⟩ = some (.int .i64 t195) := (blk_cell BK201.out 1).trans rfl; have hcz22_2 : w21.cell? ⟨gb201, 2, none⟩ = some (.int .i64 t196) := (blk_cell BK201.out 2).trans rfl; have hcz22_3 : w21.cell? ⟨gb201, 3, none⟩ = some (.int .i64 t197) := (blk_cell BK201.out 3).trans rfl; have hcz22_4 : w21.cell? ⟨gb201, 4, none⟩ = some (.int .i64 t198) := (blk_cell BK201.out 4).trans rfl; have hfz22_0 := blk_frozen BK201.out 0; have hfz22_1 := blk_frozen BK201.out 1; have hfz22_2 := blk_frozen BK201.out 2; have hfz22_3 := blk_frozen BK201.out 3; have hfz22_4 := blk_frozen BK201.out 4))
              (try simp only [Act.put, List.setIfInBounds_toArray, List.set_cons_zero, List.set_cons_succ])
              go_cut [93] (fun v93 wc => ∃ (kq : Nat) (x93_18 : Bool), v93 = .bool x93_18 ∧ Aside0 (laws_FnRadius.j1 kq t199 t200 t202 x93_18 t194 t195 t196 t197 t198 = some r) ∧ Aside0 (kq ≤ kj6) ∧ Aside0 (wc.heap[gb201]? = some (.cells #[.int .i64 t194, .int .i64 t195, .int .i64 t196, .int .i64 t197, .int .i64 t198] 26 (0, 0))) ∧ Aside0 (Below w.heap.size w wc))
              case first =>
                have H := HC19.out
                clear HC19
                by_cases c23 : t206 < 0
                · rw [if_pos c23] at H
                  have c23b0 : decide (t206 < 0) = true := decide_eq_true c23
                  clear c23
                  (first | rw [c23b0] | (simp only [i64_w, i32_w]; rw [c23b0]) | skip)
                  have H' := Aside0.mk H
                  clear H
                  go_wp2
                  go_meet
                  case rel => exact ⟨_, (true), (by first | rfl | (simp; done) | (simp [*]; done)), H', ⟨by have := HJ6.out; first | omega | exact Nat.le_refl _⟩, ⟨by (with_reducible repeat (first | refine blk_drewN ?_ _ | refine blk_drew ?_ | refine blk_alloc ?_ _)); exact BK201.out⟩, ⟨by repeat (first | (with_reducible first | exact HB.out | apply below_alloc | apply pw_below_drewN | apply below_drew1 | refine below_set ?_ GE201.out) | exact HB.out)⟩⟩
                · rw [if_neg c23] at H
                  have c23b0 : decide (t206 < 0) = false := decide_eq_false c23
                  clear c23
                  (first | rw [c23b0] | (simp only [i64_w, i32_w]; rw [c23b0]) | skip)
                  by_cases c24 : (wrap64 ((wrap64 (t200 * t202)) * t202)) < (wrap64 (100 * (wrap64 (Int.tdiv (wrap64 ((wrap64 (t206 + (wrap64 ((wrap64 (t194 * t194)) * t194)))) - 1)) (wrap64 ((wrap64 (t194 * t194)) * t194))))))
                  · rw [if_pos c24] at H
                    have c24b0 : decide ((wrap64 ((wrap64 (t200 * t202)) * t202)) < (wrap64 (100 * (wrap64 (Int.tdiv (wrap64 ((wrap64 (t206 + (wrap64 ((wrap64 (t194 * t194)) * t194)))) - 1)) (wrap64 ((wrap64 (t194 * t194)) * t194))))))) = true := decide_eq_true c24
                    clear c24
                    have H' := Aside0.mk H
                    clear H
                    go_wp2
                    go_meet
                    case rel => exact ⟨_, (true), (by first | rfl | (simp; done) | (simp [*]; done)), H', ⟨by have := HJ6.out; first | omega | exact Nat.le_refl _⟩, ⟨by (with_reducible repeat (first | refine blk_drewN ?_ _ | refine blk_drew ?_ | refine blk_alloc ?_ _)); exact BK201.out⟩, ⟨by repeat (first | (with_reducible first | exact HB.out | apply below_alloc | apply pw_below_drewN | apply below_drew1 | refine below_set ?_ GE201.out) | exact HB.out)⟩⟩
                  · rw [if_neg c24] at H
                    have c24b0 : decide ((wrap64 ((wrap64 (t200 * t202)) * t202)) < (wrap64 (100 * (wrap64 (Int.tdiv (wrap64 ((wrap64 (t206 + (wrap64 ((wrap64 (t194 * t194)) * t194)))) - 1)) (wrap64 ((wrap64 (t194 * t194)) * t194))))))) = false := decide_eq_false c24
                    clear c24
                    by_cases c25 : t202 > 0
                    · rw [if_pos c25] at H
                      have c25b0 : decide (0 < t202) = true := decide_eq_true c25
                      clear c25
                      have H' := Aside0.mk H
                      clear H
                      go_wp2
                      go_meet
                      case rel => exact ⟨_, (decide ((wrap64 ((wrap64 (t200 * (wrap64 (t202 - 1)))) * (wrap64 (t202 - 1)))) ≥ (wrap64 (100 * (wrap64 (Int.tdiv (wrap64 ((wrap64 (t206 + (wrap64 ((wrap64 (t194 * t194)) * t194)))) - 1)) (wrap64 ((wrap64 (t194 * t194)) * t194)))))))), (by first | rfl | (simp; done) | (simp [*]; done)), H', ⟨by have := HJ6.out; first | omega | exact Nat.le_refl _⟩, ⟨by (with_reducible repeat (first | refine blk_drewN ?_ _ | refine blk_drew ?_ | refine blk_alloc ?_ _)); exact BK201.out⟩, ⟨by repeat (first | (with_reducible first | exact HB.out | apply below_alloc | apply pw_below_drewN | apply below_drew1 | refine below_set ?_ GE201.out) | exact HB.out)⟩⟩
                    · rw [if_neg c25] at H
                      have c25b0 : decide (0 < t202) = false := decide_eq_false c25
                      clear c25
                      have H' := Aside0.mk H
                      clear H
                      go_wp2
                      go_meet
                      case rel => exact ⟨_, (false), (by first | rfl | (simp; done) | (simp [*]; done)), H', ⟨by have := HJ6.out; first | omega | exact Nat.le_refl _⟩, ⟨by (with_reducible repeat (first | refine blk_drewN ?_ _ | refine blk_drew ?_ | refine blk_alloc ?_ _)); exact BK201.out⟩, ⟨by repeat (first | (with_reducible first | exact HB.out | apply below_alloc | apply pw_below_drewN | apply below_drew1 | refine below_set ?_ GE201.out) | exact HB.out)⟩⟩
              case rest =>
                clear HC19
                try clear c1
                try clear c2
                try clear p2
                try clear c3
                try clear c5
                try clear p6
                try clear c14
                try clear c14b0
                try clear c14b1
                try clear c15
                try clear c16
                try clear c16b0
                try clear c16b1
                try clear c18
                try clear c18b0
                try clear c18b1
                try clear c21
                try clear c22
                try clear c23
                try clear c23b0
                try clear c24
                try clear c24b0
                try clear c25
                try clear c25b0
                try clear hcz10_0
                try clear hcz10_1
                try clear hcz10_2
                try clear hcz10_3
                try clear hcz10_4
                try clear hcz12_0
                try clear hcz12_1
                try clear hcz12_2
                try clear hcz12_3
                try clear hcz12_4
                try clear hcz20_0
                try clear hcz20_1
                try clear hcz20_2
                try clear hcz20_3
                try clear hcz20_4
                try clear hcz22_0
                try clear hcz22_1
                try clear hcz22_2
                try clear hcz22_3
                try clear hcz22_4
                try clear hfz10_0
                try clear hfz10_1
                try clear hfz10_2
                try clear hfz10_3
                try clear hfz10_4
                try clear hfz12_0
                try clear hfz12_1
                try clear hfz12_2
                try clear hfz12_3
                try clear hfz12_4
                try clear hfz20_0
                try clear hfz20_1
                try clear hfz20_2
                try clear hfz20_3
                try clear hfz20_4
                try clear hfz22_0
                try clear hfz22_1
                try clear hfz22_2
                try clear hfz22_3
                try clear hfz22_4
                try clear p2
                obtain ⟨kq, x93_18, rfl, HA, HJ18, BK201, HB⟩ := hcut
                cases kq with
                | zero => exact absurd HA.out (by simp [laws_FnRadius.j1])
                | succ kj18 =>
                  have H := HA.out
                  clear HA
                  simp only [laws_FnRadius.j1] at H
                  by_cases c26 : x93_18 = true
                  · subst c26
                    have H1 : (some false) = some r := by rw [if_pos rfl] at H; exact H
                    clear H
                    have H := H1
                    clear H1
                    obtain rfl := Option.some.inj H
                    go_wp2
                    go_ret
                    exact ⟨by first | rfl | (simp [errW_none, errW_some] <;> rfl) | (simp [*, errW_none, errW_some] <;> rfl), by repeat (first | (with_reducible first | exact HB.out | apply below_alloc | apply pw_below_drewN | apply below_drew1 | refine below_set ?_ GE201.out) | exact HB.out)⟩
                  · replace c26 := Bool.eq_false_iff.mpr c26
                    subst c26
                    have H1 : ((impl_RadiusOf.f kj18 t194 t195 t196 t197 t198 t199 (mn 50 (wrap64 (t200 + 5)))).bind fun bt207 => ((impl_CompareRollouts.f kj18 t194 t195 t196 t197 t198 t194 t195 t196 t197 t198 t199 t200).bind fun bt209 => (if bt207.2 = 0 then (if bt207.1 ≤ t202 then (if bt209.2 = 0 then (some (bt209.1 == 0)) else (some false)) else (some false)) else (some false)))) = some r := by rw [if_neg (show ¬ (false = true) by decide)] at H; exact H
                    clear H
                    have H := H1
                    clear H1
                    obtain ⟨ji27, hji27⟩ : ∃ j_ : Int, (mn 50 (wrap64 (t200 + 5))) = j_ := ⟨_, rfl⟩
                    replace H : ((impl_RadiusOf.f kj18 t194 t195 t196 t197 t198 t199 (ji27)).bind fun bt207 => ((impl_CompareRollouts.f kj18 t194 t195 t196 t197 t198 t194 t195 t196 t197 t198 t199 t200).bind fun bt209 => (if bt207.2 = 0 then (if bt207.1 ≤ t202 then (if bt209.2 = 0 then (some (bt209.1 == 0)) else (some false)) else (some false)) else (some false)))) = some r := by first | (rw [hji27] at H; exact H) | (simp only [hji27] at H ⊢; exact H)
                    have hji27_ : (if (wrap64 (t200 + 5)) < 50 then (wrap64 (t200 + 5)) else 50) = ji27 := hji27
                    replace H := Option.bind_eq_some_iff.mp H
                    obtain ⟨⟨t207, t208⟩, A280, H⟩ := H
                    replace H : ((impl_CompareRollouts.f kj18 t194 t195 t196 t197 t198 t194 t195 t196 t197 t198 t199 t200).bind fun bt209 => (if t208 = 0 then (if t207 ≤ t202 then (if bt209.2 = 0 then (some (bt209.1 == 0)) else (some false)) else (some false)) else (some false))) = some r := H
                    have A28 := Aside0.mk A280
                    clear A280
                    replace H := Option.bind_eq_some_iff.mp H
                    obtain ⟨⟨t209, t210⟩, A290, H⟩ := H
                    replace H : (if t208 = 0 then (if t207 ≤ t202 then (if t210 = 0 then (some (t209 == 0)) else (some false)) else (some false)) else (some false)) = some r := H
                    have A29 := Aside0.mk A290
                    clear A290
                    by_cases c30 : t208 = 0
                    · rw [if_pos c30] at H
                      have c30b0 : (t208 == 0) = true := beq_iff_eq.mpr c30
                      have c30b1 : (t208 != 0) = false := bne_eq_false_iff_eq.mpr c30
                      clear c30
                      by_cases c31 : t207 ≤ t202
                      · rw [if_pos c31] at H
                        have c31b0 : decide (t207 ≤ t202) = true := decide_eq_true c31
                        clear c31
                        by_cases c32 : t210 = 0
                        · rw [if_pos c32] at H
                          have c32b0 : (t210 == 0) = true := beq_iff_eq.mpr c32
                          have c32b1 : (t210 != 0) = false := bne_eq_false_iff_eq.mpr c32
                          clear c32
                          obtain rfl := Option.some.inj H
                          have hcz33_0 : wc.cell? ⟨gb201, 0, none⟩ = some (.int .i64 t194) := (blk_cell BK201.out 0).trans rfl
                          have hcz33_1 : wc.cell? ⟨gb201, 1, none⟩ = some (.int .i64 t195) := (blk_cell BK201.out 1).trans rfl
                          have hcz33_2 : wc.cell? ⟨gb201, 2, none⟩ = some (.int .i64 t196) := (blk_cell BK201.out 2).trans rfl
                          have hcz33_3 : wc.cell? ⟨gb201, 3, none⟩ = some (.int .i64 t197) := (blk_cell BK201.out 3).trans rfl
                          have hcz33_4 : wc.cell? ⟨gb201, 4, none⟩ = some (.int .i64 t198) := (blk_cell BK201.out 4).trans rfl
                          have hfz33_0 := blk_frozen BK201.out 0
                          have hfz33_1 := blk_frozen BK201.out 1
                          have hfz33_2 := blk_frozen BK201.out 2
                          have hfz33_3 := blk_frozen BK201.out 3
                          have hfz33_4 := blk_frozen BK201.out 4
                          go_wp2_with (first | ((with_reducible refine gate_callee (f := 23) rfl ?_); refine goesL_ (some 100) rfl rfl Try.func23 (by kernel_rfl) rfl #[.agg #[.int .i64 t194, .int .i64 t195, .int .i64 t196, .int .i64 t197, .int .i64 t198], .bool t199, .int .i64 ji27] rfl (by (try simp only [List.map_toArray, List.map_cons, List.map_nil]); first | done | (simp only [hji27]; rfl) | rfl | (simp only [List.length_drop, List.length_take]; rfl)) ?_; (with_reducible refine (impl_RadiusOf.calls kj18 t194 t195 t196 t197 t198 t199 ji27 t207 t208 _ A28.out).mono ?_); rintro e w34 ⟨rfl, hb⟩; refine ⟨_, rfl, ?_⟩; have n0_ := Aside0.mk (blk_below (g := gb201) (o := .cells #[.int .i64 t194, .int .i64 t195, .int .i64 t196, .int .i64 t197, .int .i64 t198] 26 (0, 0)) (by (with_reducible repeat (first | refine blk_drewN ?_ _ | refine blk_drew ?_ | refine blk_alloc ?_ _)); exact BK201.out) hb); have n1_ := Aside0.mk (below_step (by repeat (first | (with_reducible first | exact HB.out | apply below_alloc | apply pw_below_drewN | apply below_drew1 | refine below_set ?_ GE201.out) | exact HB.out)) hb); clear BK201; clear HB; have BK201 := n0_; have HB := n1_; clear n0_ n1_; (try clear hb); (try clear hb2); (try clear hk); (try clear hi); have hcz35_0 : w34.cell? ⟨gb201, 0, none⟩ = some (.int .i64 t194) := (blk_cell BK201.out 0).trans rfl; have hcz35_1 : w34.cell? ⟨gb201, 1, none⟩ = some (.int .i64 t195) := (blk_cell BK201.out 1).trans rfl; have hcz35_2 : w34.cell? ⟨gb201, 2, none⟩ = some (.int .i64 t196) := (blk_cell BK201.out 2).trans rfl; have hcz35_3 : w34.cell? ⟨gb201, 3, none⟩ = some (.int .i64 t197) := (blk_cell BK201.out 3).trans rfl; have hcz35_4 : w34.cell? ⟨gb201, 4, none⟩ = some (.int .i64 t198) := (blk_cell BK201.out 4).trans rfl; have hfz35_0 := blk_frozen BK201.out 0; have hfz35_1 := blk_frozen BK201.out 1; have hfz35_2 := blk_frozen BK201.out 2; have hfz35_3 := blk_frozen BK201.out 3; have hfz35_4 := blk_frozen BK201.out 4) | ((with_reducible refine gate_callee (f := 14) rfl ?_); refine goesL_ (some 108) rfl rfl Try.func14 (by kernel_rfl) rfl #[.agg #[.int .i64 t194, .int .i64 t195, .int .i64 t196, .int .i64 t197, .int .i64 t198], .agg #[.int .i64 t194, .int .i64 t195, .int .i64 t196, .int .i64 t197, .int .i64 t198], .bool t199, .int .i64 t200] rfl (by (try simp only [List.map_toArray, List.map_cons, List.map_nil]); first | done | rfl | (simp only [List.length_drop, List.length_take]; rfl)) ?_; (with_reducible refine (impl_CompareRollouts.calls kj18 t194 t195 t196 t197 t198 t194 t195 t196 t197 t198 t199 t200 t209 t210 _ A29.out).mono ?_); rintro e w36 ⟨rfl, hb⟩; refine ⟨_, rfl, ?_⟩; have n0_ := Aside0.mk (blk_below (g := gb201) (o := .cells #[.int .i64 t194, .int .i64 t195, .int .i64 t196, .int .i64 t197, .int .i64 t198] 26 (0, 0)) (by (with_reducible repeat (first | refine blk_drewN ?_ _ | refine blk_drew ?_ | refine blk_alloc ?_ _)); exact BK201.out) hb); have n1_ := Aside0.mk (below_step (by repeat (first | (with_reducible first | exact HB.out | apply below_alloc | apply pw_below_drewN | apply below_drew1 | refine below_set ?_ GE201.out) | exact HB.out)) hb); clear BK201; clear HB; have BK201 := n0_; have HB := n1_; clear n0_ n1_; (try clear hb); (try clear hb2); (try clear hk); (try clear hi)))
                          go_ret
                          exact ⟨by first | rfl | (simp [errW_none, errW_some] <;> rfl) | (simp only [← hji27]; first | rfl | (simp [errW_none, errW_some] <;> rfl)) | (simp [*, errW_none, errW_some] <;> rfl), by repeat (first | (with_reducible first | exact HB.out | apply below_alloc | apply pw_below_drewN | apply below_drew1 | refine below_set ?_ GE201.out) | exact HB.out)⟩
                        · rw [if_neg c32] at H
                          have c32b0 : (t210 == 0) = false := beq_eq_false_iff_ne.mpr c32
                          have c32b1 : (t210 != 0) = true := bne_iff_ne.mpr c32
                          obtain rfl := Option.some.inj H
                          have hcz37_0 : wc.cell? ⟨gb201, 0, none⟩ = some (.int .i64 t194) := (blk_cell BK201.out 0).trans rfl
                          have hcz37_1 : wc.cell? ⟨gb201, 1, none⟩ = some (.int .i64 t195) := (blk_cell BK201.out 1).trans rfl
                          have hcz37_2 : wc.cell? ⟨gb201, 2, none⟩ = some (.int .i64 t196) := (blk_cell BK201.out 2).trans rfl
                          have hcz37_3 : wc.cell? ⟨gb201, 3, none⟩ = some (.int .i64 t197) := (blk_cell BK201.out 3).trans rfl
                          have hcz37_4 : wc.cell? ⟨gb201, 4, none⟩ = some (.int .i64 t198) := (blk_cell BK201.out 4).trans rfl
                          have hfz37_0 := blk_frozen BK201.out 0
                          have hfz37_1 := blk_frozen BK201.out 1
                          have hfz37_2 := blk_frozen BK201.out 2
                          have hfz37_3 := blk_frozen BK201.out 3
                          have hfz37_4 := blk_frozen BK201.out 4
                          go_wp2_with (first | ((with_reducible refine gate_callee (f := 23) rfl ?_); refine goesL_ (some 100) rfl rfl Try.func23 (by kernel_rfl) rfl #[.agg #[.int .i64 t194, .int .i64 t195, .int .i64 t196, .int .i64 t197, .int .i64 t198], .bool t199, .int .i64 ji27] rfl (by (try simp only [List.map_toArray, List.map_cons, List.map_nil]); first | done | (simp only [hji27]; rfl) | rfl | (simp only [List.length_drop, List.length_take]; rfl)) ?_; (with_reducible refine (impl_RadiusOf.calls kj18 t194 t195 t196 t197 t198 t199 ji27 t207 t208 _ A28.out).mono ?_); rintro e w38 ⟨rfl, hb⟩; refine ⟨_, rfl, ?_⟩; have n0_ := Aside0.mk (blk_below (g := gb201) (o := .cells #[.int .i64 t194, .int .i64 t195, .int .i64 t196, .int .i64 t197, .int .i64 t198] 26 (0, 0)) (by (with_reducible repeat (first | refine blk_drewN ?_ _ | refine blk_drew ?_ | refine blk_alloc ?_ _)); exact BK201.out) hb); have n1_ := Aside0.mk (below_step (by repeat (first | (with_reducible first | exact HB.out | apply below_alloc | apply pw_below_drewN | apply below_drew1 | refine below_set ?_ GE201.out) | exact HB.out)) hb); clear BK201; clear HB; have BK201 := n0_; have HB := n1_; clear n0_ n1_; (try clear hb); (try clear hb2); (try clear hk); (try clear hi); have hcz39_0 : w38.cell? ⟨gb201, 0, none⟩ = some (.int .i64 t194) := (blk_cell BK201.out 0).trans rfl; have hcz39_1 : w38.cell? ⟨gb201, 1, none⟩ = some (.int .i64 t195) := (blk_cell BK201.out 1).trans rfl; have hcz39_2 : w38.cell? ⟨gb201, 2, none⟩ = some (.int .i64 t196) := (blk_cell BK201.out 2).trans rfl; have hcz39_3 : w38.cell? ⟨gb201, 3, none⟩ = some (.int .i64 t197) := (blk_cell BK201.out 3).trans rfl; have hcz39_4 : w38.cell? ⟨gb201, 4, none⟩ = some (.int .i64 t198) := (blk_cell BK201.out 4).trans rfl; have hfz39_0 := blk_frozen BK201.out 0; have hfz39_1 := blk_frozen BK201.out 1; have hfz39_2 := blk_frozen BK201.out 2; have hfz39_3 := blk_frozen BK201.out 3; have hfz39_4 := blk_frozen BK201.out 4) | ((with_reducible refine gate_callee (f := 14) rfl ?_); refine goesL_ (some 108) rfl rfl Try.func14 (by kernel_rfl) rfl #[.agg #[.int .i64 t194, .int .i64 t195, .int .i64 t196, .int .i64 t197, .int .i64 t198], .agg #[.int .i64 t194, .int .i64 t195, .int .i64 t196, .int .i64 t197, .int .i64 t198], .bool t199, .int .i64 t200] rfl (by (try simp only [List.map_toArray, List.map_cons, List.map_nil]); first | done | rfl | (simp only [List.length_drop, List.length_take]; rfl)) ?_; (with_reducible refine (impl_CompareRollouts.calls kj18 t194 t195 t196 t197 t198 t194 t195 t196 t197 t198 t199 t200 t209 t210 _ A29.out).mono ?_); rintro e w40 ⟨rfl, hb⟩; refine ⟨_, rfl, ?_⟩; have n0_ := Aside0.mk (blk_below (g := gb201) (o := .cells #[.int .i64 t194, .int .i64 t195, .int .i64 t196, .int .i64 t197, .int .i64 t198] 26 (0, 0)) (by (with_reducible repeat (first | refine blk_drewN ?_ _ | refine blk_drew ?_ | refine blk_alloc ?_ _)); exact BK201.out) hb); have n1_ := Aside0.mk (below_step (by repeat (first | (with_reducible first | exact HB.out | apply below_alloc | apply pw_below_drewN | apply below_drew1 | refine below_set ?_ GE201.out) | exact HB.out)) hb); clear BK201; clear HB; have BK201 := n0_; have HB := n1_; clear n0_ n1_; (try clear hb); (try clear hb2); (try clear hk); (try clear hi)))
                          go_ret
                          exact ⟨by first | rfl | (simp [errW_none, errW_some] <;> rfl) | (simp only [← hji27]; first | rfl | (simp [errW_none, errW_some] <;> rfl)) | (simp [*, errW_none, errW_some] <;> rfl), by repeat (first | (with_reducible first | exact HB.out | apply below_alloc | apply pw_below_drewN | apply below_drew1 | refine below_set ?_ GE201.out) | exact HB.out)⟩
                      · rw [if_neg c31] at H
                        have c31b0 : decide (t207 ≤ t202) = false := decide_eq_false c31
                        clear c31
                        obtain rfl := Option.some.inj H
                        have hcz41_0 : wc.cell? ⟨gb201, 0, none⟩ = some (.int .i64 t194) := (blk_cell BK201.out 0).trans rfl
                        have hcz41_1 : wc.cell? ⟨gb201, 1, none⟩ = some (.int .i64 t195) := (blk_cell BK201.out 1).trans rfl
                        have hcz41_2 : wc.cell? ⟨gb201, 2, none⟩ = some (.int .i64 t196) := (blk_cell BK201.out 2).trans rfl
                        have hcz41_3 : wc.cell? ⟨gb201, 3, none⟩ = some (.int .i64 t197) := (blk_cell BK201.out 3).trans rfl
                        have hcz41_4 : wc.cell? ⟨gb201, 4, none⟩ = some (.int .i64 t198) := (blk_cell BK201.out 4).trans rfl
                        have hfz41_0 := blk_frozen BK201.out 0
                        have hfz41_1 := blk_frozen BK201.out 1
                        have hfz41_2 := blk_frozen BK201.out 2
                        have hfz41_3 := blk_frozen BK201.out 3
                        have hfz41_4 := blk_frozen BK201.out 4
                        go_wp2_with (first | ((with_reducible refine gate_callee (f := 23) rfl ?_); refine goesL_ (some 100) rfl rfl Try.func23 (by kernel_rfl) rfl #[.agg #[.int .i64 t194, .int .i64 t195, .int .i64 t196, .int .i64 t197, .int .i64 t198], .bool t199, .int .i64 ji27] rfl (by (try simp only [List.map_toArray, List.map_cons, List.map_nil]); first | done | (simp only [hji27]; rfl) | rfl | (simp only [List.length_drop, List.length_take]; rfl)) ?_; (with_reducible refine (impl_RadiusOf.calls kj18 t194 t195 t196 t197 t198 t199 ji27 t207 t208 _ A28.out).mono ?_); rintro e w42 ⟨rfl, hb⟩; refine ⟨_, rfl, ?_⟩; have n0_ := Aside0.mk (blk_below (g := gb201) (o := .cells #[.int .i64 t194, .int .i64 t195, .int .i64 t196, .int .i64 t197, .int .i64 t198] 26 (0, 0)) (by (with_reducible repeat (first | refine blk_drewN ?_ _ | refine blk_drew ?_ | refine blk_alloc ?_ _)); exact BK201.out) hb); have n1_ := Aside0.mk (below_step (by repeat (first | (with_reducible first | exact HB.out | apply below_alloc | apply pw_below_drewN | apply below_drew1 | refine below_set ?_ GE201.out) | exact HB.out)) hb); clear BK201; clear HB; have BK201 := n0_; have HB := n1_; clear n0_ n1_; (try clear hb); (try clear hb2); (try clear hk); (try clear hi); have hcz43_0 : w42.cell? ⟨gb201, 0, none⟩ = some (.int .i64 t194) := (blk_cell BK201.out 0).trans rfl; have hcz43_1 : w42.cell? ⟨gb201, 1, none⟩ = some (.int .i64 t195) := (blk_cell BK201.out 1).trans rfl; have hcz43_2 : w42.cell? ⟨gb201, 2, none⟩ = some (.int .i64 t196) := (blk_cell BK201.out 2).trans rfl; have hcz43_3 : w42.cell? ⟨gb201, 3, none⟩ = some (.int .i64 t197) := (blk_cell BK201.out 3).trans rfl; have hcz43_4 : w42.cell? ⟨gb201, 4, none⟩ = some (.int .i64 t198) := (blk_cell BK201.out 4).trans rfl; have hfz43_0 := blk_frozen BK201.out 0; have hfz43_1 := blk_frozen BK201.out 1; have hfz43_2 := blk_frozen BK201.out 2; have hfz43_3 := blk_frozen BK201.out 3; have hfz43_4 := blk_frozen BK201.out 4) | ((with_reducible refine gate_callee (f := 14) rfl ?_); refine goesL_ (some 108) rfl rfl Try.func14 (by kernel_rfl) rfl #[.agg #[.int .i64 t194, .int .i64 t195, .int .i64 t196, .int .i64 t197, .int .i64 t198], .agg #[.int .i64 t194, .int .i64 t195, .int .i64 t196, .int .i64 t197, .int .i64 t198], .bool t199, .int .i64 t200] rfl (by (try simp only [List.map_toArray, List.map_cons, List.map_nil]); first | done | rfl | (simp only [List.length_drop, List.length_take]; rfl)) ?_; (with_reducible refine (impl_CompareRollouts.calls kj18 t194 t195 t196 t197 t198 t194 t195 t196 t197 t198 t199 t200 t209 t210 _ A29.out).mono ?_); rintro e w44 ⟨rfl, hb⟩; refine ⟨_, rfl, ?_⟩; have n0_ := Aside0.mk (blk_below (g := gb201) (o := .cells #[.int .i64 t194, .int .i64 t195, .int .i64 t196, .int .i64 t197, .int .i64 t198] 26 (0, 0)) (by (with_reducible repeat (first | refine blk_drewN ?_ _ | refine blk_drew ?_ | refine blk_alloc ?_ _)); exact BK201.out) hb); have n1_ := Aside0.mk (below_step (by repeat (first | (with_reducible first | exact HB.out | apply below_alloc | apply pw_below_drewN | apply below_drew1 | refine below_set ?_ GE201.out) | exact HB.out)) hb); clear BK201; clear HB; have BK201 := n0_; have HB := n1_; clear n0_ n1_; (try clear hb); (try clear hb2); (try clear hk); (try clear hi)))
                        go_ret
                        exact ⟨by first | rfl | (simp [errW_none, errW_some] <;> rfl) | (simp only [← hji27]; first | rfl | (simp [errW_none, errW_some] <;> rfl)) | (simp [*, errW_none, errW_some] <;> rfl), by repeat (first | (with_reducible first | exact HB.out | apply below_alloc | apply pw_below_drewN | apply below_drew1 | refine below_set ?_ GE201.out) | exact HB.out)⟩
                    · rw [if_neg c30] at H
                      have c30b0 : (t208 == 0) = false := beq_eq_false_iff_ne.mpr c30
                      have c30b1 : (t208 != 0) = true := bne_iff_ne.mpr c30
                      obtain rfl := Option.some.inj H
                      have hcz45_0 : wc.cell? ⟨gb201, 0, none⟩ = some (.int .i64 t194) := (blk_cell BK201.out 0).trans rfl
                      have hcz45_1 : wc.cell? ⟨gb201, 1, none⟩ = some (.int .i64 t195) := (blk_cell BK201.out 1).trans rfl
                      have hcz45_2 : wc.cell? ⟨gb201, 2, none⟩ = some (.int .i64 t196) := (blk_cell BK201.out 2).trans rfl
                      have hcz45_3 : wc.cell? ⟨gb201, 3, none⟩ = some (.int .i64 t197) := (blk_cell BK201.out 3).trans rfl
                      have hcz45_4 : wc.cell? ⟨gb201, 4, none⟩ = some (.int .i64 t198) := (blk_cell BK201.out 4).trans rfl
                      have hfz45_0 := blk_frozen BK201.out 0
                      have hfz45_1 := blk_frozen BK201.out 1
                      have hfz45_2 := blk_frozen BK201.out 2
                      have hfz45_3 := blk_frozen BK201.out 3
                      have hfz45_4 := blk_frozen BK201.out 4
                      go_wp2_with (first | ((with_reducible refine gate_callee (f := 23) rfl ?_); refine goesL_ (some 100) rfl rfl Try.func23 (by kernel_rfl) rfl #[.agg #[.int .i64 t194, .int .i64 t195, .int .i64 t196, .int .i64 t197, .int .i64 t198], .bool t199, .int .i64 ji27] rfl (by (try simp only [List.map_toArray, List.map_cons, List.map_nil]); first | done | (simp only [hji27]; rfl) | rfl | (simp only [List.length_drop, List.length_take]; rfl)) ?_; (with_reducible refine (impl_RadiusOf.calls kj18 t194 t195 t196 t197 t198 t199 ji27 t207 t208 _ A28.out).mono ?_); rintro e w46 ⟨rfl, hb⟩; refine ⟨_, rfl, ?_⟩; have n0_ := Aside0.mk (blk_below (g := gb201) (o := .cells #[.int .i64 t194, .int .i64 t195, .int .i64 t196, .int .i64 t197, .int .i64 t198] 26 (0, 0)) (by (with_reducible repeat (first | refine blk_drewN ?_ _ | refine blk_drew ?_ | refine blk_alloc ?_ _)); exact BK201.out) hb); have n1_ := Aside0.mk (below_step (by repeat (first | (with_reducible first | exact HB.out | apply below_alloc | apply pw_below_drewN | apply below_drew1 | refine below_set ?_ GE201.out) | exact HB.out)) hb); clear BK201; clear HB; have BK201 := n0_; have HB := n1_; clear n0_ n1_; (try clear hb); (try clear hb2); (try clear hk); (try clear hi); have hcz47_0 : w46.cell? ⟨gb201, 0, none⟩ = some (.int .i64 t194) := (blk_cell BK201.out 0).trans rfl; have hcz47_1 : w46.cell? ⟨gb201, 1, none⟩ = some (.int .i64 t195) := (blk_cell BK201.out 1).trans rfl; have hcz47_2 : w46.cell? ⟨gb201, 2, none⟩ = some (.int .i64 t196) := (blk_cell BK201.out 2).trans rfl; have hcz47_3 : w46.cell? ⟨gb201, 3, none⟩ = some (.int .i64 t197) := (blk_cell BK201.out 3).trans rfl; have hcz47_4 : w46.cell? ⟨gb201, 4, none⟩ = some (.int .i64 t198) := (blk_cell BK201.out 4).trans rfl; have hfz47_0 := blk_frozen BK201.out 0; have hfz47_1 := blk_frozen BK201.out 1; have hfz47_2 := blk_frozen BK201.out 2; have hfz47_3 := blk_frozen BK201.out 3; have hfz47_4 := blk_frozen BK201.out 4) | ((with_reducible refine gate_callee (f := 14) rfl ?_); refine goesL_ (some 108) rfl rfl Try.func14 (by kernel_rfl) rfl #[.agg #[.int .i64 t194, .int .i64 t195, .int .i64 t196, .int .i64 t197, .int .i64 t198], .agg #[.int .i64 t194, .int .i64 t195, .int .i64 t196, .int .i64 t197, .int .i64 t198], .bool t199, .int .i64 t200] rfl (by (try simp only [List.map_toArray, List.map_cons, List.map_nil]); first | done | rfl | (simp only [List.length_drop, List.length_take]; rfl)) ?_; (with_reducible refine (impl_CompareRollouts.calls kj18 t194 t195 t196 t197 t198 t194 t195 t196 t197 t198 t199 t200 t209 t210 _ A29.out).mono ?_); rintro e w48 ⟨rfl, hb⟩; refine ⟨_, rfl, ?_⟩; have n0_ := Aside0.mk (blk_below (g := gb201) (o := .cells #[.int .i64 t194, .int .i64 t195, .int .i64 t196, .int .i64 t197, .int .i64 t198] 26 (0, 0)) (by (with_reducible repeat (first | refine blk_drewN ?_ _ | refine blk_drew ?_ | refine blk_alloc ?_ _)); exact BK201.out) hb); have n1_ := Aside0.mk (below_step (by repeat (first | (with_reducible first | exact HB.out | apply below_alloc | apply pw_below_drewN | apply below_drew1 | refine below_set ?_ GE201.out) | exact HB.out)) hb); clear BK201; clear HB; have BK201 := n0_; have HB := n1_; clear n0_ n1_; (try clear hb); (try clear hb2); (try clear hk); (try clear hi)))
                      go_ret
                      exact ⟨by first | rfl | (simp [errW_none, errW_some] <;> rfl) | (simp only [← hji27]; first | rfl | (simp [errW_none, errW_some] <;> rfl)) | (simp [*, errW_none, errW_some] <;> rfl), by repeat (first | (with_reducible first | exact HB.out | apply below_alloc | apply pw_below_drewN | apply below_drew1 | refine below_set ?_ GE201.out) | exact HB.out)⟩
          · rw [if_neg c16] at H
            have c16b0 : (t203 == 0) = false := beq_eq_false_iff_ne.mpr c16
            have c16b1 : (t203 != 0) = true := bne_iff_ne.mpr c16
            obtain rfl := Option.some.inj H
            go_wp2
            go_ret
            exact ⟨by first | rfl | (simp [errW_none, errW_some] <;> rfl) | (simp [*, errW_none, errW_some] <;> rfl), by repeat (first | (with_reducible first | exact HB.out | apply below_alloc | apply pw_below_drewN | apply below_drew1 | refine below_set ?_ GE201.out) | exact HB.out)⟩

/-- THE ONE PURE STATEMENT of laws_FnRadius: yours. -/
def laws_FnRadius.Pure : Prop := ∀ (l0 : List Int), l0.length ≤ maxLen → l0.length * 1 ≤ 140737488351232 → (∀ x ∈ l0, (Lit.int .u8 x).wf = true) → ∃ k, laws_FnRadius.f k l0 = some true
theorem laws_FnRadius.walk (P : laws_FnRadius.Pure) (a0 : Option Addr) (len0 cap0 : Nat) (z0 : List Int) (w : World) (w0 : (a0 = none ∧ len0 = 0 ∧ cap0 = 0 ∧ z0 = []) ∨ ∃ x, a0 = some x ∧ len0 ≤ cap0 ∧ cap0 ≤ maxLen ∧ z0.length = cap0 ∧ (∀ i, i < z0.length → w.cell? (x.add i) = some (.int .u8 (z0.getD i 0))) ∧ ∀ n ∈ z0, (Lit.int .u8 n).wf = true) (y0 : len0 * 1 ≤ 140737488351232) :
    Calls Try.prog 5 #[.slice a0 len0 cap0] w fun e w' => e = .returned (.bool true) ∧ Below w.heap.size w w' := by
  obtain ⟨l0, rfl, hr0, hm0, hw0, hc0⟩ := ReadsInt.ofRowC w0
  obtain ⟨k, h⟩ := P l0 hm0 y0 hw0
  refine (laws_FnRadius.calls k _ _ l0 true w (Kd.C_of_reads (d := (0 : Int)) (h1 := fun _ => rfl) hr0) hc0 h).mono ?_
  rintro e w' ⟨rfl, hd⟩
  exact ⟨rfl, hd⟩

end Go.Proofs.Ytpeipalgpbkagaa.PFnRadius
