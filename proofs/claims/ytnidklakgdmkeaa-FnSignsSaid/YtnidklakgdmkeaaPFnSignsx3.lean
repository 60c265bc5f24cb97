-- Laid by a program of this session that drives the kit's printer with switches of its own: it is no text of the print.
import Derived.Test.YtnidklakgdmkeaaPFnSignsx0
import Derived.Test.YtnidklakgdmkeaaPFnSignsx1
import Derived.Test.YtnidklakgdmkeaaPFnSignsx2
namespace Go.Proofs.Ytnidklakgdmkeaa.PFnSigns
open Go.RowKit Go.Proofs.YtnidklakgdmkeaaW.PrintWords Go.Proofs.YtnidklakgdmkeaaW.PrintLast Go.Proofs.YtnidklakgdmkeaaW.PrintMore
attribute [local go_sem] max2_int min2_int max_two min_two max_three min_three max_four min_four   -- for this text's walks alone
set_option linter.unusedVariables false
set_option linter.unusedSimpArgs false

/-! ### laws_FnSigns: function 13 -/
def laws_FnSigns.j0 : Nat → Int → Int → Int → Bool → Int → Bool → Option (Bool)
  | 0, _, _, _, _, _, _ => none
  | k + 1, x3, x4, x5, x6, x7, x45 => if x45 = true then (some false) else (if x7 = 0 then ((impl_IsSignificant.f k x3 (wrap64 (x3 - x4)) x5).bind fun bt148 => ((impl_SignTail.f k x3 x4).bind fun bt150 => (if x4 > 0 then ((impl_SignTail.f k x3 (wrap64 ((wrap64 (x3 - x4)) + 1))).bind fun bt152 => (if bt148.2 = 0 then (if (bt148.1 == x6) = true then (if bt150.2 = 0 then (if bt152.2 = 0 then (if 0 ≤ (IntKind.u64.wrap (x3)) then (some ((wrap64 (bt150.1 + bt152.1)) == (shl .i64 1 (IntKind.u64.wrap (x3))))) else (none)) else (some false)) else (some false)) else (some false)) else (some false))) else (if bt148.2 = 0 then (if (bt148.1 == x6) = true then (if bt150.2 = 0 then (if 0 = 0 then (if 0 ≤ (IntKind.u64.wrap (x3)) then (some ((wrap64 (bt150.1 + 0)) == (shl .i64 1 (IntKind.u64.wrap (x3))))) else (none)) else (some false)) else (some false)) else (some false)) else (some false))))) else (some true))
def laws_FnSigns.f (k : Nat) (l0 : List Int) : Option (Bool) := (laws_big.f l0).bind fun t140 => (if t140 = true then (some true) else ((spec_DrawIsSignificant.f k l0).bind fun bt141 => ((impl_IsSignificant.f k bt141.1 bt141.2.1 bt141.2.2).bind fun bt144 => ((spec_IsSignificant.f k bt141.1 bt141.2.1 bt141.2.2).bind fun bt146 => (if bt144.2 = bt146.2 then (laws_FnSigns.j0 k bt141.1 bt141.2.1 bt141.2.2 bt144.1 bt144.2 (bt144.1 != bt146.1)) else (laws_FnSigns.j0 k bt141.1 bt141.2.1 bt141.2.2 bt144.1 bt144.2 true))))))
theorem laws_FnSigns.mono_l : ∀ k, (∀ y0 y1 y2 y3 y4 y5, LeO (laws_FnSigns.j0 k y0 y1 y2 y3 y4 y5) (laws_FnSigns.j0 (k + 1) y0 y1 y2 y3 y4 y5))
  | 0 => fun _ _ _ _ _ _ r h => by simp [laws_FnSigns.j0] at h
  | k + 1 => by
    have ih0 := laws_FnSigns.mono_l k
    · intro y0 y1 y2 y3 y4 y5
      unfold laws_FnSigns.j0
      repeat' first
      | (with_reducible exact ih0 _ _ _ _ _ _)
      | (with_reducible exact impl_IsSignificant.mono _ _ _ _)
      | (with_reducible exact impl_SignTail.mono _ _ _)
      | (with_reducible exact spec_DrawIsSignificant.mono _ _)
      | (with_reducible exact spec_IsSignificant.mono _ _ _ _)
      | (with_reducible exact LeO.refl _)
      | (with_reducible exact LeO.none _)
      | (with_reducible refine LeO.ite ?_ ?_)
      | (with_reducible refine LeO.bind ?_ (fun _ => ?_))
      | exact ih0 _ _ _ _ _ _
      | exact impl_IsSignificant.mono _ _ _ _
      | exact impl_SignTail.mono _ _ _
      | exact spec_DrawIsSignificant.mono _ _
      | exact spec_IsSignificant.mono _ _ _ _
      | exact LeO.none _
      | refine LeO.ite ?_ ?_
      | refine LeO.bind ?_ (fun _ => ?_)
theorem laws_FnSigns.mono : ∀ a0 k, LeO (laws_FnSigns.f k a0) (laws_FnSigns.f (k + 1) a0) := by
  intro a0 k
  have ih0 := laws_FnSigns.mono_l k
  unfold laws_FnSigns.f
  repeat' first
      | (with_reducible exact ih0 _ _ _ _ _ _)
      | (with_reducible exact impl_IsSignificant.mono _ _ _ _)
      | (with_reducible exact impl_SignTail.mono _ _ _)
      | (with_reducible exact spec_DrawIsSignificant.mono _ _)
      | (with_reducible exact spec_IsSignificant.mono _ _ _ _)
      | (with_reducible exact LeO.refl _)
      | (with_reducible exact LeO.none _)
      | (with_reducible refine LeO.ite ?_ ?_)
      | (with_reducible refine LeO.bind ?_ (fun _ => ?_))
      | exact ih0 _ _ _ _ _ _
      | exact impl_IsSignificant.mono _ _ _ _
      | exact impl_SignTail.mono _ _ _
      | exact spec_DrawIsSignificant.mono _ _
      | exact spec_IsSignificant.mono _ _ _ _
      | exact LeO.none _
      | refine LeO.ite ?_ ?_
      | refine LeO.bind ?_ (fun _ => ?_)
set_option maxHeartbeats 8000000 in
set_option maxRecDepth 100000 in
theorem laws_FnSigns.calls (k : Nat) (A0 : Option Addr) (c0 : Nat) (l0 : List Int) (r : Bool) (w : World) (hr0 : Kd.C (Kd.int .u8) w A0 l0.length l0) (hc0 : l0.length ≤ c0) (h : laws_FnSigns.f k l0 = some r) :
    Calls Try.prog 13 #[.slice A0 l0.length c0] w fun e w' => e = .returned (.bool r) ∧ Below w.heap.size w w' := by
  have HR0 := Aside0.mk hr0
  have HC0 := Aside0.mk hc0
  clear hr0 hc0
  have HB := Aside0.mk (Below.refl w.heap.size w)
  have H : ((laws_big.f l0).bind fun t140 => (if t140 = true then (some true) else ((spec_DrawIsSignificant.f k l0).bind fun bt141 => ((impl_IsSignificant.f k bt141.1 bt141.2.1 bt141.2.2).bind fun bt144 => ((spec_IsSignificant.f k bt141.1 bt141.2.1 bt141.2.2).bind fun bt146 => (if bt144.2 = bt146.2 then (laws_FnSigns.j0 k bt141.1 bt141.2.1 bt141.2.2 bt144.1 bt144.2 (bt144.1 != bt146.1)) else (laws_FnSigns.j0 k bt141.1 bt141.2.1 bt141.2.2 bt144.1 bt144.2 true))))))) = some r := h
  clear h
  replace H := Option.bind_eq_some_iff.mp H
  obtain ⟨t140, A20, H⟩ := H
  replace H : (if t140 = true then (some true) else ((spec_DrawIsSignificant.f k l0).bind fun bt141 => ((impl_IsSignificant.f k bt141.1 bt141.2.1 bt141.2.2).bind fun bt144 => ((spec_IsSignificant.f k bt141.1 bt141.2.1 bt141.2.2).bind fun bt146 => (if bt144.2 = bt146.2 then (laws_FnSigns.j0 k bt141.1 bt141.2.1 bt141.2.2 bt144.1 bt144.2 (bt144.1 != bt146.1)) else (laws_FnSigns.j0 k bt141.1 bt141.2.1 bt141.2.2 bt144.1 bt144.2 true)))))) = some r := H
  have A2 := Aside0.mk A20
  clear A20
  by_cases c3 : t140 = true
  · subst c3
    have H1 : (some true) = some r := by rw [if_pos rfl] at H; exact H
    clear H
    have H := H1
    clear H1
    obtain rfl := Option.some.inj H
    go_enter Try.func13, Try.ntmps13
    go_wp2_with (first | ((with_reducible refine gate_callee (f := 26) rfl ?_); refine goesL_ (some 17) rfl rfl Try.func26 (by kernel_rfl) rfl #[.slice A0 l0.length c0] rfl (by (try simp only [List.map_toArray, List.map_cons, List.map_nil]); first | done | rfl | (simp only [List.length_drop, List.length_take]; rfl)) ?_; (with_reducible refine (laws_big.calls _ _ l0 true _ ?side1 ?side2 A2.out).mono ?_); (case side1 => repeat (first | exact HR0.out | (with_reducible refine Kd.C_alloc ?_ _) | (with_reducible refine Kd.C_drewN ?_ _) | (with_reducible refine Kd.C_drew ?_))); (case side2 => exact HC0.out); rintro e w' ⟨rfl, ⟨nd, rfl⟩⟩; refine ⟨_, rfl, ?_⟩))
    go_ret
    exact ⟨by first | rfl | (simp [errW_none, errW_some] <;> rfl) | (simp [*, errW_none, errW_some] <;> rfl), by repeat (first | (with_reducible first | exact HB.out | apply below_alloc | apply pw_below_drewN | apply below_drew1) | exact HB.out)⟩
  · replace c3 := Bool.eq_false_iff.mpr c3
    subst c3
    have H1 : ((spec_DrawIsSignificant.f k l0).bind fun bt141 => ((impl_IsSignificant.f k bt141.1 bt141.2.1 bt141.2.2).bind fun bt144 => ((spec_IsSignificant.f k bt141.1 bt141.2.1 bt141.2.2).bind fun bt146 => (if bt144.2 = bt146.2 then (laws_FnSigns.j0 k bt141.1 bt141.2.1 bt141.2.2 bt144.1 bt144.2 (bt144.1 != bt146.1)) else (laws_FnSigns.j0 k bt141.1 bt141.2.1 bt141.2.2 bt144.1 bt144.2 true))))) = some r := by rw [if_neg (show ¬ (false = true) by decide)] at H; exact H
    clear H
    have H := H1
    clear H1
    replace H := Option.bind_eq_some_iff.mp H
    obtain ⟨⟨t141, t142, t143⟩, A40, H⟩ := H
    replace H : ((impl_IsSignificant.f k t141 t142 t143).bind fun bt144 => ((spec_IsSignificant.f k t141 t142 t143).bind fun bt146 => (if bt144.2 = bt146.2 then (laws_FnSigns.j0 k t141 t142 t143 bt144.1 bt144.2 (bt144.1 != bt146.1)) else (laws_FnSigns.j0 k t141 t142 t143 bt144.1 bt144.2 true)))) = some r := H
    have A4 := Aside0.mk A40
    clear A40
    replace H := Option.bind_eq_some_iff.mp H
    obtain ⟨⟨t144, t145⟩, A50, H⟩ := H
    replace H : ((spec_IsSignificant.f k t141 t142 t143).bind fun bt146 => (if t145 = bt146.2 then (laws_FnSigns.j0 k t141 t142 t143 t144 t145 (t144 != bt146.1)) else (laws_FnSigns.j0 k t141 t142 t143 t144 t145 true))) = some r := H
    have A5 := Aside0.mk A50
    clear A50
    replace H := Option.bind_eq_some_iff.mp H
    obtain ⟨⟨t146, t147⟩, A60, H⟩ := H
    replace H : (if t145 = t147 then (laws_FnSigns.j0 k t141 t142 t143 t144 t145 (t144 != t146)) else (laws_FnSigns.j0 k t141 t142 t143 t144 t145 true)) = some r := H
    have A6 := Aside0.mk A60
    clear A60
    have HC7 := Aside0.mk H
    clear H
    go_enter Try.func13, Try.ntmps13
    go_upto_region 6 with (first | ((with_reducible refine gate_callee (f := 26) rfl ?_); refine goesL_ (some 17) rfl rfl Try.func26 (by kernel_rfl) rfl #[.slice A0 l0.length c0] rfl (by (try simp only [List.map_toArray, List.map_cons, List.map_nil]); first | done | rfl | (simp only [List.length_drop, List.length_take]; rfl)) ?_; (with_reducible refine (laws_big.calls _ _ l0 false _ ?side1 ?side2 A2.out).mono ?_); (case side1 => repeat (first | exact HR0.out | (with_reducible refine Kd.C_alloc ?_ _) | (with_reducible refine Kd.C_drewN ?_ _) | (with_reducible refine Kd.C_drew ?_))); (case side2 => exact HC0.out); rintro e w' ⟨rfl, ⟨nd, rfl⟩⟩; refine ⟨_, rfl, ?_⟩) | ((with_reducible refine gate_callee (f := 39) rfl ?_); refine goesL_ (some 20) rfl rfl Try.func39 (by kernel_rfl) rfl #[.slice A0 l0.length c0] rfl (by (try simp only [List.map_toArray, List.map_cons, List.map_nil]); first | done | rfl | (simp only [List.length_drop, List.length_take]; rfl)) ?_; (with_reducible refine (spec_DrawIsSignificant.calls k _ _ l0 t141 t142 t143 _ ?side1 ?side2 A4.out).mono ?_); (case side1 => repeat (first | exact HR0.out | (with_reducible refine Kd.C_alloc ?_ _) | (with_reducible refine Kd.C_drewN ?_ _) | (with_reducible refine Kd.C_drew ?_))); (case side2 => exact HC0.out); rintro e w8 ⟨rfl, hb⟩; refine ⟨_, rfl, ?_⟩; have n0_ := Aside0.mk (below_step (by repeat (first | (with_reducible first | exact HB.out | apply below_alloc | apply pw_below_drewN | apply below_drew1) | exact HB.out)) hb); clear HB; have HB := n0_; clear n0_; (try clear hb); (try clear hb2); (try clear hk); (try clear hi)) | ((with_reducible refine gate_callee (f := 25) rfl ?_); refine goesL_ (some 28) rfl rfl Try.func25 (by kernel_rfl) rfl #[.int .i64 t141, .int .i64 t142, .int .i64 t143] rfl (by (try simp only [List.map_toArray, List.map_cons, List.map_nil]); first | done | rfl | (simp only [List.length_drop, List.length_take]; rfl)) ?_; (with_reducible refine (impl_IsSignificant.calls k t141 t142 t143 t144 t145 _ A5.out).mono ?_); rintro e w9 ⟨rfl, hb⟩; refine ⟨_, rfl, ?_⟩; have n0_ := Aside0.mk (below_step (by repeat (first | (with_reducible first | exact HB.out | apply below_alloc | apply pw_below_drewN | apply below_drew1) | exact HB.out)) hb); clear HB; have HB := n0_; clear n0_; (try clear hb); (try clear hb2); (try clear hk); (try clear hi)) | ((with_reducible refine gate_callee (f := 24) rfl ?_); refine goesL_ (some 35) rfl rfl Try.func24 (by kernel_rfl) rfl #[.int .i64 t141, .int .i64 t142, .int .i64 t143] rfl (by (try simp only [List.map_toArray, List.map_cons, List.map_nil]); first | done | rfl | (simp only [List.length_drop, List.length_take]; rfl)) ?_; (with_reducible refine (spec_IsSignificant.calls k t141 t142 t143 t146 t147 _ A6.out).mono ?_); rintro e w10 ⟨rfl, hb⟩; refine ⟨_, rfl, ?_⟩; have n0_ := Aside0.mk (below_step (by repeat (first | (with_reducible first | exact HB.out | apply below_alloc | apply pw_below_drewN | apply below_drew1) | exact HB.out)) hb); clear HB; have HB := n0_; clear n0_; (try clear hb); (try clear hb2); (try clear hk); (try clear hi)))
    (try simp only [Act.put, List.setIfInBounds_toArray, List.set_cons_zero, List.set_cons_succ])
    go_cut [45] (fun v45 wc => ∃ (kq : Nat) (x45_6 : Bool), v45 = .bool x45_6 ∧ Aside0 (laws_FnSigns.j0 kq t141 t142 t143 t144 t145 x45_6 = some r) ∧ Aside0 (kq ≤ k) ∧ Aside0 (Below w.heap.size w wc))
    case first =>
      have H := HC7.out
      clear HC7
      by_cases c11 : t145 = t147
      · rw [if_pos c11] at H
        have c11b0 : (t145 == t147) = true := beq_iff_eq.mpr c11
        have c11b1 : (t145 != t147) = false := bne_eq_false_iff_eq.mpr c11
        clear c11
        (first | rw [c11b0] | (simp only [i64_w, i32_w]; rw [c11b0]) | skip)
        have H' := Aside0.mk H
        clear H
        go_wp2
        go_meet
        case rel => exact ⟨_, ((t144 != t146)), (by first | rfl | (simp; done) | (simp [*]; done)), H', ⟨by first | omega | exact Nat.le_refl _⟩, ⟨by repeat (first | (with_reducible first | exact HB.out | apply below_alloc | apply pw_below_drewN | apply below_drew1) | exact HB.out)⟩⟩
      · rw [if_neg c11] at H
        have c11b0 : (t145 == t147) = false := beq_eq_false_iff_ne.mpr c11
        have c11b1 : (t145 != t147) = true := bne_iff_ne.mpr c11
        (first | rw [c11b0] | (simp only [i64_w, i32_w]; rw [c11b0]) | skip)
        have H' := Aside0.mk H
        clear H
        go_wp2
        go_meet
        case rel => exact ⟨_, (true), (by first | rfl | (simp; done) | (simp [*]; done)), H', ⟨by first | omega | exact Nat.le_refl _⟩, ⟨by repeat (first | (with_reducible first | exact HB.out | apply below_alloc | apply pw_below_drewN | apply below_drew1) | exact HB.out)⟩⟩
    case rest =>
      clear HC7
      try clear c1
      try clear c2
      try clear p2
      try clear c3
      try clear c11
      try clear c11b0
      try clear c11b1
      obtain ⟨kq, x45_6, rfl, HA, HJ6, HB⟩ := hcut
      cases kq with
      | zero => exact absurd HA.out (by simp [laws_FnSigns.j0])
      | succ kj6 =>
        have H := HA.out
        clear HA
        simp only [laws_FnSigns.j0] at H
        by_cases c12 : x45_6 = true
        · subst c12
          have H1 : (some false) = some r := by rw [if_pos rfl] at H; exact H
          clear H
          have H := H1
          clear H1
          obtain rfl := Option.some.inj H
          go_wp2
          go_ret
          exact ⟨by first | rfl | (simp [errW_none, errW_some] <;> rfl) | (simp [*, errW_none, errW_some] <;> rfl), by repeat (first | (with_reducible first | exact HB.out | apply below_alloc | apply pw_below_drewN | apply below_drew1) | exact HB.out)⟩
        · replace c12 := Bool.eq_false_iff.mpr c12
          subst c12
          have H1 : (if t145 = 0 then ((impl_IsSignificant.f kj6 t141 (wrap64 (t141 - t142)) t143).bind fun bt148 => ((impl_SignTail.f kj6 t141 t142).bind fun bt150 => (if t142 > 0 then ((impl_SignTail.f kj6 t141 (wrap64 ((wrap64 (t141 - t142)) + 1))).bind fun bt152 => (if bt148.2 = 0 then (if (bt148.1 == t144) = true then (if bt150.2 = 0 then (if bt152.2 = 0 then (if 0 ≤ (IntKind.u64.wrap (t141)) then (some ((wrap64 (bt150.1 + bt152.1)) == (shl .i64 1 (IntKind.u64.wrap (t141))))) else (none)) else (some false)) else (some false)) else (some false)) else (some false))) else (if bt148.2 = 0 then (if (bt148.1 == t144) = true then (if bt150.2 = 0 then (if 0 = 0 then (if 0 ≤ (IntKind.u64.wrap (t141)) then (some ((wrap64 (bt150.1 + 0)) == (shl .i64 1 (IntKind.u64.wrap (t141))))) else (none)) else (some false)) else (some false)) else (some false)) else (some false))))) else (some true)) = some r := by rw [if_neg (show ¬ (false = true) by decide)] at H; exact H
          clear H
          have H := H1
          clear H1
          by_cases c13 : t145 = 0
          · rw [if_pos c13] at H
            have c13b0 : (t145 == 0) = true := beq_iff_eq.mpr c13
            have c13b1 : (t145 != 0) = false := bne_eq_false_iff_eq.mpr c13
            clear c13
            replace H := Option.bind_eq_some_iff.mp H
            obtain ⟨⟨t148, t149⟩, A140, H⟩ := H
            replace H : ((impl_SignTail.f kj6 t141 t142).bind fun bt150 => (if t142 > 0 then ((impl_SignTail.f kj6 t141 (wrap64 ((wrap64 (t141 - t142)) + 1))).bind fun bt152 => (if t149 = 0 then (if (t148 == t144) = true then (if bt150.2 = 0 then (if bt152.2 = 0 then (if 0 ≤ (IntKind.u64.wrap (t141)) then (some ((wrap64 (bt150.1 + bt152.1)) == (shl .i64 1 (IntKind.u64.wrap (t141))))) else (none)) else (some false)) else (some false)) else (some false)) else (some false))) else (if t149 = 0 then (if (t148 == t144) = true then (if bt150.2 = 0 then (if 0 = 0 then (if 0 ≤ (IntKind.u64.wrap (t141)) then (some ((wrap64 (bt150.1 + 0)) == (shl .i64 1 (IntKind.u64.wrap (t141))))) else (none)) else (some false)) else (some false)) else (some false)) else (some false)))) = some r := H
            have A14 := Aside0.mk A140
            clear A140
            replace H := Option.bind_eq_some_iff.mp H
            obtain ⟨⟨t150, t151⟩, A150, H⟩ := H
            replace H : (if t142 > 0 then ((impl_SignTail.f kj6 t141 (wrap64 ((wrap64 (t141 - t142)) + 1))).bind fun bt152 => (if t149 = 0 then (if (t148 == t144) = true then (if t151 = 0 then (if bt152.2 = 0 then (if 0 ≤ (IntKind.u64.wrap (t141)) then (some ((wrap64 (t150 + bt152.1)) == (shl .i64 1 (IntKind.u64.wrap (t141))))) else (none)) else (some false)) else (some false)) else (some false)) else (some false))) else (if t149 = 0 then (if (t148 == t144) = true then (if t151 = 0 then (if 0 = 0 then (if 0 ≤ (IntKind.u64.wrap (t141)) then (some ((wrap64 (t150 + 0)) == (shl .i64 1 (IntKind.u64.wrap (t141))))) else (none)) else (some false)) else (some false)) else (some false)) else (some false))) = some r := H
            have A15 := Aside0.mk A150
            clear A150
            by_cases c16 : t142 > 0
            · rw [if_pos c16] at H
              have c16b0 : decide (0 < t142) = true := decide_eq_true c16
              clear c16
              replace H := Option.bind_eq_some_iff.mp H
              obtain ⟨⟨t152, t153⟩, A170, H⟩ := H
              replace H : (if t149 = 0 then (if (t148 == t144) = true then (if t151 = 0 then (if t153 = 0 then (if 0 ≤ (IntKind.u64.wrap (t141)) then (some ((wrap64 (t150 + t152)) == (shl .i64 1 (IntKind.u64.wrap (t141))))) else (none)) else (some false)) else (some false)) else (some false)) else (some false)) = some r := H
              have A17 := Aside0.mk A170
              clear A170
              by_cases c18 : t149 = 0
              · rw [if_pos c18] at H
                have c18b0 : (t149 == 0) = true := beq_iff_eq.mpr c18
                have c18b1 : (t149 != 0) = false := bne_eq_false_iff_eq.mpr c18
                clear c18
                by_cases c19 : (t148 == t144) = true
                · rw [if_pos c19] at H
                  have c19b0 : (t148 == t144) = true := c19
                  (try (have c19b1 : decide (t148 = t144) = true := by simpa using c19))
                  (try (have c19b2 : (t148 == t144) = true := by simpa using c19))
                  clear c19
                  by_cases c20 : t151 = 0
                  · rw [if_pos c20] at H
                    have c20b0 : (t151 == 0) = true := beq_iff_eq.mpr c20
                    have c20b1 : (t151 != 0) = false := bne_eq_false_iff_eq.mpr c20
                    clear c20
                    by_cases c21 : t153 = 0
                    · rw [if_pos c21] at H
                      have c21b0 : (t153 == 0) = true := beq_iff_eq.mpr c21
                      have c21b1 : (t153 != 0) = false := bne_eq_false_iff_eq.mpr c21
                      clear c21
                      obtain ⟨ji22, hji22⟩ : ∃ j_ : Int, (IntKind.u64.wrap (t141)) = j_ := ⟨_, rfl⟩
                      replace H : (if 0 ≤ (ji22) then (some ((wrap64 (t150 + t152)) == (shl .i64 1 (ji22)))) else (none)) = some r := by first | (rw [hji22] at H; exact H) | (simp only [hji22] at H ⊢; exact H)
                      (try rw [hji22] at A14)
                      (try rw [hji22] at A15)
                      (try rw [hji22] at A17)
                      by_cases c23 : 0 ≤ (ji22)
                      · rw [if_pos c23] at H
                        have c23b0 := eq_true c23
                        have c23b1 : decide (0 ≤ (ji22)) = true := decide_eq_true c23
                        clear c23
                        obtain ⟨ji24, hji24⟩ : ∃ j_ : Int, (shl .i64 1 (ji22)) = j_ := ⟨_, rfl⟩
                        replace H : (some ((wrap64 (t150 + t152)) == (ji24))) = some r := by first | (rw [hji24] at H; exact H) | (simp only [hji24] at H ⊢; exact H)
                        (try rw [hji24] at A14)
                        (try rw [hji24] at A15)
                        (try rw [hji24] at A17)
                        have hji24_ : (IntKind.i64.wrap (1 * 2 ^ min (ji22).toNat 64)) = ji24 := hji24
                        have hji24z : (ji22) ≤ 64 → (IntKind.i64.wrap (1 * 2 ^ (ji22).toNat)) = ji24 := shl_small hji24
                        have hji24u : (IntKind.i64.wrap (2 ^ min (ji22).toNat 64)) = ji24 := by have h_ := hji24_; rw [Int.one_mul] at h_; exact h_
                        have hji24v : (ji22) ≤ 64 → (IntKind.i64.wrap (2 ^ (ji22).toNat)) = ji24 := fun hle_ => by have h_ := hji24z hle_; rw [Int.one_mul] at h_; exact h_
                        have hji24y : (wrap64 (1 * 2 ^ min (ji22).toNat 64)) = ji24 := (i64_w _).symm.trans hji24_
                        have hji24x : (ji22) ≤ 64 → (wrap64 (1 * 2 ^ (ji22).toNat)) = ji24 := fun h_ => (i64_w _).symm.trans (hji24z h_)
                        obtain rfl := Option.some.inj H
                        go_wp2_with (first | ((with_reducible refine gate_callee (f := 25) rfl ?_); refine goesL_ (some 54) rfl rfl Try.func25 (by kernel_rfl) rfl #[.int .i64 t141, .int .i64 (wrap64 (t141 - t142)), .int .i64 t143] rfl (by (try simp only [List.map_toArray, List.map_cons, List.map_nil]); first | done | rfl | (simp only [List.length_drop, List.length_take]; rfl)) ?_; (with_reducible refine (impl_IsSignificant.calls kj6 t141 (wrap64 (t141 - t142)) t143 t148 t149 _ A14.out).mono ?_); rintro e w25 ⟨rfl, hb⟩; refine ⟨_, rfl, ?_⟩; have n0_ := Aside0.mk (below_step (by repeat (first | (with_reducible first | exact HB.out | apply below_alloc | apply pw_below_drewN | apply below_drew1) | exact HB.out)) hb); clear HB; have HB := n0_; clear n0_; (try clear hb); (try clear hb2); (try clear hk); (try clear hi)) | ((with_reducible refine gate_callee (f := 23) rfl ?_); refine goesL_ (some 60) rfl rfl Try.func23 (by kernel_rfl) rfl #[.int .i64 t141, .int .i64 t142] rfl (by (try simp only [List.map_toArray, List.map_cons, List.map_nil]); first | done | rfl | (simp only [List.length_drop, List.length_take]; rfl)) ?_; (with_reducible refine (impl_SignTail.calls kj6 t141 t142 t150 t151 _ A15.out).mono ?_); rintro e w' ⟨rfl, ⟨nd, rfl⟩⟩; refine ⟨_, rfl, ?_⟩) | ((with_reducible refine gate_callee (f := 23) rfl ?_); refine goesL_ (some 71) rfl rfl Try.func23 (by kernel_rfl) rfl #[.int .i64 t141, .int .i64 (wrap64 ((wrap64 (t141 - t142)) + 1))] rfl (by (try simp only [List.map_toArray, List.map_cons, List.map_nil]); first | done | rfl | (simp only [List.length_drop, List.length_take]; rfl)) ?_; (with_reducible refine (impl_SignTail.calls kj6 t141 (wrap64 ((wrap64 (t141 - t142)) + 1)) t152 t153 _ A17.out).mono ?_); rintro e w' ⟨rfl, ⟨nd, rfl⟩⟩; refine ⟨_, rfl, ?_⟩))
                        go_ret
                        exact ⟨by first | rfl | (simp [errW_none, errW_some] <;> rfl) | (simp only [← hji22, ← hji24]; first | rfl | (simp [errW_none, errW_some] <;> rfl)) | (simp [*, errW_none, errW_some] <;> rfl), by repeat (first | (with_reducible first | exact HB.out | apply below_alloc | apply pw_below_drewN | apply below_drew1) | exact HB.out)⟩
                      · rw [if_neg c23] at H
                        exact absurd H (by simp)
                    · rw [if_neg c21] at H
                      have c21b0 : (t153 == 0) = false := beq_eq_false_iff_ne.mpr c21
                      have c21b1 : (t153 != 0) = true := bne_iff_ne.mpr c21
                      obtain rfl := Option.some.inj H
                      go_wp2_with (first | ((with_reducible refine gate_callee (f := 25) rfl ?_); refine goesL_ (some 54) rfl rfl Try.func25 (by kernel_rfl) rfl #[.int .i64 t141, .int .i64 (wrap64 (t141 - t142)), .int .i64 t143] rfl (by (try simp only [List.map_toArray, List.map_cons, List.map_nil]); first | done | rfl | (simp only [List.length_drop, List.length_take]; rfl)) ?_; (with_reducible refine (impl_IsSignificant.calls kj6 t141 (wrap64 (t141 - t142)) t143 t148 t149 _ A14.out).mono ?_); rintro e w26 ⟨rfl, hb⟩; refine ⟨_, rfl, ?_⟩; have n0_ := Aside0.mk (below_step (by repeat (first | (with_reducible first | exact HB.out | apply below_alloc | apply pw_below_drewN | apply below_drew1) | exact HB.out)) hb); clear HB; have HB := n0_; clear n0_; (try clear hb); (try clear hb2); (try clear hk); (try clear hi)) | ((with_reducible refine gate_callee (f := 23) rfl ?_); refine goesL_ (some 60) rfl rfl Try.func23 (by kernel_rfl) rfl #[.int .i64 t141, .int .i64 t142] rfl (by (try simp only [List.map_toArray, List.map_cons, List.map_nil]); first | done | rfl | (simp only [List.length_drop, List.length_take]; rfl)) ?_; (with_reducible refine (impl_SignTail.calls kj6 t141 t142 t150 t151 _ A15.out).mono ?_); rintro e w' ⟨rfl, ⟨nd, rfl⟩⟩; refine ⟨_, rfl, ?_⟩) | ((with_reducible refine gate_callee (f := 23) rfl ?_); refine goesL_ (some 71) rfl rfl Try.func23 (by kernel_rfl) rfl #[.int .i64 t141, .int .i64 (wrap64 ((wrap64 (t141 - t142)) + 1))] rfl (by (try simp only [List.map_toArray, List.map_cons, List.map_nil]); first | done | rfl | (simp only [List.length_drop, List.length_take]; rfl)) ?_; (with_reducible refine (impl_SignTail.calls kj6 t141 (wrap64 ((wrap64 (t141 - t142)) + 1)) t152 t153 _ A17.out).mono ?_); rintro e w' ⟨rfl, ⟨nd, rfl⟩⟩; refine ⟨_, rfl, ?_⟩))
                      go_ret
                      exact ⟨by first | rfl | (simp [errW_none, errW_some] <;> rfl) | (simp [*, errW_none, errW_some] <;> rfl), by repeat (first | (with_reducible first | exact HB.out | apply below_alloc | apply pw_below_drewN | apply below_drew1) | exact HB.out)⟩
                  · rw [if_neg c20] at H
                    have c20b0 : (t151 == 0) = false := beq_eq_false_iff_ne.mpr c20
                    have c20b1 : (t151 != 0) = true := bne_iff_ne.mpr c20
                    obtain rfl := Option.some.inj H
                    go_wp2_with (first | ((with_reducible refine gate_callee (f := 25) rfl ?_); refine goesL_ (some 54) rfl rfl Try.func25 (by kernel_rfl) rfl #[.int .i64 t141, .int .i64 (wrap64 (t141 - t142)), .int .i64 t143] rfl (by (try simp only [List.map_toArray, List.map_cons, List.map_nil]); first | done | rfl | (simp only [List.length_drop, List.length_take]; rfl)) ?_; (with_reducible refine (impl_IsSignificant.calls kj6 t141 (wrap64 (t141 - t142)) t143 t148 t149 _ A14.out).mono ?_); rintro e w27 ⟨rfl, hb⟩; refine ⟨_, rfl, ?_⟩; have n0_ := Aside0.mk (below_step (by repeat (first | (with_reducible first | exact HB.out | apply below_alloc | apply pw_below_drewN | apply below_drew1) | exact HB.out)) hb); clear HB; have HB := n0_; clear n0_; (try clear hb); (try clear hb2); (try clear hk); (try clear hi)) | ((with_reducible refine gate_callee (f := 23) rfl ?_); refine goesL_ (some 60) rfl rfl Try.func23 (by kernel_rfl) rfl #[.int .i64 t141, .int .i64 t142] rfl (by (try simp only [List.map_toArray, List.map_cons, List.map_nil]); first | done | rfl | (simp only [List.length_drop, List.length_take]; rfl)) ?_; (with_reducible refine (impl_SignTail.calls kj6 t141 t142 t150 t151 _ A15.out).mono ?_); rintro e w' ⟨rfl, ⟨nd, rfl⟩⟩; refine ⟨_, rfl, ?_⟩) | ((with_reducible refine gate_callee (f := 23) rfl ?_); refine goesL_ (some 71) rfl rfl Try.func23 (by kernel_rfl) rfl #[.int .i64 t141, .int .i64 (wrap64 ((wrap64 (t141 - t142)) + 1))] rfl (by (try simp only [List.map_toArray, List.map_cons, List.map_nil]); first | done | rfl | (simp only [List.length_drop, List.length_take]; rfl)) ?_; (with_reducible refine (impl_SignTail.calls kj6 t141 (wrap64 ((wrap64 (t141 - t142)) + 1)) t152 t153 _ A17.out).mono ?_); rintro e w' ⟨rfl, ⟨nd, rfl⟩⟩; refine ⟨_, rfl, ?_⟩))
                    go_ret
                    exact ⟨by first | rfl | (simp [errW_none, errW_some] <;> rfl) | (simp [*, errW_none, errW_some] <;> rfl), by repeat (first | (with_reducible first | exact HB.out | apply below_alloc | apply pw_below_drewN | apply below_drew1) | exact HB.out)⟩
                · rw [if_neg c19] at H
                  have c19b0 : (t148 == t144) = false := by simpa using c19
                  (try (have c19b1 : decide (t148 = t144) = false := by simpa using c19))
                  (try (have c19b2 : (t148 == t144) = false := by simpa using c19))
                  (try (have c19b3 : ¬ (t148 = t144) := by simpa using c19))
                  clear c19
                  obtain rfl := Option.some.inj H
                  go_wp2_with (first | ((with_reducible refine gate_callee (f := 25) rfl ?_); refine goesL_ (some 54) rfl rfl Try.func25 (by kernel_rfl) rfl #[.int .i64 t141, .int .i64 (wrap64 (t141 - t142)), .int .i64 t143] rfl (by (try simp only [List.map_toArray, List.map_cons, List.map_nil]); first | done | rfl | (simp only [List.length_drop, List.length_take]; rfl)) ?_; (with_reducible refine (impl_IsSignificant.calls kj6 t141 (wrap64 (t141 - t142)) t143 t148 t149 _ A14.out).mono ?_); rintro e w28 ⟨rfl, hb⟩; refine ⟨_, rfl, ?_⟩; have n0_ := Aside0.mk (below_step (by repeat (first | (with_reducible first | exact HB.out | apply below_alloc | apply pw_below_drewN | apply below_drew1) | exact HB.out)) hb); clear HB; have HB := n0_; clear n0_; (try clear hb); (try clear hb2); (try clear hk); (try clear hi)) | ((with_reducible refine gate_callee (f := 23) rfl ?_); refine goesL_ (some 60) rfl rfl Try.func23 (by kernel_rfl) rfl #[.int .i64 t141, .int .i64 t142] rfl (by (try simp only [List.map_toArray, List.map_cons, List.map_nil]); first | done | rfl | (simp only [List.length_drop, List.length_take]; rfl)) ?_; (with_reducible refine (impl_SignTail.calls kj6 t141 t142 t150 t151 _ A15.out).mono ?_); rintro e w' ⟨rfl, ⟨nd, rfl⟩⟩; refine ⟨_, rfl, ?_⟩) | ((with_reducible refine gate_callee (f := 23) rfl ?_); refine goesL_ (some 71) rfl rfl Try.func23 (by kernel_rfl) rfl #[.int .i64 t141, .int .i64 (wrap64 ((wrap64 (t141 - t142)) + 1))] rfl (by (try simp only [List.map_toArray, List.map_cons, List.map_nil]); first | done | rfl | (simp only [List.length_drop, List.length_take]; rfl)) ?_; (with_reducible refine (impl_SignTail.calls kj6 t141 (wrap64 ((wrap64 (t141 - t142)) + 1)) t152 t153 _ A17.out).mono ?_); rintro e w' ⟨rfl, ⟨nd, rfl⟩⟩; refine ⟨_, rfl, ?_⟩))
                  go_ret
                  exact ⟨by first | rfl | (simp [errW_none, errW_some] <;> rfl) | (simp [*, errW_none, errW_some] <;> rfl), by repeat (first | (with_reducible first | exact HB.out | apply below_alloc | apply pw_below_drewN | apply below_drew1) | exact HB.out)⟩
              · rw [if_neg c18] at H
                have c18b0 : (t149 == 0) = false := beq_eq_false_iff_ne.mpr c18
                have c18b1 : (t149 != 0) = true := bne_iff_ne.mpr c18
                obtain rfl := Option.some.inj H
                go_wp2_with (first | ((with_reducible refine gate_callee (f := 25) rfl ?_); refine goesL_ (some 54) rfl rfl Try.func25 (by kernel_rfl) rfl #[.int .i64 t141, .int .i64 (wrap64 (t141 - t142)), .int .i64 t143] rfl (by (try simp only [List.map_toArray, List.map_cons, List.map_nil]); first | done | rfl | (simp only [List.length_drop, List.length_take]; rfl)) ?_; (with_reducible refine (impl_IsSignificant.calls kj6 t141 (wrap64 (t141 - t142)) t143 t148 t149 _ A14.out).mono ?_); rintro e w29 ⟨rfl, hb⟩; refine ⟨_, rfl, ?_⟩; have n0_ := Aside0.mk (below_step (by repeat (first | (with_reducible first | exact HB.out | apply below_alloc | apply pw_below_drewN | apply below_drew1) | exact HB.out)) hb); clear HB; have HB := n0_; clear n0_; (try clear hb); (try clear hb2); (try clear hk); (try clear hi)) | ((with_reducible refine gate_callee (f := 23) rfl ?_); refine goesL_ (some 60) rfl rfl Try.func23 (by kernel_rfl) rfl #[.int .i64 t141, .int .i64 t142] rfl (by (try simp only [List.map_toArray, List.map_cons, List.map_nil]); first | done | rfl | (simp only [List.length_drop, List.length_take]; rfl)) ?_; (with_reducible refine (impl_SignTail.calls kj6 t141 t142 t150 t151 _ A15.out).mono ?_); rintro e w' ⟨rfl, ⟨nd, rfl⟩⟩; refine ⟨_, rfl, ?_⟩) | ((with_reducible refine gate_callee (f := 23) rfl ?_); refine goesL_ (some 71) rfl rfl Try.func23 (by kernel_rfl) rfl #[.int .i64 t141, .int .i64 (wrap64 ((wrap64 (t141 - t142)) + 1))] rfl (by (try simp only [List.map_toArray, List.map_cons, List.map_nil]); first | done | rfl | (simp only [List.length_drop, List.length_take]; rfl)) ?_; (with_reducible refine (impl_SignTail.calls kj6 t141 (wrap64 ((wrap64 (t141 - t142)) + 1)) t152 t153 _ A17.out).mono ?_); rintro e w' ⟨rfl, ⟨nd, rfl⟩⟩; refine ⟨_, rfl, ?_⟩))
                go_ret
                exact ⟨by first | rfl | (simp [errW_none, errW_some] <;> rfl) | (simp [*, errW_none, errW_some] <;> rfl), by repeat (first | (with_reducible first | exact HB.out | apply below_alloc | apply pw_below_drewN | apply below_drew1) | exact HB.out)⟩
            · rw [if_neg c16] at H
              have c16b0 : decide (0 < t142) = false := decide_eq_false c16
              clear c16
              by_cases c30 : t149 = 0
              · rw [if_pos c30] at H
                have c30b0 : (t149 == 0) = true := beq_iff_eq.mpr c30
                have c30b1 : (t149 != 0) = false := bne_eq_false_iff_eq.mpr c30
                clear c30
                by_cases c31 : (t148 == t144) = true
                · rw [if_pos c31] at H
                  have c31b0 : (t148 == t144) = true := c31
                  (try (have c31b1 : decide (t148 = t144) = true := by simpa using c31))
                  (try (have c31b2 : (t148 == t144) = true := by simpa using c31))
                  clear c31
                  by_cases c32 : t151 = 0
                  · rw [if_pos c32] at H
                    have c32b0 : (t151 == 0) = true := beq_iff_eq.mpr c32
                    have c32b1 : (t151 != 0) = false := bne_eq_false_iff_eq.mpr c32
                    clear c32
                    by_cases c33 : 0 = 0
                    · rw [if_pos c33] at H
                      have c33b0 : (0 == 0) = true := beq_iff_eq.mpr c33
                      have c33b1 : (0 != 0) = false := bne_eq_false_iff_eq.mpr c33
                      clear c33
                      obtain ⟨ji34, hji34⟩ : ∃ j_ : Int, (IntKind.u64.wrap (t141)) = j_ := ⟨_, rfl⟩
                      replace H : (if 0 ≤ (ji34) then (some ((wrap64 (t150 + 0)) == (shl .i64 1 (ji34)))) else (none)) = some r := by first | (rw [hji34] at H; exact H) | (simp only [hji34] at H ⊢; exact H)
                      (try rw [hji34] at A14)
                      (try rw [hji34] at A15)
                      by_cases c35 : 0 ≤ (ji34)
                      · rw [if_pos c35] at H
                        have c35b0 := eq_true c35
                        have c35b1 : decide (0 ≤ (ji34)) = true := decide_eq_true c35
                        clear c35
                        obtain ⟨ji36, hji36⟩ : ∃ j_ : Int, (shl .i64 1 (ji34)) = j_ := ⟨_, rfl⟩
                        replace H : (some ((wrap64 (t150 + 0)) == (ji36))) = some r := by first | (rw [hji36] at H; exact H) | (simp only [hji36] at H ⊢; exact H)
                        (try rw [hji36] at A14)
                        (try rw [hji36] at A15)
                        have hji36_ : (IntKind.i64.wrap (1 * 2 ^ min (ji34).toNat 64)) = ji36 := hji36
                        have hji36z : (ji34) ≤ 64 → (IntKind.i64.wrap (1 * 2 ^ (ji34).toNat)) = ji36 := shl_small hji36
                        have hji36u : (IntKind.i64.wrap (2 ^ min (ji34).toNat 64)) = ji36 := by have h_ := hji36_; rw [Int.one_mul] at h_; exact h_
                        have hji36v : (ji34) ≤ 64 → (IntKind.i64.wrap (2 ^ (ji34).toNat)) = ji36 := fun hle_ => by have h_ := hji36z hle_; rw [Int.one_mul] at h_; exact h_
                        have hji36y : (wrap64 (1 * 2 ^ min (ji34).toNat 64)) = ji36 := (i64_w _).symm.trans hji36_
                        have hji36x : (ji34) ≤ 64 → (wrap64 (1 * 2 ^ (ji34).toNat)) = ji36 := fun h_ => (i64_w _).symm.trans (hji36z h_)
                        obtain rfl := Option.some.inj H
                        go_wp2_with (first | ((with_reducible refine gate_callee (f := 25) rfl ?_); refine goesL_ (some 54) rfl rfl Try.func25 (by kernel_rfl) rfl #[.int .i64 t141, .int .i64 (wrap64 (t141 - t142)), .int .i64 t143] rfl (by (try simp only [List.map_toArray, List.map_cons, List.map_nil]); first | done | rfl | (simp only [List.length_drop, List.length_take]; rfl)) ?_; (with_reducible refine (impl_IsSignificant.calls kj6 t141 (wrap64 (t141 - t142)) t143 t148 t149 _ A14.out).mono ?_); rintro e w37 ⟨rfl, hb⟩; refine ⟨_, rfl, ?_⟩; have n0_ := Aside0.mk (below_step (by repeat (first | (with_reducible first | exact HB.out | apply below_alloc | apply pw_below_drewN | apply below_drew1) | exact HB.out)) hb); clear HB; have HB := n0_; clear n0_; (try clear hb); (try clear hb2); (try clear hk); (try clear hi)) | ((with_reducible refine gate_callee (f := 23) rfl ?_); refine goesL_ (some 60) rfl rfl Try.func23 (by kernel_rfl) rfl #[.int .i64 t141, .int .i64 t142] rfl (by (try simp only [List.map_toArray, List.map_cons, List.map_nil]); first | done | rfl | (simp only [List.length_drop, List.length_take]; rfl)) ?_; (with_reducible refine (impl_SignTail.calls kj6 t141 t142 t150 t151 _ A15.out).mono ?_); rintro e w' ⟨rfl, ⟨nd, rfl⟩⟩; refine ⟨_, rfl, ?_⟩))
                        go_ret
                        exact ⟨by first | rfl | (simp [errW_none, errW_some] <;> rfl) | (simp only [← hji34, ← hji36]; first | rfl | (simp [errW_none, errW_some] <;> rfl)) | (simp [*, errW_none, errW_some] <;> rfl), by repeat (first | (with_reducible first | exact HB.out | apply below_alloc | apply pw_below_drewN | apply below_drew1) | exact HB.out)⟩
                      · rw [if_neg c35] at H
                        exact absurd H (by simp)
                    · exact absurd rfl c33
                  · rw [if_neg c32] at H
                    have c32b0 : (t151 == 0) = false := beq_eq_false_iff_ne.mpr c32
                    have c32b1 : (t151 != 0) = true := bne_iff_ne.mpr c32
                    obtain rfl := Option.some.inj H
                    go_wp2_with (first | ((with_reducible refine gate_callee (f := 25) rfl ?_); refine goesL_ (some 54) rfl rfl Try.func25 (by kernel_rfl) rfl #[.int .i64 t141, .int .i64 (wrap64 (t141 - t142)), .int .i64 t143] rfl (by (try simp only [List.map_toArray, List.map_cons, List.map_nil]); first | done | rfl | (simp only [List.length_drop, List.length_take]; rfl)) ?_; (with_reducible refine (impl_IsSignificant.calls kj6 t141 (wrap64 (t141 - t142)) t143 t148 t149 _ A14.out).mono ?_); rintro e w39 ⟨rfl, hb⟩; refine ⟨_, rfl, ?_⟩; have n0_ := Aside0.mk (below_step (by repeat (first | (with_reducible first | exact HB.out | apply below_alloc | apply pw_below_drewN | apply below_drew1) | exact HB.out)) hb); clear HB; have HB := n0_; clear n0_; (try clear hb); (try clear hb2); (try clear hk); (try clear hi)) | ((with_reducible refine gate_callee (f := 23) rfl ?_); refine goesL_ (some 60) rfl rfl Try.func23 (by kernel_rfl) rfl #[.int .i64 t141, .int .i64 t142] rfl (by (try simp only [List.map_toArray, List.map_cons, List.map_nil]); first | done | rfl | (simp only [List.length_drop, List.length_take]; rfl)) ?_; (with_reducible refine (impl_SignTail.calls kj6 t141 t142 t150 t151 _ A15.out).mono ?_); rintro e w' ⟨rfl, ⟨nd, rfl⟩⟩; refine ⟨_, rfl, ?_⟩))
                    go_ret
                    exact ⟨by first | rfl | (simp [errW_none, errW_some] <;> rfl) | (simp [*, errW_none, errW_some] <;> rfl), by repeat (first | (with_reducible first | exact HB.out | apply below_alloc | apply pw_below_drewN | apply below_drew1) | exact HB.out)⟩
                · rw [if_neg c31] at H
                  have c31b0 : (t148 == t144) = false := by simpa using c31
                  (try (have c31b1 : decide (t148 = t144) = false := by simpa using c31))
                  (try (have c31b2 : (t148 == t144) = false := by simpa using c31))
                  (try (have c31b3 : ¬ (t148 = t144) := by simpa using c31))
                  clear c31
                  obtain rfl := Option.some.inj H
                  go_wp2_with (first | ((with_reducible refine gate_callee (f := 25) rfl ?_); refine goesL_ (some 54) rfl rfl Try.func25 (by kernel_rfl) rfl #[.int .i64 t141, .int .i64 (wrap64 (t141 - t142)), .int .i64 t143] rfl (by (try simp only [List.map_toArray, List.map_cons, List.map_nil]); first | done | rfl | (simp only [List.length_drop, List.length_take]; rfl)) ?_; (with_reducible refine (impl_IsSignificant.calls kj6 t141 (wrap64 (t141 - t142)) t143 t148 t149 _ A14.out).mono ?_); rintro e w40 ⟨rfl, hb⟩; refine ⟨_, rfl, ?_⟩; have n0_ := Aside0.mk (below_step (by repeat (first | (with_reducible first | exact HB.out | apply below_alloc | apply pw_below_drewN | apply below_drew1) | exact HB.out)) hb); clear HB; have HB := n0_; clear n0_; (try clear hb); (try clear hb2); (try clear hk); (try clear hi)) | ((with_reducible refine gate_callee (f := 23) rfl ?_); refine goesL_ (some 60) rfl rfl Try.func23 (by kernel_rfl) rfl #[.int .i64 t141, .int .i64 t142] rfl (by (try simp only [List.map_toArray, List.map_cons, List.map_nil]); first | done | rfl | (simp only [List.length_drop, List.length_take]; rfl)) ?_; (with_reducible refine (impl_SignTail.calls kj6 t141 t142 t150 t151 _ A15.out).mono ?_); rintro e w' ⟨rfl, ⟨nd, rfl⟩⟩; refine ⟨_, rfl, ?_⟩))
                  go_ret
                  exact ⟨by first | rfl | (simp [errW_none, errW_some] <;> rfl) | (simp [*, errW_none, errW_some] <;> rfl), by repeat (first | (with_reducible first | exact HB.out | apply below_alloc | apply pw_below_drewN | apply below_drew1) | exact HB.out)⟩
              · rw [if_neg c30] at H
                have c30b0 : (t149 == 0) = false := beq_eq_false_iff_ne.mpr c30
                have c30b1 : (t149 != 0) = true := bne_iff_ne.mpr c30
                obtain rfl := Option.some.inj H
                go_wp2_with (first | ((with_reducible refine gate_callee (f := 25) rfl ?_); refine goesL_ (some 54) rfl rfl Try.func25 (by kernel_rfl) rfl #[.int .i64 t141, .int .i64 (wrap64 (t141 - t142)), .int .i64 t143] rfl (by (try simp only [List.map_toArray, List.map_cons, List.map_nil]); first | done | rfl | (simp only [List.length_drop, List.length_take]; rfl)) ?_; (with_reducible refine (impl_IsSignificant.calls kj6 t141 (wrap64 (t141 - t142)) t143 t148 t149 _ A14.out).mono ?_); rintro e w41 ⟨rfl, hb⟩; refine ⟨_, rfl, ?_⟩; have n0_ := Aside0.mk (below_step (by repeat (first | (with_reducible first | exact HB.out | apply below_alloc | apply pw_below_drewN | apply below_drew1) | exact HB.out)) hb); clear HB; have HB := n0_; clear n0_; (try clear hb); (try clear hb2); (try clear hk); (try clear hi)) | ((with_reducible refine gate_callee (f := 23) rfl ?_); refine goesL_ (some 60) rfl rfl Try.func23 (by kernel_rfl) rfl #[.int .i64 t141, .int .i64 t142] rfl (by (try simp only [List.map_toArray, List.map_cons, List.map_nil]); first | done | rfl | (simp only [List.length_drop, List.length_take]; rfl)) ?_; (with_reducible refine (impl_SignTail.calls kj6 t141 t142 t150 t151 _ A15.out).mono ?_); rintro e w' ⟨rfl, ⟨nd, rfl⟩⟩; refine ⟨_, rfl, ?_⟩))
                go_ret
                exact ⟨by first | rfl | (simp [errW_none, errW_some] <;> rfl) | (simp [*, errW_none, errW_some] <;> rfl), by repeat (first | (with_reducible first | exact HB.out | apply below_alloc | apply pw_below_drewN | apply below_drew1) | exact HB.out)⟩
          · rw [if_neg c13] at H
            have c13b0 : (t145 == 0) = false := beq_eq_false_iff_ne.mpr c13
            have c13b1 : (t145 != 0) = true := bne_iff_ne.mpr c13
            obtain rfl := Option.some.inj H
            go_wp2
            go_ret
            exact ⟨by first | rfl | (simp [errW_none, errW_some] <;> rfl) | (simp [*, errW_none, errW_some] <;> rfl), by repeat (first | (with_reducible first | exact HB.out | apply below_alloc | apply pw_below_drewN | apply below_drew1) | exact HB.out)⟩

/-- THE ONE PURE STATEMENT of laws_FnSigns: yours. -/
def laws_FnSigns.Pure : Prop := ∀ (l0 : List Int), l0.length ≤ maxLen → l0.length * 1 ≤ 140737488351232 → (∀ x ∈ l0, (Lit.int .u8 x).wf = true) → ∃ k, laws_FnSigns.f k l0 = some true
theorem laws_FnSigns.walk (P : laws_FnSigns.Pure) (a0 : Option Addr) (len0 cap0 : Nat) (z0 : List Int) (w : World) (w0 : (a0 = none ∧ len0 = 0 ∧ cap0 = 0 ∧ z0 = []) ∨ ∃ x, a0 = some x ∧ len0 ≤ cap0 ∧ cap0 ≤ maxLen ∧ z0.length = cap0 ∧ (∀ i, i < z0.length → w.cell? (x.add i) = some (.int .u8 (z0.getD i 0))) ∧ ∀ n ∈ z0, (Lit.int .u8 n).wf = true) (y0 : len0 * 1 ≤ 140737488351232) :
    Calls Try.prog 13 #[.slice a0 len0 cap0] w fun e w' => e = .returned (.bool true) ∧ Below w.heap.size w w' := by
  obtain ⟨l0, rfl, hr0, hm0, hw0, hc0⟩ := ReadsInt.ofRowC w0
  obtain ⟨k, h⟩ := P l0 hm0 y0 hw0
  refine (laws_FnSigns.calls k _ _ l0 true w (Kd.C_of_reads (d := (0 : Int)) (h1 := fun _ => rfl) hr0) hc0 h).mono ?_
  rintro e w' ⟨rfl, hd⟩
  exact ⟨rfl, hd⟩

end Go.Proofs.Ytnidklakgdmkeaa.PFnSigns
