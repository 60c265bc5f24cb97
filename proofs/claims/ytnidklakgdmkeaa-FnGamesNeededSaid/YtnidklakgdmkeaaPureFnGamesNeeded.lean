/- The number of games that are needed is enough, and one fewer is not, at every drawn question. No condition. -/
import Derived.Test.YtnidklakgdmkeaaPFnGamesNeededx2
namespace Go.Proofs.Ytnidklakgdmkeaa.Pure
open Go.RowKit Go.Proofs.Ytnidklakgdmkeaa.PFnGamesNeeded Go.Proofs.YtnidklakgdmkeaaW.PrintWords Go.Proofs.YtnidklakgdmkeaaW.PrintLast Go.Proofs.YtnidklakgdmkeaaW.PrintMore

theorem w64 {x : Int} (h0 : -9223372036854775808 ≤ x) (h1 : x ≤ 9223372036854775807) : wrap64 x = x := by unfold wrap64; omega
theorem w64_nat (a : Nat) (h : a ≤ 9223372036854775807) : wrap64 (a : Int) = a := w64 (by omega) (by omega)
theorem w64_sub (a b : Nat) (h : b ≤ a) (ha : a ≤ 9223372036854775807) : wrap64 ((a : Int) - (b : Int)) = ((a - b : Nat) : Int) := by rw [w64 (by omega) (by omega)]; omega
theorem w64_add (a b : Nat) (h : a + b ≤ 9223372036854775807) : wrap64 ((a : Int) + (b : Int)) = ((a + b : Nat) : Int) := by rw [w64 (by omega) (by omega)]; omega
theorem w64_succ (a : Nat) (h : a + 1 ≤ 9223372036854775807) : wrap64 ((a : Int) + 1) = ((a + 1 : Nat) : Int) := by rw [w64 (by omega) (by omega)]; omega
theorem w64_mul (a b : Nat) (h : a * b ≤ 9223372036854775807) : wrap64 ((a : Int) * (b : Int)) = ((a * b : Nat) : Int) := by
  rw [← Int.natCast_mul]
  exact w64_nat _ h
theorem mulle {a b R : Nat} (A B : Nat) (h0 : a ≤ A) (h1 : b ≤ B) (h : A * B ≤ R) : a * b ≤ R := Nat.le_trans (Nat.mul_le_mul h0 h1) h

/-- What a source of draws holds: its place and its seed. -/
def Src (at_ seed : Int) : Prop := 0 ≤ at_ ∧ at_ ≤ 9223372036854775806 ∧ 0 ≤ seed ∧ seed < 2147483647

theorem byte_of {l : List Int} (hl : ∀ x ∈ l, 0 ≤ x ∧ x < 256) (i : Int) : 0 ≤ rd l i ∧ rd l i < 256 := by
  unfold rd
  rw [List.getD_eq_getElem?_getD]
  cases h : l[i.toNat]? with
  | none => simp
  | some x => simpa using hl x (List.mem_of_getElem? h)

theorem wf_u8 {x : Int} (h : (Lit.int .u8 x).wf = true) : 0 ≤ x ∧ x < 256 := by
  simp [Lit.wf, IntKind.min, IntKind.max, IntKind.bits, IntKind.signed] at h
  omega

theorem tmod_bd {x m : Int} (hx : 0 ≤ x) (hm : 0 < m) : 0 ≤ Int.tmod x m ∧ Int.tmod x m < m :=
  ⟨Int.tmod_nonneg _ hx, Int.tmod_lt_of_pos _ hm⟩

theorem seed_step {s : Int} (h0 : 0 ≤ s) (h1 : s < 2147483647) : 0 ≤ Int.tmod (wrap64 ((wrap64 (s * 48271)) + 17)) 2147483647 ∧ Int.tmod (wrap64 ((wrap64 (s * 48271)) + 17)) 2147483647 < 2147483647 := by
  rw [w64 (x := s * 48271) (by omega) (by omega), w64 (x := s * 48271 + 17) (by omega) (by omega)]
  exact tmod_bd (by omega) (by omega)

theorem quo_bd {s : Int} (h0 : 0 ≤ s) (h1 : s < 2147483647) : 0 ≤ wrap64 (Int.tdiv s 11) ∧ wrap64 (Int.tdiv s 11) < 2147483647 := by
  have e : Int.tdiv s 11 = s / 11 := Int.tdiv_eq_ediv_of_nonneg h0
  rw [e, w64 (by omega) (by omega)]
  omega

theorem next_ok {l : List Int} (hl : ∀ x ∈ l, 0 ≤ x ∧ x < 256) (hn : l.length ≤ 140737488351232) {p s : Int} (hs : Src p s) (n : Int) :
    ∃ r p' s', spec_l01Next.f l p s n = some (r, p', s') ∧ Src p' s' ∧ (n ≤ 1 → r = 0) ∧ (1 < n → 0 ≤ r ∧ r < n) := by
  obtain ⟨p0, p1, s0, s1⟩ := hs
  unfold spec_l01Next.f
  by_cases h1 : n ≤ 1
  · exact ⟨0, p, s, by rw [if_pos h1], ⟨p0, p1, s0, s1⟩, fun _ => rfl, fun h => by omega⟩
  · obtain ⟨t0, t1⟩ := seed_step s0 s1
    generalize Int.tmod (wrap64 ((wrap64 (s * 48271)) + 17)) 2147483647 = t at *
    obtain ⟨q0, q1⟩ := quo_bd t0 t1
    rw [if_neg h1]
    by_cases h2 : p < (l.length : Int)
    · have b1 := byte_of hl p
      rw [if_pos h2, if_pos p0, w64 (x := p + 1) (by omega) (by omega), w64 (x := p + 1 - 1) (by omega) (by omega), show p + 1 - 1 = p from by omega, if_pos p0, if_pos h2]
      have e1 : wrap64 (rd l p) = rd l p := w64 (by omega) (by omega)
      rw [e1]
      have hsrc : Src (p + 1) t := ⟨by omega, by omega, t0, t1⟩
      by_cases h3 : n ≤ 256
      · by_cases h4 : Int.tmod (p + 1) 2 = 0
        · have := tmod_bd (x := rd l p) (m := n) (by omega) (by omega)
          exact ⟨_, _, _, by rw [if_pos h3, if_pos h4, if_neg (show ¬ n = 0 by omega)], hsrc, fun h => by omega, fun _ => this⟩
        · rw [if_pos h3, if_neg h4]
          generalize wrap64 (Int.tdiv t 11) = q at *
          have := tmod_bd (x := q + rd l p) (m := n) (by omega) (by omega)
          exact ⟨_, _, _, by rw [w64 (x := q + rd l p) (by omega) (by omega), if_neg (show ¬ n = 0 by omega)], hsrc, fun h => by omega, fun _ => this⟩
      · rw [if_neg h3]
        generalize wrap64 (Int.tdiv t 11) = q at *
        have := tmod_bd (x := q + rd l p) (m := n) (by omega) (by omega)
        exact ⟨_, _, _, by rw [w64 (x := q + rd l p) (by omega) (by omega), if_neg (show ¬ n = 0 by omega)], hsrc, fun h => by omega, fun _ => this⟩
    · rw [if_neg h2, if_neg (show ¬ n = 0 by omega)]
      have e : wrap64 (Int.tdiv t 11) = Int.tdiv t 11 := by
        have e0 : Int.tdiv t 11 = t / 11 := Int.tdiv_eq_ediv_of_nonneg t0
        rw [e0, w64 (by omega) (by omega)]
      generalize hq : wrap64 (Int.tdiv t 11) = q at *
      have := tmod_bd (x := q) (m := n) (by omega) (by omega)
      exact ⟨_, _, _, rfl, ⟨p0, p1, t0, t1⟩, fun h => by omega, fun _ => this⟩

theorem from_loop {l : List Int} (hl : ∀ x ∈ l, 0 ≤ x ∧ x < 256) (d : Nat) : ∀ (f i : Nat) (s : Int), i + d = 64 → d < f → 0 ≤ s → s < 2147483647 →
    ∃ s', spec_l01From.l0 f l i l 0 s = some (l, 0, s') ∧ 0 ≤ s' ∧ s' < 2147483647 := by
  induction d with
  | zero =>
    intro f i s hi hf h0 h1
    obtain ⟨f, rfl⟩ : ∃ m, f = m + 1 := ⟨f - 1, by omega⟩
    refine ⟨s, ?_, h0, h1⟩
    simp only [spec_l01From.l0]
    rw [if_neg (show ¬ (i : Int) < 64 by omega)]
    by_cases h : (i : Int) < l.length
    · rw [if_pos h]
    · rw [if_neg h]
  | succ d ih =>
    intro f i s hi hf h0 h1
    obtain ⟨f, rfl⟩ : ∃ m, f = m + 1 := ⟨f - 1, by omega⟩
    simp only [spec_l01From.l0]
    by_cases h : (i : Int) < l.length
    · have b1 := byte_of hl i
      rw [if_pos h, if_pos (by omega), if_pos (by omega), w64_succ i (by omega), w64 (x := s * 43) (by omega) (by omega), w64 (x := rd l i) (by omega) (by omega), w64 (x := s * 43 + rd l i) (by omega) (by omega)]
      have := tmod_bd (x := s * 43 + rd l i) (m := 2147483647) (by omega) (by omega)
      exact ih f (i + 1) _ (by omega) (by omega) this.1 this.2
    · rw [if_neg h]; exact ⟨s, rfl, h0, h1⟩

theorem from_ok {l : List Int} (hl : ∀ x ∈ l, 0 ≤ x ∧ x < 256) (f : Nat) (hf : 64 < f) : ∃ s, spec_l01From.f f l = some (l, 0, s) ∧ Src 0 s := by
  obtain ⟨s, h, h0, h1⟩ := from_loop hl 64 f 0 24157 (by omega) hf (by omega) (by omega)
  exact ⟨s, h, by omega, by omega, h0, h1⟩


theorem gn_bd {a b A B : Int} (h0 : 0 ≤ a) (h1 : a ≤ A) (h2 : 0 ≤ b) (h3 : b ≤ B) : 0 ≤ a * b ∧ a * b ≤ A * B :=
  ⟨Int.mul_nonneg h0 h2, Int.mul_le_mul h1 h3 h2 (by omega)⟩

theorem gn_unit {a1 a2 : Int} (h0 : 1 ≤ a1) (h1 : a1 ≤ 20000000) (h2 : 1 ≤ a2) (h3 : a2 ≤ 50) : ∃ u : Int, wrap64 ((wrap64 ((wrap64 (4 * a1)) * a1)) * a2) = u ∧ 1 ≤ u ∧ u ≤ 80000000000000000 := by
  have e1 : wrap64 (4 * a1) = 4 * a1 := w64 (by omega) (by omega)
  rw [e1]
  clear e1
  obtain ⟨b0, b1⟩ := gn_bd (a := 4 * a1) (b := a1) (A := 80000000) (B := 20000000) (by omega) (by omega) (by omega) (by omega)
  have b2 : 1 ≤ 4 * a1 * a1 := by have := Int.mul_pos (a := 4 * a1) (b := a1) (by omega) (by omega); omega
  have e2 : wrap64 (4 * a1 * a1) = 4 * a1 * a1 := w64 (by omega) (by omega)
  rw [e2]
  clear e2
  generalize 4 * a1 * a1 = x at *
  obtain ⟨c0, c1⟩ := gn_bd (a := x) (b := a2) (A := 1600000000000000) (B := 50) (by omega) (by omega) (by omega) (by omega)
  have c2 : 1 ≤ x * a2 := by have := Int.mul_pos (a := x) (b := a2) (by omega) (by omega); omega
  exact ⟨x * a2, w64 (by omega) (by omega), c2, by omega⟩

theorem gn_need {a0 : Int} (h0 : 0 ≤ a0) (h1 : a0 ≤ 20000000) : ∃ u : Int, wrap64 ((wrap64 (100 * a0)) * a0) = u ∧ 0 ≤ u ∧ u ≤ 40000000000000000 := by
  rw [w64 (x := 100 * a0) (by omega) (by omega)]
  obtain ⟨b0, b1⟩ := gn_bd (a := 100 * a0) (b := a0) (A := 2000000000) (B := 20000000) (by omega) (by omega) (by omega) (by omega)
  exact ⟨_, w64 (by omega) (by omega), by omega, by omega⟩

/-- The quotient that is rounded up. -/
theorem gn_quo {n u : Int} (h0 : 0 ≤ n) (h1 : n ≤ 40000000000000000) (h2 : 1 ≤ u) (h3 : u ≤ 80000000000000000) : ∃ q : Int, wrap64 (Int.tdiv (wrap64 ((wrap64 (n + u)) - 1)) u) = q ∧ 0 ≤ q ∧ q ≤ 120000000000000000 := by
  rw [w64 (x := n + u) (by omega) (by omega), w64 (x := n + u - 1) (by omega) (by omega), Int.tdiv_eq_ediv_of_nonneg (by omega)]
  have q0 : 0 ≤ (n + u - 1) / u := Int.ediv_nonneg (by omega) (by omega)
  have q1 : (n + u - 1) / u ≤ n + u - 1 := Int.ediv_le_self _ (by omega)
  exact ⟨_, w64 (by omega) (by omega), q0, by omega⟩

theorem gn_law (f : Nat) (a0 a1 a2 : Int) : ∃ n c, impl_GamesNeeded.f a0 a1 a2 = some (n, c) ∧ spec_GamesNeeded.f a0 a1 a2 = some (n, c) ∧ laws_FnGamesNeeded.j0 (f + 1) a0 a1 a2 n c false = some true := by
  simp only [laws_FnGamesNeeded.j0]
  unfold spec_GamesNeeded.f impl_GamesNeeded.f spec_l27Percent.f impl_ceiling.f spec_l01In.f impl_within.f
  by_cases h0 : a0 ≥ 0 ∧ a0 ≤ 20000000
  · by_cases h2 : a1 ≥ 1 ∧ a1 ≤ 20000000
    · by_cases h4 : a2 ≥ 1 ∧ a2 ≤ 50
      · obtain ⟨u, eu, u0, u1⟩ := gn_unit h2.1 h2.2 h4.1 h4.2
        obtain ⟨n, en, n0, n1⟩ := gn_need h0.1 h0.2
        obtain ⟨q, eq_, q0, q1⟩ := gn_quo n0 n1 u0 u1
        have hu : ¬ u = 0 := by omega
        refine ⟨mx 1 q, 0, by simp [h0.1, h0.2, h2.1, h2.2, h4.1, h4.2, eu, en, eq_, hu], by simp [h0.1, h0.2, h2.1, h2.2, h4.1, h4.2, eu, en, eq_, hu], ?_⟩
        rw [eu, en, eq_]
        clear eu en eq_
        have m0 : mx 1 q ≥ 1 := by unfold mx; split <;> omega
        have m1 : q ≤ mx 1 q := by unfold mx; split <;> omega
        have m2 : mx 1 q ≤ 120000000000000000 := by unfold mx; split <;> omega
        simp only [Bool.false_eq_true, if_false, if_true]
        rw [if_pos m0, if_neg hu, if_pos m1]
        by_cases hm : mx 1 q = 1
        · rw [if_pos hm]
        · rw [if_neg hm, w64 (by omega) (by omega)]
          have : q > mx 1 q - 1 := by unfold mx at hm ⊢; split at hm <;> split <;> omega
          simp [this]
      · refine ⟨0, 2, ?_, ?_, by simp⟩
        · by_cases h5 : a2 ≥ 1
          · have h6 : ¬ a2 ≤ 50 := fun h => h4 ⟨h5, h⟩
            simp [h0.1, h0.2, h2.1, h2.2, h5, h6]
          · simp [h0.1, h0.2, h2.1, h2.2, h5]
        · by_cases h5 : a2 ≥ 1
          · have h6 : ¬ a2 ≤ 50 := fun h => h4 ⟨h5, h⟩
            simp [h0.1, h0.2, h2.1, h2.2, h5, h6]
          · simp [h0.1, h0.2, h2.1, h2.2, h5]
    · refine ⟨0, 2, ?_, ?_, by simp⟩
      · by_cases h5 : a1 ≥ 1
        · have h6 : ¬ a1 ≤ 20000000 := fun h => h2 ⟨h5, h⟩
          simp [h0.1, h0.2, h5, h6]
        · simp [h0.1, h0.2, h5]
      · by_cases h5 : a1 ≥ 1
        · have h6 : ¬ a1 ≤ 20000000 := fun h => h2 ⟨h5, h⟩
          simp [h0.1, h0.2, h5, h6]
        · simp [h0.1, h0.2, h5]
  · refine ⟨0, 2, ?_, ?_, by simp⟩
    · by_cases h5 : a0 ≥ 0
      · have h6 : ¬ a0 ≤ 20000000 := fun h => h0 ⟨h5, h⟩
        simp [h5, h6]
      · simp [h5]
    · by_cases h5 : a0 ≥ 0
      · have h6 : ¬ a0 ≤ 20000000 := fun h => h0 ⟨h5, h⟩
        simp [h5, h6]
      · simp [h5]

theorem idx_ok {r n : Int} (h0 : n ≤ 1 → r = 0) (h1 : 1 < n → 0 ≤ r ∧ r < n) (hn : 1 ≤ n) : 0 ≤ r ∧ r < n := by
  by_cases h : n ≤ 1
  · have := h0 h; omega
  · exact h1 (by omega)

theorem draw_ok {l : List Int} (hl : ∀ x ∈ l, 0 ≤ x ∧ x < 256) (hn : l.length ≤ 140737488351232) (f : Nat) (hf : 64 < f) : ∃ r, spec_DrawGamesNeeded.f f l = some r := by
  unfold spec_DrawGamesNeeded.f spec_l27DrawPercent.f
  obtain ⟨s, h, hs⟩ := from_ok hl f hf
  rw [h]
  simp only [Option.bind_some, List.length_cons, List.length_nil]
  obtain ⟨r1, p1, s1, e1, hs1, _, _⟩ := next_ok hl hn hs 1000
  rw [e1]; simp only [Option.bind_some]
  obtain ⟨r2, p2, s2, e2, hs2, _, b2⟩ := next_ok hl hn hs1 6
  rw [e2]; simp only [Option.bind_some]
  have c2 := b2 (by omega)
  rw [if_pos c2.1, if_pos (by omega)]
  obtain ⟨r3, p3, s3, e3, hs3, _, _⟩ := next_ok hl hn hs2 5000
  rw [e3]; simp only [Option.bind_some]
  obtain ⟨r4, p4, s4, e4, hs4, _, b4⟩ := next_ok hl hn hs3 6
  rw [e4]; simp only [Option.bind_some]
  have c4 := b4 (by omega)
  rw [if_pos c4.1, if_pos (by omega)]
  obtain ⟨r5, p5, s5, e5, hs5, _, b5⟩ := next_ok hl hn hs4 10
  rw [e5]; simp only [Option.bind_some]
  have c5 := b5 (by omega)
  rw [if_pos c5.1, if_pos (by omega)]
  exact ⟨_, rfl⟩

theorem FnGamesNeeded : laws_FnGamesNeeded.Pure := by
  intro l _ hn hb
  have hl : ∀ x ∈ l, 0 ≤ x ∧ x < 256 := fun x hx => wf_u8 (hb x hx)
  obtain ⟨K, hK⟩ : ∃ K, K = 100 := ⟨_, rfl⟩
  refine ⟨K + 1, ?_⟩
  unfold laws_FnGamesNeeded.f laws_big.f
  simp only [Option.bind_some]
  by_cases h : (l.length : Int) > 4096
  · simp [h]
  · obtain ⟨⟨a0, a1, a2⟩, hd⟩ := draw_ok hl (by omega) (K + 1) (by omega)
    obtain ⟨n, c, g1, g2, g3⟩ := gn_law K a0 a1 a2
    rw [hd]
    simp only [Option.bind_some, decide_eq_true_eq]
    rw [if_neg h, g1]
    simp only [Option.bind_some]
    rw [g2]
    simp only [Option.bind_some, if_true, bne_self_eq_false]
    exact g3

end Go.Proofs.Ytnidklakgdmkeaa.Pure
