/- The estimate of a board: the program's function and the reference's answer alike for all variants and boards. No condition. -/
import Derived.Test.YtpeipalgpbkagaaPFnExactEstimateBoardx6
namespace Go.Proofs.Ytpeipalgpbkagaa.Pure
open Go.RowKit Go.Proofs.Ytpeipalgpbkagaa.PFnExactEstimateBoard Go.Proofs.YtpeipalgpbkagaaW.PrintWords Go.Proofs.YtpeipalgpbkagaaW.PrintLast Go.Proofs.YtpeipalgpbkagaaW.PrintMore

theorem w64 {x : Int} (h0 : -9223372036854775808 ≤ x) (h1 : x ≤ 9223372036854775807) : wrap64 x = x := by unfold wrap64; omega
theorem w64_nat (a : Nat) (h : a ≤ 9223372036854775807) : wrap64 (a : Int) = a := w64 (by omega) (by omega)
theorem w64_sub (a b : Nat) (h : b ≤ a) (ha : a ≤ 9223372036854775807) : wrap64 ((a : Int) - (b : Int)) = ((a - b : Nat) : Int) := by rw [w64 (by omega) (by omega)]; omega
theorem w64_add (a b : Nat) (h : a + b ≤ 9223372036854775807) : wrap64 ((a : Int) + (b : Int)) = ((a + b : Nat) : Int) := by rw [w64 (by omega) (by omega)]; omega
theorem w64_succ (a : Nat) (h : a + 1 ≤ 9223372036854775807) : wrap64 ((a : Int) + 1) = ((a + 1 : Nat) : Int) := by rw [w64 (by omega) (by omega)]; omega
theorem w64_mul (a b : Nat) (h : a * b ≤ 9223372036854775807) : wrap64 ((a : Int) * (b : Int)) = ((a * b : Nat) : Int) := by
  rw [← Int.natCast_mul]
  exact w64_nat _ h
theorem mulle {a b R : Nat} (A B : Nat) (h0 : a ≤ A) (h1 : b ≤ B) (h : A * B ≤ R) : a * b ≤ R := Nat.le_trans (Nat.mul_le_mul h0 h1) h

theorem rd_nat (l : List Int) (n : Nat) : rd l (n : Int) = l.getD n 0 := rfl

theorem drop_rd {l : List Int} {n : Nat} (h : n < l.length) : l.drop n = rd l (n : Int) :: l.drop (n + 1) := by
  rw [List.drop_eq_getElem_cons h, rd_nat, List.getD_eq_getElem?_getD, List.getElem?_eq_getElem h]; rfl

theorem rd_mem {l : List Int} {n : Nat} (h : n < l.length) : rd l (n : Int) ∈ l := by
  rw [rd_nat, List.getD_eq_getElem?_getD, List.getElem?_eq_getElem h]
  exact List.getElem_mem h

/-- The sum of a list. -/
def sm : List Int → Int
  | [] => 0
  | x :: l => x + sm l

def Sml (l : List Int) : Prop := ∀ x ∈ l, 0 ≤ x ∧ x ≤ 15

theorem Sml.drop {l : List Int} (h : Sml l) (n : Nat) : Sml (l.drop n) := fun x hx => h x (List.mem_of_mem_drop hx)

theorem sm_bd : ∀ {l : List Int}, Sml l → 0 ≤ sm l ∧ sm l ≤ 15 * l.length
  | [], _ => by simp [sm]
  | x :: l, h => by
    have h1 := h x List.mem_cons_self
    have h2 := sm_bd (l := l) (fun y hy => h y (List.mem_cons_of_mem _ hy))
    simp only [sm, List.length_cons]
    omega

theorem sm_nn : ∀ {l : List Int}, (∀ x ∈ l, 0 ≤ x) → 0 ≤ sm l
  | [], _ => by simp [sm]
  | x :: l, h => by
    have h1 := h x List.mem_cons_self
    have h2 := sm_nn (l := l) (fun y hy => h y (List.mem_cons_of_mem _ hy))
    simp only [sm]
    omega

theorem le_sm : ∀ {l : List Int}, (∀ x ∈ l, 0 ≤ x) → ∀ x ∈ l, x ≤ sm l
  | [], _, x, hx => by cases hx
  | y :: l, h, x, hx => by
    have h1 := h y List.mem_cons_self
    have h2 : ∀ z ∈ l, 0 ≤ z := fun z hz => h z (List.mem_cons_of_mem _ hz)
    simp only [sm]
    rcases List.mem_cons.1 hx with rfl | hx
    · have := sm_nn h2; omega
    · have := le_sm h2 x hx; omega

/-- The pips of a list whose first place is i. -/
def pp : Nat → List Int → Int
  | _, [] => 0
  | i, x :: l => ((i : Int) + 1) * x + pp (i + 1) l

theorem pp_step {i : Nat} {x : Int} (h0 : 0 ≤ x) (h1 : x ≤ 15) (hi : i ≤ 1000) : 0 ≤ ((i : Int) + 1) * x ∧ ((i : Int) + 1) * x ≤ 15015 := by
  have a := Int.mul_nonneg (show 0 ≤ (i : Int) + 1 by omega) h0
  have b : ((i : Int) + 1) * x ≤ 1001 * 15 := Int.mul_le_mul (by omega) h1 h0 (by omega)
  exact ⟨a, by omega⟩

theorem pp_bd : ∀ {l : List Int} {i : Nat}, Sml l → i + l.length ≤ 1000 → 0 ≤ pp i l ∧ pp i l ≤ 15015 * l.length
  | [], i, _, _ => by simp [pp]
  | x :: l, i, h, hi => by
    have h1 := h x List.mem_cons_self
    simp only [List.length_cons] at hi
    have h2 := pp_bd (l := l) (i := i + 1) (fun y hy => h y (List.mem_cons_of_mem _ hy)) (by omega)
    have h3 := pp_step (i := i) h1.1 h1.2 (by omega)
    simp only [pp, List.length_cons]
    omega

def isVar (p c h s : Int) : Bool := decide ((2 ≤ p ∧ p ≤ 24) ∧ (1 ≤ c ∧ c ≤ 15) ∧ (1 ≤ h ∧ h ≤ p) ∧ (1 ≤ s ∧ s ≤ 6))

theorem within_is (a b c : Int) : impl_within.f a b c = some (decide (b ≤ a ∧ a ≤ c)) := by
  unfold impl_within.f
  by_cases h : a ≥ b <;> simp [h]
theorem in_is (a b c : Int) : spec_l01In.f a b c = some (decide (b ≤ a ∧ a ≤ c)) := by
  unfold spec_l01In.f
  by_cases h : a ≥ b <;> simp [h]

theorem impl_isVar (p c h s : Int) : impl_IsVariant.f p c h s = some (isVar p c h s) := by
  unfold impl_IsVariant.f isVar
  simp only [within_is, Option.bind_some, decide_eq_true_eq]
  by_cases h1 : 2 ≤ p ∧ p ≤ 24
  · by_cases h2 : 1 ≤ c ∧ c ≤ 15
    · by_cases h3 : 1 ≤ h ∧ h ≤ p
      · rw [if_pos h1, if_pos h2, if_pos h3]; simp [h1, h2, h3]
      · rw [if_pos h1, if_pos h2, if_neg h3]; simp [h3]
    · rw [if_pos h1, if_neg h2]; simp [h2]
  · rw [if_neg h1]; simp [h1]

theorem spec_isVar (p c h s : Int) : spec_IsVariant.f p c h s = some (isVar p c h s) := by
  unfold spec_IsVariant.f isVar
  simp only [in_is, Option.bind_some, decide_eq_true_eq]
  by_cases h1 : 2 ≤ p ∧ p ≤ 24
  · by_cases h2 : 1 ≤ c ∧ c ≤ 15
    · by_cases h3 : 1 ≤ h ∧ h ≤ p
      · rw [if_pos h1, if_pos h2, if_pos h3]; simp [h1, h2, h3]
      · rw [if_pos h1, if_pos h2, if_neg h3]; simp [h3]
    · rw [if_pos h1, if_neg h2]; simp [h2]
  · rw [if_neg h1]; simp [h1]

theorem var_parts {p c h s : Int} (hv : isVar p c h s = true) : (2 ≤ p ∧ p ≤ 24) ∧ (1 ≤ c ∧ c ≤ 15) ∧ (1 ≤ h ∧ h ≤ p) ∧ (1 ≤ s ∧ s ≤ 6) := of_decide_eq_true hv

theorem spec_sum_loop {l : List Int} (hl : Sml l) (hn : l.length ≤ 1000) (d : Nat) : ∀ (f n : Nat) (a : Int), n + d = l.length → d < f → 0 ≤ a → a ≤ 15 * n → spec_l02Sum.l0 f l a n = some (a + sm (l.drop n)) := by
  induction d with
  | zero =>
    intro f n a h1 h2 h3 h4
    obtain ⟨f, rfl⟩ : ∃ m, f = m + 1 := ⟨f - 1, by omega⟩
    simp only [spec_l02Sum.l0]; rw [if_neg (by omega), List.drop_of_length_le (by omega)]; simp [sm]
  | succ d ih =>
    intro f n a h1 h2 h3 h4
    obtain ⟨f, rfl⟩ : ∃ m, f = m + 1 := ⟨f - 1, by omega⟩
    have hx := hl _ (rd_mem (l := l) (n := n) (by omega))
    simp only [spec_l02Sum.l0]
    rw [if_pos (by omega), if_pos (by omega), w64_succ n (by omega), w64 (x := a + rd l n) (by omega) (by omega), ih f (n + 1) (a + rd l n) (by omega) (by omega) (by omega) (by omega), drop_rd (l := l) (n := n) (by omega), sm, Int.add_assoc]

theorem spec_sum {l : List Int} (hl : Sml l) (hn : l.length ≤ 1000) (f : Nat) (hf : l.length < f) : spec_l02Sum.f f l = some (sm l) := by
  have h := spec_sum_loop hl hn l.length f 0 0 (by omega) hf (by omega) (by omega)
  unfold spec_l02Sum.f
  simpa using h

theorem impl_total_loop {l : List Int} (hl : Sml l) (hn : l.length ≤ 1000) (d : Nat) : ∀ (f n : Nat) (a : Int), n + d = l.length → d < f → 0 ≤ a → a ≤ 15 * n → impl_total.l0 f a l l.length n = some (a + sm (l.drop n)) := by
  induction d with
  | zero =>
    intro f n a h1 h2 h3 h4
    obtain ⟨f, rfl⟩ : ∃ m, f = m + 1 := ⟨f - 1, by omega⟩
    simp only [impl_total.l0]; rw [if_neg (by omega), List.drop_of_length_le (by omega)]; simp [sm]
  | succ d ih =>
    intro f n a h1 h2 h3 h4
    obtain ⟨f, rfl⟩ : ∃ m, f = m + 1 := ⟨f - 1, by omega⟩
    have hx := hl _ (rd_mem (l := l) (n := n) (by omega))
    simp only [impl_total.l0]
    rw [if_pos (by omega), if_pos (by omega), if_pos (by omega), w64_succ n (by omega), w64 (x := a + rd l n) (by omega) (by omega), ih f (n + 1) (a + rd l n) (by omega) (by omega) (by omega) (by omega), drop_rd (l := l) (n := n) (by omega), sm, Int.add_assoc]

theorem impl_sum {l : List Int} (hl : Sml l) (hn : l.length ≤ 1000) (f : Nat) (hf : l.length < f) : impl_total.f f l = some (sm l) := by
  have h := impl_total_loop hl hn l.length f 0 0 (by omega) hf (by omega) (by omega)
  unfold impl_total.f
  simpa using h

/-- Whether a list can be a side. -/
def sideB (p c : Int) (l : List Int) : Bool := decide ((l.length : Int) = p + 1 ∧ (∀ x ∈ l, 0 ≤ x) ∧ sm l ≤ c)

theorem spec_side_loop {l : List Int} {p c h s : Int} (hc0 : 0 ≤ c) (hc : c ≤ 15) (hn : l.length ≤ 1000) (d : Nat) : ∀ (f n : Nat), n + d = l.length → d + 1001 < f → (∀ x ∈ l.take n, 0 ≤ x ∧ x ≤ c) →
    spec_l02Side.l0 f l n p c h s = some (decide ((∀ x ∈ l.drop n, 0 ≤ x ∧ x ≤ c) ∧ sm l ≤ c)) := by
  induction d with
  | zero =>
    intro f n h1 h2 h3
    obtain ⟨f, rfl⟩ : ∃ m, f = m + 1 := ⟨f - 1, by omega⟩
    rw [List.take_of_length_le (by omega)] at h3
    have hs : Sml l := fun x hx => ⟨(h3 x hx).1, by have := (h3 x hx).2; omega⟩
    simp only [spec_l02Side.l0]; rw [if_neg (by omega), spec_sum hs hn f (by omega), List.drop_of_length_le (by omega)]; simp
  | succ d ih =>
    intro f n h1 h2 h3
    obtain ⟨f, rfl⟩ : ∃ m, f = m + 1 := ⟨f - 1, by omega⟩
    simp only [spec_l02Side.l0]
    rw [if_pos (by omega), if_pos (by omega), w64_succ n (by omega), in_is]
    simp only [Option.bind_some, decide_eq_true_eq]
    rw [drop_rd (l := l) (n := n) (by omega)]
    by_cases hx : 0 ≤ rd l n ∧ rd l n ≤ c
    · rw [if_pos hx, ih f (n + 1) (by omega) (by omega) ?_]
      · simp [hx]
      · intro x hx'
        rw [List.take_succ_eq_append_getElem (show n < l.length by omega)] at hx'
        rcases List.mem_append.1 hx' with h | h
        · exact h3 x h
        · obtain rfl := List.mem_singleton.1 h
          have e : rd l (n : Int) = l[n]'(by omega) := by rw [rd_nat, List.getD_eq_getElem?_getD, List.getElem?_eq_getElem (by omega)]; rfl
          rw [← e]; exact hx
    · rw [if_neg hx]
      simp only [Option.some.injEq]
      symm
      rw [decide_eq_false_iff_not]
      rintro ⟨h5, _⟩
      exact hx (h5 _ List.mem_cons_self)

theorem spec_side {l : List Int} {p c h s : Int} (hp : 2 ≤ p ∧ p ≤ 24) (hc0 : 0 ≤ c) (hc : c ≤ 15) (f : Nat) (hf : 2100 ≤ f) : spec_l02Side.f f p c h s l = some (sideB p c l) := by
  unfold spec_l02Side.f sideB
  rw [w64 (x := p + 1) (by omega) (by omega)]
  by_cases hl : (l.length : Int) = p + 1
  · have e := spec_side_loop (l := l) (p := p) (c := c) (h := h) (s := s) hc0 hc (by omega) l.length f 0 (by omega) (by omega) (by simp)
    rw [if_pos hl]
    simp only [List.drop_zero] at e
    have e' : spec_l02Side.l0 f l 0 p c h s = _ := e
    rw [e']
    congr 1
    rw [decide_eq_decide]
    constructor
    · rintro ⟨h1, h2⟩; exact ⟨hl, fun x hx => (h1 x hx).1, h2⟩
    · rintro ⟨_, h1, h2⟩; exact ⟨fun x hx => ⟨h1 x hx, by have := le_sm h1 x hx; omega⟩, h2⟩
  · rw [if_neg hl]; simp [hl]

theorem impl_side_loop {l : List Int} (hn : l.length ≤ 1000) (d : Nat) : ∀ (f n : Nat) (a : Int), n + d = l.length → d < f → 0 ≤ a → a ≤ 15 →
    impl_isSide.l0 f a l l.length n = some (decide ((∀ x ∈ l.drop n, 0 ≤ x) ∧ sm (l.drop n) ≤ a)) := by
  induction d with
  | zero =>
    intro f n a h1 h2 h3 h4
    obtain ⟨f, rfl⟩ : ∃ m, f = m + 1 := ⟨f - 1, by omega⟩
    simp only [impl_isSide.l0]; rw [if_neg (by omega), List.drop_of_length_le (by omega)]; simp [sm, h3]
  | succ d ih =>
    intro f n a h1 h2 h3 h4
    obtain ⟨f, rfl⟩ : ∃ m, f = m + 1 := ⟨f - 1, by omega⟩
    simp only [impl_isSide.l0]
    rw [if_pos (by omega), if_pos (by omega), if_pos (by omega), w64_succ n (by omega), drop_rd (l := l) (n := n) (by omega)]
    by_cases hx : rd l n < 0
    · rw [if_pos hx]
      simp only [Option.some.injEq]
      symm
      rw [decide_eq_false_iff_not]
      rintro ⟨h5, _⟩
      have := h5 _ List.mem_cons_self
      omega
    · rw [if_neg hx]
      by_cases hy : rd l n > a
      · rw [if_pos hy]
        simp only [Option.some.injEq]
        symm
        rw [decide_eq_false_iff_not]
        rintro ⟨h5, h6⟩
        have := sm_nn (l := l.drop (n + 1)) (fun x hx => h5 x (List.mem_cons_of_mem _ hx))
        simp only [sm] at h6
        omega
      · rw [if_neg hy, w64 (x := a - rd l n) (by omega) (by omega), ih f (n + 1) (a - rd l n) (by omega) (by omega) (by omega) (by omega)]
        congr 1
        rw [decide_eq_decide]
        simp only [List.forall_mem_cons, sm]
        constructor
        · rintro ⟨h5, h6⟩; exact ⟨⟨by omega, h5⟩, by omega⟩
        · rintro ⟨⟨_, h5⟩, h6⟩; exact ⟨h5, by omega⟩

theorem impl_side {l : List Int} {p c h s : Int} (hp : 2 ≤ p ∧ p ≤ 24) (hc0 : 0 ≤ c) (hc : c ≤ 15) (f : Nat) (hf : 100 ≤ f) : impl_isSide.f f p c h s l = some (sideB p c l) := by
  unfold impl_isSide.f sideB
  rw [w64 (x := p + 1) (by omega) (by omega)]
  by_cases hl : (l.length : Int) = p + 1
  · have e := impl_side_loop (l := l) (by omega) l.length f 0 c (by omega) (by omega) hc0 hc
    rw [if_pos hl]
    simp only [List.drop_zero] at e
    have e' : impl_isSide.l0 f c l l.length 0 = _ := e
    rw [e']
    simp [hl]
  · rw [if_neg hl]; simp [hl]

theorem side_parts {p c : Int} {l : List Int} (h : sideB p c l = true) (hc : c ≤ 15) : (l.length : Int) = p + 1 ∧ Sml l ∧ sm l ≤ c := by
  obtain ⟨h1, h2, h3⟩ := of_decide_eq_true h
  exact ⟨h1, fun x hx => ⟨h2 x hx, by have := le_sm h2 x hx; omega⟩, h3⟩

/-- No point bears checkers of both, from place i on. -/
def crossB (p : Int) (o x : List Int) (i : Nat) : Bool := decide (∀ j, j < p.toNat → i ≤ j → ¬ (0 < rd o (j : Int) ∧ 0 < rd x (p - 1 - j)))

theorem cross_next {p : Int} {o x : List Int} {i : Nat} (h : ¬ (0 < rd o (i : Int) ∧ 0 < rd x (p - 1 - i))) : crossB p o x i = crossB p o x (i + 1) := by
  unfold crossB
  rw [decide_eq_decide]
  constructor
  · intro g j h1 h2; exact g j h1 (by omega)
  · intro g j h1 h2
    rcases Nat.lt_or_ge i j with h3 | h3
    · exact g j h1 h3
    · obtain rfl : j = i := by omega
      exact h

theorem spec_cross {o x : List Int} {p c h s : Int} (hp : 2 ≤ p ∧ p ≤ 24) (ho : (o.length : Int) = p + 1) (hx : (x.length : Int) = p + 1) (d : Nat) : ∀ (f i : Nat), (i : Int) + d = p → d < f → spec_IsBoard.l0 f i p c h s o x = some (crossB p o x i) := by
  induction d with
  | zero =>
    intro f i h1 h2
    obtain ⟨f, rfl⟩ : ∃ m, f = m + 1 := ⟨f - 1, by omega⟩
    simp only [spec_IsBoard.l0]; rw [if_neg (by omega)]
    simp only [Option.some.injEq]
    symm
    unfold crossB
    rw [decide_eq_true_eq]
    intro j h3 h4
    omega
  | succ d ih =>
    intro f i h1 h2
    obtain ⟨f, rfl⟩ : ∃ m, f = m + 1 := ⟨f - 1, by omega⟩
    simp only [spec_IsBoard.l0]
    rw [if_pos (by omega), if_pos (by omega), if_pos (by omega), w64_succ i (by omega), w64 (x := p - 1) (by omega) (by omega), w64 (x := p - 1 - i) (by omega) (by omega), ih f (i + 1) (by omega) (by omega)]
    by_cases h3 : rd o i > 0
    · rw [if_pos h3, if_pos (by omega), if_pos (by omega)]
      by_cases h4 : rd x (p - 1 - i) > 0
      · rw [if_pos h4]
        simp only [Option.some.injEq]
        symm
        unfold crossB
        rw [decide_eq_false_iff_not]
        intro g
        exact g i (by omega) (Nat.le_refl _) ⟨h3, h4⟩
      · rw [if_neg h4, cross_next (i := i) (fun h => h4 h.2)]
    · rw [if_neg h3, cross_next (i := i) (fun h => h3 h.1)]

theorem impl_cross {o x : List Int} {p c h s : Int} (hp : 2 ≤ p ∧ p ≤ 24) (ho : (o.length : Int) = p + 1) (hx : (x.length : Int) = p + 1) (d : Nat) : ∀ (f i : Nat), (i : Int) + d = p → d < f → impl_IsBoard.l0 f p i p c h s o x = some (crossB p o x i) := by
  induction d with
  | zero =>
    intro f i h1 h2
    obtain ⟨f, rfl⟩ : ∃ m, f = m + 1 := ⟨f - 1, by omega⟩
    simp only [impl_IsBoard.l0]; rw [if_neg (by omega)]
    simp only [Option.some.injEq]
    symm
    unfold crossB
    rw [decide_eq_true_eq]
    intro j h3 h4
    omega
  | succ d ih =>
    intro f i h1 h2
    obtain ⟨f, rfl⟩ : ∃ m, f = m + 1 := ⟨f - 1, by omega⟩
    simp only [impl_IsBoard.l0]
    rw [if_pos (by omega), if_pos (by omega), if_pos (by omega), w64_succ i (by omega), w64 (x := p - 1) (by omega) (by omega), w64 (x := p - 1 - i) (by omega) (by omega), ih f (i + 1) (by omega) (by omega)]
    by_cases h3 : rd o i > 0
    · rw [if_pos h3, if_pos (by omega), if_pos (by omega)]
      by_cases h4 : rd x (p - 1 - i) > 0
      · rw [if_pos h4]
        simp only [Option.some.injEq]
        symm
        unfold crossB
        rw [decide_eq_false_iff_not]
        intro g
        exact g i (by omega) (Nat.le_refl _) ⟨h3, h4⟩
      · rw [if_neg h4, cross_next (i := i) (fun h => h4 h.2)]
    · rw [if_neg h3, cross_next (i := i) (fun h => h3 h.1)]

/-- Whether a board is valid. -/
def bdB (p c h s : Int) (o x : List Int) : Bool := isVar p c h s && sideB p c o && sideB p c x && !(decide (sm o = 0 ∧ sm x = 0)) && crossB p o x 0

theorem impl_board (p c h s : Int) (o x : List Int) (f : Nat) (hf : 2200 ≤ f) : impl_IsBoard.f f p c h s o x = some (bdB p c h s o x) := by
  obtain ⟨f, rfl⟩ : ∃ m, f = m + 1 := ⟨f - 1, by omega⟩
  unfold impl_IsBoard.f bdB
  rw [impl_isVar]
  simp only [Option.bind_some, impl_IsBoard.j0]
  cases hv : isVar p c h s with
  | false => simp
  | true =>
    obtain ⟨hp, hc, _, _⟩ := var_parts hv
    rw [impl_side hp (by omega) hc.2 (f + 1) (by omega)]
    simp only [Option.bind_some, if_true]
    cases h1 : sideB p c o with
    | false => simp
    | true =>
      obtain ⟨l1, m1, _⟩ := side_parts h1 hc.2
      rw [impl_side hp (by omega) hc.2 (f + 1) (by omega)]
      simp only [Option.bind_some, if_true]
      cases h2 : sideB p c x with
      | false => simp
      | true =>
        obtain ⟨l2, m2, _⟩ := side_parts h2 hc.2
        rw [impl_sum m1 (by omega) (f + 1) (by omega), impl_sum m2 (by omega) (f + 1) (by omega)]
        simp only [Option.bind_some, if_true]
        have e := impl_cross (c := c) (h := h) (s := s) hp l1 l2 p.toNat f 0 (by omega) (by omega)
        have e' : impl_IsBoard.l0 f p 0 p c h s o x = _ := e
        by_cases h3 : sm o = 0
        · by_cases h4 : sm x = 0
          · simp [h3, h4]
          · simp [h3, h4, e']
        · simp [h3, e']

theorem spec_board (p c h s : Int) (o x : List Int) (f : Nat) (hf : 2200 ≤ f) : spec_IsBoard.f f p c h s o x = some (bdB p c h s o x) := by
  obtain ⟨f, rfl⟩ : ∃ m, f = m + 1 := ⟨f - 1, by omega⟩
  unfold spec_IsBoard.f bdB
  rw [spec_isVar]
  simp only [Option.bind_some, spec_IsBoard.j0]
  cases hv : isVar p c h s with
  | false => simp
  | true =>
    obtain ⟨hp, hc, _, _⟩ := var_parts hv
    rw [spec_side hp (by omega) hc.2 (f + 1) (by omega)]
    simp only [Option.bind_some, if_true]
    cases h1 : sideB p c o with
    | false => simp
    | true =>
      obtain ⟨l1, m1, _⟩ := side_parts h1 hc.2
      rw [spec_side hp (by omega) hc.2 (f + 1) (by omega)]
      simp only [Option.bind_some, if_true]
      cases h2 : sideB p c x with
      | false => simp
      | true =>
        obtain ⟨l2, m2, _⟩ := side_parts h2 hc.2
        have b1 := sm_bd m1
        have b2 := sm_bd m2
        rw [spec_sum m1 (by omega) (f + 1) (by omega), spec_sum m2 (by omega) (f + 1) (by omega)]
        simp only [Option.bind_some, if_true]
        rw [w64 (x := sm o + sm x) (by omega) (by omega)]
        have e := spec_cross (c := c) (h := h) (s := s) hp l1 l2 p.toNat f 0 (by omega) (by omega)
        have e' : spec_IsBoard.l0 f 0 p c h s o x = _ := e
        by_cases h3 : sm o = 0 ∧ sm x = 0
        · simp [h3]
        · have h4 : ¬ sm o + sm x = 0 := fun h => h3 ⟨by omega, by omega⟩
          simp [h3, h4, e']

theorem bd_parts {p c h s : Int} {o x : List Int} (hb : bdB p c h s o x = true) : isVar p c h s = true ∧ ((o.length : Int) = p + 1 ∧ Sml o ∧ sm o ≤ c) ∧ ((x.length : Int) = p + 1 ∧ Sml x ∧ sm x ≤ c) ∧ ¬ (sm o = 0 ∧ sm x = 0) ∧ crossB p o x 0 = true := by
  unfold bdB at hb
  simp only [Bool.and_eq_true, Bool.not_eq_true', decide_eq_false_iff_not] at hb
  obtain ⟨⟨⟨⟨h1, h2⟩, h3⟩, h4⟩, h5⟩ := hb
  obtain ⟨_, hc, _, _⟩ := var_parts h1
  exact ⟨h1, side_parts h2 hc.2, side_parts h3 hc.2, h4, h5⟩

theorem floor_is {x y : Int} (hy : 0 < y) (h0 : -4611686018427387904 ≤ x) (h1 : x ≤ 4611686018427387904) : spec_l25Floor.f x y = some (x / y) ∧ impl_floorDiv.f x y = some (x / y) := by
  have hx : y * Int.tdiv x y + Int.tmod x y = x := Int.mul_tdiv_add_tmod x y
  have b1 : Int.tmod x y < y := Int.tmod_lt_of_pos x hy
  have b2 : -y < Int.tmod x y := Int.lt_tmod_of_pos x hy
  have key : (if Int.tmod x y < 0 then Int.tdiv x y - 1 else Int.tdiv x y) = x / y := by
    symm
    by_cases h : Int.tmod x y < 0
    · rw [if_pos h]
      refine ((Int.ediv_emod_unique hy (q := Int.tdiv x y - 1) (r := Int.tmod x y + y)).2 ⟨?_, by omega, by omega⟩).1
      rw [Int.mul_sub, Int.mul_one]; omega
    · rw [if_neg h]
      exact ((Int.ediv_emod_unique hy (q := Int.tdiv x y) (r := Int.tmod x y)).2 ⟨by omega, by omega, b1⟩).1
  have d0 : -4611686018427387904 ≤ Int.tdiv x y ∧ Int.tdiv x y ≤ 4611686018427387904 := by
    have a1 : (Int.tdiv x y).natAbs ≤ x.natAbs := Int.natAbs_tdiv_le_natAbs x y
    omega
  unfold spec_l25Floor.f impl_floorDiv.f
  rw [if_neg (show ¬ y = 0 by omega), w64 (x := Int.tdiv x y) (by omega) (by omega), w64 (x := Int.tdiv x y - 1) (by omega) (by omega), ← key]
  by_cases h : Int.tmod x y < 0
  · rw [if_pos h, if_pos h]; exact ⟨rfl, rfl⟩
  · rw [if_neg h, if_neg h]; exact ⟨rfl, rfl⟩

theorem spec_pips_loop {l : List Int} (hl : Sml l) (hn : l.length ≤ 1000) (d : Nat) : ∀ (f n : Nat) (a : Int), n + d = l.length → d < f → 0 ≤ a → a ≤ 15015 * n → spec_l02Pips.l0 f l a n = some (a + pp n (l.drop n)) := by
  induction d with
  | zero =>
    intro f n a h1 h2 h3 h4
    obtain ⟨f, rfl⟩ : ∃ m, f = m + 1 := ⟨f - 1, by omega⟩
    simp only [spec_l02Pips.l0]; rw [if_neg (by omega), List.drop_of_length_le (by omega)]; simp [pp]
  | succ d ih =>
    intro f n a h1 h2 h3 h4
    obtain ⟨f, rfl⟩ : ∃ m, f = m + 1 := ⟨f - 1, by omega⟩
    have hx := hl _ (rd_mem (l := l) (n := n) (by omega))
    have hs := pp_step (i := n) hx.1 hx.2 (by omega)
    simp only [spec_l02Pips.l0]
    rw [if_pos (by omega), if_pos (by omega), w64 (x := (n : Int) + 1) (by omega) (by omega), w64 (x := ((n : Int) + 1) * rd l n) (by omega) (by omega), w64 (x := a + ((n : Int) + 1) * rd l n) (by omega) (by omega)]
    have e := ih f (n + 1) (a + ((n : Int) + 1) * rd l n) (by omega) (by omega) (by omega) (by omega)
    rw [show ((n : Int) + 1) = ((n + 1 : Nat) : Int) from rfl] at e ⊢
    rw [e, drop_rd (l := l) (n := n) (by omega), pp, Int.add_assoc]; rfl

theorem spec_pips {l : List Int} (hl : Sml l) (hn : l.length ≤ 1000) (f : Nat) (hf : l.length < f) : spec_l02Pips.f f l = some (pp 0 l) := by
  have h := spec_pips_loop hl hn l.length f 0 0 (by omega) hf (by omega) (by omega)
  unfold spec_l02Pips.f
  simpa using h

theorem impl_pips_loop {l : List Int} (hl : Sml l) (hn : l.length ≤ 1000) (d : Nat) : ∀ (f n : Nat) (a : Int), n + d = l.length → d < f → 0 ≤ a → a ≤ 15015 * n → impl_pips.l0 f a l l.length n = some (a + pp n (l.drop n)) := by
  induction d with
  | zero =>
    intro f n a h1 h2 h3 h4
    obtain ⟨f, rfl⟩ : ∃ m, f = m + 1 := ⟨f - 1, by omega⟩
    simp only [impl_pips.l0]; rw [if_neg (by omega), List.drop_of_length_le (by omega)]; simp [pp]
  | succ d ih =>
    intro f n a h1 h2 h3 h4
    obtain ⟨f, rfl⟩ : ∃ m, f = m + 1 := ⟨f - 1, by omega⟩
    have hx := hl _ (rd_mem (l := l) (n := n) (by omega))
    have hs := pp_step (i := n) hx.1 hx.2 (by omega)
    simp only [impl_pips.l0]
    rw [if_pos (by omega), if_pos (by omega), if_pos (by omega), w64 (x := (n : Int) + 1) (by omega) (by omega), w64 (x := ((n : Int) + 1) * rd l n) (by omega) (by omega), w64 (x := a + ((n : Int) + 1) * rd l n) (by omega) (by omega)]
    have e := ih f (n + 1) (a + ((n : Int) + 1) * rd l n) (by omega) (by omega) (by omega) (by omega)
    rw [show ((n : Int) + 1) = ((n + 1 : Nat) : Int) from rfl] at e ⊢
    rw [e, drop_rd (l := l) (n := n) (by omega), pp, Int.add_assoc]; rfl

theorem impl_pips_is {l : List Int} (hl : Sml l) (hn : l.length ≤ 1000) (f : Nat) (hf : l.length < f) : impl_pips.f f l = some (pp 0 l) := by
  have h := impl_pips_loop hl hn l.length f 0 0 (by omega) hf (by omega) (by omega)
  unfold impl_pips.f
  simpa using h

/-- The estimate of a valid board. -/
def est (s : Int) (o x : List Int) : Int :=
  if sm o = 0 then 1000000 else if sm x = 0 then 0 else mx 1 (mn 999999 (500000 + 1000000 * (pp 0 x - pp 0 o + s) / (pp 0 o + pp 0 x + s)))

theorem both_estimate {p c h s : Int} {o x : List Int} (hb : bdB p c h s o x = true) (f : Nat) (hf : 100 ≤ f) : spec_l25Estimate.f f p c h s o x = some (est s o x) ∧ impl_estimate.f f p c h s o x = some (est s o x) := by
  obtain ⟨hv, ⟨l1, m1, _⟩, ⟨l2, m2, _⟩, _, _⟩ := bd_parts hb
  obtain ⟨hp, hc, _, hs⟩ := var_parts hv
  have b1 := pp_bd (i := 0) m1 (by omega)
  have b2 := pp_bd (i := 0) m2 (by omega)
  unfold spec_l25Estimate.f impl_estimate.f est
  rw [spec_sum m1 (by omega) f (by omega), impl_sum m1 (by omega) f (by omega)]
  simp only [Option.bind_some]
  by_cases h1 : sm o = 0
  · simp [h1]
  · rw [if_neg h1, if_neg h1, if_neg h1, spec_sum m2 (by omega) f (by omega), impl_sum m2 (by omega) f (by omega)]
    simp only [Option.bind_some]
    by_cases h2 : sm x = 0
    · simp [h2]
    · rw [if_neg h2, if_neg h2, if_neg h2, spec_pips m1 (by omega) f (by omega), spec_pips m2 (by omega) f (by omega), impl_pips_is m1 (by omega) f (by omega), impl_pips_is m2 (by omega) f (by omega)]
      simp only [Option.bind_some]
      generalize pp 0 o = P at *
      generalize pp 0 x = Q at *
      have hP : P ≤ 400000 := by omega
      have hQ : Q ≤ 400000 := by omega
      have hT : 0 < P + Q + s := by omega
      rw [w64 (x := Q - P) (by omega) (by omega), w64 (x := Q - P + s) (by omega) (by omega), w64 (x := P + Q) (by omega) (by omega), w64 (x := P + Q + s) (by omega) (by omega), w64 (x := 1000000 * (Q - P + s)) (by omega) (by omega), w64 (x := 500000 * (P + Q + s)) (by omega) (by omega), w64 (x := 500000 * (P + Q + s) + 1000000 * (Q - P + s)) (by omega) (by omega)]
      have e1 := (floor_is (x := 1000000 * (Q - P + s)) hT (by omega) (by omega)).1
      have e2 := (floor_is (x := 500000 * (P + Q + s) + 1000000 * (Q - P + s)) hT (by omega) (by omega)).2
      have e3 : (500000 * (P + Q + s) + 1000000 * (Q - P + s)) / (P + Q + s) = 500000 + 1000000 * (Q - P + s) / (P + Q + s) := by rw [Int.add_comm (500000 * (P + Q + s)), Int.add_mul_ediv_right _ _ (by omega), Int.add_comm]
      have d1 : -2000000000000 ≤ 1000000 * (Q - P + s) / (P + Q + s) := Int.le_ediv_of_mul_le hT (by omega)
      have d2 : 1000000 * (Q - P + s) / (P + Q + s) ≤ 2000000000000 := Int.ediv_le_of_le_mul hT (by omega)
      rw [e1, e2, e3]
      simp only [Option.bind_some]
      generalize 1000000 * (Q - P + s) / (P + Q + s) = v at *
      rw [w64 (x := 500000 + v) (by omega) (by omega)]
      refine ⟨rfl, ?_⟩
      congr 1
      unfold mx mn
      split <;> split <;> split <;> first | omega | (split <;> omega) | skip

theorem set_step {α : Type} (l : List α) (z : α) (n : Nat) (h : n < l.length) : (l.take n ++ List.replicate (l.length - n) z).set n (l.getD n z) = l.take (n + 1) ++ List.replicate (l.length - (n + 1)) z := by
  have e1 : (l.take n).length = n := by rw [List.length_take]; omega
  have e2 : l.length - n = (l.length - (n + 1)) + 1 := by omega
  rw [e2, List.replicate_succ, List.set_append_right _ _ (by omega), e1, Nat.sub_self, List.set_cons_zero, List.take_succ_eq_append_getElem h, List.append_assoc]
  congr 2
  rw [List.getD_eq_getElem?_getD, List.getElem?_eq_getElem h]; rfl

theorem toInts_loop (l : List Int) (hl : l.length ≤ 1048576) (d : Nat) : ∀ (f n : Nat), n + d = l.length → d < f →
    laws_toInt64S.l0 f l (l.take n ++ List.replicate (l.length - n) 0) n = some l := by
  induction d with
  | zero =>
    intro f n hn hf
    obtain ⟨f, rfl⟩ : ∃ m, f = m + 1 := ⟨f - 1, by omega⟩
    obtain rfl : n = l.length := by omega
    simp [laws_toInt64S.l0]
  | succ d ih =>
    intro f n hn hf
    obtain ⟨f, rfl⟩ : ∃ m, f = m + 1 := ⟨f - 1, by omega⟩
    have hlen : (l.take n ++ List.replicate (l.length - n) (0 : Int)).length = l.length := by simp; omega
    simp only [laws_toInt64S.l0]
    rw [hlen, if_pos (by omega), if_pos (by omega), if_pos (by omega), w64_succ n (by omega)]
    have er : rd l (n : Int) = l.getD n 0 := rfl
    rw [er, Int.toNat_natCast, set_step l 0 n (by omega)]
    exact ih f (n + 1) (by omega) (by omega)

theorem toInts (l : List Int) (hl : l.length ≤ 1048576) (f : Nat) (hf : l.length < f) : laws_toInt64S.f f l = some l := by
  unfold laws_toInt64S.f
  rw [if_pos (by omega), if_pos (by omega), Int.toNat_natCast]
  have h := toInts_loop l hl l.length f 0 (by omega) hf
  simpa using h

theorem eqInts_loop (l : List Int) (hl : l.length ≤ 1048576) (d : Nat) : ∀ (f n : Nat), n + d = l.length → d < f → laws_eqInt64S.l0 f l l n = some true := by
  induction d with
  | zero =>
    intro f n hn hf
    obtain ⟨f, rfl⟩ : ∃ m, f = m + 1 := ⟨f - 1, by omega⟩
    simp only [laws_eqInt64S.l0]; rw [if_neg (by omega)]
  | succ d ih =>
    intro f n hn hf
    obtain ⟨f, rfl⟩ : ∃ m, f = m + 1 := ⟨f - 1, by omega⟩
    simp only [laws_eqInt64S.l0]
    rw [if_pos (by omega), if_pos (by omega), if_pos (by omega), w64_succ n (by omega)]
    simp only [if_true]
    exact ih f (n + 1) (by omega) (by omega)

theorem eqInts (l : List Int) (hl : l.length ≤ 1048576) (f : Nat) (hf : l.length < f) : laws_eqInt64S.f f l l = some true := by
  unfold laws_eqInt64S.f
  rw [if_pos rfl]
  exact eqInts_loop l hl l.length f 0 (by omega) hf

/-- What is left of a bound behind a list. -/
theorem szInts (l : List Int) (a : Int) (h0 : 0 ≤ a) (h1 : a ≤ 1048576) (hl : l.length ≤ 140737488351232) : laws_szInt64S.f l a = some (if a < (l.length : Int) then -1 else a - l.length) := by
  unfold laws_szInt64S.f
  rw [w64 (x := a - (l.length : Int)) (by omega) (by omega)]
  by_cases h : a < (l.length : Int)
  · rw [if_pos (by omega), if_pos h]
  · rw [if_neg (by omega), if_neg h]

theorem szBoard (o x : List Int) (a : Int) (h0 : 0 ≤ a) (h1 : a ≤ 1048576) (ho : o.length ≤ 140737488351232) (hx : x.length ≤ 140737488351232) : laws_szBoard.f o x a = some (if a < (o.length : Int) + x.length then -1 else a - o.length - x.length) := by
  unfold laws_szBoard.f
  rw [szInts o a h0 h1 ho]
  simp only [Option.bind_some]
  by_cases h : a < (o.length : Int)
  · rw [if_pos h, if_pos (by decide), if_pos (by omega)]
  · rw [if_neg h, if_neg (by omega), szInts x (a - o.length) (by omega) (by omega) hx]
    simp only [Option.bind_some]
    by_cases h2 : a < (o.length : Int) + x.length
    · rw [if_pos (show a - (o.length : Int) < x.length by omega), if_pos h2]; simp
    · rw [if_neg (show ¬ a - (o.length : Int) < x.length by omega), if_neg h2, if_neg (by omega)]

theorem toBoard (o x : List Int) (ho : o.length ≤ 1048576) (hx : x.length ≤ 1048576) (f : Nat) (hf : 1048576 < f) : laws_toBoard.f f o x = some (o, x) := by
  unfold laws_toBoard.f
  rw [toInts o ho f (by omega), toInts x hx f (by omega)]; rfl

theorem eqBoard (o x : List Int) (ho : o.length ≤ 1048576) (hx : x.length ≤ 1048576) (f : Nat) (hf : 1048576 < f) : laws_eqBoard.f f o x o x = some true := by
  unfold laws_eqBoard.f
  rw [eqInts o ho f (by omega), eqInts x hx f (by omega)]; rfl


theorem FnExactEstimateBoard (p c h s : Int) (o x : List Int) (ho : o.length ≤ 140737488351232) (hx : x.length ≤ 140737488351232) : ∃ k, laws_FnExactEstimateBoard.f k p c h s o x = some true := by
  obtain ⟨K, hK⟩ : ∃ K : Nat, K = 1050000 := ⟨_, rfl⟩
  refine ⟨K, ?_⟩
  unfold laws_FnExactEstimateBoard.f laws_toVariant.f
  rw [szBoard o x 1048576 (by omega) (by omega) ho hx]
  simp only [Option.bind_some]
  by_cases hs : (1048576 : Int) < (o.length : Int) + x.length
  · rw [if_pos hs]; simp
  · rw [if_neg hs, if_neg (by omega), toBoard o x (by omega) (by omega) K (by omega)]
    simp only [Option.bind_some]
    have e : ∃ r, spec_EstimateBoard.f K p c h s o x = some r ∧ impl_EstimateBoard.f K p c h s o x = some r := by
      unfold spec_EstimateBoard.f impl_EstimateBoard.f
      rw [spec_board p c h s o x K (by omega), impl_board p c h s o x K (by omega)]
      simp only [Option.bind_some]
      cases hb : bdB p c h s o x with
      | false => exact ⟨-1, by simp, by simp⟩
      | true =>
        obtain ⟨e1, e2⟩ := both_estimate hb K (by omega)
        rw [e1, e2]
        exact ⟨est s o x, by simp, by simp⟩
    obtain ⟨r, e1, e2⟩ := e
    rw [e1, e2]
    simp only [Option.bind_some, if_true]
    rw [eqBoard o x (by omega) (by omega) K (by omega)]; simp

end Go.Proofs.Ytpeipalgpbkagaa.Pure
