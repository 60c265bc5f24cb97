/- The squared error of examples: the program's function and the reference's answer alike for all networks and examples. No condition. -/
import Derived.Test.YtpeipalgpbkagaaPFnExactSquaredErrorx8
namespace Go.Proofs.Ytpeipalgpbkagaa.Pure
open Go.RowKit Go.Proofs.Ytpeipalgpbkagaa.PFnExactSquaredError Go.Proofs.YtpeipalgpbkagaaW.PrintWords Go.Proofs.YtpeipalgpbkagaaW.PrintLast Go.Proofs.YtpeipalgpbkagaaW.PrintMore

theorem w64 {x : Int} (h0 : -9223372036854775808 ≤ x) (h1 : x ≤ 9223372036854775807) : wrap64 x = x := by unfold wrap64; omega
theorem w64_nat (a : Nat) (h : a ≤ 9223372036854775807) : wrap64 (a : Int) = a := w64 (by omega) (by omega)
theorem w64_sub (a b : Nat) (h : b ≤ a) (ha : a ≤ 9223372036854775807) : wrap64 ((a : Int) - (b : Int)) = ((a - b : Nat) : Int) := by rw [w64 (by omega) (by omega)]; omega
theorem w64_add (a b : Nat) (h : a + b ≤ 9223372036854775807) : wrap64 ((a : Int) + (b : Int)) = ((a + b : Nat) : Int) := by rw [w64 (by omega) (by omega)]; omega
theorem w64_succ (a : Nat) (h : a + 1 ≤ 9223372036854775807) : wrap64 ((a : Int) + 1) = ((a + 1 : Nat) : Int) := by rw [w64 (by omega) (by omega)]; omega
theorem w64_mul (a b : Nat) (h : a * b ≤ 9223372036854775807) : wrap64 ((a : Int) * (b : Int)) = ((a * b : Nat) : Int) := by
  rw [← Int.natCast_mul]
  exact w64_nat _ h
theorem mulle {a b R : Nat} (A B : Nat) (h0 : a ≤ A) (h1 : b ≤ B) (h : A * B ≤ R) : a * b ≤ R := Nat.le_trans (Nat.mul_le_mul h0 h1) h

theorem rd_nat (l : List Int) (n : Nat) : rd l (n : Int) = l.getD n 0 := rfl

theorem drop_rd {l : List Int} {n : Nat} (h : n < l.length) : l.drop n = rd l (n : Int) :: l.drop (n + 1) := by
  rw [List.drop_eq_getElem_cons h, rd_nat, List.getD_eq_getElem?_getD, List.getElem?_eq_getElem h]; rfl

theorem rd_mem {l : List Int} {n : Nat} (h : n < l.length) : rd l (n : Int) ∈ l := by
  rw [rd_nat, List.getD_eq_getElem?_getD, List.getElem?_eq_getElem h]
  exact List.getElem_mem h

/-- The sum of a list. -/
def sm : List Int → Int
  | [] => 0
  | x :: l => x + sm l

def Sml (l : List Int) : Prop := ∀ x ∈ l, 0 ≤ x ∧ x ≤ 15

theorem Sml.drop {l : List Int} (h : Sml l) (n : Nat) : Sml (l.drop n) := fun x hx => h x (List.mem_of_mem_drop hx)

theorem sm_bd : ∀ {l : List Int}, Sml l → 0 ≤ sm l ∧ sm l ≤ 15 * l.length
  | [], _ => by simp [sm]
  | x :: l, h => by
    have h1 := h x List.mem_cons_self
    have h2 := sm_bd (l := l) (fun y hy => h y (List.mem_cons_of_mem _ hy))
    simp only [sm, List.length_cons]
    omega

theorem sm_nn : ∀ {l : List Int}, (∀ x ∈ l, 0 ≤ x) → 0 ≤ sm l
  | [], _ => by simp [sm]
  | x :: l, h => by
    have h1 := h x List.mem_cons_self
    have h2 := sm_nn (l := l) (fun y hy => h y (List.mem_cons_of_mem _ hy))
    simp only [sm]
    omega

theorem le_sm : ∀ {l : List Int}, (∀ x ∈ l, 0 ≤ x) → ∀ x ∈ l, x ≤ sm l
  | [], _, x, hx => by cases hx
  | y :: l, h, x, hx => by
    have h1 := h y List.mem_cons_self
    have h2 : ∀ z ∈ l, 0 ≤ z := fun z hz => h z (List.mem_cons_of_mem _ hz)
    simp only [sm]
    rcases List.mem_cons.1 hx with rfl | hx
    · have := sm_nn h2; omega
    · have := le_sm h2 x hx; omega

/-- The pips of a list whose first place is i. -/
def pp : Nat → List Int → Int
  | _, [] => 0
  | i, x :: l => ((i : Int) + 1) * x + pp (i + 1) l

theorem pp_step {i : Nat} {x : Int} (h0 : 0 ≤ x) (h1 : x ≤ 15) (hi : i ≤ 1000) : 0 ≤ ((i : Int) + 1) * x ∧ ((i : Int) + 1) * x ≤ 15015 := by
  have a := Int.mul_nonneg (show 0 ≤ (i : Int) + 1 by omega) h0
  have b : ((i : Int) + 1) * x ≤ 1001 * 15 := Int.mul_le_mul (by omega) h1 h0 (by omega)
  exact ⟨a, by omega⟩

theorem pp_bd : ∀ {l : List Int} {i : Nat}, Sml l → i + l.length ≤ 1000 → 0 ≤ pp i l ∧ pp i l ≤ 15015 * l.length
  | [], i, _, _ => by simp [pp]
  | x :: l, i, h, hi => by
    have h1 := h x List.mem_cons_self
    simp only [List.length_cons] at hi
    have h2 := pp_bd (l := l) (i := i + 1) (fun y hy => h y (List.mem_cons_of_mem _ hy)) (by omega)
    have h3 := pp_step (i := i) h1.1 h1.2 (by omega)
    simp only [pp, List.length_cons]
    omega

theorem within_is (a b c : Int) : impl_within.f a b c = some (decide (b ≤ a ∧ a ≤ c)) := by
  unfold impl_within.f
  by_cases h : a ≥ b <;> simp [h]
theorem in_is (a b c : Int) : spec_l01In.f a b c = some (decide (b ≤ a ∧ a ≤ c)) := by
  unfold spec_l01In.f
  by_cases h : a ≥ b <;> simp [h]
theorem floor23 {x y : Int} (hy : 0 < y) (h0 : -4611686018427387904 ≤ x) (h1 : x ≤ 4611686018427387904) : spec_l23Floor.f x y = some (x / y) := by
  have hx : y * Int.tdiv x y + Int.tmod x y = x := Int.mul_tdiv_add_tmod x y
  have b1 : Int.tmod x y < y := Int.tmod_lt_of_pos x hy
  have b2 : -y < Int.tmod x y := Int.lt_tmod_of_pos x hy
  have key : (if Int.tmod x y < 0 then Int.tdiv x y - 1 else Int.tdiv x y) = x / y := by
    symm
    by_cases h : Int.tmod x y < 0
    · rw [if_pos h]
      refine ((Int.ediv_emod_unique hy (q := Int.tdiv x y - 1) (r := Int.tmod x y + y)).2 ⟨?_, by omega, by omega⟩).1
      rw [Int.mul_sub, Int.mul_one]; omega
    · rw [if_neg h]
      exact ((Int.ediv_emod_unique hy (q := Int.tdiv x y) (r := Int.tmod x y)).2 ⟨by omega, by omega, b1⟩).1
  have d0 : -4611686018427387904 ≤ Int.tdiv x y ∧ Int.tdiv x y ≤ 4611686018427387904 := by
    have a1 : (Int.tdiv x y).natAbs ≤ x.natAbs := Int.natAbs_tdiv_le_natAbs x y
    omega
  unfold spec_l23Floor.f
  rw [if_neg (show ¬ y = 0 by omega), w64 (x := Int.tdiv x y) (by omega) (by omega), w64 (x := Int.tdiv x y - 1) (by omega) (by omega), ← key]
  by_cases h : Int.tmod x y < 0
  · rw [if_pos h, if_pos h]
  · rw [if_neg h, if_neg h]


def In2 (lo hi : Int) (l : List Int) : Prop := ∀ x ∈ l, lo ≤ x ∧ x ≤ hi
instance (lo hi : Int) (l : List Int) : Decidable (In2 lo hi l) := by unfold In2; infer_instance

theorem in2_drop {lo hi : Int} {l : List Int} {n : Nat} (h : n < l.length) : In2 lo hi (l.drop n) ↔ ((lo ≤ rd l (n : Int) ∧ rd l (n : Int) ≤ hi) ∧ In2 lo hi (l.drop (n + 1))) := by
  rw [drop_rd h]; unfold In2; simp only [List.forall_mem_cons]

theorem rd_in {lo hi : Int} {l : List Int} (h : In2 lo hi l) (h0 : lo ≤ 0) (h1 : 0 ≤ hi) (i : Int) : lo ≤ rd l i ∧ rd l i ≤ hi := by
  unfold rd
  rw [List.getD_eq_getElem?_getD]
  cases e : l[i.toNat]? with
  | none => exact ⟨h0, h1⟩
  | some x => exact h x (List.mem_of_getElem? e)

theorem all_loop {lo hi : Int} {l : List Int} (hn : l.length ≤ 9223372036854775806) (d : Nat) : ∀ (f n : Nat), n + d = l.length → d < f → impl_allWithin.l0 f lo hi l l.length n = some (decide (In2 lo hi (l.drop n))) := by
  induction d with
  | zero =>
    intro f n h1 h2
    obtain ⟨f, rfl⟩ : ∃ m, f = m + 1 := ⟨f - 1, by omega⟩
    simp only [impl_allWithin.l0]; rw [if_neg (by omega), List.drop_of_length_le (by omega)]; simp [In2]
  | succ d ih =>
    intro f n h1 h2
    obtain ⟨f, rfl⟩ : ∃ m, f = m + 1 := ⟨f - 1, by omega⟩
    simp only [impl_allWithin.l0]
    rw [if_pos (by omega), if_pos (by omega), if_pos (by omega), w64_succ n (by omega), within_is]
    simp only [Option.bind_some, decide_eq_true_eq]
    rw [ih f (n + 1) (by omega) (by omega)]
    by_cases hx : lo ≤ rd l n ∧ rd l n ≤ hi
    · rw [if_pos hx]; congr 1; rw [decide_eq_decide, in2_drop (show n < l.length by omega)]; exact ⟨fun h => ⟨hx, h⟩, fun h => h.2⟩
    · rw [if_neg hx]; congr 1; symm; rw [decide_eq_false_iff_not, in2_drop (show n < l.length by omega)]; exact fun h => hx h.1

theorem impl_all (lo hi : Int) (l : List Int) (hn : l.length ≤ 9223372036854775806) (f : Nat) (hf : l.length < f) : impl_allWithin.f f l lo hi = some (decide (In2 lo hi l)) := by
  have h := all_loop (lo := lo) (hi := hi) hn l.length f 0 (by omega) hf
  unfold impl_allWithin.f
  simpa using h

theorem weights_loop {l : List Int} (hn : l.length ≤ 9223372036854775806) (d : Nat) : ∀ (f n : Nat), n + d = l.length → d < f → spec_l23Weights.l0 f l n = some (decide (In2 (-1048576) 1048576 (l.drop n))) := by
  induction d with
  | zero =>
    intro f n h1 h2
    obtain ⟨f, rfl⟩ : ∃ m, f = m + 1 := ⟨f - 1, by omega⟩
    simp only [spec_l23Weights.l0]; rw [if_neg (by omega), List.drop_of_length_le (by omega)]; simp [In2]
  | succ d ih =>
    intro f n h1 h2
    obtain ⟨f, rfl⟩ : ∃ m, f = m + 1 := ⟨f - 1, by omega⟩
    simp only [spec_l23Weights.l0]
    rw [if_pos (by omega), if_pos (by omega), w64_succ n (by omega), in_is]
    simp only [Option.bind_some, decide_eq_true_eq]
    rw [ih f (n + 1) (by omega) (by omega)]
    by_cases hx : -1048576 ≤ rd l n ∧ rd l n ≤ 1048576
    · rw [if_pos hx]; congr 1; rw [decide_eq_decide, in2_drop (show n < l.length by omega)]; exact ⟨fun h => ⟨hx, h⟩, fun h => h.2⟩
    · rw [if_neg hx]; congr 1; symm; rw [decide_eq_false_iff_not, in2_drop (show n < l.length by omega)]; exact fun h => hx h.1

theorem spec_weights (l : List Int) (n : Int) (hn : l.length ≤ 9223372036854775806) (f : Nat) (hf : l.length < f) : spec_l23Weights.f f l n = some (decide ((l.length : Int) = n ∧ In2 (-1048576) 1048576 l)) := by
  have h := weights_loop hn l.length f 0 (by omega) hf
  unfold spec_l23Weights.f
  by_cases e : (l.length : Int) = n
  · rw [if_pos e]
    have h' : spec_l23Weights.l0 f l 0 = _ := h
    rw [h']; simp [e]
  · rw [if_neg e]; simp [e]

/-- Whether a network is valid. -/
def netB (i h : Int) (a b : List Int) : Bool := decide ((1 ≤ i ∧ i ≤ 32) ∧ (1 ≤ h ∧ h ≤ 12) ∧ ((a.length : Int) = h * (i + 1) ∧ In2 (-1048576) 1048576 a) ∧ ((b.length : Int) = h + 1 ∧ In2 (-1048576) 1048576 b))

theorem hw_bd {i h : Int} (h0 : 1 ≤ i ∧ i ≤ 32) (h1 : 1 ≤ h ∧ h ≤ 12) : wrap64 (h * wrap64 (i + 1)) = h * (i + 1) := by
  rw [w64 (x := i + 1) (by omega) (by omega)]
  have a := Int.mul_nonneg (show 0 ≤ h by omega) (show 0 ≤ i + 1 by omega)
  have b : h * (i + 1) ≤ 12 * 33 := Int.mul_le_mul (by omega) (by omega) (by omega) (by omega)
  exact w64 (by omega) (by omega)

theorem impl_net (i h : Int) (a b : List Int) (ha : a.length ≤ 1048576) (hb : b.length ≤ 1048576) (f : Nat) (hf : 1048577 ≤ f) : impl_IsNetwork.f f i h a b = some (netB i h a b) := by
  unfold impl_IsNetwork.f netB
  rw [within_is, within_is, impl_all _ _ a (by omega) f (by omega), impl_all _ _ b (by omega) f (by omega)]
  simp only [Option.bind_some, decide_eq_true_eq]
  by_cases h0 : 1 ≤ i ∧ i ≤ 32
  · rw [if_pos h0]
    by_cases h1 : 1 ≤ h ∧ h ≤ 12
    · rw [if_pos h1, hw_bd h0 h1, w64 (x := h + 1) (by omega) (by omega)]
      by_cases h2 : (a.length : Int) = h * (i + 1)
      · by_cases h3 : (b.length : Int) = h + 1
        · rw [if_pos h2, if_pos h3]
          by_cases h4 : In2 (-1048576) 1048576 a
          · rw [if_pos h4]; simp [h0, h1, h2, h3, h4]
          · rw [if_neg h4]; simp [h4]
        · rw [if_pos h2, if_neg h3]; simp [h3]
      · rw [if_neg h2]; simp [h2]
    · rw [if_neg h1]; simp [h1]
  · rw [if_neg h0]; simp [h0]

theorem spec_net (i h : Int) (a b : List Int) (ha : a.length ≤ 1048576) (hb : b.length ≤ 1048576) (f : Nat) (hf : 1048578 ≤ f) : spec_IsNetwork.f f i h a b = some (netB i h a b) := by
  obtain ⟨f, rfl⟩ : ∃ m, f = m + 1 := ⟨f - 1, by omega⟩
  unfold spec_IsNetwork.f netB
  rw [in_is, in_is]
  simp only [Option.bind_some, decide_eq_true_eq, spec_IsNetwork.j0]
  by_cases h0 : 1 ≤ i ∧ i ≤ 32
  · rw [if_pos h0]
    by_cases h1 : 1 ≤ h ∧ h ≤ 12
    · rw [hw_bd h0 h1, w64 (x := h + 1) (by omega) (by omega), spec_weights a _ (by omega) f (by omega), spec_weights b _ (by omega) f (by omega)]
      by_cases h2 : (a.length : Int) = h * (i + 1) ∧ In2 (-1048576) 1048576 a
      · simp [h0, h1, h2]
      · simp [h0, h1, h2]
    · simp [h1]
  · rw [if_neg h0]; simp [h0]

theorem mul_abs2 {a b : Int} (A B : Nat) (h0 : -(A : Int) ≤ a) (h1 : a ≤ A) (h2 : -(B : Int) ≤ b) (h3 : b ≤ B) : -((A * B : Nat) : Int) ≤ a * b ∧ a * b ≤ ((A * B : Nat) : Int) := by
  have e := Int.natAbs_mul a b
  have k : a.natAbs * b.natAbs ≤ A * B := Nat.mul_le_mul (by omega) (by omega)
  rw [← e] at k
  omega

/-- The first n products, added up. -/
def dotn (w x : List Int) : Nat → Int
  | 0 => 0
  | n + 1 => dotn w x n + rd w n * rd x n

theorem prod_in {w x : List Int} (hw : In2 (-1048576) 1048576 w) (hx : In2 (-4096) 4096 x) (i j : Int) : -4294967296 ≤ rd w i * rd x j ∧ rd w i * rd x j ≤ 4294967296 := by
  have a := rd_in hw (by omega) (by omega) i
  have b := rd_in hx (by omega) (by omega) j
  have := mul_abs2 (a := rd w i) (b := rd x j) 1048576 4096 (by omega) (by omega) (by omega) (by omega)
  omega

theorem dotn_bd {w x : List Int} (hw : In2 (-1048576) 1048576 w) (hx : In2 (-4096) 4096 x) : ∀ n : Nat, -(4294967296 * (n : Int)) ≤ dotn w x n ∧ dotn w x n ≤ 4294967296 * (n : Int)
  | 0 => by simp [dotn]
  | n + 1 => by
    have := dotn_bd hw hx n
    have := prod_in hw hx n n
    simp only [dotn]
    omega

/-- The sum of a unit. -/
def uV (w x : List Int) : Int := (rd w x.length * 4096 + dotn w x x.length) / 4096

theorem bias_in {w : List Int} (hw : In2 (-1048576) 1048576 w) (i : Int) : -4294967296 ≤ rd w i * 4096 ∧ rd w i * 4096 ≤ 4294967296 := by
  have a := rd_in hw (by omega) (by omega) i
  omega

theorem uV_bd {w x : List Int} (hw : In2 (-1048576) 1048576 w) (hx : In2 (-4096) 4096 x) (hn : x.length ≤ 40) : -43000000 ≤ uV w x ∧ uV w x ≤ 43000000 := by
  have a := dotn_bd hw hx x.length
  have b := bias_in hw x.length
  unfold uV
  omega

theorem spec_unit_loop {w x : List Int} (hw : In2 (-1048576) 1048576 w) (hx : In2 (-4096) 4096 x) (hn : x.length ≤ 40) (hl : x.length < w.length) (d : Nat) : ∀ (f n : Nat), n + d = x.length → d < f →
    spec_l23Sum.l0 f w x (rd w x.length * 4096 + dotn w x n) n = some (uV w x) := by
  have b := bias_in hw x.length
  induction d with
  | zero =>
    intro f n h1 h2
    obtain ⟨f, rfl⟩ : ∃ m, f = m + 1 := ⟨f - 1, by omega⟩
    obtain rfl : n = x.length := by omega
    have a := dotn_bd hw hx x.length
    simp only [spec_l23Sum.l0]
    rw [if_neg (by omega), floor23 (by omega) (by omega) (by omega)]
    rfl
  | succ d ih =>
    intro f n h1 h2
    obtain ⟨f, rfl⟩ : ∃ m, f = m + 1 := ⟨f - 1, by omega⟩
    have a := dotn_bd hw hx n
    have c := prod_in hw hx n n
    simp only [spec_l23Sum.l0]
    rw [if_pos (by omega), if_pos (by omega), if_pos (by omega), w64_succ n (by omega), w64 (x := rd w n * rd x n) (by omega) (by omega), w64 (x := rd w x.length * 4096 + dotn w x n + rd w n * rd x n) (by omega) (by omega), Int.add_assoc]
    exact ih f (n + 1) (by omega) (by omega)

theorem spec_unit {w x : List Int} (hw : In2 (-1048576) 1048576 w) (hx : In2 (-4096) 4096 x) (hn : x.length ≤ 40) (hl : x.length < w.length) (f : Nat) (hf : 50 ≤ f) : spec_l23Sum.f f w x = some (uV w x) := by
  have b := bias_in hw x.length
  have h := spec_unit_loop hw hx hn hl x.length f 0 (by omega) (by omega)
  unfold spec_l23Sum.f
  rw [if_pos (by omega), if_pos (by omega), w64 (x := rd w x.length * 4096) (by omega) (by omega)]
  simpa [dotn] using h

theorem impl_unit_loop {w x : List Int} (hw : In2 (-1048576) 1048576 w) (hx : In2 (-4096) 4096 x) (hn : x.length ≤ 40) (hl : x.length < w.length) (d : Nat) : ∀ (f n : Nat), n + d = x.length → d < f →
    impl_unitSum.l0 f w (rd w x.length * 4096 + dotn w x n) x x.length n = some (uV w x) := by
  have b := bias_in hw x.length
  induction d with
  | zero =>
    intro f n h1 h2
    obtain ⟨f, rfl⟩ : ∃ m, f = m + 1 := ⟨f - 1, by omega⟩
    obtain rfl : n = x.length := by omega
    simp only [impl_unitSum.l0]
    rw [if_neg (by omega)]
    rfl
  | succ d ih =>
    intro f n h1 h2
    obtain ⟨f, rfl⟩ : ∃ m, f = m + 1 := ⟨f - 1, by omega⟩
    have a := dotn_bd hw hx n
    have c := prod_in hw hx n n
    simp only [impl_unitSum.l0]
    rw [if_pos (by omega), if_pos (by omega), if_pos (by omega), if_pos (by omega), w64_succ n (by omega), w64 (x := rd w n * rd x n) (by omega) (by omega), w64 (x := rd w x.length * 4096 + dotn w x n + rd w n * rd x n) (by omega) (by omega), Int.add_assoc]
    exact ih f (n + 1) (by omega) (by omega)

theorem impl_unit {w x : List Int} (hw : In2 (-1048576) 1048576 w) (hx : In2 (-4096) 4096 x) (hn : x.length ≤ 40) (hl : x.length < w.length) (f : Nat) (hf : 50 ≤ f) : impl_unitSum.f f w x = some (uV w x) := by
  have b := bias_in hw x.length
  have h := impl_unit_loop hw hx hn hl x.length f 0 (by omega) (by omega)
  unfold impl_unitSum.f
  rw [if_pos (by omega), if_pos (by omega), w64 (x := rd w x.length * 4096) (by omega) (by omega)]
  simpa [dotn] using h

/-- The activation of a sum. -/
def act (v : Int) : Int := if v ≤ -16384 then 0 else if v ≥ 16384 then 4096 else 2048 + v / 8

theorem act_bd (v : Int) : 0 ≤ act v ∧ act v ≤ 4096 := by
  unfold act; split
  · omega
  · split <;> omega

theorem spec_act (v : Int) : spec_Activation.f v = some (act v) := by
  unfold spec_Activation.f act
  by_cases h0 : v ≤ -16384
  · rw [if_pos h0, if_pos h0]
  · rw [if_neg h0, if_neg h0]
    by_cases h1 : v ≥ 16384
    · rw [if_pos h1, if_pos h1]
    · rw [if_neg h1, if_neg h1, floor23 (by omega) (by omega) (by omega)]
      simp only [Option.bind_some]
      rw [w64 (by omega) (by omega)]

theorem impl_act (v : Int) : impl_Activation.f v = some (act v) := by
  unfold impl_Activation.f act
  by_cases h0 : v ≤ -16384
  · rw [if_pos h0, if_pos h0]
  · rw [if_neg h0, if_neg h0]
    by_cases h1 : v ≥ 16384
    · rw [if_pos h1, if_pos h1]
    · rw [if_neg h1, if_neg h1, w64 (by omega) (by omega)]

/-- The weights of hidden unit k. -/
def unitW (i : Nat) (a : List Int) (k : Nat) : List Int := (a.take ((k + 1) * (i + 1))).drop (k * (i + 1))

theorem unitW_in {i : Nat} {a : List Int} (ha : In2 (-1048576) 1048576 a) (k : Nat) : In2 (-1048576) 1048576 (unitW i a k) := fun x hx => ha x (List.mem_of_mem_take (List.mem_of_mem_drop hx))

theorem unitW_len {i h : Nat} {a : List Int} (ha : a.length = h * (i + 1)) {k : Nat} (hk : k < h) : (unitW i a k).length = i + 1 := by
  have h1 : (k + 1) * (i + 1) ≤ h * (i + 1) := Nat.mul_le_mul_right _ hk
  unfold unitW
  rw [List.length_drop, List.length_take, ha, Nat.min_eq_left h1, Nat.add_mul, Nat.one_mul]
  omega

theorem unitW_of (i h : Nat) (hi : i ≤ 32) (hh : h ≤ 12) (a : List Int) (ha : a.length = h * (i + 1)) (k : Nat) (hk : k < h) :
    wrap64 ((k : Int) * wrap64 ((i : Int) + 1)) = ((k * (i + 1) : Nat) : Int) ∧ wrap64 (wrap64 ((k : Int) + 1) * wrap64 ((i : Int) + 1)) = (((k + 1) * (i + 1) : Nat) : Int) ∧ k * (i + 1) ≤ (k + 1) * (i + 1) ∧ (k + 1) * (i + 1) ≤ a.length := by
  have h1 : k * (i + 1) ≤ 1000 := mulle 12 33 (by omega) (by omega) (by omega)
  have h2 : (k + 1) * (i + 1) ≤ 1000 := mulle 12 33 (by omega) (by omega) (by omega)
  refine ⟨?_, ?_, Nat.mul_le_mul_right _ (by omega), by rw [ha]; exact Nat.mul_le_mul_right _ hk⟩
  · rw [w64_succ i (by omega), w64_mul _ _ (by omega)]
  · rw [w64_succ i (by omega), w64_succ k (by omega), w64_mul _ _ (by omega)]

theorem spec_unitW (i h : Nat) (hi : i ≤ 32) (hh : h ≤ 12) (a b : List Int) (ha : a.length = h * (i + 1)) (k : Nat) (hk : k < h) : spec_l23Unit.f i h a b k = some (unitW i a k) := by
  obtain ⟨e1, e2, l1, l2⟩ := unitW_of i h hi hh a ha k hk
  unfold spec_l23Unit.f
  rw [e1, e2, if_pos (Int.natCast_nonneg _), if_pos (Int.ofNat_le.mpr l1), if_pos (Int.ofNat_le.mpr l2)]
  rfl

theorem impl_unitW (i h : Nat) (hi : i ≤ 32) (hh : h ≤ 12) (a b : List Int) (ha : a.length = h * (i + 1)) (k : Nat) (hk : k < h) : impl_Network_unitWeights.f i h a b k = some (unitW i a k) := by
  obtain ⟨e1, e2, l1, l2⟩ := unitW_of i h hi hh a ha k hk
  unfold impl_Network_unitWeights.f
  rw [e1, e2, if_pos (Int.natCast_nonneg _), if_pos (Int.ofNat_le.mpr l1), if_pos (Int.ofNat_le.mpr l2)]
  rfl

/-- The sums of the first k hidden units. -/
def sums (i : Nat) (a x : List Int) : Nat → List Int
  | 0 => []
  | k + 1 => sums i a x k ++ [uV (unitW i a k) x]

theorem sums_len (i : Nat) (a x : List Int) : ∀ k, (sums i a x k).length = k
  | 0 => rfl
  | k + 1 => by simp [sums, sums_len i a x k]

theorem spec_hidden_loop {i h : Nat} (hi : i ≤ 32) (hh : h ≤ 12) {a b x : List Int} (ha : a.length = h * (i + 1)) (hw : In2 (-1048576) 1048576 a) (hx : In2 (-4096) 4096 x) (hl : x.length = i) (d : Nat) : ∀ (f k : Nat), k + d = h → d + 60 < f →
    spec_l23Hidden.l0 f x ((sums i a x k).map act) k i h a b = some ((sums i a x h).map act) := by
  induction d with
  | zero =>
    intro f k h1 h2
    obtain ⟨f, rfl⟩ : ∃ m, f = m + 1 := ⟨f - 1, by omega⟩
    obtain rfl : k = h := by omega
    simp only [spec_l23Hidden.l0]; rw [if_neg (by omega)]
  | succ d ih =>
    intro f k h1 h2
    obtain ⟨f, rfl⟩ : ∃ m, f = m + 1 := ⟨f - 1, by omega⟩
    have hu := unitW_len (i := i) ha (show k < h by omega)
    have hlen : ((sums i a x k).map act).length < 17592186044416 := by rw [List.length_map, sums_len]; omega
    simp only [spec_l23Hidden.l0]
    rw [if_pos (by omega), spec_unitW i h hi hh a b ha k (by omega)]
    simp only [Option.bind_some]
    rw [spec_unit (unitW_in hw k) hx (by omega) (by omega) f (by omega)]
    simp only [Option.bind_some]
    rw [spec_act]
    simp only [Option.bind_some]
    rw [if_pos hlen, w64_succ k (by omega)]
    have e := ih f (k + 1) (by omega) (by omega)
    simpa [sums] using e

theorem spec_hidden {i h : Nat} (hi : i ≤ 32) (hh : h ≤ 12) {a b x : List Int} (ha : a.length = h * (i + 1)) (hw : In2 (-1048576) 1048576 a) (hx : In2 (-4096) 4096 x) (hl : x.length = i) (f : Nat) (hf : 100 ≤ f) : spec_l23Hidden.f f i h a b x = some ((sums i a x h).map act) := by
  have e := spec_hidden_loop (b := b) hi hh ha hw hx hl h f 0 (by omega) (by omega)
  unfold spec_l23Hidden.f
  exact e

theorem set_mid {α : Type} (A : List α) (z v : α) (n k : Nat) (hA : A.length = k) (hk : k < n) : (A ++ List.replicate (n - k) z).set k v = (A ++ [v]) ++ List.replicate (n - (k + 1)) z := by
  have e2 : n - k = (n - (k + 1)) + 1 := by omega
  rw [e2, List.replicate_succ, List.set_append_right _ _ (by omega), hA, Nat.sub_self, List.set_cons_zero, List.append_assoc]; rfl

theorem impl_sums_loop {i h : Nat} (hi : i ≤ 32) (hh : h ≤ 12) {a b x : List Int} (ha : a.length = h * (i + 1)) (hw : In2 (-1048576) 1048576 a) (hx : In2 (-4096) 4096 x) (hl : x.length = i) (d : Nat) : ∀ (f k : Nat), k + d = h → d + 60 < f →
    impl_Network_hiddenSums.l0 f x (sums i a x k ++ List.replicate (h - k) 0) h k i h a b = some (sums i a x h) := by
  induction d with
  | zero =>
    intro f k h1 h2
    obtain ⟨f, rfl⟩ : ∃ m, f = m + 1 := ⟨f - 1, by omega⟩
    obtain rfl : k = h := by omega
    simp only [impl_Network_hiddenSums.l0]; rw [if_neg (by omega)]; simp
  | succ d ih =>
    intro f k h1 h2
    obtain ⟨f, rfl⟩ : ∃ m, f = m + 1 := ⟨f - 1, by omega⟩
    have hu := unitW_len (i := i) ha (show k < h by omega)
    have hlen : (sums i a x k ++ List.replicate (h - k) (0 : Int)).length = h := by rw [List.length_append, sums_len, List.length_replicate]; omega
    simp only [impl_Network_hiddenSums.l0]
    rw [if_pos (by omega), impl_unitW i h hi hh a b ha k (by omega)]
    simp only [Option.bind_some]
    rw [impl_unit (unitW_in hw k) hx (by omega) (by omega) f (by omega)]
    simp only [Option.bind_some]
    rw [hlen, if_pos (by omega), if_pos (by omega), w64_succ k (by omega), Int.toNat_natCast, set_mid _ _ _ h k (sums_len i a x k) (by omega)]
    exact ih f (k + 1) (by omega) (by omega)

theorem impl_sums {i h : Nat} (hi : i ≤ 32) (hh : h ≤ 12) {a b x : List Int} (ha : a.length = h * (i + 1)) (hw : In2 (-1048576) 1048576 a) (hx : In2 (-4096) 4096 x) (hl : x.length = i) (f : Nat) (hf : 100 ≤ f) : impl_Network_hiddenSums.f f i h a b x = some (sums i a x h) := by
  have e := impl_sums_loop (b := b) hi hh ha hw hx hl h f 0 (by omega) (by omega)
  unfold impl_Network_hiddenSums.f
  rw [if_pos (by omega), if_pos (by omega)]
  simp only [Option.bind_some, Int.toNat_natCast, List.length_replicate]
  simpa [sums] using e

theorem impl_acts_loop {l : List Int} (hn : l.length ≤ 1000) (d : Nat) : ∀ (f k : Nat), k + d = l.length → d < f →
    impl_activations.l0 f ((l.take k).map act ++ List.replicate (l.length - k) 0) l l.length k = some (l.map act) := by
  induction d with
  | zero =>
    intro f k h1 h2
    obtain ⟨f, rfl⟩ : ∃ m, f = m + 1 := ⟨f - 1, by omega⟩
    obtain rfl : k = l.length := by omega
    simp only [impl_activations.l0]; rw [if_neg (by omega)]; simp
  | succ d ih =>
    intro f k h1 h2
    obtain ⟨f, rfl⟩ : ∃ m, f = m + 1 := ⟨f - 1, by omega⟩
    have hk : ((l.take k).map act).length = k := by rw [List.length_map, List.length_take]; omega
    have hlen : ((l.take k).map act ++ List.replicate (l.length - k) (0 : Int)).length = l.length := by rw [List.length_append, hk, List.length_replicate]; omega
    simp only [impl_activations.l0]
    rw [if_pos (by omega), if_pos (by omega), if_pos (by omega), impl_act]
    simp only [Option.bind_some]
    rw [hlen, if_pos (by omega), w64_succ k (by omega), Int.toNat_natCast, set_mid _ _ _ l.length k hk (by omega)]
    have e := ih f (k + 1) (by omega) (by omega)
    have er : l[k]'(by omega) = rd l k := by rw [rd_nat, List.getD_eq_getElem?_getD, List.getElem?_eq_getElem (by omega)]; rfl
    rw [List.take_succ_eq_append_getElem (show k < l.length by omega), List.map_append, List.map_cons, List.map_nil, er] at e
    exact e

theorem impl_acts {l : List Int} (hn : l.length ≤ 1000) (f : Nat) (hf : 1001 ≤ f) : impl_activations.f f l = some (l.map act) := by
  have e := impl_acts_loop hn l.length f 0 (by omega) (by omega)
  unfold impl_activations.f
  rw [if_pos (by omega), if_pos (by omega)]
  simpa using e

theorem acts_in (l : List Int) : In2 (-4096) 4096 (l.map act) := by
  intro x hx
  obtain ⟨y, _, rfl⟩ := List.mem_map.1 hx
  have := act_bd y
  omega

/-- The value of the output. -/
def outV (i h : Nat) (a b x : List Int) : Int := act (uV b ((sums i a x h).map act))

theorem spec_output {i h : Nat} (hi : i ≤ 32) (hh : h ≤ 12) {a b x : List Int} (ha : a.length = h * (i + 1)) (hw : In2 (-1048576) 1048576 a) (hb : b.length = h + 1) (hv : In2 (-1048576) 1048576 b) (hx : In2 (-4096) 4096 x) (hl : x.length = i) (f : Nat) (hf : 1100 ≤ f) : spec_l23Output.f f i h a b x = some (outV i h a b x) := by
  have hlen : ((sums i a x h).map act).length = h := by rw [List.length_map, sums_len]
  unfold spec_l23Output.f outV
  rw [spec_hidden hi hh ha hw hx hl f (by omega)]
  simp only [Option.bind_some]
  rw [spec_unit hv (acts_in _) (by omega) (by omega) f (by omega)]
  simp only [Option.bind_some]
  rw [spec_act]; rfl

theorem impl_output {i h : Nat} (hi : i ≤ 32) (hh : h ≤ 12) {a b x : List Int} (ha : a.length = h * (i + 1)) (hw : In2 (-1048576) 1048576 a) (hb : b.length = h + 1) (hv : In2 (-1048576) 1048576 b) (hx : In2 (-4096) 4096 x) (hl : x.length = i) (f : Nat) (hf : 1100 ≤ f) : impl_Network_output.f f i h a b x = some (outV i h a b x) := by
  have hlen : ((sums i a x h).map act).length = h := by rw [List.length_map, sums_len]
  unfold impl_Network_output.f outV
  rw [impl_sums hi hh ha hw hx hl f (by omega)]
  simp only [Option.bind_some]
  rw [impl_acts (by rw [sums_len]; omega) f (by omega)]
  simp only [Option.bind_some]
  rw [impl_unit hv (acts_in _) (by omega) (by omega) f (by omega)]
  simp only [Option.bind_some]
  rw [impl_act]; rfl

theorem outV_bd (i h : Nat) (a b x : List Int) : 0 ≤ outV i h a b x ∧ outV i h a b x ≤ 4096 := act_bd _

theorem net_parts {i h : Int} {a b : List Int} (hn : netB i h a b = true) : ∃ i' h' : Nat, i = i' ∧ h = h' ∧ 1 ≤ i' ∧ i' ≤ 32 ∧ 1 ≤ h' ∧ h' ≤ 12 ∧ a.length = h' * (i' + 1) ∧ In2 (-1048576) 1048576 a ∧ b.length = h' + 1 ∧ In2 (-1048576) 1048576 b := by
  obtain ⟨h0, h1, ⟨h2, h3⟩, h4, h5⟩ := of_decide_eq_true hn
  obtain ⟨i', rfl⟩ := Int.eq_ofNat_of_zero_le (show 0 ≤ i by omega)
  obtain ⟨h', rfl⟩ := Int.eq_ofNat_of_zero_le (show 0 ≤ h by omega)
  refine ⟨i', h', rfl, rfl, by omega, by omega, by omega, by omega, ?_, h3, by omega, h5⟩
  have e : (h' : Int) * ((i' : Int) + 1) = ((h' * (i' + 1) : Nat) : Int) := by rw [Int.natCast_mul]; rfl
  rw [e] at h2
  exact Int.ofNat.inj h2

theorem set_step {α : Type} (l : List α) (z : α) (n : Nat) (h : n < l.length) : (l.take n ++ List.replicate (l.length - n) z).set n (l.getD n z) = l.take (n + 1) ++ List.replicate (l.length - (n + 1)) z := by
  have e1 : (l.take n).length = n := by rw [List.length_take]; omega
  have e2 : l.length - n = (l.length - (n + 1)) + 1 := by omega
  rw [e2, List.replicate_succ, List.set_append_right _ _ (by omega), e1, Nat.sub_self, List.set_cons_zero, List.take_succ_eq_append_getElem h, List.append_assoc]
  congr 2
  rw [List.getD_eq_getElem?_getD, List.getElem?_eq_getElem h]; rfl

theorem toInts_loop (l : List Int) (hl : l.length ≤ 1048576) (d : Nat) : ∀ (f n : Nat), n + d = l.length → d < f →
    laws_toInt64S.l0 f l (l.take n ++ List.replicate (l.length - n) 0) n = some l := by
  induction d with
  | zero =>
    intro f n hn hf
    obtain ⟨f, rfl⟩ : ∃ m, f = m + 1 := ⟨f - 1, by omega⟩
    obtain rfl : n = l.length := by omega
    simp [laws_toInt64S.l0]
  | succ d ih =>
    intro f n hn hf
    obtain ⟨f, rfl⟩ : ∃ m, f = m + 1 := ⟨f - 1, by omega⟩
    have hlen : (l.take n ++ List.replicate (l.length - n) (0 : Int)).length = l.length := by simp; omega
    simp only [laws_toInt64S.l0]
    rw [hlen, if_pos (by omega), if_pos (by omega), if_pos (by omega), w64_succ n (by omega)]
    have er : rd l (n : Int) = l.getD n 0 := rfl
    rw [er, Int.toNat_natCast, set_step l 0 n (by omega)]
    exact ih f (n + 1) (by omega) (by omega)

theorem toInts (l : List Int) (hl : l.length ≤ 1048576) (f : Nat) (hf : l.length < f) : laws_toInt64S.f f l = some l := by
  unfold laws_toInt64S.f
  rw [if_pos (by omega), if_pos (by omega), Int.toNat_natCast]
  have h := toInts_loop l hl l.length f 0 (by omega) hf
  simpa using h

theorem eqInts_loop (l : List Int) (hl : l.length ≤ 1048576) (d : Nat) : ∀ (f n : Nat), n + d = l.length → d < f → laws_eqInt64S.l0 f l l n = some true := by
  induction d with
  | zero =>
    intro f n hn hf
    obtain ⟨f, rfl⟩ : ∃ m, f = m + 1 := ⟨f - 1, by omega⟩
    simp only [laws_eqInt64S.l0]; rw [if_neg (by omega)]
  | succ d ih =>
    intro f n hn hf
    obtain ⟨f, rfl⟩ : ∃ m, f = m + 1 := ⟨f - 1, by omega⟩
    simp only [laws_eqInt64S.l0]
    rw [if_pos (by omega), if_pos (by omega), if_pos (by omega), w64_succ n (by omega)]
    simp only [if_true]
    exact ih f (n + 1) (by omega) (by omega)

theorem eqInts (l : List Int) (hl : l.length ≤ 1048576) (f : Nat) (hf : l.length < f) : laws_eqInt64S.f f l l = some true := by
  unfold laws_eqInt64S.f
  rw [if_pos rfl]
  exact eqInts_loop l hl l.length f 0 (by omega) hf

/-- What is left of a bound behind a list. -/
theorem szInts (l : List Int) (a : Int) (h0 : 0 ≤ a) (h1 : a ≤ 1048576) (hl : l.length ≤ 140737488351232) : laws_szInt64S.f l a = some (if a < (l.length : Int) then -1 else a - l.length) := by
  unfold laws_szInt64S.f
  rw [w64 (x := a - (l.length : Int)) (by omega) (by omega)]
  by_cases h : a < (l.length : Int)
  · rw [if_pos (by omega), if_pos h]
  · rw [if_neg (by omega), if_neg h]

theorem toNetwork (i h : Int) (a b : List Int) (ha : a.length ≤ 1048576) (hb : b.length ≤ 1048576) (f : Nat) (hf : 1048576 < f) : laws_toNetwork.f f i h a b = some (i, h, a, b) := by
  unfold laws_toNetwork.f
  rw [toInts a ha f (by omega), toInts b hb f (by omega)]; rfl

theorem eqNetwork (i h : Int) (a b : List Int) (ha : a.length ≤ 1048576) (hb : b.length ≤ 1048576) (f : Nat) (hf : 1048576 < f) : laws_eqNetwork.f f i h a b i h a b = some true := by
  unfold laws_eqNetwork.f
  rw [if_pos rfl, if_pos rfl, eqInts a ha f (by omega), eqInts b hb f (by omega)]; rfl

theorem szNetwork (i h : Int) (a b : List Int) (s : Int) (h0 : 0 ≤ s) (h1 : s ≤ 1048576) (ha : a.length ≤ 140737488351232) (hb : b.length ≤ 140737488351232) : laws_szNetwork.f i h a b s = some (if s < (a.length : Int) + b.length then -1 else s - a.length - b.length) := by
  unfold laws_szNetwork.f
  rw [szInts a s h0 h1 ha]
  simp only [Option.bind_some]
  by_cases h : s < (a.length : Int)
  · rw [if_pos h, if_pos (by decide), if_pos (by omega)]
  · rw [if_neg h, if_neg (by omega), szInts b (s - a.length) (by omega) (by omega) hb]
    simp only [Option.bind_some]
    by_cases h2 : s < (a.length : Int) + b.length
    · rw [if_pos (show s - (a.length : Int) < b.length by omega), if_pos h2]; simp
    · rw [if_neg (show ¬ s - (a.length : Int) < b.length by omega), if_neg h2, if_neg (by omega)]

theorem rdL_nat (l : List (List Int)) (n : Nat) : rd_L1 l (n : Int) = l.getD n [] := rfl

theorem drop_rdL {l : List (List Int)} {n : Nat} (h : n < l.length) : l.drop n = rd_L1 l (n : Int) :: l.drop (n + 1) := by
  rw [List.drop_eq_getElem_cons h, rdL_nat, List.getD_eq_getElem?_getD, List.getElem?_eq_getElem h]; rfl

theorem rdL_mem {l : List (List Int)} {n : Nat} (h : n < l.length) : rd_L1 l (n : Int) ∈ l := by
  have := drop_rdL h
  exact List.mem_of_mem_drop (i := n) (by rw [this]; exact List.mem_cons_self ..)

/-- What is left of a bound behind lists: where something is left, all are small. -/
theorem szRows_loop {l : List (List Int)} (hl : l.length ≤ 1048576) (hr : ∀ r ∈ l, r.length ≤ 140737488351232) (d : Nat) : ∀ (f n : Nat) (a : Int), n + d = l.length → d < f → 0 ≤ a → a ≤ 1048576 →
    ∃ t, laws_szInt64SS.l0 f l a n = some t ∧ t ≤ 1048576 ∧ (0 ≤ t → ∀ r ∈ l.drop n, r.length ≤ 1048576) := by
  induction d with
  | zero =>
    intro f n a h1 h2 h3 h4
    obtain ⟨f, rfl⟩ : ∃ m, f = m + 1 := ⟨f - 1, by omega⟩
    refine ⟨a, ?_, h4, fun _ => ?_⟩
    · simp only [laws_szInt64SS.l0]; rw [if_neg (by omega)]
    · rw [List.drop_of_length_le (by omega)]; simp
  | succ d ih =>
    intro f n a h1 h2 h3 h4
    obtain ⟨f, rfl⟩ : ∃ m, f = m + 1 := ⟨f - 1, by omega⟩
    have hn : n < l.length := by omega
    simp only [laws_szInt64SS.l0]
    rw [if_pos (by omega), if_pos (by omega), szInts _ a h3 h4 (hr _ (rdL_mem hn))]
    simp only [Option.bind_some]
    by_cases h : a < ((rd_L1 l n).length : Int)
    · rw [if_pos h, if_pos (by omega)]; exact ⟨-1, rfl, by omega, by omega⟩
    · rw [if_neg h, if_neg (by omega), w64_succ n (by omega)]
      obtain ⟨t, e, e1, e2⟩ := ih f (n + 1) (a - (rd_L1 l n).length) (by omega) (by omega) (by omega) (by omega)
      refine ⟨t, e, e1, fun ht => ?_⟩
      rw [drop_rdL hn]
      intro r hr
      rcases List.mem_cons.1 hr with rfl | hr
      · omega
      · exact e2 ht r hr

theorem szRows (l : List (List Int)) (a : Int) (h0 : 0 ≤ a) (h1 : a ≤ 1048576) (hl : l.length ≤ 140737488351232) (hr : ∀ r ∈ l, r.length ≤ 140737488351232) (f : Nat) (hf : 1048576 < f) :
    ∃ t, laws_szInt64SS.f f l a = some t ∧ t ≤ 1048576 ∧ (0 ≤ t → l.length ≤ 1048576 ∧ ∀ r ∈ l, r.length ≤ 1048576) := by
  unfold laws_szInt64SS.f
  rw [w64 (x := a - (l.length : Int)) (by omega) (by omega)]
  by_cases h : a < (l.length : Int)
  · rw [if_pos (by omega)]; exact ⟨-1, rfl, by omega, by omega⟩
  · rw [if_neg (by omega)]
    obtain ⟨t, e, e1, e2⟩ := szRows_loop (l := l) (by omega) hr l.length f 0 (a - l.length) (by omega) (by omega) (by omega) (by omega)
    exact ⟨t, e, e1, fun ht => ⟨by omega, by simpa using e2 ht⟩⟩

theorem toRows_loop {l : List (List Int)} (hl : l.length ≤ 1048576) (hr : ∀ r ∈ l, r.length ≤ 1048576) (d : Nat) : ∀ (f n : Nat), n + d = l.length → d + 1048577 < f →
    laws_toInt64SS.l0 f l (l.take n ++ List.replicate (l.length - n) []) n = some l := by
  induction d with
  | zero =>
    intro f n hn hf
    obtain ⟨f, rfl⟩ : ∃ m, f = m + 1 := ⟨f - 1, by omega⟩
    obtain rfl : n = l.length := by omega
    simp [laws_toInt64SS.l0]
  | succ d ih =>
    intro f n hn hf
    obtain ⟨f, rfl⟩ : ∃ m, f = m + 1 := ⟨f - 1, by omega⟩
    have hlen : (l.take n ++ List.replicate (l.length - n) ([] : List Int)).length = l.length := by simp; omega
    have hb := hr _ (rdL_mem (show n < l.length by omega))
    simp only [laws_toInt64SS.l0]
    rw [hlen, if_pos (by omega), if_pos (by omega), toInts _ hb f (by omega)]
    simp only [Option.bind_some]
    rw [if_pos (by omega), w64_succ n (by omega)]
    have er : rd_L1 l (n : Int) = l.getD n [] := rfl
    rw [er, Int.toNat_natCast, set_step l [] n (by omega)]
    exact ih f (n + 1) (by omega) (by omega)

theorem toRows (l : List (List Int)) (hl : l.length ≤ 1048576) (hr : ∀ r ∈ l, r.length ≤ 1048576) (f : Nat) (hf : 2097153 < f) : laws_toInt64SS.f f l = some l := by
  unfold laws_toInt64SS.f
  rw [if_pos (by omega), if_pos (by omega), Int.toNat_natCast]
  have h := toRows_loop hl hr l.length f 0 (by omega) (by omega)
  simpa using h

theorem eqRows_loop {l : List (List Int)} (hl : l.length ≤ 1048576) (hr : ∀ r ∈ l, r.length ≤ 1048576) (d : Nat) : ∀ (f n : Nat), n + d = l.length → d + 1048577 < f → laws_eqInt64SS.l0 f l l n = some true := by
  induction d with
  | zero =>
    intro f n hn hf
    obtain ⟨f, rfl⟩ : ∃ m, f = m + 1 := ⟨f - 1, by omega⟩
    simp only [laws_eqInt64SS.l0]; rw [if_neg (by omega)]
  | succ d ih =>
    intro f n hn hf
    obtain ⟨f, rfl⟩ : ∃ m, f = m + 1 := ⟨f - 1, by omega⟩
    have hb := hr _ (rdL_mem (show n < l.length by omega))
    simp only [laws_eqInt64SS.l0]
    rw [if_pos (by omega), if_pos (by omega), if_pos (by omega), eqInts _ hb f (by omega)]
    simp only [Option.bind_some, if_true]
    rw [w64_succ n (by omega)]
    exact ih f (n + 1) (by omega) (by omega)

theorem eqRows (l : List (List Int)) (hl : l.length ≤ 1048576) (hr : ∀ r ∈ l, r.length ≤ 1048576) (f : Nat) (hf : 2097153 < f) : laws_eqInt64SS.f f l l = some true := by
  unfold laws_eqInt64SS.f
  rw [if_pos rfl]
  exact eqRows_loop hl hr l.length f 0 (by omega) (by omega)

/-- Whether a row may be the input of a network. -/
def inB (i : Int) (x : List Int) : Bool := decide ((x.length : Int) = i ∧ In2 (-4096) 4096 x)

theorem inputs_loop {l : List Int} (hn : l.length ≤ 1048576) (d : Nat) : ∀ (f n : Nat), n + d = l.length → d < f → spec_l23Inputs.l0 f l n = some (decide (In2 (-4096) 4096 (l.drop n))) := by
  induction d with
  | zero =>
    intro f n h1 h2
    obtain ⟨f, rfl⟩ : ∃ m, f = m + 1 := ⟨f - 1, by omega⟩
    simp only [spec_l23Inputs.l0]; rw [if_neg (by omega), List.drop_of_length_le (by omega)]; simp [In2]
  | succ d ih =>
    intro f n h1 h2
    obtain ⟨f, rfl⟩ : ∃ m, f = m + 1 := ⟨f - 1, by omega⟩
    simp only [spec_l23Inputs.l0]
    rw [if_pos (by omega), if_pos (by omega), w64_succ n (by omega), in_is]
    simp only [Option.bind_some, decide_eq_true_eq]
    rw [ih f (n + 1) (by omega) (by omega)]
    by_cases hx : -4096 ≤ rd l n ∧ rd l n ≤ 4096
    · rw [if_pos hx]; congr 1; rw [decide_eq_decide, in2_drop (show n < l.length by omega)]; exact ⟨fun h => ⟨hx, h⟩, fun h => h.2⟩
    · rw [if_neg hx]; congr 1; symm; rw [decide_eq_false_iff_not, in2_drop (show n < l.length by omega)]; exact fun h => hx h.1

theorem spec_inputs (i h : Int) (a b x : List Int) (hx : x.length ≤ 1048576) (f : Nat) (hf : 1048576 < f) : spec_l23Inputs.f f i h a b x = some (inB i x) := by
  have e := inputs_loop hx x.length f 0 (by omega) (by omega)
  unfold spec_l23Inputs.f inB
  by_cases hl : (x.length : Int) = i
  · rw [if_pos hl]
    have e' : spec_l23Inputs.l0 f x 0 = _ := e
    rw [e']; simp [hl]
  · rw [if_neg hl]; simp [hl]

theorem impl_inputs (i h : Int) (a b x : List Int) (hx : x.length ≤ 1048576) (f : Nat) (hf : 1048576 < f) : impl_isInputs.f f i h a b x = some (inB i x) := by
  unfold impl_isInputs.f inB
  by_cases hl : (x.length : Int) = i
  · rw [if_pos hl, impl_all _ _ x (by omega) f (by omega)]; simp [hl]
  · rw [if_neg hl]; simp [hl]

theorem spec_ex_loop {l1 : List (List Int)} {l2 : List Int} (hl : l1.length ≤ 60) (h12 : l2.length = l1.length) (hr : ∀ r ∈ l1, r.length ≤ 1048576) (i h : Int) (a b : List Int) (d : Nat) : ∀ (f n : Nat), n + d = l1.length → d + 1048577 < f →
    spec_l24Examples.l0 f l1 l2 n i h a b = some (if (∀ r ∈ l1.drop n, inB i r = true) ∧ In2 0 4096 (l2.drop n) then 0 else 2) := by
  induction d with
  | zero =>
    intro f n h1 h2
    obtain ⟨f, rfl⟩ : ∃ m, f = m + 1 := ⟨f - 1, by omega⟩
    simp only [spec_l24Examples.l0]; rw [if_neg (by omega), List.drop_of_length_le (by omega), List.drop_of_length_le (by omega)]; simp [In2]
  | succ d ih =>
    intro f n h1 h2
    obtain ⟨f, rfl⟩ : ∃ m, f = m + 1 := ⟨f - 1, by omega⟩
    have hn : n < l1.length := by omega
    have hb := hr _ (rdL_mem hn)
    simp only [spec_l24Examples.l0]
    rw [if_pos (by omega), if_pos (by omega), spec_inputs _ _ _ _ _ hb f (by omega)]
    simp only [Option.bind_some]
    rw [drop_rdL hn]
    simp only [List.forall_mem_cons, in2_drop (lo := 0) (hi := 4096) (show n < l2.length by omega)]
    by_cases hx : inB i (rd_L1 l1 n) = true
    · rw [if_pos hx, if_pos (by omega), in_is]
      simp only [Option.bind_some, decide_eq_true_eq]
      by_cases hy : 0 ≤ rd l2 n ∧ rd l2 n ≤ 4096
      · rw [if_pos hy, w64_succ n (by omega), ih f (n + 1) (by omega) (by omega)]; simp only [hx, hy, true_and, and_self]
      · rw [if_neg hy, if_neg (fun h => hy h.2.1)]
    · rw [if_neg hx, if_neg (fun h => hx h.1.1)]

theorem impl_ex_loop {l1 : List (List Int)} (hl : l1.length ≤ 60) (hr : ∀ r ∈ l1, r.length ≤ 1048576) (i h : Int) (a b : List Int) (d : Nat) : ∀ (f n : Nat), n + d = l1.length → d + 1048577 < f →
    impl_checkExamples.l0 f l1 l1.length n i h a b = some (if (∀ r ∈ l1.drop n, inB i r = true) then 0 else 2) := by
  induction d with
  | zero =>
    intro f n h1 h2
    obtain ⟨f, rfl⟩ : ∃ m, f = m + 1 := ⟨f - 1, by omega⟩
    simp only [impl_checkExamples.l0]; rw [if_neg (by omega), List.drop_of_length_le (by omega)]; simp
  | succ d ih =>
    intro f n h1 h2
    obtain ⟨f, rfl⟩ : ∃ m, f = m + 1 := ⟨f - 1, by omega⟩
    have hn : n < l1.length := by omega
    have hb := hr _ (rdL_mem hn)
    simp only [impl_checkExamples.l0]
    rw [if_pos (by omega), if_pos (by omega), if_pos (by omega), impl_inputs _ _ _ _ _ hb f (by omega)]
    simp only [Option.bind_some]
    rw [drop_rdL hn]
    simp only [List.forall_mem_cons]
    by_cases hx : inB i (rd_L1 l1 n) = true
    · rw [if_pos hx, w64_succ n (by omega), ih f (n + 1) (by omega) (by omega)]; simp only [hx, true_and]
    · rw [if_neg hx, if_neg (fun h => hx h.1)]

/-- The code of examples: 0 where they are good. -/
def exCode (i h : Int) (a b : List Int) (l1 : List (List Int)) (l2 : List Int) : Int :=
  if netB i h a b = true then
    if (l1.length : Int) > 60 then 3
    else if (l2.length : Int) = (l1.length : Int) then
      if (∀ r ∈ l1, inB i r = true) ∧ In2 0 4096 l2 then 0 else 2
    else 2
  else 1

theorem spec_ex (i h : Int) (a b : List Int) (l1 : List (List Int)) (l2 : List Int) (ha : a.length ≤ 1048576) (hb : b.length ≤ 1048576) (hr : ∀ r ∈ l1, r.length ≤ 1048576) (f : Nat) (hf : 1048700 ≤ f) :
    spec_l24Examples.f f i h a b l1 l2 = some (exCode i h a b l1 l2) := by
  unfold spec_l24Examples.f exCode
  rw [spec_net i h a b ha hb f (by omega)]
  simp only [Option.bind_some]
  by_cases h0 : netB i h a b = true
  · rw [if_pos h0, if_pos h0]
    by_cases h1 : (l1.length : Int) > 60
    · rw [if_pos h1, if_pos h1]
    · rw [if_neg h1, if_neg h1]
      by_cases h2 : (l2.length : Int) = (l1.length : Int)
      · rw [if_pos h2, if_pos h2]
        have e := spec_ex_loop (l1 := l1) (l2 := l2) (by omega) (by omega) hr i h a b l1.length f 0 (by omega) (by omega)
        simpa using e
      · rw [if_neg h2, if_neg h2]
  · rw [if_neg h0, if_neg h0]

theorem impl_ex (i h : Int) (a b : List Int) (l1 : List (List Int)) (l2 : List Int) (ha : a.length ≤ 1048576) (hb : b.length ≤ 1048576) (hr : ∀ r ∈ l1, r.length ≤ 1048576) (f : Nat) (hf : 1048700 ≤ f) :
    impl_checkExamples.f f i h a b l1 l2 = some (exCode i h a b l1 l2) := by
  unfold impl_checkExamples.f exCode
  rw [impl_net i h a b ha hb f (by omega)]
  simp only [Option.bind_some]
  by_cases h0 : netB i h a b = true
  · rw [if_pos h0, if_pos h0]
    by_cases h1 : (l1.length : Int) > 60
    · rw [if_pos h1, if_pos h1]
    · rw [if_neg h1, if_neg h1]
      by_cases h2 : (l2.length : Int) = (l1.length : Int)
      · rw [if_pos h2, if_pos h2.symm, impl_all _ _ l2 (by omega) f (by omega)]
        simp only [Option.bind_some, decide_eq_true_eq]
        have e := impl_ex_loop (l1 := l1) (by omega) hr i h a b l1.length f 0 (by omega) (by omega)
        by_cases h3 : In2 0 4096 l2
        · rw [if_pos h3]; simp only [h3, and_true]; simpa using e
        · rw [if_neg h3, if_neg (fun q => h3 q.2)]
      · rw [if_neg h2, if_neg (fun q => h2 q.symm)]
  · rw [if_neg h0, if_neg h0]

theorem ex_good {i h : Int} {a b : List Int} {l1 : List (List Int)} {l2 : List Int} (e : exCode i h a b l1 l2 = 0) : netB i h a b = true ∧ l1.length ≤ 60 ∧ l2.length = l1.length ∧ (∀ r ∈ l1, inB i r = true) ∧ In2 0 4096 l2 := by
  unfold exCode at e
  split at e
  · rename_i h0
    split at e
    · simp at e
    · split at e
      · split at e
        · rename_i h1 h2 h3; exact ⟨h0, by omega, by omega, h3⟩
        · simp at e
      · simp at e
  · simp at e


theorem both_error {i h : Nat} (hi : i ≤ 32) (hh : h ≤ 12) {a b : List Int} (ha : a.length = h * (i + 1)) (hw : In2 (-1048576) 1048576 a) (hb : b.length = h + 1) (hv : In2 (-1048576) 1048576 b)
    {l1 : List (List Int)} {l2 : List Int} (hl : l1.length ≤ 60) (h12 : l2.length = l1.length) (hr : ∀ r ∈ l1, inB i r = true) (d : Nat) : ∀ (f n : Nat) (s : Int), n + d = l1.length → d + 1200 < f →
    ∃ r, spec_SquaredError.l0 f l1 l2 s n i h a b = some r ∧ impl_SquaredError.l0 f l2 s l1 l1.length n i h a b = some r := by
  induction d with
  | zero =>
    intro f n s h1 h2
    obtain ⟨f, rfl⟩ : ∃ m, f = m + 1 := ⟨f - 1, by omega⟩
    refine ⟨(s, 0), ?_, ?_⟩
    · simp only [spec_SquaredError.l0]; rw [if_neg (by omega)]
    · simp only [impl_SquaredError.l0]; rw [if_neg (by omega)]
  | succ d ih =>
    intro f n s h1 h2
    obtain ⟨f, rfl⟩ : ∃ m, f = m + 1 := ⟨f - 1, by omega⟩
    have hn : n < l1.length := by omega
    obtain ⟨hx, hxi⟩ := of_decide_eq_true (hr _ (rdL_mem hn))
    simp only [spec_SquaredError.l0, impl_SquaredError.l0]
    rw [if_pos (show (n : Int) < l1.length by omega), if_pos (show (0 : Int) ≤ n by omega), if_pos (show (n : Int) < l2.length by omega), if_pos (show (n : Int) < l1.length by omega), if_pos (show (0 : Int) ≤ n by omega), if_pos (show (n : Int) < l1.length by omega), if_pos (show (n : Int) < l2.length by omega), spec_output hi hh ha hw hb hv hxi (by omega) f (by omega), impl_output hi hh ha hw hb hv hxi (by omega) f (by omega)]
    simp only [Option.bind_some]
    rw [w64_succ n (by omega)]
    exact ih f (n + 1) _ (by omega) (by omega)

theorem FnExactSquaredError (i h : Int) (a b : List Int) (l1 : List (List Int)) (l2 : List Int) (ha : a.length ≤ 140737488351232) (hb : b.length ≤ 140737488351232) (h1 : l1.length ≤ 140737488351232) (hr : ∀ r ∈ l1, r.length ≤ 140737488351232) :
    ∃ k, laws_FnExactSquaredError.f k i h a b l1 l2 = some true := by
  obtain ⟨K, hK⟩ : ∃ K : Nat, K = 2100000 := ⟨_, rfl⟩
  refine ⟨K, ?_⟩
  unfold laws_FnExactSquaredError.f
  by_cases c2 : (l2.length : Int) > 1048576
  · rw [if_pos c2]
  rw [if_neg c2, szNetwork i h a b 1048576 (by omega) (by omega) ha hb]
  simp only [Option.bind_some]
  by_cases hs : (1048576 : Int) < (a.length : Int) + b.length
  · rw [if_pos hs, if_pos (by decide)]
  rw [if_neg hs, if_neg (by omega)]
  obtain ⟨t, et, t1, tl⟩ := szRows l1 (1048576 - a.length - b.length) (by omega) (by omega) h1 hr K (by omega)
  rw [et]
  simp only [Option.bind_some]
  by_cases ht : t < 0
  · rw [if_pos ht]
  obtain ⟨hl, hr'⟩ := tl (by omega)
  rw [if_neg ht]
  have e : ∃ r, spec_SquaredError.f K i h a b l1 l2 = some r ∧ impl_SquaredError.f K i h a b l1 l2 = some r := by
    unfold spec_SquaredError.f impl_SquaredError.f
    rw [spec_ex i h a b l1 l2 (by omega) (by omega) hr' K (by omega), impl_ex i h a b l1 l2 (by omega) (by omega) hr' K (by omega)]
    simp only [Option.bind_some]
    by_cases hc : exCode i h a b l1 l2 = 0
    · rw [if_pos hc, if_pos hc]
      obtain ⟨hn, q1, q2, q3, q4⟩ := ex_good hc
      obtain ⟨i', h', rfl, rfl, u1, u2, u3, u4, u5, u6, u7, u8⟩ := net_parts hn
      exact both_error u2 u4 u5 u6 u7 u8 q1 q2 q3 l1.length K 0 0 (by omega) (by omega)
    · rw [if_neg hc, if_neg hc]; exact ⟨_, rfl, rfl⟩
  obtain ⟨⟨r1, r2⟩, e1, e2⟩ := e
  rw [toNetwork i h a b (by omega) (by omega) K (by omega), toRows l1 hl hr' K (by omega), toInts l2 (by omega) K (by omega)]
  simp only [Option.bind_some]
  rw [e1, e2]
  simp only [Option.bind_some]
  simp only [if_true]
  obtain ⟨K', rfl⟩ : ∃ m, K = m + 1 := ⟨K - 1, by omega⟩
  simp only [laws_FnExactSquaredError.j0]
  rw [if_neg (by simp), toNetwork i h a b (by omega) (by omega) K' (by omega)]
  simp only [Option.bind_some]
  rw [eqNetwork i h a b (by omega) (by omega) K' (by omega)]
  simp only [Option.bind_some, if_true]
  rw [toRows l1 hl hr' K' (by omega)]
  simp only [Option.bind_some]
  rw [eqRows l1 hl hr' K' (by omega)]
  simp only [Option.bind_some, if_true]
  rw [toInts l2 (by omega) K' (by omega)]
  simp only [Option.bind_some]
  rw [eqInts l2 (by omega) K' (by omega)]
  simp

end Go.Proofs.Ytpeipalgpbkagaa.Pure
