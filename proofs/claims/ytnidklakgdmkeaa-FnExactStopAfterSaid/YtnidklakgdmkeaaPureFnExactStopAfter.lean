/- After how many signs to stop: the program's function and the reference's answer alike for all arguments. No condition. -/
import Derived.Test.YtnidklakgdmkeaaPFnExactStopAfterx2
namespace Go.Proofs.Ytnidklakgdmkeaa.Pure
open Go.RowKit Go.Proofs.Ytnidklakgdmkeaa.PFnExactStopAfter Go.Proofs.YtnidklakgdmkeaaW.PrintWords Go.Proofs.YtnidklakgdmkeaaW.PrintLast Go.Proofs.YtnidklakgdmkeaaW.PrintMore

theorem w64 {x : Int} (h0 : -9223372036854775808 ≤ x) (h1 : x ≤ 9223372036854775807) : wrap64 x = x := by unfold wrap64; omega
theorem w64_nat (a : Nat) (h : a ≤ 9223372036854775807) : wrap64 (a : Int) = a := w64 (by omega) (by omega)
theorem w64_sub (a b : Nat) (h : b ≤ a) (ha : a ≤ 9223372036854775807) : wrap64 ((a : Int) - (b : Int)) = ((a - b : Nat) : Int) := by rw [w64 (by omega) (by omega)]; omega
theorem w64_add (a b : Nat) (h : a + b ≤ 9223372036854775807) : wrap64 ((a : Int) + (b : Int)) = ((a + b : Nat) : Int) := by rw [w64 (by omega) (by omega)]; omega
theorem w64_succ (a : Nat) (h : a + 1 ≤ 9223372036854775807) : wrap64 ((a : Int) + 1) = ((a + 1 : Nat) : Int) := by rw [w64 (by omega) (by omega)]; omega
theorem w64_mul (a b : Nat) (h : a * b ≤ 9223372036854775807) : wrap64 ((a : Int) * (b : Int)) = ((a * b : Nat) : Int) := by
  rw [← Int.natCast_mul]
  exact w64_nat _ h
theorem mulle {a b R : Nat} (A B : Nat) (h0 : a ≤ A) (h1 : b ≤ B) (h : A * B ≤ R) : a * b ≤ R := Nat.le_trans (Nat.mul_le_mul h0 h1) h

/-- The number of ways to choose k of n. -/
def C : Nat → Nat → Nat
  | _, 0 => 1
  | 0, _ + 1 => 0
  | n + 1, k + 1 => C n k + C n (k + 1)

theorem C_zero (n : Nat) : C n 0 = 1 := by cases n <;> rfl

theorem C_big : ∀ n k, n < k → C n k = 0
  | 0, 0, h => by omega
  | 0, _ + 1, _ => rfl
  | _ + 1, 0, h => by omega
  | n + 1, k + 1, h => by rw [C, C_big n k (by omega), C_big n (k + 1) (by omega)]

theorem C_self : ∀ n, C n n = 1
  | 0 => rfl
  | n + 1 => by rw [C, C_self n, C_big n (n + 1) (by omega)]

theorem C_le : ∀ n k, C n k ≤ 2 ^ n
  | 0, 0 => by simp [C]
  | 0, _ + 1 => by simp [C]
  | n + 1, 0 => by rw [C_zero]; exact Nat.one_le_two_pow
  | n + 1, k + 1 => by have := C_le n k; have := C_le n (k + 1); rw [C, Nat.pow_succ]; omega

theorem C_step : ∀ n k, C (n + 1) (k + 1) * (k + 1) = C n k * (n + 1)
  | 0, 0 => by simp [C]
  | 0, k + 1 => by simp [C]
  | n + 1, 0 => by
    have h := C_step n 0
    simp only [C_zero, Nat.one_mul, Nat.mul_one, Nat.zero_add] at h ⊢
    show C (n + 1) 0 + C (n + 1) 1 = _
    rw [C_zero, h]; omega
  | n + 1, k + 1 => by
    have h1 := C_step n k
    have h2 := C_step n (k + 1)
    show (C (n + 1) (k + 1) + C (n + 1) (k + 2)) * (k + 1 + 1) = _
    have e : C (n + 1) (k + 1) = C n k + C n (k + 1) := rfl
    rw [Nat.add_mul, h2, Nat.mul_add, Nat.mul_one, h1, Nat.mul_add (C (n + 1) (k + 1)) (n + 1) 1, Nat.mul_one, e, Nat.add_mul]
    omega

/-- Weights of one row follow one another. -/
theorem C_next (n k : Nat) (h : k ≤ n) : C n k * (n - k) = C n (k + 1) * (k + 1) := by
  have h1 := C_step n k
  have e : C (n + 1) (k + 1) = C n k + C n (k + 1) := rfl
  rw [e, Nat.add_mul] at h1
  have h2 : C n k * (n + 1) = C n k * (n - k) + C n k * (k + 1) := by rw [← Nat.mul_add]; congr 1; omega
  omega

/-- The last d numbers of row n, added up. -/
def T (n : Nat) : Nat → Nat
  | 0 => 0
  | d + 1 => C n (n - d) + T n d

theorem T_le (n d : Nat) : T n d ≤ d * 2 ^ n := by
  induction d with
  | zero => simp [T]
  | succ d ih => have := C_le n (n - d); rw [T, Nat.succ_mul]; omega

theorem pow50 {n : Nat} (h : n ≤ 50) : 2 ^ n ≤ 1125899906842624 := Nat.le_trans (Nat.pow_le_pow_right (by omega) h) (by decide)

theorem tdiv_mul {a b q : Nat} (h : a = q * b) (hb : 0 < b) : Int.tdiv (a : Int) (b : Int) = q := by
  subst h
  rw [Int.natCast_mul]
  exact Int.mul_tdiv_cancel _ (by omega)

/-- The reference's loop from place i on. -/
theorem tail_loop (n k : Nat) (hn : n ≤ 50) (d : Nat) : ∀ (f i : Nat) (s : Nat), i + d = n + 1 → d < f → s ≤ (n + 1 - d) * 2 ^ n →
    spec_l27Tail.l0 f n k s (C n i : Nat) i = some ((s + T n (min d (n + 1 - k)) : Nat) : Int) := by
  have h2 := pow50 hn
  induction d with
  | zero =>
    intro f i s hi hf _
    obtain ⟨f, rfl⟩ : ∃ m, f = m + 1 := ⟨f - 1, by omega⟩
    simp only [spec_l27Tail.l0]; rw [if_neg (by omega)]
    simp [T]
  | succ d ih =>
    intro f i s hi hf hs
    obtain ⟨f, rfl⟩ : ∃ m, f = m + 1 := ⟨f - 1, by omega⟩
    have hc := C_le n i
    have hm : C n i * (n - i) ≤ 9223372036854775807 := mulle 1125899906842624 50 (by omega) (by omega) (by omega)
    have hc' := C_le n (i + 1)
    have hs' : s + C n i ≤ (n + 1 - d) * 2 ^ n := by
      have : n + 1 - d = (n + 1 - (d + 1)) + 1 := by omega
      rw [this, Nat.succ_mul]; omega
    have hb : (n + 1 - d) * 2 ^ n ≤ 9000000000000000000 := mulle 51 1125899906842624 (by omega) h2 (by omega)
    have hq : C n (i + 1) ≤ 9223372036854775807 := by omega
    have hsc : s + C n i ≤ 9223372036854775807 := by omega
    have hi1 : i + 1 ≤ 9223372036854775807 := by omega
    have hd1 : i + 1 + d = n + 1 := by omega
    have hd2 : d < f := by omega
    have hs2 : s ≤ (n + 1 - d) * 2 ^ n := by omega
    simp only [spec_l27Tail.l0]
    rw [if_pos (by omega), w64_sub n i (by omega) (by omega), w64_mul (C n i) (n - i) hm, w64_succ i hi1, tdiv_mul (C_next n i (by omega)) (Nat.succ_pos i), w64_nat _ hq]
    by_cases hk : (i : Int) ≥ k
    · rw [if_pos hk, if_neg (by omega), w64_add s (C n i) hsc, ih f (i + 1) (s + C n i) hd1 hd2 hs']
      have m1 : min (d + 1) (n + 1 - k) = d + 1 := by omega
      have m2 : min d (n + 1 - k) = d := by omega
      have m3 : n - d = i := by omega
      rw [m1, m2, T, m3, Nat.add_assoc]
    · rw [if_neg hk, if_neg (by omega), ih f (i + 1) s hd1 hd2 hs2]
      have m1 : min (d + 1) (n + 1 - k) = n + 1 - k := by omega
      have m2 : min d (n + 1 - k) = n + 1 - k := by omega
      rw [m1, m2]

theorem spec_tail (n k : Nat) (hn : n ≤ 50) (f : Nat) (hf : n + 1 < f) : spec_l27Tail.f f n k = some ((T n (n + 1 - k) : Nat) : Int) := by
  have h := tail_loop n k hn (n + 1) f 0 0 (by omega) (by omega) (by omega)
  rw [C_zero] at h
  unfold spec_l27Tail.f
  have m : min (n + 1) (n + 1 - k) = n + 1 - k := by omega
  rw [m, Nat.zero_add] at h
  exact h

/-- The program's loop from factor i on. -/
theorem choose_loop (n k : Nat) (hn : n ≤ 50) (hk : k ≤ n) (d : Nat) : ∀ (f i : Nat), i + d = k → d < f →
    impl_choose.l0 f n k (C (n - k + i) i : Nat) ((i : Int) + 1) = some ((C n k : Nat) : Int) := by
  have h2 := pow50 hn
  induction d with
  | zero =>
    intro f i hi hf
    obtain ⟨f, rfl⟩ : ∃ m, f = m + 1 := ⟨f - 1, by omega⟩
    simp only [impl_choose.l0]; rw [if_neg (by omega)]
    have : n - k + i = n := by omega
    obtain rfl : i = k := by omega
    rw [this]
  | succ d ih =>
    intro f i hi hf
    obtain ⟨f, rfl⟩ : ∃ m, f = m + 1 := ⟨f - 1, by omega⟩
    have hp : 2 ^ (n - k + i) ≤ 1125899906842624 := pow50 (by omega)
    have hp' : 2 ^ (n - k + i + 1) ≤ 1125899906842624 := pow50 (by omega)
    have hc := C_le (n - k + i) i
    have hc' := C_le (n - k + i + 1) (i + 1)
    have hm : C (n - k + i) i * (n - k + i + 1) ≤ 9223372036854775807 := mulle 1125899906842624 50 (by omega) (by omega) (by omega)
    have hq : C (n - k + i + 1) (i + 1) ≤ 9223372036854775807 := by omega
    have hsum : n - k + (i + 1) ≤ 9223372036854775807 := by omega
    have hi2 : i + 1 + 1 ≤ 9223372036854775807 := by omega
    have hd1 : i + 1 + d = k := by omega
    have hd2 : d < f := by omega
    simp only [impl_choose.l0]
    rw [if_pos (by omega), if_neg (by omega), w64_sub n k hk (by omega), show ((i : Int) + 1) = ((i + 1 : Nat) : Int) from by omega, w64_add (n - k) (i + 1) hsum, w64_mul (C (n - k + i) i) (n - k + (i + 1)) hm,
      tdiv_mul (a := C (n - k + i) i * (n - k + (i + 1))) (C_step (n - k + i) i).symm (Nat.succ_pos i), w64_nat _ hq, w64_succ (i + 1) hi2]
    exact ih f (i + 1) hd1 hd2

theorem impl_choose_is (n k : Nat) (hn : n ≤ 50) (hk : k ≤ n) (f : Nat) (hf : 51 < f) : impl_choose.f f n k = some ((C n k : Nat) : Int) := by
  obtain ⟨f, rfl⟩ : ∃ m, f = m + 1 := ⟨f - 1, by omega⟩
  unfold impl_choose.f
  rw [if_neg (by omega)]
  have e : decide ((k : Int) > n) = false := by simp; omega
  rw [e]
  simp only [impl_choose.j0]
  have h := choose_loop n k hn hk k f 0 (by omega) (by omega)
  rw [C_zero] at h
  simpa using h

/-- The program's sum from place j on. -/
theorem sum_loop (n : Nat) (hn : n ≤ 50) (d : Nat) : ∀ (f j : Nat) (s : Nat), j + d = n + 1 → d + 52 < f → s ≤ (n + 1 - d) * 2 ^ n →
    impl_signTail.l0 f n s j = some ((s + T n d : Nat) : Int) := by
  have h2 := pow50 hn
  induction d with
  | zero =>
    intro f j s hj hf _
    obtain ⟨f, rfl⟩ : ∃ m, f = m + 1 := ⟨f - 1, by omega⟩
    simp only [impl_signTail.l0]; rw [if_neg (by omega)]
    simp [T]
  | succ d ih =>
    intro f j s hj hf hs
    obtain ⟨f, rfl⟩ : ∃ m, f = m + 1 := ⟨f - 1, by omega⟩
    have hc := C_le n j
    have hs' : s + C n j ≤ (n + 1 - d) * 2 ^ n := by
      have : n + 1 - d = (n + 1 - (d + 1)) + 1 := by omega
      rw [this, Nat.succ_mul]; omega
    have hb : (n + 1 - d) * 2 ^ n ≤ 9000000000000000000 := mulle 51 1125899906842624 (by omega) h2 (by omega)
    have hsc : s + C n j ≤ 9223372036854775807 := by omega
    have hj1 : j + 1 ≤ 9223372036854775807 := by omega
    have hd1 : j + 1 + d = n + 1 := by omega
    have hd2 : d + 52 < f := by omega
    simp only [impl_signTail.l0]
    rw [if_pos (by omega), impl_choose_is n j hn (by omega) f (by omega)]
    simp only [Option.bind_some]
    rw [w64_add s (C n j) hsc, w64_succ j hj1, ih f (j + 1) (s + C n j) hd1 hd2 hs']
    have m3 : n - d = j := by omega
    rw [T, m3, Nat.add_assoc]

theorem impl_tail (n k : Nat) (hn : n ≤ 50) (hk : k ≤ n) (f : Nat) (hf : 105 ≤ f) : impl_signTail.f f n k = some ((T n (n + 1 - k) : Nat) : Int) := by
  have h := sum_loop n hn (n + 1 - k) f k 0 (by omega) (by omega) (by omega)
  unfold impl_signTail.f
  rw [Nat.zero_add] at h
  exact h

theorem i64_nat (a : Nat) (h : a ≤ 9223372036854775807) : IntKind.i64.wrap (a : Int) = a := IntWalk.i64_in _ ⟨by omega, by omega⟩
theorem mx_nat (a b : Nat) : mx (a : Int) (b : Int) = ((max a b : Nat) : Int) := by unfold mx; split <;> omega

theorem pow_cast {n : Nat} : ((2 : Int) ^ n) = ((2 ^ n : Nat) : Int) := by simp

theorem shl_same (n p : Nat) (hn : n ≤ 50) (hp : p ≤ 50) : shl .i64 (p : Int) (n : Int) = wrap64 ((p : Int) * shl .i64 1 (IntKind.u64.wrap (n : Int))) := by
  have h2 := pow50 hn
  have hpp : p * 2 ^ n ≤ 9223372036854775807 := mulle 50 1125899906842624 hp h2 (by omega)
  have hu : IntKind.u64.wrap (n : Int) = n := by rw [IntKind.wrap_u64]; omega
  rw [hu]
  unfold shl
  have hm : min (n : Int).toNat IntKind.i64.bits = n := by show min (n : Int).toNat 64 = n; omega
  rw [hm, Int.one_mul, pow_cast, ← Int.natCast_mul]
  have e1 : IntKind.i64.wrap ((p * 2 ^ n : Nat) : Int) = ((p * 2 ^ n : Nat) : Int) := i64_nat _ (by omega)
  have e2 : IntKind.i64.wrap ((2 ^ n : Nat) : Int) = ((2 ^ n : Nat) : Int) := i64_nat _ (by omega)
  rw [e1, e2, w64_mul p (2 ^ n) hpp]

/-- Whether k signs of n are significant. -/
def sig (n k p : Nat) : Bool := decide (wrap64 (200 * ((T n (n + 1 - max k (n - k)) : Nat) : Int)) ≤ shl .i64 (p : Int) (n : Int))

theorem impl_sig (n k p : Nat) (hn : n ≤ 50) (hk : k ≤ n) (f : Nat) (hf : 105 ≤ f) : impl_significant.f f n k p = some (sig n k p) := by
  unfold impl_significant.f
  rw [w64_sub n k hk (by omega), mx_nat, impl_tail n (max k (n - k)) hn (by omega) f hf]
  simp only [Option.bind_some]
  rw [if_pos (by omega)]; rfl

theorem spec_sig (n k p : Nat) (hn : n ≤ 50) (hk : k ≤ n) (hp : p ≤ 50) (f : Nat) (hf : 105 ≤ f) : spec_l27Significant.f f n k p = some (sig n k p) := by
  unfold spec_l27Significant.f
  have hu : IntKind.u64.wrap (n : Int) = n := by rw [IntKind.wrap_u64]; omega
  rw [w64_sub n k hk (by omega), mx_nat, spec_tail n (max k (n - k)) hn f (by omega), ← shl_same n p hn hp, hu]
  simp only [Option.bind_some]
  rw [if_pos (by omega)]; rfl

/-- After how many signs it stops: d signs are left, c of the signs before them are plus. -/
def go (l : List Bool) (p : Nat) : Nat → Nat → Int
  | 0, _ => -1
  | d + 1, c =>
    let n := l.length - (d + 1)
    let c' := if l.getD n false = true then c + 1 else c
    if sig (n + 1) c' p = true then ((n + 1 : Nat) : Int) else go l p d c'

theorem impl_go (l : List Bool) (p : Nat) (hl : l.length ≤ 50) (d : Nat) : ∀ (f n c : Nat), n + d = l.length → c ≤ n → d + 105 < f →
    impl_StopAfter.l0 f p c l l.length n = some (go l p d c, 0) := by
  induction d with
  | zero =>
    intro f n c hn hc hf
    obtain ⟨f, rfl⟩ : ∃ m, f = m + 1 := ⟨f - 1, by omega⟩
    simp only [impl_StopAfter.l0]; rw [if_neg (by omega)]; rfl
  | succ d ih =>
    intro f n c hn hc hf
    obtain ⟨f, rfl⟩ : ∃ m, f = m + 1 := ⟨f - 1, by omega⟩
    have hn1 : n + 1 ≤ 9223372036854775807 := by omega
    have hc1 : c + 1 ≤ 9223372036854775807 := by omega
    have e0 : l.length - (d + 1) = n := by omega
    have a1 : n + 1 + d = l.length := by omega
    have a2 : d + 105 < f := by omega
    simp only [impl_StopAfter.l0, go, e0]
    rw [if_pos (by omega), if_pos (by omega), if_pos (by omega), w64_succ n hn1, w64_succ c hc1]
    have er : rdOf false l (n : Int) = l.getD n false := rfl
    rw [er]
    cases l.getD n false with
    | true =>
      simp only [if_true]
      rw [impl_sig (n + 1) (c + 1) p (by omega) (by omega) f (by omega)]
      simp only [Option.bind_some]
      cases sig (n + 1) (c + 1) p with
      | true => rfl
      | false => simp only [Bool.false_eq_true, if_false]; exact ih f (n + 1) (c + 1) a1 (by omega) a2
    | false =>
      simp only [Bool.false_eq_true, if_false]
      rw [impl_sig (n + 1) c p (by omega) (by omega) f (by omega)]
      simp only [Option.bind_some]
      cases sig (n + 1) c p with
      | true => rfl
      | false => simp only [Bool.false_eq_true, if_false]; exact ih f (n + 1) c a1 (by omega) a2

theorem spec_go (l : List Bool) (p : Nat) (hl : l.length ≤ 50) (hp : p ≤ 50) (d : Nat) : ∀ (f n c : Nat), n + d = l.length → c ≤ n → d + 106 < f →
    spec_StopAfter.l0 f l p c n = some (if sig n c p = true then (n : Int) else go l p d c, 0) := by
  induction d with
  | zero =>
    intro f n c hn hc hf
    obtain ⟨f, rfl⟩ : ∃ m, f = m + 1 := ⟨f - 1, by omega⟩
    have hn1 : n + 1 ≤ 9223372036854775807 := by omega
    simp only [spec_StopAfter.l0]
    rw [if_pos (by omega), spec_sig n c p (by omega) hc hp f (by omega)]
    simp only [Option.bind_some]
    cases sig n c p with
    | true => rfl
    | false =>
      simp only [Bool.false_eq_true, if_false]
      rw [if_neg (by omega), w64_succ n hn1]
      obtain ⟨f, rfl⟩ : ∃ m, f = m + 1 := ⟨f - 1, by omega⟩
      simp only [spec_StopAfter.l0]
      rw [if_neg (by omega)]; rfl
  | succ d ih =>
    intro f n c hn hc hf
    obtain ⟨f, rfl⟩ : ∃ m, f = m + 1 := ⟨f - 1, by omega⟩
    have hn1 : n + 1 ≤ 9223372036854775807 := by omega
    have hc1 : c + 1 ≤ 9223372036854775807 := by omega
    have e0 : l.length - (d + 1) = n := by omega
    have a1 : n + 1 + d = l.length := by omega
    have a2 : d + 106 < f := by omega
    simp only [spec_StopAfter.l0, go, e0]
    rw [if_pos (by omega), spec_sig n c p (by omega) hc hp f (by omega)]
    simp only [Option.bind_some]
    cases sig n c p with
    | true => rfl
    | false =>
      simp only [Bool.false_eq_true, if_false]
      rw [if_pos (by omega), if_pos (by omega), w64_succ n hn1, w64_succ c hc1]
      have er : rdOf false l (n : Int) = l.getD n false := rfl
      rw [er]
      cases l.getD n false with
      | true => simp only [if_true]; exact ih f (n + 1) (c + 1) a1 (by omega) a2
      | false => simp only [Bool.false_eq_true, if_false]; exact ih f (n + 1) c a1 (by omega) a2

theorem sig_zero (p : Nat) (hp : p ≤ 50) : sig 0 0 p = false := by
  unfold sig
  have h1 : T 0 (0 + 1 - max 0 (0 - 0)) = 1 := by decide
  have h2 : shl .i64 (p : Int) ((0 : Nat) : Int) = p := by
    unfold shl
    have hm : min ((0 : Nat) : Int).toNat IntKind.i64.bits = 0 := by decide
    rw [hm, Int.pow_zero, Int.mul_one]
    exact i64_nat _ (by omega)
  rw [h1, h2, w64 (by decide) (by decide)]
  simp; omega

theorem both_stop (l : List Bool) (p : Int) (f : Nat) (hf : 400 ≤ f) : ∃ r, spec_StopAfter.f f l p = some r ∧ impl_StopAfter.f f l p = some r := by
  obtain ⟨f, rfl⟩ : ∃ m, f = m + 1 := ⟨f - 1, by omega⟩
  unfold spec_StopAfter.f impl_StopAfter.f spec_l27Percent.f spec_l01In.f impl_within.f
  by_cases h0 : (l.length : Int) > 50
  · exact ⟨(0, 2), by simp [h0, spec_StopAfter.j0], by simp [h0, impl_StopAfter.j0]⟩
  · by_cases h1 : p ≥ 1
    · by_cases h2 : p ≤ 50
      · obtain ⟨p, rfl⟩ := Int.eq_ofNat_of_zero_le (show 0 ≤ p by omega)
        have e1 := spec_go l p (by omega) (by omega) l.length f 0 0 (by omega) (by omega) (by omega)
        have e2 := impl_go l p (by omega) l.length f 0 0 (by omega) (by omega) (by omega)
        rw [sig_zero p (by omega)] at e1
        simp only [Bool.false_eq_true, if_false] at e1
        exact ⟨(go l p l.length 0, 0), by simp [h0, h1, h2, spec_StopAfter.j0]; exact e1, by simp [h0, h1, h2, impl_StopAfter.j0]; exact e2⟩
      · exact ⟨(0, 2), by simp [h0, h1, h2, spec_StopAfter.j0], by simp [h0, h1, h2, impl_StopAfter.j0]⟩
    · exact ⟨(0, 2), by simp [h0, h1, spec_StopAfter.j0], by simp [h0, h1, impl_StopAfter.j0]⟩


theorem set_step {α : Type} (l : List α) (z : α) (n : Nat) (h : n < l.length) : (l.take n ++ List.replicate (l.length - n) z).set n (l.getD n z) = l.take (n + 1) ++ List.replicate (l.length - (n + 1)) z := by
  have e1 : (l.take n).length = n := by rw [List.length_take]; omega
  have e2 : l.length - n = (l.length - (n + 1)) + 1 := by omega
  rw [e2, List.replicate_succ, List.set_append_right _ _ (by omega), e1, Nat.sub_self, List.set_cons_zero, List.take_succ_eq_append_getElem h, List.append_assoc]
  congr 2
  rw [List.getD_eq_getElem?_getD, List.getElem?_eq_getElem h]; rfl

theorem toBoolS_loop (l : List Bool) (hl : l.length ≤ 1048576) (d : Nat) : ∀ (f n : Nat), n + d = l.length → d < f →
    laws_toBoolS.l0 f l (l.take n ++ List.replicate (l.length - n) false) n = some l := by
  induction d with
  | zero =>
    intro f n hn hf
    obtain ⟨f, rfl⟩ : ∃ m, f = m + 1 := ⟨f - 1, by omega⟩
    obtain rfl : n = l.length := by omega
    simp [laws_toBoolS.l0]
  | succ d ih =>
    intro f n hn hf
    obtain ⟨f, rfl⟩ : ∃ m, f = m + 1 := ⟨f - 1, by omega⟩
    have hlen : (l.take n ++ List.replicate (l.length - n) false).length = l.length := by simp; omega
    have hn1 : n + 1 ≤ 9223372036854775807 := by omega
    simp only [laws_toBoolS.l0]
    rw [hlen, if_pos (by omega), if_pos (by omega), if_pos (by omega), w64_succ n hn1]
    have er : rdOf false l (n : Int) = l.getD n false := rfl
    rw [er, Int.toNat_natCast, set_step l false n (by omega)]
    exact ih f (n + 1) (by omega) (by omega)

theorem toBoolS_is (l : List Bool) (hl : l.length ≤ 1048576) (f : Nat) (hf : l.length < f) : laws_toBoolS.f f l = some l := by
  unfold laws_toBoolS.f
  rw [if_pos (by omega), if_pos (by omega), Int.toNat_natCast]
  have h := toBoolS_loop l hl l.length f 0 (by omega) hf
  simpa using h

theorem eqBoolS_loop (l : List Bool) (hl : l.length ≤ 1048576) (d : Nat) : ∀ (f n : Nat), n + d = l.length → d < f → laws_eqBoolS.l0 f l l n = some true := by
  induction d with
  | zero =>
    intro f n hn hf
    obtain ⟨f, rfl⟩ : ∃ m, f = m + 1 := ⟨f - 1, by omega⟩
    simp only [laws_eqBoolS.l0]; rw [if_neg (by omega)]
  | succ d ih =>
    intro f n hn hf
    obtain ⟨f, rfl⟩ : ∃ m, f = m + 1 := ⟨f - 1, by omega⟩
    have hn1 : n + 1 ≤ 9223372036854775807 := by omega
    simp only [laws_eqBoolS.l0]
    rw [if_pos (by omega), if_pos (by omega), if_pos (by omega), w64_succ n hn1]
    simp only [bne_self_eq_false, Bool.false_eq_true, if_false]
    exact ih f (n + 1) (by omega) (by omega)

theorem eqBoolS_is (l : List Bool) (hl : l.length ≤ 1048576) (f : Nat) (hf : l.length < f) : laws_eqBoolS.f f l l = some true := by
  unfold laws_eqBoolS.f
  rw [if_pos rfl]
  exact eqBoolS_loop l hl l.length f 0 (by omega) hf

theorem FnExactStopAfter (l : List Bool) (p : Int) : ∃ k, laws_FnExactStopAfter.f k l p = some true := by
  unfold laws_FnExactStopAfter.f
  by_cases h : (l.length : Int) > 1048576
  · exact ⟨0, by rw [if_pos h]⟩
  · have hl : l.length ≤ 1048576 := by omega
    obtain ⟨K, hK⟩ : ∃ K, K = 1048580 + 400 := ⟨_, rfl⟩
    obtain ⟨r, g1, g2⟩ := both_stop l p K (by omega)
    refine ⟨K, ?_⟩
    rw [if_neg h, toBoolS_is l hl _ (by omega)]
    simp only [Option.bind_some]
    rw [g1, g2]
    simp only [Option.bind_some, if_true, bne_self_eq_false]
    obtain ⟨f, rfl⟩ : ∃ m, K = m + 1 := ⟨K - 1, by omega⟩
    simp only [laws_FnExactStopAfter.j0, Bool.false_eq_true, if_false]
    rw [toBoolS_is l hl _ (by omega)]
    simp only [Option.bind_some]
    rw [eqBoolS_is l hl _ (by omega)]; rfl

end Go.Proofs.Ytnidklakgdmkeaa.Pure
