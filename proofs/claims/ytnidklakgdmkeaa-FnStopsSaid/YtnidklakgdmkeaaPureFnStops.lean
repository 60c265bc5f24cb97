/- A sequence of signs stops at the first beginning that is significant, at every drawn sequence. No condition. -/
import Derived.Test.YtnidklakgdmkeaaPFnStopsx3
namespace Go.Proofs.Ytnidklakgdmkeaa.Pure
open Go.RowKit Go.Proofs.Ytnidklakgdmkeaa.PFnStops Go.Proofs.YtnidklakgdmkeaaW.PrintWords Go.Proofs.YtnidklakgdmkeaaW.PrintLast Go.Proofs.YtnidklakgdmkeaaW.PrintMore

theorem w64 {x : Int} (h0 : -9223372036854775808 ≤ x) (h1 : x ≤ 9223372036854775807) : wrap64 x = x := by unfold wrap64; omega
theorem w64_nat (a : Nat) (h : a ≤ 9223372036854775807) : wrap64 (a : Int) = a := w64 (by omega) (by omega)
theorem w64_sub (a b : Nat) (h : b ≤ a) (ha : a ≤ 9223372036854775807) : wrap64 ((a : Int) - (b : Int)) = ((a - b : Nat) : Int) := by rw [w64 (by omega) (by omega)]; omega
theorem w64_add (a b : Nat) (h : a + b ≤ 9223372036854775807) : wrap64 ((a : Int) + (b : Int)) = ((a + b : Nat) : Int) := by rw [w64 (by omega) (by omega)]; omega
theorem w64_succ (a : Nat) (h : a + 1 ≤ 9223372036854775807) : wrap64 ((a : Int) + 1) = ((a + 1 : Nat) : Int) := by rw [w64 (by omega) (by omega)]; omega
theorem w64_mul (a b : Nat) (h : a * b ≤ 9223372036854775807) : wrap64 ((a : Int) * (b : Int)) = ((a * b : Nat) : Int) := by
  rw [← Int.natCast_mul]
  exact w64_nat _ h
theorem mulle {a b R : Nat} (A B : Nat) (h0 : a ≤ A) (h1 : b ≤ B) (h : A * B ≤ R) : a * b ≤ R := Nat.le_trans (Nat.mul_le_mul h0 h1) h

/-- The number of ways to choose k of n. -/
def C : Nat → Nat → Nat
  | _, 0 => 1
  | 0, _ + 1 => 0
  | n + 1, k + 1 => C n k + C n (k + 1)

theorem C_zero (n : Nat) : C n 0 = 1 := by cases n <;> rfl

theorem C_big : ∀ n k, n < k → C n k = 0
  | 0, 0, h => by omega
  | 0, _ + 1, _ => rfl
  | _ + 1, 0, h => by omega
  | n + 1, k + 1, h => by rw [C, C_big n k (by omega), C_big n (k + 1) (by omega)]

theorem C_self : ∀ n, C n n = 1
  | 0 => rfl
  | n + 1 => by rw [C, C_self n, C_big n (n + 1) (by omega)]

theorem C_le : ∀ n k, C n k ≤ 2 ^ n
  | 0, 0 => by simp [C]
  | 0, _ + 1 => by simp [C]
  | n + 1, 0 => by rw [C_zero]; exact Nat.one_le_two_pow
  | n + 1, k + 1 => by have := C_le n k; have := C_le n (k + 1); rw [C, Nat.pow_succ]; omega

theorem C_step : ∀ n k, C (n + 1) (k + 1) * (k + 1) = C n k * (n + 1)
  | 0, 0 => by simp [C]
  | 0, k + 1 => by simp [C]
  | n + 1, 0 => by
    have h := C_step n 0
    simp only [C_zero, Nat.one_mul, Nat.mul_one, Nat.zero_add] at h ⊢
    show C (n + 1) 0 + C (n + 1) 1 = _
    rw [C_zero, h]; omega
  | n + 1, k + 1 => by
    have h1 := C_step n k
    have h2 := C_step n (k + 1)
    show (C (n + 1) (k + 1) + C (n + 1) (k + 2)) * (k + 1 + 1) = _
    have e : C (n + 1) (k + 1) = C n k + C n (k + 1) := rfl
    rw [Nat.add_mul, h2, Nat.mul_add, Nat.mul_one, h1, Nat.mul_add (C (n + 1) (k + 1)) (n + 1) 1, Nat.mul_one, e, Nat.add_mul]
    omega

/-- Weights of one row follow one another. -/
theorem C_next (n k : Nat) (h : k ≤ n) : C n k * (n - k) = C n (k + 1) * (k + 1) := by
  have h1 := C_step n k
  have e : C (n + 1) (k + 1) = C n k + C n (k + 1) := rfl
  rw [e, Nat.add_mul] at h1
  have h2 : C n k * (n + 1) = C n k * (n - k) + C n k * (k + 1) := by rw [← Nat.mul_add]; congr 1; omega
  omega

/-- The last d numbers of row n, added up. -/
def T (n : Nat) : Nat → Nat
  | 0 => 0
  | d + 1 => C n (n - d) + T n d

theorem T_le (n d : Nat) : T n d ≤ d * 2 ^ n := by
  induction d with
  | zero => simp [T]
  | succ d ih => have := C_le n (n - d); rw [T, Nat.succ_mul]; omega

theorem pow50 {n : Nat} (h : n ≤ 50) : 2 ^ n ≤ 1125899906842624 := Nat.le_trans (Nat.pow_le_pow_right (by omega) h) (by decide)

theorem tdiv_mul {a b q : Nat} (h : a = q * b) (hb : 0 < b) : Int.tdiv (a : Int) (b : Int) = q := by
  subst h
  rw [Int.natCast_mul]
  exact Int.mul_tdiv_cancel _ (by omega)

/-- The reference's loop from place i on. -/
theorem tail_loop (n k : Nat) (hn : n ≤ 50) (d : Nat) : ∀ (f i : Nat) (s : Nat), i + d = n + 1 → d < f → s ≤ (n + 1 - d) * 2 ^ n →
    spec_l27Tail.l0 f n k s (C n i : Nat) i = some ((s + T n (min d (n + 1 - k)) : Nat) : Int) := by
  have h2 := pow50 hn
  induction d with
  | zero =>
    intro f i s hi hf _
    obtain ⟨f, rfl⟩ : ∃ m, f = m + 1 := ⟨f - 1, by omega⟩
    simp only [spec_l27Tail.l0]; rw [if_neg (by omega)]
    simp [T]
  | succ d ih =>
    intro f i s hi hf hs
    obtain ⟨f, rfl⟩ : ∃ m, f = m + 1 := ⟨f - 1, by omega⟩
    have hc := C_le n i
    have hm : C n i * (n - i) ≤ 9223372036854775807 := mulle 1125899906842624 50 (by omega) (by omega) (by omega)
    have hc' := C_le n (i + 1)
    have hs' : s + C n i ≤ (n + 1 - d) * 2 ^ n := by
      have : n + 1 - d = (n + 1 - (d + 1)) + 1 := by omega
      rw [this, Nat.succ_mul]; omega
    have hb : (n + 1 - d) * 2 ^ n ≤ 9000000000000000000 := mulle 51 1125899906842624 (by omega) h2 (by omega)
    have hq : C n (i + 1) ≤ 9223372036854775807 := by omega
    have hsc : s + C n i ≤ 9223372036854775807 := by omega
    have hi1 : i + 1 ≤ 9223372036854775807 := by omega
    have hd1 : i + 1 + d = n + 1 := by omega
    have hd2 : d < f := by omega
    have hs2 : s ≤ (n + 1 - d) * 2 ^ n := by omega
    simp only [spec_l27Tail.l0]
    rw [if_pos (by omega), w64_sub n i (by omega) (by omega), w64_mul (C n i) (n - i) hm, w64_succ i hi1, tdiv_mul (C_next n i (by omega)) (Nat.succ_pos i), w64_nat _ hq]
    by_cases hk : (i : Int) ≥ k
    · rw [if_pos hk, if_neg (by omega), w64_add s (C n i) hsc, ih f (i + 1) (s + C n i) hd1 hd2 hs']
      have m1 : min (d + 1) (n + 1 - k) = d + 1 := by omega
      have m2 : min d (n + 1 - k) = d := by omega
      have m3 : n - d = i := by omega
      rw [m1, m2, T, m3, Nat.add_assoc]
    · rw [if_neg hk, if_neg (by omega), ih f (i + 1) s hd1 hd2 hs2]
      have m1 : min (d + 1) (n + 1 - k) = n + 1 - k := by omega
      have m2 : min d (n + 1 - k) = n + 1 - k := by omega
      rw [m1, m2]

theorem spec_tail (n k : Nat) (hn : n ≤ 50) (f : Nat) (hf : n + 1 < f) : spec_l27Tail.f f n k = some ((T n (n + 1 - k) : Nat) : Int) := by
  have h := tail_loop n k hn (n + 1) f 0 0 (by omega) (by omega) (by omega)
  rw [C_zero] at h
  unfold spec_l27Tail.f
  have m : min (n + 1) (n + 1 - k) = n + 1 - k := by omega
  rw [m, Nat.zero_add] at h
  exact h

/-- The program's loop from factor i on. -/
theorem choose_loop (n k : Nat) (hn : n ≤ 50) (hk : k ≤ n) (d : Nat) : ∀ (f i : Nat), i + d = k → d < f →
    impl_choose.l0 f n k (C (n - k + i) i : Nat) ((i : Int) + 1) = some ((C n k : Nat) : Int) := by
  have h2 := pow50 hn
  induction d with
  | zero =>
    intro f i hi hf
    obtain ⟨f, rfl⟩ : ∃ m, f = m + 1 := ⟨f - 1, by omega⟩
    simp only [impl_choose.l0]; rw [if_neg (by omega)]
    have : n - k + i = n := by omega
    obtain rfl : i = k := by omega
    rw [this]
  | succ d ih =>
    intro f i hi hf
    obtain ⟨f, rfl⟩ : ∃ m, f = m + 1 := ⟨f - 1, by omega⟩
    have hp : 2 ^ (n - k + i) ≤ 1125899906842624 := pow50 (by omega)
    have hp' : 2 ^ (n - k + i + 1) ≤ 1125899906842624 := pow50 (by omega)
    have hc := C_le (n - k + i) i
    have hc' := C_le (n - k + i + 1) (i + 1)
    have hm : C (n - k + i) i * (n - k + i + 1) ≤ 9223372036854775807 := mulle 1125899906842624 50 (by omega) (by omega) (by omega)
    have hq : C (n - k + i + 1) (i + 1) ≤ 9223372036854775807 := by omega
    have hsum : n - k + (i + 1) ≤ 9223372036854775807 := by omega
    have hi2 : i + 1 + 1 ≤ 9223372036854775807 := by omega
    have hd1 : i + 1 + d = k := by omega
    have hd2 : d < f := by omega
    simp only [impl_choose.l0]
    rw [if_pos (by omega), if_neg (by omega), w64_sub n k hk (by omega), show ((i : Int) + 1) = ((i + 1 : Nat) : Int) from by omega, w64_add (n - k) (i + 1) hsum, w64_mul (C (n - k + i) i) (n - k + (i + 1)) hm,
      tdiv_mul (a := C (n - k + i) i * (n - k + (i + 1))) (C_step (n - k + i) i).symm (Nat.succ_pos i), w64_nat _ hq, w64_succ (i + 1) hi2]
    exact ih f (i + 1) hd1 hd2

theorem impl_choose_is (n k : Nat) (hn : n ≤ 50) (hk : k ≤ n) (f : Nat) (hf : 51 < f) : impl_choose.f f n k = some ((C n k : Nat) : Int) := by
  obtain ⟨f, rfl⟩ : ∃ m, f = m + 1 := ⟨f - 1, by omega⟩
  unfold impl_choose.f
  rw [if_neg (by omega)]
  have e : decide ((k : Int) > n) = false := by simp; omega
  rw [e]
  simp only [impl_choose.j0]
  have h := choose_loop n k hn hk k f 0 (by omega) (by omega)
  rw [C_zero] at h
  simpa using h

/-- The program's sum from place j on. -/
theorem sum_loop (n : Nat) (hn : n ≤ 50) (d : Nat) : ∀ (f j : Nat) (s : Nat), j + d = n + 1 → d + 52 < f → s ≤ (n + 1 - d) * 2 ^ n →
    impl_signTail.l0 f n s j = some ((s + T n d : Nat) : Int) := by
  have h2 := pow50 hn
  induction d with
  | zero =>
    intro f j s hj hf _
    obtain ⟨f, rfl⟩ : ∃ m, f = m + 1 := ⟨f - 1, by omega⟩
    simp only [impl_signTail.l0]; rw [if_neg (by omega)]
    simp [T]
  | succ d ih =>
    intro f j s hj hf hs
    obtain ⟨f, rfl⟩ : ∃ m, f = m + 1 := ⟨f - 1, by omega⟩
    have hc := C_le n j
    have hs' : s + C n j ≤ (n + 1 - d) * 2 ^ n := by
      have : n + 1 - d = (n + 1 - (d + 1)) + 1 := by omega
      rw [this, Nat.succ_mul]; omega
    have hb : (n + 1 - d) * 2 ^ n ≤ 9000000000000000000 := mulle 51 1125899906842624 (by omega) h2 (by omega)
    have hsc : s + C n j ≤ 9223372036854775807 := by omega
    have hj1 : j + 1 ≤ 9223372036854775807 := by omega
    have hd1 : j + 1 + d = n + 1 := by omega
    have hd2 : d + 52 < f := by omega
    simp only [impl_signTail.l0]
    rw [if_pos (by omega), impl_choose_is n j hn (by omega) f (by omega)]
    simp only [Option.bind_some]
    rw [w64_add s (C n j) hsc, w64_succ j hj1, ih f (j + 1) (s + C n j) hd1 hd2 hs']
    have m3 : n - d = j := by omega
    rw [T, m3, Nat.add_assoc]

theorem impl_tail (n k : Nat) (hn : n ≤ 50) (hk : k ≤ n) (f : Nat) (hf : 105 ≤ f) : impl_signTail.f f n k = some ((T n (n + 1 - k) : Nat) : Int) := by
  have h := sum_loop n hn (n + 1 - k) f k 0 (by omega) (by omega) (by omega)
  unfold impl_signTail.f
  rw [Nat.zero_add] at h
  exact h

theorem i64_nat (a : Nat) (h : a ≤ 9223372036854775807) : IntKind.i64.wrap (a : Int) = a := IntWalk.i64_in _ ⟨by omega, by omega⟩
theorem mx_nat (a b : Nat) : mx (a : Int) (b : Int) = ((max a b : Nat) : Int) := by unfold mx; split <;> omega

theorem pow_cast {n : Nat} : ((2 : Int) ^ n) = ((2 ^ n : Nat) : Int) := by simp

theorem shl_same (n p : Nat) (hn : n ≤ 50) (hp : p ≤ 50) : shl .i64 (p : Int) (n : Int) = wrap64 ((p : Int) * shl .i64 1 (IntKind.u64.wrap (n : Int))) := by
  have h2 := pow50 hn
  have hpp : p * 2 ^ n ≤ 9223372036854775807 := mulle 50 1125899906842624 hp h2 (by omega)
  have hu : IntKind.u64.wrap (n : Int) = n := by rw [IntKind.wrap_u64]; omega
  rw [hu]
  unfold shl
  have hm : min (n : Int).toNat IntKind.i64.bits = n := by show min (n : Int).toNat 64 = n; omega
  rw [hm, Int.one_mul, pow_cast, ← Int.natCast_mul]
  have e1 : IntKind.i64.wrap ((p * 2 ^ n : Nat) : Int) = ((p * 2 ^ n : Nat) : Int) := i64_nat _ (by omega)
  have e2 : IntKind.i64.wrap ((2 ^ n : Nat) : Int) = ((2 ^ n : Nat) : Int) := i64_nat _ (by omega)
  rw [e1, e2, w64_mul p (2 ^ n) hpp]

/-- Whether k signs of n are significant. -/
def sig (n k p : Nat) : Bool := decide (wrap64 (200 * ((T n (n + 1 - max k (n - k)) : Nat) : Int)) ≤ shl .i64 (p : Int) (n : Int))

theorem impl_sig (n k p : Nat) (hn : n ≤ 50) (hk : k ≤ n) (f : Nat) (hf : 105 ≤ f) : impl_significant.f f n k p = some (sig n k p) := by
  unfold impl_significant.f
  rw [w64_sub n k hk (by omega), mx_nat, impl_tail n (max k (n - k)) hn (by omega) f hf]
  simp only [Option.bind_some]
  rw [if_pos (by omega)]; rfl

theorem spec_sig (n k p : Nat) (hn : n ≤ 50) (hk : k ≤ n) (hp : p ≤ 50) (f : Nat) (hf : 105 ≤ f) : spec_l27Significant.f f n k p = some (sig n k p) := by
  unfold spec_l27Significant.f
  have hu : IntKind.u64.wrap (n : Int) = n := by rw [IntKind.wrap_u64]; omega
  rw [w64_sub n k hk (by omega), mx_nat, spec_tail n (max k (n - k)) hn f (by omega), ← shl_same n p hn hp, hu]
  simp only [Option.bind_some]
  rw [if_pos (by omega)]; rfl

/-- After how many signs it stops: d signs are left, c of the signs before them are plus. -/
def go (l : List Bool) (p : Nat) : Nat → Nat → Int
  | 0, _ => -1
  | d + 1, c =>
    let n := l.length - (d + 1)
    let c' := if l.getD n false = true then c + 1 else c
    if sig (n + 1) c' p = true then ((n + 1 : Nat) : Int) else go l p d c'

theorem impl_go (l : List Bool) (p : Nat) (hl : l.length ≤ 50) (d : Nat) : ∀ (f n c : Nat), n + d = l.length → c ≤ n → d + 105 < f →
    impl_StopAfter.l0 f p c l l.length n = some (go l p d c, 0) := by
  induction d with
  | zero =>
    intro f n c hn hc hf
    obtain ⟨f, rfl⟩ : ∃ m, f = m + 1 := ⟨f - 1, by omega⟩
    simp only [impl_StopAfter.l0]; rw [if_neg (by omega)]; rfl
  | succ d ih =>
    intro f n c hn hc hf
    obtain ⟨f, rfl⟩ : ∃ m, f = m + 1 := ⟨f - 1, by omega⟩
    have hn1 : n + 1 ≤ 9223372036854775807 := by omega
    have hc1 : c + 1 ≤ 9223372036854775807 := by omega
    have e0 : l.length - (d + 1) = n := by omega
    have a1 : n + 1 + d = l.length := by omega
    have a2 : d + 105 < f := by omega
    simp only [impl_StopAfter.l0, go, e0]
    rw [if_pos (by omega), if_pos (by omega), if_pos (by omega), w64_succ n hn1, w64_succ c hc1]
    have er : rdOf false l (n : Int) = l.getD n false := rfl
    rw [er]
    cases l.getD n false with
    | true =>
      simp only [if_true]
      rw [impl_sig (n + 1) (c + 1) p (by omega) (by omega) f (by omega)]
      simp only [Option.bind_some]
      cases sig (n + 1) (c + 1) p with
      | true => rfl
      | false => simp only [Bool.false_eq_true, if_false]; exact ih f (n + 1) (c + 1) a1 (by omega) a2
    | false =>
      simp only [Bool.false_eq_true, if_false]
      rw [impl_sig (n + 1) c p (by omega) (by omega) f (by omega)]
      simp only [Option.bind_some]
      cases sig (n + 1) c p with
      | true => rfl
      | false => simp only [Bool.false_eq_true, if_false]; exact ih f (n + 1) c a1 (by omega) a2

theorem spec_go (l : List Bool) (p : Nat) (hl : l.length ≤ 50) (hp : p ≤ 50) (d : Nat) : ∀ (f n c : Nat), n + d = l.length → c ≤ n → d + 106 < f →
    spec_StopAfter.l0 f l p c n = some (if sig n c p = true then (n : Int) else go l p d c, 0) := by
  induction d with
  | zero =>
    intro f n c hn hc hf
    obtain ⟨f, rfl⟩ : ∃ m, f = m + 1 := ⟨f - 1, by omega⟩
    have hn1 : n + 1 ≤ 9223372036854775807 := by omega
    simp only [spec_StopAfter.l0]
    rw [if_pos (by omega), spec_sig n c p (by omega) hc hp f (by omega)]
    simp only [Option.bind_some]
    cases sig n c p with
    | true => rfl
    | false =>
      simp only [Bool.false_eq_true, if_false]
      rw [if_neg (by omega), w64_succ n hn1]
      obtain ⟨f, rfl⟩ : ∃ m, f = m + 1 := ⟨f - 1, by omega⟩
      simp only [spec_StopAfter.l0]
      rw [if_neg (by omega)]; rfl
  | succ d ih =>
    intro f n c hn hc hf
    obtain ⟨f, rfl⟩ : ∃ m, f = m + 1 := ⟨f - 1, by omega⟩
    have hn1 : n + 1 ≤ 9223372036854775807 := by omega
    have hc1 : c + 1 ≤ 9223372036854775807 := by omega
    have e0 : l.length - (d + 1) = n := by omega
    have a1 : n + 1 + d = l.length := by omega
    have a2 : d + 106 < f := by omega
    simp only [spec_StopAfter.l0, go, e0]
    rw [if_pos (by omega), spec_sig n c p (by omega) hc hp f (by omega)]
    simp only [Option.bind_some]
    cases sig n c p with
    | true => rfl
    | false =>
      simp only [Bool.false_eq_true, if_false]
      rw [if_pos (by omega), if_pos (by omega), w64_succ n hn1, w64_succ c hc1]
      have er : rdOf false l (n : Int) = l.getD n false := rfl
      rw [er]
      cases l.getD n false with
      | true => simp only [if_true]; exact ih f (n + 1) (c + 1) a1 (by omega) a2
      | false => simp only [Bool.false_eq_true, if_false]; exact ih f (n + 1) c a1 (by omega) a2

theorem sig_zero (p : Nat) (hp : p ≤ 50) : sig 0 0 p = false := by
  unfold sig
  have h1 : T 0 (0 + 1 - max 0 (0 - 0)) = 1 := by decide
  have h2 : shl .i64 (p : Int) ((0 : Nat) : Int) = p := by
    unfold shl
    have hm : min ((0 : Nat) : Int).toNat IntKind.i64.bits = 0 := by decide
    rw [hm, Int.pow_zero, Int.mul_one]
    exact i64_nat _ (by omega)
  rw [h1, h2, w64 (by decide) (by decide)]
  simp; omega

theorem both_stop2 (l : List Bool) (p : Int) (f : Nat) (hf : 400 ≤ f) : ∃ r, spec_StopAfter.f f l p = some r ∧ impl_StopAfter.f f l p = some r ∧ (r.2 = 0 → l.length ≤ 50 ∧ ∃ q : Nat, p = q ∧ 1 ≤ q ∧ q ≤ 50 ∧ r.1 = go l q l.length 0) := by
  obtain ⟨f, rfl⟩ : ∃ m, f = m + 1 := ⟨f - 1, by omega⟩
  unfold spec_StopAfter.f impl_StopAfter.f spec_l27Percent.f spec_l01In.f impl_within.f
  by_cases h0 : (l.length : Int) > 50
  · exact ⟨(0, 2), by simp [h0, spec_StopAfter.j0], by simp [h0, impl_StopAfter.j0], fun h => absurd h (by decide)⟩
  · by_cases h1 : p ≥ 1
    · by_cases h2 : p ≤ 50
      · obtain ⟨p, rfl⟩ := Int.eq_ofNat_of_zero_le (show 0 ≤ p by omega)
        have e1 := spec_go l p (by omega) (by omega) l.length f 0 0 (by omega) (by omega) (by omega)
        have e2 := impl_go l p (by omega) l.length f 0 0 (by omega) (by omega) (by omega)
        rw [sig_zero p (by omega)] at e1
        simp only [Bool.false_eq_true, if_false] at e1
        exact ⟨(go l p l.length 0, 0), by simp [h0, h1, h2, spec_StopAfter.j0]; exact e1, by simp [h0, h1, h2, impl_StopAfter.j0]; exact e2, fun _ => ⟨by omega, p, rfl, by omega, by omega, rfl⟩⟩
      · exact ⟨(0, 2), by simp [h0, h1, h2, spec_StopAfter.j0], by simp [h0, h1, h2, impl_StopAfter.j0], fun h => absurd h (by decide)⟩
    · exact ⟨(0, 2), by simp [h0, h1, spec_StopAfter.j0], by simp [h0, h1, impl_StopAfter.j0], fun h => absurd h (by decide)⟩

theorem both_stop (l : List Bool) (p : Int) (f : Nat) (hf : 400 ≤ f) : ∃ r, spec_StopAfter.f f l p = some r ∧ impl_StopAfter.f f l p = some r := by
  obtain ⟨r, h1, h2, _⟩ := both_stop2 l p f hf
  exact ⟨r, h1, h2⟩

/-- What a source of draws holds: its place and its seed. -/
def Src (at_ seed : Int) : Prop := 0 ≤ at_ ∧ at_ ≤ 9223372036854775806 ∧ 0 ≤ seed ∧ seed < 2147483647

theorem byte_of {l : List Int} (hl : ∀ x ∈ l, 0 ≤ x ∧ x < 256) (i : Int) : 0 ≤ rd l i ∧ rd l i < 256 := by
  unfold rd
  rw [List.getD_eq_getElem?_getD]
  cases h : l[i.toNat]? with
  | none => simp
  | some x => simpa using hl x (List.mem_of_getElem? h)

theorem wf_u8 {x : Int} (h : (Lit.int .u8 x).wf = true) : 0 ≤ x ∧ x < 256 := by
  simp [Lit.wf, IntKind.min, IntKind.max, IntKind.bits, IntKind.signed] at h
  omega

theorem tmod_bd {x m : Int} (hx : 0 ≤ x) (hm : 0 < m) : 0 ≤ Int.tmod x m ∧ Int.tmod x m < m :=
  ⟨Int.tmod_nonneg _ hx, Int.tmod_lt_of_pos _ hm⟩

theorem seed_step {s : Int} (h0 : 0 ≤ s) (h1 : s < 2147483647) : 0 ≤ Int.tmod (wrap64 ((wrap64 (s * 48271)) + 17)) 2147483647 ∧ Int.tmod (wrap64 ((wrap64 (s * 48271)) + 17)) 2147483647 < 2147483647 := by
  rw [w64 (x := s * 48271) (by omega) (by omega), w64 (x := s * 48271 + 17) (by omega) (by omega)]
  exact tmod_bd (by omega) (by omega)

theorem quo_bd {s : Int} (h0 : 0 ≤ s) (h1 : s < 2147483647) : 0 ≤ wrap64 (Int.tdiv s 11) ∧ wrap64 (Int.tdiv s 11) < 2147483647 := by
  have e : Int.tdiv s 11 = s / 11 := Int.tdiv_eq_ediv_of_nonneg h0
  rw [e, w64 (by omega) (by omega)]
  omega

theorem next_ok {l : List Int} (hl : ∀ x ∈ l, 0 ≤ x ∧ x < 256) (hn : l.length ≤ 140737488351232) {p s : Int} (hs : Src p s) (n : Int) :
    ∃ r p' s', spec_l01Next.f l p s n = some (r, p', s') ∧ Src p' s' ∧ (n ≤ 1 → r = 0) ∧ (1 < n → 0 ≤ r ∧ r < n) := by
  obtain ⟨p0, p1, s0, s1⟩ := hs
  unfold spec_l01Next.f
  by_cases h1 : n ≤ 1
  · exact ⟨0, p, s, by rw [if_pos h1], ⟨p0, p1, s0, s1⟩, fun _ => rfl, fun h => by omega⟩
  · obtain ⟨t0, t1⟩ := seed_step s0 s1
    generalize Int.tmod (wrap64 ((wrap64 (s * 48271)) + 17)) 2147483647 = t at *
    obtain ⟨q0, q1⟩ := quo_bd t0 t1
    rw [if_neg h1]
    by_cases h2 : p < (l.length : Int)
    · have b1 := byte_of hl p
      rw [if_pos h2, if_pos p0, w64 (x := p + 1) (by omega) (by omega), w64 (x := p + 1 - 1) (by omega) (by omega), show p + 1 - 1 = p from by omega, if_pos p0, if_pos h2]
      have e1 : wrap64 (rd l p) = rd l p := w64 (by omega) (by omega)
      rw [e1]
      have hsrc : Src (p + 1) t := ⟨by omega, by omega, t0, t1⟩
      by_cases h3 : n ≤ 256
      · by_cases h4 : Int.tmod (p + 1) 2 = 0
        · have := tmod_bd (x := rd l p) (m := n) (by omega) (by omega)
          exact ⟨_, _, _, by rw [if_pos h3, if_pos h4, if_neg (show ¬ n = 0 by omega)], hsrc, fun h => by omega, fun _ => this⟩
        · rw [if_pos h3, if_neg h4]
          generalize wrap64 (Int.tdiv t 11) = q at *
          have := tmod_bd (x := q + rd l p) (m := n) (by omega) (by omega)
          exact ⟨_, _, _, by rw [w64 (x := q + rd l p) (by omega) (by omega), if_neg (show ¬ n = 0 by omega)], hsrc, fun h => by omega, fun _ => this⟩
      · rw [if_neg h3]
        generalize wrap64 (Int.tdiv t 11) = q at *
        have := tmod_bd (x := q + rd l p) (m := n) (by omega) (by omega)
        exact ⟨_, _, _, by rw [w64 (x := q + rd l p) (by omega) (by omega), if_neg (show ¬ n = 0 by omega)], hsrc, fun h => by omega, fun _ => this⟩
    · rw [if_neg h2, if_neg (show ¬ n = 0 by omega)]
      have e : wrap64 (Int.tdiv t 11) = Int.tdiv t 11 := by
        have e0 : Int.tdiv t 11 = t / 11 := Int.tdiv_eq_ediv_of_nonneg t0
        rw [e0, w64 (by omega) (by omega)]
      generalize hq : wrap64 (Int.tdiv t 11) = q at *
      have := tmod_bd (x := q) (m := n) (by omega) (by omega)
      exact ⟨_, _, _, rfl, ⟨p0, p1, t0, t1⟩, fun h => by omega, fun _ => this⟩

theorem from_loop {l : List Int} (hl : ∀ x ∈ l, 0 ≤ x ∧ x < 256) (d : Nat) : ∀ (f i : Nat) (s : Int), i + d = 64 → d < f → 0 ≤ s → s < 2147483647 →
    ∃ s', spec_l01From.l0 f l i l 0 s = some (l, 0, s') ∧ 0 ≤ s' ∧ s' < 2147483647 := by
  induction d with
  | zero =>
    intro f i s hi hf h0 h1
    obtain ⟨f, rfl⟩ : ∃ m, f = m + 1 := ⟨f - 1, by omega⟩
    refine ⟨s, ?_, h0, h1⟩
    simp only [spec_l01From.l0]
    rw [if_neg (show ¬ (i : Int) < 64 by omega)]
    by_cases h : (i : Int) < l.length
    · rw [if_pos h]
    · rw [if_neg h]
  | succ d ih =>
    intro f i s hi hf h0 h1
    obtain ⟨f, rfl⟩ : ∃ m, f = m + 1 := ⟨f - 1, by omega⟩
    simp only [spec_l01From.l0]
    by_cases h : (i : Int) < l.length
    · have b1 := byte_of hl i
      rw [if_pos h, if_pos (by omega), if_pos (by omega), w64_succ i (by omega), w64 (x := s * 43) (by omega) (by omega), w64 (x := rd l i) (by omega) (by omega), w64 (x := s * 43 + rd l i) (by omega) (by omega)]
      have := tmod_bd (x := s * 43 + rd l i) (m := 2147483647) (by omega) (by omega)
      exact ih f (i + 1) _ (by omega) (by omega) this.1 this.2
    · rw [if_neg h]; exact ⟨s, rfl, h0, h1⟩

theorem from_ok {l : List Int} (hl : ∀ x ∈ l, 0 ≤ x ∧ x < 256) (f : Nat) (hf : 64 < f) : ∃ s, spec_l01From.f f l = some (l, 0, s) ∧ Src 0 s := by
  obtain ⟨s, h, h0, h1⟩ := from_loop hl 64 f 0 24157 (by omega) hf (by omega) (by omega)
  exact ⟨s, h, by omega, by omega, h0, h1⟩

theorem percent_ok {l : List Int} (hl : ∀ x ∈ l, 0 ≤ x ∧ x < 256) (hn : l.length ≤ 140737488351232) {p s : Int} (hs : Src p s) : ∃ r p' s', spec_l27DrawPercent.f l p s = some (r, p', s') ∧ Src p' s' := by
  unfold spec_l27DrawPercent.f
  simp only [Option.bind_some, List.length_cons, List.length_nil]
  obtain ⟨r5, p5, s5, e5, hs5, _, b5⟩ := next_ok hl hn hs 10
  rw [e5]; simp only [Option.bind_some]
  have c5 := b5 (by omega)
  rw [if_pos c5.1, if_pos (by omega)]
  exact ⟨_, _, _, rfl, hs5⟩


theorem draw_loop {c : List Int} (hc : ∀ x ∈ c, 0 ≤ x ∧ x < 256) (hn : c.length ≤ 140737488351232) (m : Nat) (hm : m ≤ 60) (b : Int) (d : Nat) : ∀ (f i : Nat) (l : List Bool) (p s : Int), l.length = i → i + d = m → d < f → Src p s →
    ∃ r, spec_DrawStopAfter.l0 f l m b i c p s = some r := by
  induction d with
  | zero =>
    intro f i l p s hl hi hf hs
    obtain ⟨f, rfl⟩ : ∃ m, f = m + 1 := ⟨f - 1, by omega⟩
    simp only [spec_DrawStopAfter.l0]
    rw [if_neg (by omega)]
    obtain ⟨r, p', s', e, _⟩ := percent_ok hc hn hs
    rw [e]; exact ⟨_, rfl⟩
  | succ d ih =>
    intro f i l p s hl hi hf hs
    obtain ⟨f, rfl⟩ : ∃ m, f = m + 1 := ⟨f - 1, by omega⟩
    simp only [spec_DrawStopAfter.l0]
    obtain ⟨r, p', s', e, hs', _, _⟩ := next_ok hc hn hs 10
    rw [if_pos (by omega), e]
    simp only [Option.bind_some]
    rw [if_pos (by omega), w64_succ i (by omega)]
    exact ih f (i + 1) _ p' s' (by simp [hl]) (by omega) (by omega) hs'

theorem draw_ok {c : List Int} (hc : ∀ x ∈ c, 0 ≤ x ∧ x < 256) (hn : c.length ≤ 140737488351232) (f : Nat) (hf : 100 < f) : ∃ r, spec_DrawStopAfter.f f c = some r := by
  unfold spec_DrawStopAfter.f
  obtain ⟨s, h, hs⟩ := from_ok hc f (by omega)
  obtain ⟨f, rfl⟩ : ∃ m, f = m + 1 := ⟨f - 1, by omega⟩
  rw [h]
  simp only [Option.bind_some]
  obtain ⟨r1, p1, s1, e1, hs1, _, b1⟩ := next_ok hc hn hs 30
  rw [e1]; simp only [Option.bind_some]
  have c1 := b1 (by omega)
  obtain ⟨r2, p2, s2, e2, hs2, _, b2⟩ := next_ok hc hn hs1 16
  rw [e2]; simp only [Option.bind_some]
  by_cases h2 : r2 = 0
  · rw [if_pos h2]
    obtain ⟨r3, p3, s3, e3, hs3, _, b3⟩ := next_ok hc hn hs2 2
    rw [e3]; simp only [Option.bind_some, spec_DrawStopAfter.j0]
    have c3 := b3 (by omega)
    obtain ⟨r4, p4, s4, e4, hs4, _, b4⟩ := next_ok hc hn hs3 9
    rw [e4]; simp only [Option.bind_some]
    obtain ⟨m, hm⟩ := Int.eq_ofNat_of_zero_le (show 0 ≤ 50 + r3 by omega)
    have e5 : wrap64 (50 + r3) = (m : Int) := by rw [w64 (by omega) (by omega), hm]
    rw [e5]
    exact draw_loop hc hn m (by omega) _ m f 0 [] p4 s4 rfl (by omega) (by omega) hs4
  · rw [if_neg h2]
    simp only [spec_DrawStopAfter.j0]
    obtain ⟨r4, p4, s4, e4, hs4, _, b4⟩ := next_ok hc hn hs2 9
    rw [e4]; simp only [Option.bind_some]
    obtain ⟨m, rfl⟩ := Int.eq_ofNat_of_zero_le c1.1
    exact draw_loop hc hn m (by omega) _ m f 0 [] p4 s4 rfl (by omega) (by omega) hs4

theorem go_far (l : List Bool) (p : Nat) (d : Nat) : ∀ c, d ≤ l.length → go l p d c ≠ ((l.length - d : Nat) : Int) := by
  have key : ∀ d c, d ≤ l.length → go l p d c = -1 ∨ ((l.length - d : Nat) : Int) < go l p d c := by
    intro d
    induction d with
    | zero => intro c _; left; rfl
    | succ d ih =>
      intro c hd
      simp only [go]
      generalize hc' : (if l.getD (l.length - (d + 1)) false = true then c + 1 else c) = c'
      by_cases hs : sig (l.length - (d + 1) + 1) c' p = true
      · rw [if_pos hs]; right; omega
      · rw [if_neg hs]
        rcases ih c' (by omega) with h | h
        · left; exact h
        · right; omega
  intro c hd
  rcases key d c hd with h | h <;> omega

theorem isSig (n c p : Nat) (hn : n ≤ 50) (hc : c ≤ n) (h1 : 1 ≤ p) (hp : p ≤ 50) (f : Nat) (hf : 105 ≤ f) : impl_IsSignificant.f f n c p = some (sig n c p, 0) := by
  unfold impl_IsSignificant.f impl_within.f
  have e := impl_sig n c p hn hc f hf
  have g0 : (n : Int) ≥ 0 := by omega
  have g1 : (n : Int) ≤ 50 := by omega
  have g2 : (c : Int) ≥ 0 := by omega
  have g3 : (c : Int) ≤ n := by omega
  have g4 : (p : Int) ≥ 1 := by omega
  have g5 : (p : Int) ≤ 50 := by omega
  simp [g0, g1, g2, g3, g4, g5, e]

theorem law_loop (l : List Bool) (p : Nat) (hl : l.length ≤ 50) (h1 : 1 ≤ p) (hp : p ≤ 50) (A : Int) (d : Nat) : ∀ (f n c : Nat), n + d = l.length → c ≤ n → 2 * d + 120 < f → A = (if sig n c p = true then (n : Int) else go l p d c) →
    laws_FnStops.l0 f l p A c n = some true := by
  induction d with
  | zero =>
    intro f n c hn hc hf hA
    obtain ⟨f, rfl⟩ : ∃ m, f = m + 2 := ⟨f - 2, by omega⟩
    simp only [laws_FnStops.l0]
    rw [if_pos (by omega), isSig n c p (by omega) hc h1 hp (f + 1) (by omega)]
    simp only [Option.bind_some, if_true]
    simp only [laws_FnStops.j2]
    cases hs : sig n c p with
    | true =>
      rw [hs] at hA
      simp only [if_true] at hA
      subst hA
      simp
    | false =>
      rw [hs] at hA
      have hA' : A = -1 := hA
      subst hA'
      have hne : ¬ (n : Int) = -1 := by omega
      have e1 : ((n : Int) == -1) = false := beq_eq_false_iff_ne.mpr hne
      rw [e1]
      simp only [bne_self_eq_false, Bool.false_eq_true, if_false]
      rw [if_neg hne, if_neg (by omega), w64_succ n (by omega)]
      obtain ⟨f, rfl⟩ : ∃ m, f = m + 1 := ⟨f - 1, by omega⟩
      simp only [laws_FnStops.l0]
      rw [if_neg (by omega)]
      rfl
  | succ d ih =>
    intro f n c hn hc hf hA
    obtain ⟨f, rfl⟩ : ∃ m, f = m + 2 := ⟨f - 2, by omega⟩
    simp only [laws_FnStops.l0]
    rw [if_pos (by omega), isSig n c p (by omega) hc h1 hp (f + 1) (by omega)]
    simp only [Option.bind_some, if_true]
    simp only [laws_FnStops.j2]
    cases hs : sig n c p with
    | true =>
      rw [hs] at hA
      simp only [if_true] at hA
      subst hA
      simp
    | false =>
      rw [hs] at hA
      simp only [Bool.false_eq_true, if_false] at hA
      have e0 : l.length - (d + 1) = n := by omega
      have hne : ¬ (n : Int) = A := by
        intro e
        have := go_far l p (d + 1) c (by omega)
        rw [e0] at this
        exact this (hA.symm.trans e.symm)
      have e1 : ((n : Int) == A) = false := beq_eq_false_iff_ne.mpr hne
      rw [e1]
      simp only [bne_self_eq_false, Bool.false_eq_true, if_false]
      rw [if_neg hne, if_pos (by omega), if_pos (by omega), w64_succ n (by omega), w64_succ c (by omega)]
      have er : rdOf false l (n : Int) = l.getD n false := rfl
      rw [er]
      have hA2 : A = (if sig (n + 1) (if l.getD n false = true then c + 1 else c) p = true then ((n + 1 : Nat) : Int) else go l p d (if l.getD n false = true then c + 1 else c)) := by
        rw [hA]; simp only [go, e0]
      cases hg : l.getD n false with
      | true =>
        rw [hg] at hA2
        simp only [if_true] at hA2 ⊢
        exact ih f (n + 1) (c + 1) (by omega) (by omega) (by omega) hA2
      | false =>
        rw [hg] at hA2
        simp only [Bool.false_eq_true, if_false] at hA2 ⊢
        exact ih f (n + 1) c (by omega) (by omega) (by omega) hA2

theorem FnStops : laws_FnStops.Pure := by
  intro c _ hn hb
  have hc : ∀ x ∈ c, 0 ≤ x ∧ x < 256 := fun x hx => wf_u8 (hb x hx)
  obtain ⟨K, hK⟩ : ∃ K, K = 1000 := ⟨_, rfl⟩
  refine ⟨K + 1, ?_⟩
  unfold laws_FnStops.f laws_big.f
  simp only [Option.bind_some]
  by_cases h : (c.length : Int) > 4096
  · simp [h]
  · obtain ⟨⟨l, p⟩, hd⟩ := draw_ok hc (by omega) (K + 1) (by omega)
    obtain ⟨⟨A, z⟩, g1, g2, g3⟩ := both_stop2 l p (K + 1) (by omega)
    rw [hd]
    simp only [Option.bind_some, decide_eq_true_eq]
    rw [if_neg h, g2]
    simp only [Option.bind_some]
    rw [g1]
    simp only [Option.bind_some, if_true, bne_self_eq_false]
    simp only [laws_FnStops.j0, Bool.false_eq_true, if_false]
    by_cases hz : z = 0
    · rw [if_pos hz]
      obtain ⟨hl, q, rfl, q1, q2, hA⟩ := g3 hz
      have hA' : A = go l q l.length 0 := hA
      exact law_loop l q hl q1 q2 A l.length K 0 0 (by omega) (by omega) (by omega) (by rw [sig_zero q q2]; simpa using hA')
    · rw [if_neg hz]

end Go.Proofs.Ytnidklakgdmkeaa.Pure
