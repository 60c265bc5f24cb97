/- The tails for k and for n - k + 1 add up to all sequences, and significance does not change if all signs are turned, at every draw. No condition. -/
import Derived.Test.YtnidklakgdmkeaaPFnSignsx3
namespace Go.Proofs.Ytnidklakgdmkeaa.Pure
open Go.RowKit Go.Proofs.Ytnidklakgdmkeaa.PFnSigns Go.Proofs.YtnidklakgdmkeaaW.PrintWords Go.Proofs.YtnidklakgdmkeaaW.PrintLast Go.Proofs.YtnidklakgdmkeaaW.PrintMore

theorem w64 {x : Int} (h0 : -9223372036854775808 ≤ x) (h1 : x ≤ 9223372036854775807) : wrap64 x = x := by unfold wrap64; omega
theorem w64_nat (a : Nat) (h : a ≤ 9223372036854775807) : wrap64 (a : Int) = a := w64 (by omega) (by omega)
theorem w64_sub (a b : Nat) (h : b ≤ a) (ha : a ≤ 9223372036854775807) : wrap64 ((a : Int) - (b : Int)) = ((a - b : Nat) : Int) := by rw [w64 (by omega) (by omega)]; omega
theorem w64_add (a b : Nat) (h : a + b ≤ 9223372036854775807) : wrap64 ((a : Int) + (b : Int)) = ((a + b : Nat) : Int) := by rw [w64 (by omega) (by omega)]; omega
theorem w64_succ (a : Nat) (h : a + 1 ≤ 9223372036854775807) : wrap64 ((a : Int) + 1) = ((a + 1 : Nat) : Int) := by rw [w64 (by omega) (by omega)]; omega
theorem w64_mul (a b : Nat) (h : a * b ≤ 9223372036854775807) : wrap64 ((a : Int) * (b : Int)) = ((a * b : Nat) : Int) := by
  rw [← Int.natCast_mul]
  exact w64_nat _ h
theorem mulle {a b R : Nat} (A B : Nat) (h0 : a ≤ A) (h1 : b ≤ B) (h : A * B ≤ R) : a * b ≤ R := Nat.le_trans (Nat.mul_le_mul h0 h1) h

/-- The number of ways to choose k of n. -/
def C : Nat → Nat → Nat
  | _, 0 => 1
  | 0, _ + 1 => 0
  | n + 1, k + 1 => C n k + C n (k + 1)

theorem C_zero (n : Nat) : C n 0 = 1 := by cases n <;> rfl

theorem C_big : ∀ n k, n < k → C n k = 0
  | 0, 0, h => by omega
  | 0, _ + 1, _ => rfl
  | _ + 1, 0, h => by omega
  | n + 1, k + 1, h => by rw [C, C_big n k (by omega), C_big n (k + 1) (by omega)]

theorem C_self : ∀ n, C n n = 1
  | 0 => rfl
  | n + 1 => by rw [C, C_self n, C_big n (n + 1) (by omega)]

theorem C_le : ∀ n k, C n k ≤ 2 ^ n
  | 0, 0 => by simp [C]
  | 0, _ + 1 => by simp [C]
  | n + 1, 0 => by rw [C_zero]; exact Nat.one_le_two_pow
  | n + 1, k + 1 => by have := C_le n k; have := C_le n (k + 1); rw [C, Nat.pow_succ]; omega

theorem C_step : ∀ n k, C (n + 1) (k + 1) * (k + 1) = C n k * (n + 1)
  | 0, 0 => by simp [C]
  | 0, k + 1 => by simp [C]
  | n + 1, 0 => by
    have h := C_step n 0
    simp only [C_zero, Nat.one_mul, Nat.mul_one, Nat.zero_add] at h ⊢
    show C (n + 1) 0 + C (n + 1) 1 = _
    rw [C_zero, h]; omega
  | n + 1, k + 1 => by
    have h1 := C_step n k
    have h2 := C_step n (k + 1)
    show (C (n + 1) (k + 1) + C (n + 1) (k + 2)) * (k + 1 + 1) = _
    have e : C (n + 1) (k + 1) = C n k + C n (k + 1) := rfl
    rw [Nat.add_mul, h2, Nat.mul_add, Nat.mul_one, h1, Nat.mul_add (C (n + 1) (k + 1)) (n + 1) 1, Nat.mul_one, e, Nat.add_mul]
    omega

/-- Weights of one row follow one another. -/
theorem C_next (n k : Nat) (h : k ≤ n) : C n k * (n - k) = C n (k + 1) * (k + 1) := by
  have h1 := C_step n k
  have e : C (n + 1) (k + 1) = C n k + C n (k + 1) := rfl
  rw [e, Nat.add_mul] at h1
  have h2 : C n k * (n + 1) = C n k * (n - k) + C n k * (k + 1) := by rw [← Nat.mul_add]; congr 1; omega
  omega

/-- The last d numbers of row n, added up. -/
def T (n : Nat) : Nat → Nat
  | 0 => 0
  | d + 1 => C n (n - d) + T n d

theorem T_le (n d : Nat) : T n d ≤ d * 2 ^ n := by
  induction d with
  | zero => simp [T]
  | succ d ih => have := C_le n (n - d); rw [T, Nat.succ_mul]; omega

theorem pow50 {n : Nat} (h : n ≤ 50) : 2 ^ n ≤ 1125899906842624 := Nat.le_trans (Nat.pow_le_pow_right (by omega) h) (by decide)

theorem tdiv_mul {a b q : Nat} (h : a = q * b) (hb : 0 < b) : Int.tdiv (a : Int) (b : Int) = q := by
  subst h
  rw [Int.natCast_mul]
  exact Int.mul_tdiv_cancel _ (by omega)

/-- The reference's loop from place i on. -/
theorem tail_loop (n k : Nat) (hn : n ≤ 50) (d : Nat) : ∀ (f i : Nat) (s : Nat), i + d = n + 1 → d < f → s ≤ (n + 1 - d) * 2 ^ n →
    spec_l27Tail.l0 f n k s (C n i : Nat) i = some ((s + T n (min d (n + 1 - k)) : Nat) : Int) := by
  have h2 := pow50 hn
  induction d with
  | zero =>
    intro f i s hi hf _
    obtain ⟨f, rfl⟩ : ∃ m, f = m + 1 := ⟨f - 1, by omega⟩
    simp only [spec_l27Tail.l0]; rw [if_neg (by omega)]
    simp [T]
  | succ d ih =>
    intro f i s hi hf hs
    obtain ⟨f, rfl⟩ : ∃ m, f = m + 1 := ⟨f - 1, by omega⟩
    have hc := C_le n i
    have hm : C n i * (n - i) ≤ 9223372036854775807 := mulle 1125899906842624 50 (by omega) (by omega) (by omega)
    have hc' := C_le n (i + 1)
    have hs' : s + C n i ≤ (n + 1 - d) * 2 ^ n := by
      have : n + 1 - d = (n + 1 - (d + 1)) + 1 := by omega
      rw [this, Nat.succ_mul]; omega
    have hb : (n + 1 - d) * 2 ^ n ≤ 9000000000000000000 := mulle 51 1125899906842624 (by omega) h2 (by omega)
    have hq : C n (i + 1) ≤ 9223372036854775807 := by omega
    have hsc : s + C n i ≤ 9223372036854775807 := by omega
    have hi1 : i + 1 ≤ 9223372036854775807 := by omega
    have hd1 : i + 1 + d = n + 1 := by omega
    have hd2 : d < f := by omega
    have hs2 : s ≤ (n + 1 - d) * 2 ^ n := by omega
    simp only [spec_l27Tail.l0]
    rw [if_pos (by omega), w64_sub n i (by omega) (by omega), w64_mul (C n i) (n - i) hm, w64_succ i hi1, tdiv_mul (C_next n i (by omega)) (Nat.succ_pos i), w64_nat _ hq]
    by_cases hk : (i : Int) ≥ k
    · rw [if_pos hk, if_neg (by omega), w64_add s (C n i) hsc, ih f (i + 1) (s + C n i) hd1 hd2 hs']
      have m1 : min (d + 1) (n + 1 - k) = d + 1 := by omega
      have m2 : min d (n + 1 - k) = d := by omega
      have m3 : n - d = i := by omega
      rw [m1, m2, T, m3, Nat.add_assoc]
    · rw [if_neg hk, if_neg (by omega), ih f (i + 1) s hd1 hd2 hs2]
      have m1 : min (d + 1) (n + 1 - k) = n + 1 - k := by omega
      have m2 : min d (n + 1 - k) = n + 1 - k := by omega
      rw [m1, m2]

theorem spec_tail (n k : Nat) (hn : n ≤ 50) (f : Nat) (hf : n + 1 < f) : spec_l27Tail.f f n k = some ((T n (n + 1 - k) : Nat) : Int) := by
  have h := tail_loop n k hn (n + 1) f 0 0 (by omega) (by omega) (by omega)
  rw [C_zero] at h
  unfold spec_l27Tail.f
  have m : min (n + 1) (n + 1 - k) = n + 1 - k := by omega
  rw [m, Nat.zero_add] at h
  exact h

/-- The program's loop from factor i on. -/
theorem choose_loop (n k : Nat) (hn : n ≤ 50) (hk : k ≤ n) (d : Nat) : ∀ (f i : Nat), i + d = k → d < f →
    impl_choose.l0 f n k (C (n - k + i) i : Nat) ((i : Int) + 1) = some ((C n k : Nat) : Int) := by
  have h2 := pow50 hn
  induction d with
  | zero =>
    intro f i hi hf
    obtain ⟨f, rfl⟩ : ∃ m, f = m + 1 := ⟨f - 1, by omega⟩
    simp only [impl_choose.l0]; rw [if_neg (by omega)]
    have : n - k + i = n := by omega
    obtain rfl : i = k := by omega
    rw [this]
  | succ d ih =>
    intro f i hi hf
    obtain ⟨f, rfl⟩ : ∃ m, f = m + 1 := ⟨f - 1, by omega⟩
    have hp : 2 ^ (n - k + i) ≤ 1125899906842624 := pow50 (by omega)
    have hp' : 2 ^ (n - k + i + 1) ≤ 1125899906842624 := pow50 (by omega)
    have hc := C_le (n - k + i) i
    have hc' := C_le (n - k + i + 1) (i + 1)
    have hm : C (n - k + i) i * (n - k + i + 1) ≤ 9223372036854775807 := mulle 1125899906842624 50 (by omega) (by omega) (by omega)
    have hq : C (n - k + i + 1) (i + 1) ≤ 9223372036854775807 := by omega
    have hsum : n - k + (i + 1) ≤ 9223372036854775807 := by omega
    have hi2 : i + 1 + 1 ≤ 9223372036854775807 := by omega
    have hd1 : i + 1 + d = k := by omega
    have hd2 : d < f := by omega
    simp only [impl_choose.l0]
    rw [if_pos (by omega), if_neg (by omega), w64_sub n k hk (by omega), show ((i : Int) + 1) = ((i + 1 : Nat) : Int) from by omega, w64_add (n - k) (i + 1) hsum, w64_mul (C (n - k + i) i) (n - k + (i + 1)) hm,
      tdiv_mul (a := C (n - k + i) i * (n - k + (i + 1))) (C_step (n - k + i) i).symm (Nat.succ_pos i), w64_nat _ hq, w64_succ (i + 1) hi2]
    exact ih f (i + 1) hd1 hd2

theorem impl_choose_is (n k : Nat) (hn : n ≤ 50) (hk : k ≤ n) (f : Nat) (hf : 51 < f) : impl_choose.f f n k = some ((C n k : Nat) : Int) := by
  obtain ⟨f, rfl⟩ : ∃ m, f = m + 1 := ⟨f - 1, by omega⟩
  unfold impl_choose.f
  rw [if_neg (by omega)]
  have e : decide ((k : Int) > n) = false := by simp; omega
  rw [e]
  simp only [impl_choose.j0]
  have h := choose_loop n k hn hk k f 0 (by omega) (by omega)
  rw [C_zero] at h
  simpa using h

/-- The program's sum from place j on. -/
theorem sum_loop (n : Nat) (hn : n ≤ 50) (d : Nat) : ∀ (f j : Nat) (s : Nat), j + d = n + 1 → d + 52 < f → s ≤ (n + 1 - d) * 2 ^ n →
    impl_signTail.l0 f n s j = some ((s + T n d : Nat) : Int) := by
  have h2 := pow50 hn
  induction d with
  | zero =>
    intro f j s hj hf _
    obtain ⟨f, rfl⟩ : ∃ m, f = m + 1 := ⟨f - 1, by omega⟩
    simp only [impl_signTail.l0]; rw [if_neg (by omega)]
    simp [T]
  | succ d ih =>
    intro f j s hj hf hs
    obtain ⟨f, rfl⟩ : ∃ m, f = m + 1 := ⟨f - 1, by omega⟩
    have hc := C_le n j
    have hs' : s + C n j ≤ (n + 1 - d) * 2 ^ n := by
      have : n + 1 - d = (n + 1 - (d + 1)) + 1 := by omega
      rw [this, Nat.succ_mul]; omega
    have hb : (n + 1 - d) * 2 ^ n ≤ 9000000000000000000 := mulle 51 1125899906842624 (by omega) h2 (by omega)
    have hsc : s + C n j ≤ 9223372036854775807 := by omega
    have hj1 : j + 1 ≤ 9223372036854775807 := by omega
    have hd1 : j + 1 + d = n + 1 := by omega
    have hd2 : d + 52 < f := by omega
    simp only [impl_signTail.l0]
    rw [if_pos (by omega), impl_choose_is n j hn (by omega) f (by omega)]
    simp only [Option.bind_some]
    rw [w64_add s (C n j) hsc, w64_succ j hj1, ih f (j + 1) (s + C n j) hd1 hd2 hs']
    have m3 : n - d = j := by omega
    rw [T, m3, Nat.add_assoc]

theorem impl_tail (n k : Nat) (hn : n ≤ 50) (hk : k ≤ n) (f : Nat) (hf : 105 ≤ f) : impl_signTail.f f n k = some ((T n (n + 1 - k) : Nat) : Int) := by
  have h := sum_loop n hn (n + 1 - k) f k 0 (by omega) (by omega) (by omega)
  unfold impl_signTail.f
  rw [Nat.zero_add] at h
  exact h

theorem i64_nat (a : Nat) (h : a ≤ 9223372036854775807) : IntKind.i64.wrap (a : Int) = a := IntWalk.i64_in _ ⟨by omega, by omega⟩
theorem mx_nat (a b : Nat) : mx (a : Int) (b : Int) = ((max a b : Nat) : Int) := by unfold mx; split <;> omega

theorem pow_cast {n : Nat} : ((2 : Int) ^ n) = ((2 ^ n : Nat) : Int) := by simp

theorem shl_same (n p : Nat) (hn : n ≤ 50) (hp : p ≤ 50) : shl .i64 (p : Int) (n : Int) = wrap64 ((p : Int) * shl .i64 1 (IntKind.u64.wrap (n : Int))) := by
  have h2 := pow50 hn
  have hpp : p * 2 ^ n ≤ 9223372036854775807 := mulle 50 1125899906842624 hp h2 (by omega)
  have hu : IntKind.u64.wrap (n : Int) = n := by rw [IntKind.wrap_u64]; omega
  rw [hu]
  unfold shl
  have hm : min (n : Int).toNat IntKind.i64.bits = n := by show min (n : Int).toNat 64 = n; omega
  rw [hm, Int.one_mul, pow_cast, ← Int.natCast_mul]
  have e1 : IntKind.i64.wrap ((p * 2 ^ n : Nat) : Int) = ((p * 2 ^ n : Nat) : Int) := i64_nat _ (by omega)
  have e2 : IntKind.i64.wrap ((2 ^ n : Nat) : Int) = ((2 ^ n : Nat) : Int) := i64_nat _ (by omega)
  rw [e1, e2, w64_mul p (2 ^ n) hpp]

/-- Whether k signs of n are significant. -/
def sig (n k p : Nat) : Bool := decide (wrap64 (200 * ((T n (n + 1 - max k (n - k)) : Nat) : Int)) ≤ shl .i64 (p : Int) (n : Int))

theorem impl_sig (n k p : Nat) (hn : n ≤ 50) (hk : k ≤ n) (f : Nat) (hf : 105 ≤ f) : impl_significant.f f n k p = some (sig n k p) := by
  unfold impl_significant.f
  rw [w64_sub n k hk (by omega), mx_nat, impl_tail n (max k (n - k)) hn (by omega) f hf]
  simp only [Option.bind_some]
  rw [if_pos (by omega)]; rfl

theorem spec_sig (n k p : Nat) (hn : n ≤ 50) (hk : k ≤ n) (hp : p ≤ 50) (f : Nat) (hf : 105 ≤ f) : spec_l27Significant.f f n k p = some (sig n k p) := by
  unfold spec_l27Significant.f
  have hu : IntKind.u64.wrap (n : Int) = n := by rw [IntKind.wrap_u64]; omega
  rw [w64_sub n k hk (by omega), mx_nat, spec_tail n (max k (n - k)) hn f (by omega), ← shl_same n p hn hp, hu]
  simp only [Option.bind_some]
  rw [if_pos (by omega)]; rfl

/-- What a source of draws holds: its place and its seed. -/
def Src (at_ seed : Int) : Prop := 0 ≤ at_ ∧ at_ ≤ 9223372036854775806 ∧ 0 ≤ seed ∧ seed < 2147483647

theorem byte_of {l : List Int} (hl : ∀ x ∈ l, 0 ≤ x ∧ x < 256) (i : Int) : 0 ≤ rd l i ∧ rd l i < 256 := by
  unfold rd
  rw [List.getD_eq_getElem?_getD]
  cases h : l[i.toNat]? with
  | none => simp
  | some x => simpa using hl x (List.mem_of_getElem? h)

theorem wf_u8 {x : Int} (h : (Lit.int .u8 x).wf = true) : 0 ≤ x ∧ x < 256 := by
  simp [Lit.wf, IntKind.min, IntKind.max, IntKind.bits, IntKind.signed] at h
  omega

theorem tmod_bd {x m : Int} (hx : 0 ≤ x) (hm : 0 < m) : 0 ≤ Int.tmod x m ∧ Int.tmod x m < m :=
  ⟨Int.tmod_nonneg _ hx, Int.tmod_lt_of_pos _ hm⟩

theorem seed_step {s : Int} (h0 : 0 ≤ s) (h1 : s < 2147483647) : 0 ≤ Int.tmod (wrap64 ((wrap64 (s * 48271)) + 17)) 2147483647 ∧ Int.tmod (wrap64 ((wrap64 (s * 48271)) + 17)) 2147483647 < 2147483647 := by
  rw [w64 (x := s * 48271) (by omega) (by omega), w64 (x := s * 48271 + 17) (by omega) (by omega)]
  exact tmod_bd (by omega) (by omega)

theorem quo_bd {s : Int} (h0 : 0 ≤ s) (h1 : s < 2147483647) : 0 ≤ wrap64 (Int.tdiv s 11) ∧ wrap64 (Int.tdiv s 11) < 2147483647 := by
  have e : Int.tdiv s 11 = s / 11 := Int.tdiv_eq_ediv_of_nonneg h0
  rw [e, w64 (by omega) (by omega)]
  omega

theorem next_ok {l : List Int} (hl : ∀ x ∈ l, 0 ≤ x ∧ x < 256) (hn : l.length ≤ 140737488351232) {p s : Int} (hs : Src p s) (n : Int) :
    ∃ r p' s', spec_l01Next.f l p s n = some (r, p', s') ∧ Src p' s' ∧ (n ≤ 1 → r = 0) ∧ (1 < n → 0 ≤ r ∧ r < n) := by
  obtain ⟨p0, p1, s0, s1⟩ := hs
  unfold spec_l01Next.f
  by_cases h1 : n ≤ 1
  · exact ⟨0, p, s, by rw [if_pos h1], ⟨p0, p1, s0, s1⟩, fun _ => rfl, fun h => by omega⟩
  · obtain ⟨t0, t1⟩ := seed_step s0 s1
    generalize Int.tmod (wrap64 ((wrap64 (s * 48271)) + 17)) 2147483647 = t at *
    obtain ⟨q0, q1⟩ := quo_bd t0 t1
    rw [if_neg h1]
    by_cases h2 : p < (l.length : Int)
    · have b1 := byte_of hl p
      rw [if_pos h2, if_pos p0, w64 (x := p + 1) (by omega) (by omega), w64 (x := p + 1 - 1) (by omega) (by omega), show p + 1 - 1 = p from by omega, if_pos p0, if_pos h2]
      have e1 : wrap64 (rd l p) = rd l p := w64 (by omega) (by omega)
      rw [e1]
      have hsrc : Src (p + 1) t := ⟨by omega, by omega, t0, t1⟩
      by_cases h3 : n ≤ 256
      · by_cases h4 : Int.tmod (p + 1) 2 = 0
        · have := tmod_bd (x := rd l p) (m := n) (by omega) (by omega)
          exact ⟨_, _, _, by rw [if_pos h3, if_pos h4, if_neg (show ¬ n = 0 by omega)], hsrc, fun h => by omega, fun _ => this⟩
        · rw [if_pos h3, if_neg h4]
          generalize wrap64 (Int.tdiv t 11) = q at *
          have := tmod_bd (x := q + rd l p) (m := n) (by omega) (by omega)
          exact ⟨_, _, _, by rw [w64 (x := q + rd l p) (by omega) (by omega), if_neg (show ¬ n = 0 by omega)], hsrc, fun h => by omega, fun _ => this⟩
      · rw [if_neg h3]
        generalize wrap64 (Int.tdiv t 11) = q at *
        have := tmod_bd (x := q + rd l p) (m := n) (by omega) (by omega)
        exact ⟨_, _, _, by rw [w64 (x := q + rd l p) (by omega) (by omega), if_neg (show ¬ n = 0 by omega)], hsrc, fun h => by omega, fun _ => this⟩
    · rw [if_neg h2, if_neg (show ¬ n = 0 by omega)]
      have e : wrap64 (Int.tdiv t 11) = Int.tdiv t 11 := by
        have e0 : Int.tdiv t 11 = t / 11 := Int.tdiv_eq_ediv_of_nonneg t0
        rw [e0, w64 (by omega) (by omega)]
      generalize hq : wrap64 (Int.tdiv t 11) = q at *
      have := tmod_bd (x := q) (m := n) (by omega) (by omega)
      exact ⟨_, _, _, rfl, ⟨p0, p1, t0, t1⟩, fun h => by omega, fun _ => this⟩

theorem from_loop {l : List Int} (hl : ∀ x ∈ l, 0 ≤ x ∧ x < 256) (d : Nat) : ∀ (f i : Nat) (s : Int), i + d = 64 → d < f → 0 ≤ s → s < 2147483647 →
    ∃ s', spec_l01From.l0 f l i l 0 s = some (l, 0, s') ∧ 0 ≤ s' ∧ s' < 2147483647 := by
  induction d with
  | zero =>
    intro f i s hi hf h0 h1
    obtain ⟨f, rfl⟩ : ∃ m, f = m + 1 := ⟨f - 1, by omega⟩
    refine ⟨s, ?_, h0, h1⟩
    simp only [spec_l01From.l0]
    rw [if_neg (show ¬ (i : Int) < 64 by omega)]
    by_cases h : (i : Int) < l.length
    · rw [if_pos h]
    · rw [if_neg h]
  | succ d ih =>
    intro f i s hi hf h0 h1
    obtain ⟨f, rfl⟩ : ∃ m, f = m + 1 := ⟨f - 1, by omega⟩
    simp only [spec_l01From.l0]
    by_cases h : (i : Int) < l.length
    · have b1 := byte_of hl i
      rw [if_pos h, if_pos (by omega), if_pos (by omega), w64_succ i (by omega), w64 (x := s * 43) (by omega) (by omega), w64 (x := rd l i) (by omega) (by omega), w64 (x := s * 43 + rd l i) (by omega) (by omega)]
      have := tmod_bd (x := s * 43 + rd l i) (m := 2147483647) (by omega) (by omega)
      exact ih f (i + 1) _ (by omega) (by omega) this.1 this.2
    · rw [if_neg h]; exact ⟨s, rfl, h0, h1⟩

theorem from_ok {l : List Int} (hl : ∀ x ∈ l, 0 ≤ x ∧ x < 256) (f : Nat) (hf : 64 < f) : ∃ s, spec_l01From.f f l = some (l, 0, s) ∧ Src 0 s := by
  obtain ⟨s, h, h0, h1⟩ := from_loop hl 64 f 0 24157 (by omega) hf (by omega) (by omega)
  exact ⟨s, h, by omega, by omega, h0, h1⟩

theorem percent_ok {l : List Int} (hl : ∀ x ∈ l, 0 ≤ x ∧ x < 256) (hn : l.length ≤ 140737488351232) {p s : Int} (hs : Src p s) : ∃ r p' s', spec_l27DrawPercent.f l p s = some (r, p', s') ∧ Src p' s' := by
  unfold spec_l27DrawPercent.f
  simp only [Option.bind_some, List.length_cons, List.length_nil]
  obtain ⟨r5, p5, s5, e5, hs5, _, b5⟩ := next_ok hl hn hs 10
  rw [e5]; simp only [Option.bind_some]
  have c5 := b5 (by omega)
  rw [if_pos c5.1, if_pos (by omega)]
  exact ⟨_, _, _, rfl, hs5⟩


/-- The sum of the first k numbers of a row. -/
def S (n : Nat) : Nat → Nat
  | 0 => 0
  | k + 1 => S n k + C n k

theorem S_step (n : Nat) : ∀ k, S (n + 1) (k + 1) = S n (k + 1) + S n k
  | 0 => by simp [S, C_zero]
  | k + 1 => by
    have h := S_step n k
    have e : C (n + 1) (k + 1) = C n k + C n (k + 1) := rfl
    simp only [S] at h ⊢
    omega

theorem S_all : ∀ n, S n (n + 1) = 2 ^ n
  | 0 => rfl
  | n + 1 => by
    have h := S_all n
    have e := S_step n (n + 1)
    have z : S n (n + 2) = S n (n + 1) + C n (n + 1) := rfl
    rw [C_big n (n + 1) (by omega)] at z
    have p : 2 ^ (n + 1) = 2 ^ n * 2 := Nat.pow_succ ..
    have g : S (n + 1) (n + 1 + 1) = S n (n + 2) + S n (n + 1) := e
    omega

theorem C_symm : ∀ n k, k ≤ n → C n (n - k) = C n k
  | 0, 0, _ => rfl
  | n + 1, 0, _ => by rw [Nat.sub_zero, C_self, C_zero]
  | n + 1, k + 1, h => by
    rw [Nat.succ_sub_succ]
    rcases Nat.lt_or_ge k n with hk | hk
    · obtain ⟨m, hm⟩ : ∃ m, n - k = m + 1 := ⟨n - k - 1, by omega⟩
      have h1 := C_symm n k (by omega)
      have h2 := C_symm n (k + 1) hk
      rw [hm] at h1
      rw [show n - (k + 1) = m by omega] at h2
      have e1 : C (n + 1) (m + 1) = C n m + C n (m + 1) := rfl
      have e2 : C (n + 1) (k + 1) = C n k + C n (k + 1) := rfl
      rw [hm]; omega
    · obtain rfl : k = n := by omega
      rw [Nat.sub_self, C_zero, C_self]

theorem T_S (n : Nat) : ∀ d, d ≤ n + 1 → T n d = S n d
  | 0, _ => rfl
  | d + 1, h => by
    have e1 : T n (d + 1) = C n (n - d) + T n d := rfl
    have e2 : S n (d + 1) = S n d + C n d := rfl
    rw [e1, e2, T_S n d (by omega), C_symm n d (by omega), Nat.add_comm]

theorem S_T (n : Nat) : ∀ d, d ≤ n + 1 → S n (n + 1 - d) + T n d = 2 ^ n
  | 0, _ => by have := S_all n; simpa [T] using this
  | d + 1, h => by
    have ih := S_T n d (by omega)
    have e1 : T n (d + 1) = C n (n - d) + T n d := rfl
    have e2 : S n (n - d + 1) = S n (n - d) + C n (n - d) := rfl
    rw [show n + 1 - d = n - d + 1 by omega] at ih
    rw [show n + 1 - (d + 1) = n - d by omega]
    omega

theorem tails (n k : Nat) (hk : k ≤ n) : T n (n + 1 - k) + T n k = 2 ^ n := by
  have h := S_T n (n + 1 - k) (by omega)
  rw [show n + 1 - (n + 1 - k) = k by omega] at h
  rw [T_S n k (by omega)]
  omega

theorem shl_one (n : Nat) (hn : n ≤ 50) : shl .i64 1 (IntKind.u64.wrap (n : Int)) = ((2 ^ n : Nat) : Int) := by
  have h2 := pow50 hn
  have hu : IntKind.u64.wrap (n : Int) = n := by rw [IntKind.wrap_u64]; omega
  rw [hu]
  unfold shl
  have hm : min (n : Int).toNat IntKind.i64.bits = n := by show min (n : Int).toNat 64 = n; omega
  rw [hm, Int.one_mul, pow_cast]
  exact i64_nat _ (by omega)

theorem u64_nn (n : Nat) : 0 ≤ IntKind.u64.wrap (n : Int) := by rw [IntKind.wrap_u64]; omega

theorem sig_turn (n k p : Nat) (hk : k ≤ n) : sig n (n - k) p = sig n k p := by
  unfold sig
  rw [show n - (n - k) = k by omega, Nat.max_comm]

theorem draw_signs {c : List Int} (hc : ∀ x ∈ c, 0 ≤ x ∧ x < 256) (hn : c.length ≤ 4096) (f : Nat) (hf : 100 < f) : ∃ r, spec_DrawIsSignificant.f f c = some r := by
  unfold spec_DrawIsSignificant.f spec_DrawSignTail.f
  obtain ⟨s, h, hs⟩ := from_ok hc f (by omega)
  rw [h]
  simp only [Option.bind_some]
  obtain ⟨r1, p1, s1, e1, hs1, _, _⟩ := next_ok hc (by omega) hs 52
  rw [e1]; simp only [Option.bind_some]
  obtain ⟨r2, p2, s2, e2, hs2, _, _⟩ := next_ok hc (by omega) hs1 (wrap64 (r1 + 2))
  rw [e2]; simp only [Option.bind_some]
  obtain ⟨r3, p3, s3, e3, _, _, _⟩ := next_ok hc (by omega) hs2 24
  rw [e3]; simp only [Option.bind_some]
  rw [if_pos (by omega)]
  have hc' : ∀ x ∈ ([4] ++ c : List Int), 0 ≤ x ∧ x < 256 := by
    intro x hx
    rcases List.mem_append.1 hx with hx | hx
    · rw [List.mem_singleton.1 hx]; omega
    · exact hc x hx
  obtain ⟨s', h', hs'⟩ := from_ok hc' f (by omega)
  rw [h']
  simp only [Option.bind_some]
  obtain ⟨r, p', s'', e, _⟩ := percent_ok hc' (by simp only [List.length_append, List.length_cons, List.length_nil]; omega) hs'
  rw [e]
  exact ⟨_, rfl⟩

theorem FnSigns : laws_FnSigns.Pure := by
  intro c h0 _ hw
  have hc : ∀ x ∈ c, 0 ≤ x ∧ x < 256 := fun x hx => wf_u8 (hw x hx)
  obtain ⟨K, hK⟩ : ∃ K : Nat, K = 400 := ⟨_, rfl⟩
  refine ⟨K + 1, ?_⟩
  unfold laws_FnSigns.f laws_big.f
  simp only [Option.bind_some, decide_eq_true_eq]
  by_cases hb : (c.length : Int) > 4096
  · rw [if_pos hb]
  rw [if_neg hb]
  obtain ⟨⟨a0, a1, a2⟩, e⟩ := draw_signs hc (by omega) (K + 1) (by omega)
  rw [e]
  simp only [Option.bind_some]
  have within_is (a b c : Int) : impl_within.f a b c = some (decide (b ≤ a ∧ a ≤ c)) := by
    unfold impl_within.f
    by_cases h : a ≥ b <;> simp [h]
  have key : (∃ x, x ≠ 0 ∧ spec_IsSignificant.f (K + 1) a0 a1 a2 = some (false, x) ∧ impl_IsSignificant.f (K + 1) a0 a1 a2 = some (false, x)) ∨
      ∃ n k p : Nat, a0 = n ∧ a1 = k ∧ a2 = p ∧ n ≤ 50 ∧ k ≤ n ∧ 1 ≤ p ∧ p ≤ 50 ∧ spec_IsSignificant.f (K + 1) a0 a1 a2 = some (sig n k p, 0) ∧ impl_IsSignificant.f (K + 1) a0 a1 a2 = some (sig n k p, 0) := by
    unfold spec_IsSignificant.f impl_IsSignificant.f spec_l27Percent.f spec_l01In.f impl_within.f
    by_cases h0 : a0 ≥ 0 <;> by_cases h1 : a0 ≤ 50 <;> by_cases h2 : a1 ≥ 0 <;> by_cases h3 : a1 ≤ a0 <;> by_cases h4 : a2 ≥ 1 <;> by_cases h5 : a2 ≤ 50 <;> first
      | (right
         obtain ⟨n, rfl⟩ := Int.eq_ofNat_of_zero_le h0
         obtain ⟨k, rfl⟩ := Int.eq_ofNat_of_zero_le h2
         obtain ⟨p, rfl⟩ := Int.eq_ofNat_of_zero_le (Int.le_trans (by decide) h4)
         have e1 := spec_sig n k p (by omega) (by omega) (by omega) (K + 1) (by omega)
         have e2 := impl_sig n k p (by omega) (by omega) (K + 1) (by omega)
         exact ⟨n, k, p, rfl, rfl, rfl, by omega, by omega, by omega, by omega, by simp [h0, h1, h2, h3, h4, h5, e1], by simp [h0, h1, h2, h3, h4, h5, e2]⟩)
      | (left; exact ⟨2, by decide, by simp [h0, h1, h2, h3, h4, h5], by simp [h0, h1, h2, h3, h4, h5]⟩)
  rcases key with ⟨x, hx, e1, e2⟩ | ⟨n, k, p, rfl, rfl, rfl, hn, hk, hp1, hp2, e1, e2⟩
  · rw [e1, e2]
    simp only [Option.bind_some, if_true, laws_FnSigns.j0]
    rw [if_neg (by simp), if_neg hx]
  · rw [e1, e2]
    simp only [Option.bind_some, if_true, laws_FnSigns.j0]
    have ei := impl_sig n (n - k) p hn (by omega) K (by omega)
    have i1 : impl_IsSignificant.f K n ((n - k : Nat) : Int) p = some (sig n k p, 0) := by
      unfold impl_IsSignificant.f
      rw [within_is, within_is, within_is, ei, sig_turn n k p hk]
      simp only [Option.bind_some, decide_eq_true_eq]
      rw [if_pos (by omega), if_pos (by omega), if_pos (by omega)]
    have tl : ∀ j : Nat, j ≤ n → impl_SignTail.f K n j = some (((T n (n + 1 - j) : Nat) : Int), 0) := by
      intro j hj
      unfold impl_SignTail.f
      rw [within_is, within_is, impl_tail n j hn hj K (by omega)]
      simp only [Option.bind_some, decide_eq_true_eq]
      rw [if_pos (by omega), if_pos (by omega)]
    have tt := tails n k hk
    have p2 := pow50 hn
    rw [if_neg (by simp), w64_sub n k hk (by omega), i1, tl k hk]
    clear e1 e2 ei i1
    simp only [Option.bind_some]
    by_cases hk0 : (k : Int) > 0
    · rw [if_pos hk0, w64_succ (n - k) (by omega), tl (n - k + 1) (by omega)]
      clear tl
      simp only [Option.bind_some]
      rw [if_pos (by simp), if_pos (u64_nn n), shl_one n hn, show n + 1 - (n - k + 1) = k by omega, w64_add _ _ (by omega), tt]
      simp
    · obtain rfl : k = 0 := by omega
      clear tl
      have z : T n 0 = 0 := rfl
      have g : T n (n + 1 - 0) = 2 ^ n := by omega
      rw [if_neg (by omega), if_pos (by simp), if_pos (u64_nn n), shl_one n hn, g, Int.add_zero, w64_nat _ (by omega)]
      simp

end Go.Proofs.Ytnidklakgdmkeaa.Pure
