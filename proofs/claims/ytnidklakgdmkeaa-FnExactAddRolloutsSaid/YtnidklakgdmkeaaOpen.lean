/- How a law's arguments are opened, whatever their shape: a reading of a value gives the cells' own words (Kd), the bounds of its numbers and the weight of its rows. No condition. -/
import Derived.Test.YtnidklakgdmkeaaProg
import Derived.Test.YtnidklakgdmkeaaWMore
import Derived.Test.YtnidklakgdmkeaaWSized
import Derived.ProofKit
import Derived.Deep.Slices
import Derived.SizedLaws
namespace Go.Proofs.Ytnidklakgdmkeaa.Open
open Go.ChangeShapes Go.WideShapes Go.RowKit Go.Deep Go.Proofs.YtnidklakgdmkeaaW.PrintWords

section
variable {H : Type} {enc : TypeId × Value → H} {P : Program} {W : World}

/-- What is read at type t is a value of this kind, and it is good. -/
def Opens {α : Type} (enc : TypeId × Value → H) (P : Program) (W : World) (t : TypeId) (d : Kd α) (good : α → Prop) : Prop :=
  ∀ fuel cs x, DataW.trod enc P W 0 (fun _ => true) true fuel t cs = some x → (∀ n ∈ x.1.weights P t, n ≤ reachBytes) → ∃ a, d.K W a cs ∧ good a

theorem opens_imp {α : Type} {t : TypeId} {d : Kd α} {g g' : α → Prop} (h : Opens enc P W t d g) (i : ∀ a, g a → g' a) : Opens enc P W t d g' := fun fuel cs x hx hw => by
  obtain ⟨a, hk, hg⟩ := h fuel cs x hx hw
  exact ⟨a, hk, i a hg⟩

theorem opens_int {t : TypeId} {k : IntKind} (ht : P.underlying t = some (.int k)) : Opens enc P W t (Kd.int k) (fun n => (Lit.int k n).wf = true) := fun fuel cs x h _ => by
  obtain ⟨n, rfl, _, hw⟩ := DataW.trod_int ht h
  exact ⟨n, rfl, hw⟩

theorem opens_bool {t : TypeId} (ht : P.underlying t = some .bool) : Opens enc P W t Kd.bool (fun _ => True) := fun fuel cs x h _ => by
  obtain ⟨b, rfl, _⟩ := DataW.trod_bool ht h
  exact ⟨b, rfl, trivial⟩

theorem opens_string {t : TypeId} (ht : P.underlying t = some .string) : Opens enc P W t Kd.string (fun s => s.size ≤ 140737488351232) := fun fuel cs x h hw => by
  obtain ⟨s, rfl, rfl, _⟩ := DataW.trod_string ht h
  refine ⟨s, rfl, ?_⟩
  have h1 := hw s.data.toList.length (by simp [DataW.weights])
  simpa [reachBytes] using h1

theorem mem_all {e : TypeId} {ds : List (DataW H)} {d : DataW H} (hd : d ∈ ds) {n : Nat} (hn : n ∈ d.weights P e) : n ∈ DataW.weightsAll P e ds := by
  induction ds with
  | nil => cases hd
  | cons a l ih =>
    simp only [DataW.weightsAll, List.mem_append]
    rcases List.mem_cons.1 hd with rfl | h
    · exact .inl hn
    · exact .inr (ih h)

theorem opens_slice {α : Type} [Inhabited α] {t e e' : TypeId} {d : Kd α} {good : α → Prop} (ht : P.underlying t = some (.slice e)) (hc : P.cellsOf e = d.sz) (he : Opens enc P W e d good) :
    Opens enc P W t (Kd.slice e' d) (fun l => l.length * P.bytesOf e ≤ 140737488351232 ∧ l.length ≤ maxLen ∧ ∀ x ∈ l, good x) := fun fuel cs x h hw => by
  rcases open_slice ht h with ⟨rfl, rfl⟩ | ⟨a, len, cap, m, n, D, Pl, rfl, hb, hl, hm, hmm, rfl, hx⟩
  · exact ⟨[], ⟨none, 0, rfl, Nat.le_refl _, Kd.C_nil d W⟩, by simp, by simp, by simp⟩
  · simp only [if_true] at hmm
    subst hmm
    have hwt : ∀ i, i < len → ∀ q ∈ (D i).weights P e, q ≤ reachBytes := fun i hi q hq => hw q (by
      simp only [DataW.weights, ht, List.mem_cons, List.mem_append]
      exact .inr (.inl (mem_all (List.mem_map.2 ⟨i, List.mem_range.2 hi, rfl⟩) hq)))
    obtain ⟨B, hB⟩ := Go.Deep.choose_lt (α := α) (n := len) (p := fun i b => (∃ c, c.length = d.sz ∧ d.K W b c ∧ ∀ j u, c[j]? = some u → W.cell? (a.add (i * d.sz + j)) = some u) ∧ good b) (fun i hi => by
      obtain ⟨cs', h1, h2⟩ := hx i (by omega)
      obtain ⟨b, hk, hg⟩ := he _ _ _ h2 (hwt i hi)
      obtain ⟨_, hcl, hat⟩ := World.cells?_some h1
      refine ⟨b, ⟨cs', hcl.trans hc, hk, fun j u hu => ?_⟩, hg⟩
      have hj : j < cs'.length := (List.getElem?_eq_some_iff.1 hu).1
      have := hat j (by omega)
      rw [Go.Deep.add_add, hc, hu] at this
      exact this)
    have hlen : ((List.range len).map B).length = len := by simp
    refine ⟨(List.range len).map B, ⟨some a, m, by rw [hlen], by omega, ?_⟩, ?_, by rw [hlen]; omega, ?_⟩
    · rw [hlen]
      refine ⟨hlen, by unfold maxLen at hm; omega, fun _ => ⟨a, rfl, fun j p hp => ?_⟩⟩
      have hj : j < len := by have := (List.getElem?_eq_some_iff.1 hp).1; omega
      have hp' : B j = p := by simpa [List.getElem?_map, List.getElem?_range hj] using hp
      subst hp'
      exact (hB j hj).1
    · rw [hlen]
      have h1 := hw ((((List.range len).map D).length + ((List.range (m - len)).map fun j => D (len + j)).length) * P.bytesOf e) (by simp [DataW.weights, ht])
      have h2 : len * P.bytesOf e ≤ (((List.range len).map D).length + ((List.range (m - len)).map fun j => D (len + j)).length) * P.bytesOf e := Nat.mul_le_mul_right _ (by simp)
      exact Nat.le_trans h2 (by simpa [reachBytes] using h1)
    · intro x hx'
      obtain ⟨i, hi, rfl⟩ := List.mem_map.1 hx'
      exact (hB i (List.mem_range.1 hi)).2

/-- The same for the last fields of a struct. -/
def OpensL {α : Type} (enc : TypeId × Value → H) (P : Program) (W : World) (fs : List Field) (off sz : Nat) (d : Kd α) (good : α → Prop) : Prop :=
  ∀ n (cs : List Value) (xs : List (DataW H × List MemPlace)), xs.length = fs.length → (∀ (i : Nat) (f : Field), fs[i]? = some f → DataW.trod enc P W 0 (fun _ => true) true n f.type ((cs.drop f.offset).take (P.cellsOf f.type)) = xs[i]?) →
    (∀ m ∈ DataW.weightsEach P (fs.map (·.type)) (xs.map (·.1)), m ≤ reachBytes) → ∃ a, d.K W a ((cs.drop off).take sz) ∧ good a

theorem opensL_one {α : Type} {f : Field} {off sz : Nat} {d : Kd α} {good : α → Prop} (h : Opens enc P W f.type d good) (ho : f.offset = off) (hc : P.cellsOf f.type = sz) : OpensL enc P W [f] off sz d good := fun n cs xs hl hx hw => by
  match xs, hl with
  | [x], _ =>
    have h1 := hx 0 f rfl
    rw [ho, hc] at h1
    exact h _ _ _ h1 (fun m hm => hw m (by simpa [DataW.weightsEach] using hm))

theorem opensL_cons {α β : Type} {f : Field} {fs : List Field} {off sz0 sz1 sz : Nat} {d0 : Kd α} {d1 : Kd β} {g0 : α → Prop} {g1 : β → Prop} (h : Opens enc P W f.type d0 g0) (hl : OpensL enc P W fs (off + sz0) sz1 d1 g1) (ho : f.offset = off) (hc : P.cellsOf f.type = sz0) (hsz : sz = sz0 + sz1) :
    OpensL enc P W (f :: fs) off sz (Kd.pair d0 d1) (fun x => g0 x.1 ∧ g1 x.2) := fun n cs xs hlen hx hw => by
  match xs, hlen with
  | x :: xs, hlen =>
    have h1 := hx 0 f rfl
    rw [ho, hc] at h1
    obtain ⟨a, ha, hga⟩ := h _ _ _ h1 (fun m hm => hw m (by simp only [List.map_cons, DataW.weightsEach, List.mem_append]; exact .inl hm))
    obtain ⟨b, hb, hgb⟩ := hl n cs xs (by simpa using hlen) (fun i f' hf => hx (i + 1) f' hf) (fun m hm => hw m (by simp only [List.map_cons, DataW.weightsEach, List.mem_append]; exact .inr hm))
    refine ⟨(a, b), ⟨_, _, ?_, ha, hb⟩, hga, hgb⟩
    rw [hsz, List.take_add, List.drop_drop]

theorem opens_struct {α : Type} {t : TypeId} {fs : Array Field} {sz : Nat} {d : Kd α} {good : α → Prop} (ht : P.underlying t = some (.struct fs)) (hl : OpensL enc P W fs.toList 0 sz d good) (hc : P.cellsOf t = sz) : Opens enc P W t d good := fun fuel cs x h hw => by
  obtain ⟨xs, n, _, rfl, hlen, hxs, hg⟩ := DataW.trod_struct ht h
  obtain ⟨a, ha, hga⟩ := hl n cs xs (by simpa using hxs) (fun i f hf => hg i f (by simpa using hf)) (fun m hm => hw m (by simpa [DataW.weights, ht] using hm))
  refine ⟨a, ?_, hga⟩
  rw [List.drop_zero, List.take_of_length_le (by omega)] at ha
  exact ha

/-- A Lean structure in the place of its fields. -/
theorem opens_iso {α β : Type} {t : TypeId} {d : Kd α} {good : α → Prop} (f : β → α) (g : α → β) (hfg : ∀ a, f (g a) = a) (h : Opens enc P W t d good) : Opens enc P W t (Kd.iso d f) (fun b => good (f b)) := fun fuel cs x hx hw => by
  obtain ⟨a, hk, hg⟩ := h fuel cs x hx hw
  exact ⟨g a, by show d.K W (f (g a)) cs; rw [hfg]; exact hk, by show good (f (g a)); rw [hfg]; exact hg⟩

/-- A whole parameter. -/
theorem param {α : Type} {ts : List TypeId} {ds : List (DataW H)} {j : Nat} {t : TypeId} {v : Value} {dd : DataW H} {ps : List MemPlace} {d : Kd α} {good : α → Prop} (ho : Opens enc P W t d good)
    (hsz : (DataW.weightsEach P ts ds).all (· ≤ reachBytes) = true) (ht : ts[j]? = some t) (hd : ds[j]? = some dd) (h : DataW.Trod enc P W 0 (fun _ => true) true t v dd ps) :
    (∃ a, d.K W a v.cells.toList ∧ good a) ∧ ∀ x ∈ ps, x.block < W.heap.size := by
  obtain ⟨fuel, hf⟩ := h
  refine ⟨ho fuel _ _ hf (fun n hn => ?_), DataW.trod_lt fuel _ _ _ hf⟩
  have := List.all_eq_true.1 hsz _ (DataW.weights_mem_each ht hd n hn)
  simpa using this

/-- A struct's value is its cells. -/
theorem agg_of {t : TypeId} {fs : Array Field} {r : Reach} {b0 : Nat} {v : Value} (ht : P.underlying t = some (.struct fs)) (hv : Value.okWide P W r b0 t v) : v = .agg v.cells.toList.toArray := by
  obtain ⟨cs, rfl, _⟩ := okWide_struct ht hv
  rfl
end
end Go.Proofs.Ytnidklakgdmkeaa.Open
