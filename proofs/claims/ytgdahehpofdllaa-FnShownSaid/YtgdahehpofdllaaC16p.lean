/- Plain laws: which parts of a phase a window shows. No program in sight. -/
import Derived.Test.YtgdahehpofdllaaC1
import Derived.Laws.Bits64b
namespace Go.Proofs.Ytgdahehpofdllaa
open Go.RowKit
set_option linter.unusedVariables false
def ceilI (a b : Int) : Int := -((-a) / b)
theorem ceilI_le {a b c : Int} (hb : 0 < b) : ceilI a b ≤ c ↔ a ≤ c * b := by
  unfold ceilI
  constructor
  · intro h
    have h1 : -c ≤ (-a) / b := by omega
    rw [Int.le_ediv_iff_mul_le hb, Int.neg_mul] at h1
    omega
  · intro h
    have h1 : -c * b ≤ -a := by rw [Int.neg_mul]; omega
    have h2 := (Int.le_ediv_iff_mul_le (a := -c) (b := -a) hb).2 h1
    omega
theorem ceilI_gt {a b c : Int} (hb : 0 < b) : c ≤ ceilI a b - 1 ↔ c * b < a := by
  have := ceilI_le (a := a) (c := c) hb
  omega
/-- How long the part k is awaited from a phase on. -/
def waitI (b n ph k : Int) : Int := if inB ph (ceilI (k * b) n) (ceilI ((k + 1) * b) n - 1) = true then 0 else (ceilI (k * b) n - ph) % b
def shB (a b f t n : Int) (k : Nat) : Bool := decide (f + waitI b n ((f - a) % b) k ≤ t)
/-- The part in which a phase lies. -/
def partI (b n ph : Int) : Int := n * ph / b
theorem part_bd {b n ph : Int} (hb : 0 < b) (hn : 0 < n) (h0 : 0 ≤ ph) (h1 : ph < b) : 0 ≤ partI b n ph ∧ partI b n ph < n := by
  unfold partI
  constructor
  · exact Int.ediv_nonneg (Int.mul_nonneg (by omega) h0) (by omega)
  · rw [Int.ediv_lt_iff_lt_mul hb]
    exact Int.mul_lt_mul_of_pos_left h1 hn
theorem part_in {b n ph : Int} (hb : 0 < b) (hn : 0 < n) : ceilI (partI b n ph * b) n ≤ ph ∧ ph ≤ ceilI ((partI b n ph + 1) * b) n - 1 := by
  have e := Int.mul_ediv_add_emod (n * ph) b
  have m := emod_bd (n * ph) b hb
  unfold partI
  generalize n * ph / b = j at *
  generalize (n * ph) % b = r at *
  rw [ceilI_le hn, ceilI_gt hn]
  have e1 : j * b = b * j := Int.mul_comm _ _
  have e2 : ph * n = n * ph := Int.mul_comm _ _
  have e3 : (j + 1) * b = b * j + b := by rw [Int.add_mul, Int.one_mul, e1]
  omega
theorem emod_sub_one {x b : Int} (h1 : b ≤ x) (h2 : x < 2 * b) : x % b = x - b := by
  have := Int.emod_eq_of_lt (a := x - b) (b := b) (by omega) (by omega)
  rw [← this, Int.sub_emod_right]
theorem shown_in {a b f t n T : Int} (hb : 0 < b) (hn : 0 < n) (h1 : f ≤ T) (h2 : T ≤ t) : ∃ i : Nat, (i : Int) < n ∧ partI b n ((T - a) % b) = i ∧ shB a b f t n i = true := by
  have m1 := emod_bd (T - a) b hb
  obtain ⟨j0, j1⟩ := part_bd hb hn m1.1 m1.2
  obtain ⟨k0, k1⟩ := part_in (ph := (T - a) % b) hb hn
  refine ⟨(partI b n ((T - a) % b)).toNat, by omega, by omega, ?_⟩
  have hj : (((partI b n ((T - a) % b)).toNat : Nat) : Int) = partI b n ((T - a) % b) := by omega
  unfold shB
  rw [hj]
  generalize hJ : partI b n ((T - a) % b) = j at *
  unfold waitI
  have m2 := emod_bd (f - a) b hb
  have c00 : 0 ≤ ceilI (j * b) n := by
    rcases Int.lt_or_le (ceilI (j * b) n) 0 with h | h
    · have h1 := (ceilI_le (a := j * b) (c := -1) hn).1 (by omega)
      have h3 := Int.mul_nonneg j0 (Int.le_of_lt hb)
      omega
    · exact h
  rw [decide_eq_true_eq]
  split
  · omega
  · rename_i hin
    have hin' : ¬ (ceilI (j * b) n ≤ (f - a) % b ∧ (f - a) % b ≤ ceilI ((j + 1) * b) n - 1) := fun h => hin (inB_true.2 h)
    generalize ceilI (j * b) n = c0 at *
    generalize ceilI ((j + 1) * b) n = c1 at *
    have eT : T - a = (f - a) + (T - f) := by omega
    have m3 := emod_bd (c0 - (f - a) % b) b hb
    have key : (c0 - (f - a) % b) % b ≤ T - f := by
      rcases Int.lt_or_le (T - f) b with hd | hd
      · have e1 : (T - a) % b = ((f - a) % b + (T - f)) % b := by rw [eT, Int.emod_add_emod]
        generalize (f - a) % b = p at *
        generalize T - f = d at *
        rcases Int.lt_or_le (p + d) b with hs | hs
        · rw [Int.emod_eq_of_lt (by omega) hs] at e1
          have : p < c0 := by omega
          rw [Int.emod_eq_of_lt (by omega) (by omega)]
          omega
        · rw [emod_sub_one hs (by omega)] at e1
          have : c0 < p := by omega
          have e2 : (c0 - p) % b = c0 - p + b := by
            rw [← Int.add_emod_right, Int.emod_eq_of_lt (by omega) (by omega)]
          omega
      · omega
    omega
/-! ### A set of small numbers as bits -/
def bitS (f : Nat → Bool) : Nat → Nat
  | 0 => 0
  | k + 1 => if f k = true then bitS f k ||| 2 ^ k else bitS f k
theorem bitS_lt (f : Nat → Bool) : ∀ k, bitS f k < 2 ^ k
  | 0 => by simp [bitS]
  | k + 1 => by
    have ih := bitS_lt f k
    simp only [bitS]
    have h2 : 2 ^ k < 2 ^ (k + 1) := Nat.pow_lt_pow_right (by omega) (by omega)
    split
    · exact Nat.or_lt_two_pow (by omega) h2
    · omega
theorem bitS_at (f : Nat → Bool) : ∀ (k i : Nat), (bitS f k).testBit i = (decide (i < k) && f i)
  | 0, i => by simp [bitS]
  | k + 1, i => by
    have ih := bitS_at f k i
    simp only [bitS]
    by_cases hf : f k = true
    · rw [if_pos hf, Nat.testBit_or, ih, Nat.testBit_two_pow]
      by_cases hik : i = k
      · subst hik; simp [hf]
      · have h1 : decide (k = i) = false := by simp; omega
        rw [h1]
        by_cases hlt : i < k
        · have : i < k + 1 := by omega
          simp [hlt, this]
        · have : ¬ i < k + 1 := by omega
          simp [hlt, this]
    · rw [if_neg hf, ih]
      by_cases hik : i = k
      · subst hik; simp at hf; simp [hf]
      · by_cases hlt : i < k
        · have : i < k + 1 := by omega
          simp [hlt, this]
        · have : ¬ i < k + 1 := by omega
          simp [hlt, this]
theorem idxW_mem {f : Nat → Bool} {n : Nat} {m : Int} : m ∈ idxW f n ↔ ∃ i : Nat, i < n ∧ f i = true ∧ m = i := by
  unfold idxW
  rw [List.mem_map]
  constructor
  · rintro ⟨i, hi, rfl⟩
    rw [List.mem_filter, List.mem_range] at hi
    exact ⟨i, hi.1, hi.2, rfl⟩
  · rintro ⟨i, h1, h2, rfl⟩
    exact ⟨i, by rw [List.mem_filter, List.mem_range]; exact ⟨h1, h2⟩, rfl⟩
theorem idxW_both (f : Nat → Bool) : ∀ n, (idxW f n).length + (idxW (fun i => !f i) n).length = n
  | 0 => by simp [idxW]
  | n + 1 => by
    have ih := idxW_both f n
    cases h : f n
    · rw [idxW_no h, idxW_yes (f := fun i => !f i) (by simp [h])]
      simp only [List.length_append, List.length_singleton]
      omega
    · rw [idxW_yes h, idxW_no (f := fun i => !f i) (by simp [h])]
      simp only [List.length_append, List.length_singleton]
      omega
theorem idxW_rises (f : Nat → Bool) (n : Nat) : (idxW f n).Pairwise (fun a b => a < b) := by
  unfold idxW
  rw [List.pairwise_map]
  have h : (List.range n).Pairwise (fun a b => a < b) := List.pairwise_lt_range
  exact (h.filter f).imp (fun h => by omega)
end Go.Proofs.Ytgdahehpofdllaa
