/- Contracts: drawn light curves; the magnitude at a time, the longest gap; in the program. -/
import Derived.Test.YtlpgnmkhlbddaaaC00
import Derived.Test.YtlpgnmkhlbddaaaC8a
namespace Go.Proofs.Ytlpgnmkhlbddaaa
open Go.RowKit
set_option linter.unusedVariables false
def CvOk (ys : List Pt) : Prop := ys.Pairwise (fun p q => p.t < q.t) ∧ ∀ p ∈ ys, 0 ≤ p.t ∧ p.t ≤ 60000 ∧ 8000 ≤ p.m ∧ p.m ≤ 9980 ∧ p.t % 100 = 0
theorem CvOk.snoc {ys : List Pt} {p : Pt} (h : CvOk ys) (hl : ∀ q ∈ ys, q.t < p.t) (hp : 0 ≤ p.t ∧ p.t ≤ 60000 ∧ 8000 ≤ p.m ∧ p.m ≤ 9980 ∧ p.t % 100 = 0) : CvOk (ys ++ [p]) := by
  refine ⟨?_, fun q hq => ?_⟩
  · rw [List.pairwise_append]
    exact ⟨h.1, by simp, fun a ha b hb => by simp at hb; subst hb; exact hl a ha⟩
  · rcases List.mem_append.1 hq with hq | hq
    · exact h.2 q hq
    · simp at hq; subst hq; exact hp
theorem ptGo_of : ∀ (xs : List Pt) (prev : Option Pt), xs.Pairwise (fun p q => p.t < q.t) → (∀ p ∈ xs, 0 ≤ p.t ∧ p.t ≤ 60000 ∧ 8000 ≤ p.m ∧ p.m ≤ 9980) → (∀ q, prev = some q → ∀ p ∈ xs, q.t < p.t) → ptGo prev xs = true
  | [], _, _, _, _ => rfl
  | p :: r, prev, h1, h2, h3 => by
    have hp := h2 p (List.mem_cons_self)
    rw [List.pairwise_cons] at h1
    have ih := ptGo_of r (some p) h1.2 (fun q hq => h2 q (List.mem_cons_of_mem _ hq)) (fun q hq s hs => by cases hq; exact h1.1 s hs)
    have hk : ptOk prev p = true := by
      unfold ptOk
      rw [inB_true.2 (by omega), inB_true.2 (by omega)]
      cases prev with
      | none => rfl
      | some q => simpa using h3 q rfl p (List.mem_cons_self)
    simp only [ptGo, hk, ih, Bool.and_self]
theorem CvOk.cv {ys : List Pt} (h : CvOk ys) (hl : ys.length ≤ 12) : cvB ys = true := by
  unfold cvB
  rw [ptGo_of ys none h.1 (fun p hp => by have := h.2 p hp; exact ⟨this.1, this.2.1, this.2.2.1, this.2.2.2.1⟩) (fun q hq => by cases hq)]
  simp; omega
theorem CvOk.lt {ys : List Pt} (h : CvOk ys) {j k : Nat} {p q : Pt} (hj : ys[j]? = some p) (hk : ys[k]? = some q) (hjk : j < k) : p.t < q.t := by
  obtain ⟨h1, rfl⟩ := List.getElem?_eq_some_iff.1 hj
  obtain ⟨h2, rfl⟩ := List.getElem?_eq_some_iff.1 hk
  exact List.pairwise_iff_getElem.1 h.1 j k h1 h2 hjk
theorem CvOk.rng {ys : List Pt} (h : CvOk ys) {k : Nat} {p : Pt} (hk : ys[k]? = some p) : 0 ≤ p.t ∧ p.t ≤ 60000 ∧ 8000 ≤ p.m ∧ p.m ≤ 9980 := by
  have := h.2 p (List.mem_of_getElem? hk)
  exact ⟨this.1, this.2.1, this.2.2.1, this.2.2.2.1⟩
theorem CvOk.mod {ys : List Pt} (h : CvOk ys) {p : Pt} (hp : p ∈ ys) : p.t % 100 = 0 := (h.2 p hp).2.2.2.2
/-! ### The magnitude at a time -/
def midM (a b : Pt) (T : Int) : Int := nearI (a.m * (b.t - a.t) + (b.m - a.m) * (T - a.t)) (b.t - a.t)
def maGo (T : Int) : Option Pt → List Pt → Option Int
  | _, [] => none
  | none, b :: r => if b.t = T then some b.m else maGo T (some b) r
  | some a, b :: r => if b.t = T then some b.m else if a.t < T ∧ T < b.t then some (midM a b T) else maGo T (some b) r
def prevP (xs : List Pt) (k : Nat) : Option Pt := if k = 0 then none else xs[k-1]?
theorem prevP_succ (xs : List Pt) (k : Nat) : prevP xs (k + 1) = xs[k]? := by simp [prevP]
theorem maGo_skip {xs : List Pt} {T : Int} (h : CvOk xs) : ∀ (k : Nat), k ≤ xs.length → (∀ (j : Nat) (p : Pt), j < k → xs[j]? = some p → p.t < T) → maGo T none xs = maGo T (prevP xs k) (xs.drop k)
  | 0, _, _ => by simp [prevP]
  | k + 1, hk, hl => by
    rw [maGo_skip h k (by omega) (fun j p hj => hl j p (by omega))]
    obtain ⟨p, hp⟩ := getx (xs := xs) (k := k) (by omega)
    have h1 := hl k p (by omega) hp
    rw [dropx hp, prevP_succ, hp]
    unfold prevP
    split
    · rw [maGo, if_neg (by omega)]
    · obtain ⟨q, hq⟩ := getx (xs := xs) (k := k - 1) (by omega)
      rw [hq, maGo, if_neg (by omega), if_neg (by omega)]
theorem maGo_at {xs : List Pt} {k : Nat} {p : Pt} (h : CvOk xs) (hp : xs[k]? = some p) : maGo p.t none xs = some p.m := by
  rw [maGo_skip h k (by have := (List.getElem?_eq_some_iff.1 hp).1; omega) (fun j q hj hq => h.lt hq hp hj), dropx hp]
  cases prevP xs k <;> simp [maGo]
theorem maGo_mid {xs : List Pt} {k : Nat} {a b : Pt} {T : Int} (h : CvOk xs) (ha : xs[k]? = some a) (hb : xs[k+1]? = some b) (h1 : a.t < T) (h2 : T < b.t) : maGo T none xs = some (midM a b T) := by
  rw [maGo_skip h (k + 1) (by have := (List.getElem?_eq_some_iff.1 hb).1; omega) (fun j q hj hq => by
    rcases Nat.lt_or_ge j k with hlt | hge
    · have := h.lt hq ha hlt; omega
    · obtain rfl : j = k := by omega
      rw [ha] at hq; cases hq; exact h1), dropx hb, prevP_succ, ha, maGo, if_neg (by omega), if_pos ⟨h1, h2⟩]
theorem near_lo {N S v : Int} (hS : 0 < S) (h : v * S ≤ N) : v ≤ nearI N S := by
  rw [nearI_round N S hS, Int.le_ediv_iff_mul_le (by omega)]
  have e : v * (2 * S) = 2 * (v * S) := by rw [← Int.mul_assoc, Int.mul_comm v 2, Int.mul_assoc]
  omega
theorem near_hi {N S v : Int} (hS : 0 < S) (h : N ≤ v * S) : nearI N S ≤ v := by
  rw [nearI_round N S hS]
  have : (2 * N + S) / (2 * S) < v + 1 := by
    rw [Int.ediv_lt_iff_lt_mul (by omega)]
    have e : (v + 1) * (2 * S) = 2 * (v * S) + 2 * S := by rw [Int.add_mul, ← Int.mul_assoc, Int.mul_comm v 2, Int.mul_assoc, Int.one_mul]
    omega
  omega
theorem midM_bd {a b : Pt} {T : Int} (h1 : a.t ≤ T) (h2 : T ≤ b.t) (h3 : a.t < b.t) : (a.m ≤ b.m → a.m ≤ midM a b T ∧ midM a b T ≤ b.m) ∧ (b.m ≤ a.m → b.m ≤ midM a b T ∧ midM a b T ≤ a.m) := by
  have hS : 0 < b.t - a.t := by omega
  have eb : b.m * (b.t - a.t) = a.m * (b.t - a.t) + (b.m - a.m) * (b.t - a.t) := by rw [← Int.add_mul]; congr 1; omega
  constructor
  · intro h
    have p1 : 0 ≤ (b.m - a.m) * (T - a.t) := Int.mul_nonneg (by omega) (by omega)
    have p2 : (b.m - a.m) * (T - a.t) ≤ (b.m - a.m) * (b.t - a.t) := Int.mul_le_mul_of_nonneg_left (by omega) (by omega)
    exact ⟨near_lo hS (by omega), near_hi hS (by omega)⟩
  · intro h
    have p1 : (b.m - a.m) * (T - a.t) ≤ 0 := Int.mul_nonpos_of_nonpos_of_nonneg (by omega) (by omega)
    have p2 : (b.m - a.m) * (b.t - a.t) ≤ (b.m - a.m) * (T - a.t) := Int.mul_le_mul_of_nonpos_left (by omega) (by omega)
    exact ⟨near_lo hS (by omega), near_hi hS (by omega)⟩
