/- The slope of a light curve: plain laws and the contract of SlopeOf in the program, at curves that are few and short. -/
import Derived.Test.YtlpgnmkhlbddaaaC08b
import Derived.Test.YtlpgnmkhlbddaaaCGcd
namespace Go.Proofs.Ytlpgnmkhlbddaaa
open Go.RowKit
set_option linter.unusedVariables false
def s1 : List Int → Int | [] => 0 | x :: r => x + s1 r
def s2 : List Int → Int | [] => 0 | x :: r => x * x + s2 r
def dv (x : Int) : List Int → Int | [] => 0 | y :: r => (x - y) * (x - y) + dv x r
theorem dv_eq (x : Int) : ∀ r : List Int, dv x r = (r.length : Int) * (x * x) - 2 * (x * s1 r) + s2 r
  | [] => by simp [dv, s1, s2]
  | y :: r => by
    have ih := dv_eq x r
    simp only [dv, s1, s2, List.length_cons, ih]
    push_cast
    grind
theorem dv_nn (x : Int) : ∀ r : List Int, 0 ≤ dv x r
  | [] => by simp [dv]
  | y :: r => by
    have ih := dv_nn x r
    have h : 0 ≤ (x - y) * (x - y) := by
      rcases Int.le_total 0 (x - y) with h | h
      · exact Int.mul_nonneg h h
      · have := Int.mul_nonneg (a := -(x-y)) (b := -(x-y)) (by omega) (by omega); rwa [Int.neg_mul_neg] at this
    simp only [dv]; omega
def vr (xs : List Int) : Int := (xs.length : Int) * s2 xs - s1 xs * s1 xs
theorem vr_cons (x : Int) (r : List Int) : vr (x :: r) = vr r + dv x r := by
  rw [dv_eq]; simp only [vr, s1, s2, List.length_cons]; push_cast; grind
theorem vr_nn : ∀ xs : List Int, 0 ≤ vr xs
  | [] => by simp [vr, s1, s2]
  | x :: r => by rw [vr_cons]; have := vr_nn r; have := dv_nn x r; omega
theorem vr_pos {x y : Int} (r : List Int) (h : x < y) : 0 < vr (x :: y :: r) := by
  rw [vr_cons]
  have h1 := vr_nn (y :: r)
  have h2 := dv_nn x r
  have h3 : 0 < (x - y) * (x - y) := by
    have := Int.mul_pos (a := y - x) (b := y - x) (by omega) (by omega)
    have e : (x - y) * (x - y) = (y - x) * (y - x) := by grind
    omega
  simp only [dv]; omega
theorem dvd_co {N D k : Int} (h : D ∣ k * N) (hc : Int.gcd N D = 1) : D ∣ k := by
  have h1 : D.natAbs ∣ k.natAbs * N.natAbs := by rw [← Int.natAbs_mul]; exact Int.natAbs_dvd_natAbs.2 h
  have hc' : Nat.Coprime D.natAbs N.natAbs := by unfold Nat.Coprime; rw [Nat.gcd_comm]; exact hc
  exact Int.natAbs_dvd_natAbs.1 (hc'.dvd_of_dvd_mul_right h1)
theorem line_end {num den rise : Int} (hd : 0 < den) (h : 100 * num = rise * den) :
    ∃ G D N : Int, (Int.gcd num den : Int) = G ∧ 0 < G ∧ den = G * D ∧ num = G * N ∧ D ∣ 100 ∧ 0 < D ∧ 100 * N = rise * D := by
  have hg : 0 < (Int.gcd num den : Int) := by have := Int.gcd_pos_of_ne_zero_right num (b := den) (by omega); omega
  obtain ⟨D, hD⟩ := Int.gcd_dvd_right num den
  obtain ⟨N, hN⟩ := Int.gcd_dvd_left num den
  generalize hG : (Int.gcd num den : Int) = G at *
  have hDp : 0 < D := by
    rcases Int.lt_or_le 0 D with h0 | h0
    · exact h0
    · have := Int.mul_nonneg (a := G) (b := -D) (by omega) (by omega); rw [Int.mul_neg] at this; omega
  have e1 : 100 * N = rise * D := by
    have : G * (100 * N) = G * (rise * D) := by rw [hD, hN] at h; grind
    exact Int.eq_of_mul_eq_mul_left (by omega) this
  refine ⟨G, D, N, rfl, hg, hD, hN, ?_, hDp, e1⟩
  have hc : Int.gcd N D = 1 := by
    have := Int.gcd_mul_left G N D
    rw [← hN, ← hD] at this
    have h2 : (Int.gcd num den : Int) = G.natAbs * Int.gcd N D := by rw [this]; push_cast; rfl
    rw [hG] at h2
    have h3 : (G.natAbs : Int) = G := Int.natAbs_of_nonneg (by omega)
    rw [h3] at h2
    have h4 : G * 1 = G * (Int.gcd N D : Int) := by omega
    have := Int.eq_of_mul_eq_mul_left (by omega) h4
    omega
  have h5 : D ∣ 100 * N := ⟨rise, by rw [e1]; exact Int.mul_comm _ _⟩
  exact dvd_co h5 hc

theorem mul_bds {x y A B : Int} (h1 : -A ≤ x) (h2 : x ≤ A) (h3 : -B ≤ y) (h4 : y ≤ B) : -(A * B) ≤ x * y ∧ x * y ≤ A * B := by
  have a1 := Int.mul_nonneg (a := A - x) (b := B - y) (by omega) (by omega)
  have a2 := Int.mul_nonneg (a := A + x) (b := B + y) (by omega) (by omega)
  have a3 := Int.mul_nonneg (a := A - x) (b := B + y) (by omega) (by omega)
  have a4 := Int.mul_nonneg (a := A + x) (b := B - y) (by omega) (by omega)
  simp only [Int.mul_add, Int.add_mul, Int.sub_mul, Int.mul_sub] at a1 a2 a3 a4
  omega
/-! ### The sums of a curve, told from a point on -/
def sT (q : Pt) : List Pt → Int | [] => 0 | p :: r => (p.t - q.t) + sT q r
def sM (q : Pt) : List Pt → Int | [] => 0 | p :: r => (p.m - q.m) + sM q r
def sX (q : Pt) : List Pt → Int | [] => 0 | p :: r => (p.t - q.t) * (p.m - q.m) + sX q r
def sQ (q : Pt) : List Pt → Int | [] => 0 | p :: r => (p.t - q.t) * (p.t - q.t) + sQ q r
def slN (q : Pt) (ys : List Pt) : Int := (ys.length : Int) * sX q ys - sT q ys * sM q ys
def slD (q : Pt) (ys : List Pt) : Int := (ys.length : Int) * sQ q ys - sT q ys * sT q ys
def slG (q : Pt) (ys : List Pt) : Int := (Int.gcd 10000 (frD (slN q ys) (slD q ys)) : Int)
def slA (q : Pt) (ys : List Pt) : Int := frN (slN q ys) (slD q ys) * (10000 / slG q ys)
def slB (q : Pt) (ys : List Pt) : Int := frD (slN q ys) (slD q ys) / slG q ys
theorem frN_le (n d : Int) (hd : 0 < d) : -absI n ≤ frN n d ∧ frN n d ≤ absI n := by
  have h := Int.natAbs_tdiv_le_natAbs n (Int.gcd n d : Int)
  unfold frN absI
  split <;> omega
theorem frD_in (n d : Int) (hd : 0 < d) : 0 < frD n d ∧ frD n d ≤ d := by
  have h1 := gcd_pos (a := n) hd
  have h2 := gcd_le (a := n) hd
  unfold frD
  rw [Int.tdiv_eq_ediv_of_nonneg (by omega)]
  constructor
  · have : 1 * (Int.gcd n d : Int) ≤ d := by omega
    have := Int.le_ediv_of_mul_le h1 this
    omega
  · exact Int.ediv_le_self _ (by omega)
theorem gcd_le10 {D : Int} (hD : 0 < D) : (Int.gcd 10000 D : Int) ≤ 10000 := by
  have h : Int.gcd 10000 D ∣ (10000 : Int).natAbs := Nat.gcd_dvd_left _ _
  have := Nat.le_of_dvd (by omega) h
  omega
