/- Plain laws of slopes: fainter by the same; points on a line. No program in sight. -/
import Derived.Test.YthlolfhjnfkcfaaC08s
namespace Go.Proofs.Ythlolfhjnfkcfaa
open Go.RowKit
set_option linter.unusedVariables false
def up (p : Pt) : Pt := ⟨p.t, p.m + 500⟩
def ln (r : Int) (q p : Pt) : Pt := ⟨p.t, 9000 + (r * (p.t - q.t)).tdiv 100⟩
theorem up_sums (q : Pt) : ∀ xs : List Pt, sT (up q) (xs.map up) = sT q xs ∧ sM (up q) (xs.map up) = sM q xs ∧ sX (up q) (xs.map up) = sX q xs ∧ sQ (up q) (xs.map up) = sQ q xs
  | [] => by simp [sT, sM, sX, sQ]
  | p :: r => by
    obtain ⟨h1, h2, h3, h4⟩ := up_sums q r
    have e : (up p).m - (up q).m = p.m - q.m := by simp only [up]; omega
    have e2 : (up p).t - (up q).t = p.t - q.t := rfl
    simp only [List.map_cons, sT, sM, sX, sQ, h1, h2, h3, h4, e, e2]
    simp
theorem up_slN (q : Pt) (xs : List Pt) : slN (up q) (xs.map up) = slN q xs := by
  obtain ⟨h1, h2, h3, h4⟩ := up_sums q xs
  simp only [slN, h1, h2, h3, List.length_map]
theorem up_slD (q : Pt) (xs : List Pt) : slD (up q) (xs.map up) = slD q xs := by
  obtain ⟨h1, h2, h3, h4⟩ := up_sums q xs
  simp only [slD, h1, h4, List.length_map]
theorem up_slA (q : Pt) (xs : List Pt) : slA (up q) (xs.map up) = slA q xs := by simp only [slA, slG, up_slN, up_slD]
theorem up_slB (q : Pt) (xs : List Pt) : slB (up q) (xs.map up) = slB q xs := by simp only [slB, slG, up_slN, up_slD]
theorem sT_s1 (q : Pt) : ∀ xs : List Pt, sT q xs = s1 (xs.map fun p => p.t - q.t) ∧ sQ q xs = s2 (xs.map fun p => p.t - q.t)
  | [] => by simp [sT, sQ, s1, s2]
  | p :: r => by
    obtain ⟨h1, h2⟩ := sT_s1 q r
    simp only [sT, sQ, s1, s2, List.map_cons, h1, h2]
    simp
theorem slD_pos {q : Pt} {xs : List Pt} (h : xs.Pairwise (fun p q => p.t < q.t)) (hn : 2 ≤ xs.length) : 0 < slD q xs := by
  obtain ⟨h1, h2⟩ := sT_s1 q xs
  match xs, h, hn, h1, h2 with
  | a :: b :: r, h, hn, h1, h2 =>
    have := vr_pos (x := a.t - q.t) (y := b.t - q.t) (r.map fun p => p.t - q.t) (by have := (List.pairwise_cons.1 h).1 b (List.mem_cons_self); omega)
    unfold slD
    rw [h1, h2]
    simpa [vr] using this
theorem slD_map (f : Pt → Pt) (hf : ∀ p, (f p).t = p.t) (q : Pt) (xs : List Pt) : slD (f q) (xs.map f) = slD q xs := by
  have h : ∀ xs : List Pt, sT (f q) (xs.map f) = sT q xs ∧ sQ (f q) (xs.map f) = sQ q xs := by
    intro xs
    induction xs with
    | nil => simp [sT, sQ]
    | cons p r ih => simp only [List.map_cons, sT, sQ, hf, ih.1, ih.2]; simp
  simp only [slD, (h xs).1, (h xs).2, List.length_map]
theorem ln_y {r : Int} {q p : Pt} (hp : p.t % 100 = 0) (hq : q.t % 100 = 0) : 100 * ((ln r q p).m - (ln r q q).m) = r * (p.t - q.t) := by
  obtain ⟨k, hk⟩ : ∃ k, p.t - q.t = 100 * k := ⟨(p.t - q.t) / 100, by omega⟩
  have e : r * (p.t - q.t) = (r * k) * 100 := by rw [hk]; grind
  simp only [ln]
  rw [e, Int.mul_tdiv_cancel _ (by omega)]
  simp
  omega
theorem ln_sums {r : Int} {q : Pt} (hq : q.t % 100 = 0) : ∀ xs : List Pt, (∀ p ∈ xs, p.t % 100 = 0) → 100 * sM (ln r q q) (xs.map (ln r q)) = r * sT q xs ∧ 100 * sX (ln r q q) (xs.map (ln r q)) = r * sQ q xs
  | [], _ => by simp [sT, sM, sX, sQ]
  | p :: s, h => by
    obtain ⟨h1, h2⟩ := ln_sums (r := r) hq s (fun x hx => h x (List.mem_cons_of_mem _ hx))
    have e := ln_y (r := r) (h p (List.mem_cons_self)) hq
    have e2 : (ln r q p).t - (ln r q q).t = p.t - q.t := rfl
    simp only [List.map_cons, sT, sM, sX, sQ, e2]
    generalize (ln r q p).m - (ln r q q).m = y at *
    generalize p.t - q.t = x at *
    clear e2 h hq
    generalize sM (ln r q q) (s.map (ln r q)) = M at *
    generalize sX (ln r q q) (s.map (ln r q)) = X at *
    generalize sT q s = T at *
    generalize sQ q s = Q at *
    constructor
    · grind
    · grind
theorem ln_line {r : Int} {q : Pt} {xs : List Pt} (hq : q.t % 100 = 0) (h : ∀ p ∈ xs, p.t % 100 = 0) : 100 * slN (ln r q q) (xs.map (ln r q)) = r * slD (ln r q q) (xs.map (ln r q)) := by
  obtain ⟨h1, h2⟩ := ln_sums (r := r) hq xs h
  have e := slD_map (ln r q) (fun _ => rfl) q xs
  have e1 : sT (ln r q q) (xs.map (ln r q)) = sT q xs := by
    clear h1 h2 e h
    induction xs with
    | nil => rfl
    | cons p s ih => simp only [List.map_cons, sT, ih]; rfl
  rw [e]
  unfold slN slD
  rw [e1, List.length_map]
  generalize sM (ln r q q) (xs.map (ln r q)) = M at *
  generalize sX (ln r q q) (xs.map (ln r q)) = X at *
  grind
theorem ln_slope {r : Int} {q : Pt} {xs : List Pt} (hd : 0 < slD q xs) (h : 100 * slN q xs = r * slD q xs) : slA q xs = 100 * r ∧ slB q xs = 1 := by
  obtain ⟨G, D, N, hG, hGp, hD, hN, h100, hDp, he⟩ := line_end hd h
  have hf : frD (slN q xs) (slD q xs) = D := by
    unfold frD; rw [hG, hD, Int.mul_tdiv_cancel_left _ (by omega)]
  have hn : frN (slN q xs) (slD q xs) = N := by
    unfold frN; rw [hG, hN, Int.mul_tdiv_cancel_left _ (by omega)]
  obtain ⟨c, hc⟩ := h100
  have hg : slG q xs = D := by
    unfold slG; rw [hf]
    have : (10000 : Int) = D * (c * 100) := by rw [← Int.mul_assoc, ← hc]; rfl
    have h9 : Int.gcd 10000 D = D.natAbs := Nat.gcd_eq_right (Int.natAbs_dvd_natAbs.2 ⟨c * 100, this⟩)
    rw [h9]; omega
  refine ⟨?_, ?_⟩
  · unfold slA; rw [hg, hn]
    have h1 : (10000 : Int) = D * (c * 100) := by rw [← Int.mul_assoc, ← hc]; rfl
    rw [h1, Int.mul_ediv_cancel_left _ (by omega)]
    have h2 : N * (c * 100) = c * (100 * N) := by grind
    rw [h2, he]
    have h3 : c * (r * D) = r * (D * c) := by grind
    rw [h3, ← hc]; omega
  · unfold slB; rw [hg, hf, Int.ediv_self (by omega)]
theorem slB_pos {q : Pt} {xs : List Pt} (hd : 0 < slD q xs) : 1 ≤ slB q xs := by
  have h1 := frD_in (slN q xs) (slD q xs) hd
  have h2 := gcd_pos (a := 10000) h1.1
  have h3 := gcd_le (a := 10000) h1.1
  unfold slB slG
  exact Int.le_ediv_of_mul_le h2 (by omega)
theorem ptGo_up : ∀ (xs : List Pt) (prev : Option Pt), (∀ p ∈ xs, 8000 ≤ p.m ∧ p.m ≤ 9980) → ptGo prev xs = true → ptGo (prev.map up) (xs.map up) = true
  | [], _, _, _ => rfl
  | p :: r, prev, h, hg => by
    have hp := h p (List.mem_cons_self)
    simp only [ptGo, Bool.and_eq_true] at hg
    have ih := ptGo_up r (some p) (fun x hx => h x (List.mem_cons_of_mem _ hx)) hg.2
    have hk : ptOk (prev.map up) (up p) = true := by
      have := hg.1
      unfold ptOk at this ⊢
      simp only [Bool.and_eq_true, inB_true] at this ⊢
      refine ⟨this.1, ⟨by simp only [up]; omega, by simp only [up]; omega⟩, ?_⟩
      cases prev <;> simp_all [up]
    simp only [List.map_cons, ptGo, hk, Bool.true_and]
    exact ih
theorem cvB_up {xs : List Pt} (h : CvOk xs) (hl : xs.length ≤ 12) : cvB (xs.map up) = true := by
  have h1 := h.cv hl
  unfold cvB at h1 ⊢
  simp only [Bool.and_eq_true, decide_eq_true_eq] at h1
  have := ptGo_up xs none (fun p hp => ⟨(h.2 p hp).2.2.1, (h.2 p hp).2.2.2.1⟩) h1.2
  simp only [Option.map_none] at this
  rw [this]; simp; omega
theorem specValidCurve_any (A : Option Addr) (c : Nat) (xs : List Pt) (w : World) (h : Rd encPt 2 w w.heap.size A xs) (hn : xs.length ≤ 1048576) :
    Calls Try.prog 14 #[.slice A xs.length c] w fun e w' => e = .returned (.bool (cvB xs)) ∧ Below w.heap.size w w' := by
  go_enter Try.func14, Try.ntmps14
  go_wp2_with fail
  refine (l08Ok_any A c xs _ h hn).mono ?_
  rintro e w1 ⟨rfl, hb1⟩
  go_wp2
  go_ret
  exact ⟨rfl, hb1⟩
end Go.Proofs.Ythlolfhjnfkcfaa
