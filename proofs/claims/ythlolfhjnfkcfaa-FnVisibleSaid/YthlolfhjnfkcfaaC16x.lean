/- Plain laws: the times of extrema in windows. No program in sight. -/
import Derived.Test.YthlolfhjnfkcfaaC16v
namespace Go.Proofs.Ythlolfhjnfkcfaa
open Go.RowKit
set_option linter.unusedVariables false
theorem next_is {e p s u : Int} (hp : 0 < p) (hs : (e - s) % p = 0) (h1 : s < u) (h2 : u ≤ s + p) : nextI e p u = s + p := by
  unfold nextI
  have h3 : (e - u) % p = s + p - u := by
    have d := Int.mul_ediv_add_emod (e - s) p
    rw [hs, Int.add_zero] at d
    have : e - u = (s + p - u) + p * ((e - s) / p - 1) := by rw [Int.mul_sub, d]; omega
    rw [this, Int.add_mul_emod_self_left, Int.emod_eq_of_lt (by omega) (by omega)]
  omega
theorem next_self {e p s : Int} (hs : (e - s) % p = 0) : nextI e p s = s := by unfold nextI; omega
theorem next_mod {e p t : Int} : (e - nextI e p t) % p = 0 := by
  unfold nextI
  have d := Int.mul_ediv_add_emod (e - t) p
  have h1 : e - (t + (e - t) % p) = p * ((e - t) / p) := by omega
  rw [h1]
  exact Int.mul_emod_right _ _
theorem step_mod {e p s : Int} (hs : (e - s) % p = 0) : (e - (s + p)) % p = 0 := by
  have : e - (s + p) = (e - s) + p * (-1) := by omega
  rw [this, Int.add_mul_emod_self_left, hs]
theorem find_seq {e p to tm : Int} (hp : 0 < p) : ∀ (n : Nat) (s : Int), (e - s) % p = 0 → cntT p to s = n → (seqL p s n).find? (fun t => decide (tm ≤ t)) = if nextI e p (maxI tm s) ≤ to then some (nextI e p (maxI tm s)) else none
  | 0, s, hs, hn => by
    have h1 : to < s := by
      rcases Int.lt_or_le to s with h | h
      · exact h
      · have := cntT_step hp h; have := cntT_nn (p := p) (to := to) (t := s + p) hp; omega
    have h2 : s ≤ nextI e p (maxI tm s) := by
      have := Int.emod_nonneg (e - maxI tm s) (b := p) (by omega)
      unfold nextI maxI at *
      split <;> simp_all <;> omega
    rw [if_neg (by omega)]
    rfl
  | n + 1, s, hs, hn => by
    have h1 : s ≤ to := by
      rcases Int.lt_or_le to s with h | h
      · have : cntT p to s = 0 := if_pos h
        omega
      · exact h
    have h2 := cntT_step hp h1
    simp only [seqL, List.find?_cons]
    by_cases ht : tm ≤ s
    · have hm : maxI tm s = s := by unfold maxI; split <;> omega
      simp [ht, hm, next_self hs, h1]
    · have ih := find_seq (to := to) (tm := tm) hp n (s + p) (step_mod hs) (by omega)
      have hm : maxI tm s = tm := by unfold maxI; split <;> omega
      have he : nextI e p (maxI tm (s + p)) = nextI e p tm := by
        unfold maxI
        split
        · rfl
        · rw [next_self (step_mod hs), next_is hp hs (by omega) (by omega)]
      have hd : decide (tm ≤ s) = false := by simpa using ht
      rw [hd, hm]
      simp only
      rw [ih, he]
theorem seq_in {e p to : Int} (hp : 0 < p) : ∀ (n : Nat) (s : Int), (e - s) % p = 0 → cntT p to s = n → ∀ t ∈ seqL p s n, s ≤ t ∧ t ≤ to ∧ (e - t) % p = 0
  | 0, s, hs, hn => by simp [seqL]
  | n + 1, s, hs, hn => by
    have h1 : s ≤ to := by
      rcases Int.lt_or_le to s with h | h
      · have : cntT p to s = 0 := if_pos h
        omega
      · exact h
    have h2 := cntT_step hp h1
    intro t ht
    simp only [seqL, List.mem_cons] at ht
    rcases ht with rfl | ht
    · exact ⟨by omega, h1, hs⟩
    · have := seq_in (to := to) hp n (s + p) (step_mod hs) (by omega) t ht
      exact ⟨by omega, this.2.1, this.2.2⟩
theorem seq_rise {p : Int} (hp : 0 < p) : ∀ (n : Nat) (s : Int), (seqL p s n).Pairwise (· < ·) ∧ ∀ t ∈ seqL p s n, s ≤ t
  | 0, s => by simp [seqL]
  | n + 1, s => by
    obtain ⟨h1, h2⟩ := seq_rise hp n (s + p)
    simp only [seqL]
    refine ⟨List.pairwise_cons.2 ⟨fun t ht => by have := h2 t ht; omega, h1⟩, fun t ht => ?_⟩
    rcases List.mem_cons.1 ht with rfl | ht
    · omega
    · have := h2 t ht; omega
/-! ### Windows in order -/
def WsOk (xs : List Wi) : Prop := xs.Pairwise (fun x y => x.t < y.f) ∧ ∀ x ∈ xs, 0 ≤ x.f ∧ x.f ≤ x.t ∧ x.t ≤ x.f + 2900 ∧ x.t ≤ 70000
theorem WsOk.snoc {xs : List Wi} {x : Wi} (h : WsOk xs) (hl : ∀ q ∈ xs, q.t < x.f) (hx : 0 ≤ x.f ∧ x.f ≤ x.t ∧ x.t ≤ x.f + 2900 ∧ x.t ≤ 70000) : WsOk (xs ++ [x]) := by
  refine ⟨?_, fun q hq => ?_⟩
  · rw [List.pairwise_append]
    exact ⟨h.1, by simp, fun a ha b hb => by simp at hb; subst hb; exact hl a ha⟩
  · rcases List.mem_append.1 hq with hq | hq
    · exact h.2 q hq
    · simp at hq; subst hq; exact hx
theorem wiGo_of : ∀ (xs : List Wi) (prev : Option Wi), xs.Pairwise (fun x y => x.t < y.f) → (∀ x ∈ xs, 0 ≤ x.f ∧ x.f ≤ x.t ∧ x.t ≤ x.f + 2900 ∧ x.t ≤ 70000) → (∀ q, prev = some q → ∀ x ∈ xs, q.t < x.f) → wiGo prev xs = true
  | [], _, _, _, _ => rfl
  | x :: r, prev, h1, h2, h3 => by
    have hx := h2 x (List.mem_cons_self)
    rw [List.pairwise_cons] at h1
    have ih := wiGo_of r (some x) h1.2 (fun q hq => h2 q (List.mem_cons_of_mem _ hq)) (fun q hq s hs => by cases hq; exact h1.1 s hs)
    have hk : wiOk prev x = true := by
      unfold wiOk
      rw [inB_true.2 (by omega), inB_true.2 (by omega)]
      cases prev with
      | none => simp; omega
      | some q =>
        have := h3 q rfl x (List.mem_cons_self)
        simp; omega
    simp only [wiGo, hk, ih, Bool.and_self]
theorem WsOk.ws {xs : List Wi} (h : WsOk xs) (hl : xs.length ≤ 6) : wsB xs = true := by
  unfold wsB
  rw [wiGo_of xs none h.1 h.2 (fun q hq => by cases hq)]
  simp; omega
theorem WsOk.tail {x : Wi} {r : List Wi} (h : WsOk (x :: r)) : WsOk r := ⟨(List.pairwise_cons.1 h.1).2, fun q hq => h.2 q (List.mem_cons_of_mem _ hq)⟩
theorem ext_cnt {a b : Int} (x : Wi) : extI a b x.f x.t = cntT b x.t (nextI a b x.f) := rfl
theorem vtL_in {a b : Int} (hb : 0 < b) : ∀ (xs : List Wi), ∀ t ∈ vtL a b xs, ∃ x ∈ xs, x.f ≤ t ∧ t ≤ x.t ∧ (a - t) % b = 0
  | [], t, h => by simp [vtL] at h
  | x :: r, t, h => by
    simp only [vtL, List.mem_append] at h
    rcases h with h | h
    · have h0 := cntT_nn (p := b) (to := x.t) (t := nextI a b x.f) hb
      have := seq_in (e := a) (to := x.t) hb (extI a b x.f x.t).toNat (nextI a b x.f) next_mod (by rw [ext_cnt]; omega) t h
      have h2 := nextN_bd (e := a) (p := b) (t := x.f) hb
      have h3 : nextN a b x.f = nextI a b x.f := rfl
      exact ⟨x, List.mem_cons_self, by omega, this.2.1, this.2.2⟩
    · obtain ⟨y, hy, h1⟩ := vtL_in hb r t h
      exact ⟨y, List.mem_cons_of_mem _ hy, h1⟩
theorem vtL_rise {a b : Int} (hb : 0 < b) : ∀ (xs : List Wi), WsOk xs → (vtL a b xs).Pairwise (· < ·)
  | [], _ => by simp [vtL]
  | x :: r, h => by
    simp only [vtL]
    rw [List.pairwise_append]
    refine ⟨(seq_rise hb _ _).1, vtL_rise hb r h.tail, fun s hs t ht => ?_⟩
    have h0 := cntT_nn (p := b) (to := x.t) (t := nextI a b x.f) hb
    have h1 := seq_in (e := a) (to := x.t) hb (extI a b x.f x.t).toNat (nextI a b x.f) next_mod (by rw [ext_cnt]; omega) s hs
    obtain ⟨y, hy, h2⟩ := vtL_in hb r t ht
    have h3 := (List.pairwise_cons.1 h.1).1 y hy
    omega
theorem next_max {a b tm f : Int} (hb : 0 < b) : nextI a b (maxI tm (nextI a b f)) = nextI a b (maxI tm f) := by
  have h2 := nextN_bd (e := a) (p := b) (t := f) hb
  have h3 : nextN a b f = nextI a b f := rfl
  rw [h3] at h2
  have hm : (a - nextI a b f) % b = 0 := next_mod
  generalize nextI a b f = s at *
  have hm2 : (a - (s - b)) % b = 0 := by
    have : a - (s - b) = (a - s) + b * 1 := by omega
    rw [this, Int.add_mul_emod_self_left, hm]
  by_cases h4 : tm ≤ f
  · have e1 : maxI tm s = s := by unfold maxI; split <;> omega
    have e2 : maxI tm f = f := by unfold maxI; split <;> omega
    rw [e1, e2, next_self hm]
    by_cases h5 : s = f
    · subst h5; rw [next_self hm]
    · have := next_is (e := a) (u := f) hb hm2 (by omega) (by omega); omega
  · have e2 : maxI tm f = tm := by unfold maxI; split <;> omega
    by_cases h5 : tm ≤ s
    · have e1 : maxI tm s = s := by unfold maxI; split <;> omega
      rw [e1, e2, next_self hm]
      have := next_is (e := a) (u := tm) hb hm2 (by omega) (by omega); omega
    · have e1 : maxI tm s = tm := by unfold maxI; split <;> omega
      rw [e1, e2]
theorem vtL_find {a b tm : Int} (hb : 0 < b) : ∀ (xs : List Wi), nvGo a b tm xs = (vtL a b xs).find? (fun t => decide (tm ≤ t))
  | [] => rfl
  | x :: r => by
    have h0 := cntT_nn (p := b) (to := x.t) (t := nextI a b x.f) hb
    have h1 := find_seq (e := a) (to := x.t) (tm := tm) hb (extI a b x.f x.t).toNat (nextI a b x.f) next_mod (by rw [ext_cnt]; omega)
    rw [next_max hb] at h1
    simp only [vtL, nvGo, List.find?_append, h1]
    split
    · simp
    · simp [vtL_find hb r]
theorem vtS_small {a b : Int} (hb : 200 ≤ b) : ∀ (xs : List Wi), WsOk xs → vtS a b xs ≤ 15 * xs.length
  | [], _ => by simp [vtS]
  | x :: r, h => by
    have ih := vtS_small (a := a) hb r h.tail
    have hx := h.2 x (List.mem_cons_self)
    have h2 := nextN_bd (e := a) (p := b) (t := x.f) (by omega)
    have h3 : extI a b x.f x.t ≤ 15 := by
      unfold extI cntT
      split
      · omega
      · have : (x.t - nextN a b x.f) / b < 15 := by
          rw [Int.ediv_lt_iff_lt_mul (by omega)]
          omega
        omega
    simp only [vtS, List.length_cons]
    push_cast
    omega
theorem phase_zero {a b t : Int} (h : (a - t) % b = 0) : (t - a) % b = 0 := by
  have : t - a = -(a - t) := by omega
  rw [this]
  exact Int.emod_eq_zero_of_dvd (Int.dvd_neg.2 (Int.dvd_of_emod_eq_zero h))
end Go.Proofs.Ythlolfhjnfkcfaa
