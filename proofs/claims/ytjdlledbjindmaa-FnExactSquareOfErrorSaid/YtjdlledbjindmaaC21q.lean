/- Contracts: the square of the error of the mean, in the program and in the reference. -/
import Derived.Test.YtjdlledbjindmaaC21m
namespace Go.Proofs.Ytjdlledbjindmaa
open Go.RowKit
set_option linter.unusedVariables false
def sqR (p : Int) : List Int → Int
  | [] => 0
  | q :: r => (p - q) * (p - q) + sqR p r
def sqT : List Int → List Int → Int
  | _, [] => 0
  | s, p :: r => sqR p s + sqT (s ++ [p]) r
theorem sq_bd {d : Int} (h1 : -22000 ≤ d) (h2 : d ≤ 22000) : 0 ≤ d * d ∧ d * d ≤ 484000000 := by
  have h := mul_bd (a := d) (b := d) (A := 22000) (B := 22000) h1 h2 h1 h2
  refine ⟨?_, by omega⟩
  rcases Int.le_total 0 d with h0 | h0
  · exact Int.mul_nonneg h0 h0
  · have := Int.mul_nonneg_of_nonpos_of_nonpos h0 h0; exact this
theorem sqR_bd {p : Int} (hp1 : -2000 ≤ p) (hp2 : p ≤ 20000) : ∀ (s : List Int) (m : Nat), s.length ≤ m → (∀ (k : Nat) (q : Int), s[k]? = some q → -2000 ≤ q ∧ q ≤ 20000) → 0 ≤ sqR p s ∧ sqR p s ≤ m * 484000000
  | [], m, _, _ => by simp [sqR]; omega
  | q :: r, 0, h, _ => by simp at h
  | q :: r, m + 1, h, hx => by
    have h1 := sqR_bd hp1 hp2 r m (by simpa using h) (fun k q hq => hx (k + 1) q (by simpa using hq))
    have h2 := hx 0 q rfl
    have h3 := sq_bd (d := p - q) (by omega) (by omega)
    simp only [sqR]
    push_cast
    omega
theorem sqT_bd : ∀ (xs s : List Int) (n m : Nat), xs.length ≤ n → s.length + xs.length ≤ 100 → (∀ (k : Nat) (q : Int), xs[k]? = some q → -2000 ≤ q ∧ q ≤ 20000) → (∀ (k : Nat) (q : Int), s[k]? = some q → -2000 ≤ q ∧ q ≤ 20000) → 0 ≤ sqT s xs ∧ sqT s xs ≤ n * 48400000000
  | [], s, n, m, _, _, _, _ => by simp [sqT]; omega
  | p :: r, s, 0, m, h, _, _, _ => by simp at h
  | p :: r, s, n + 1, m, h, hs, hx, hy => by
    have hp := hx 0 p rfl
    have h2 := sqR_bd hp.1 hp.2 s 100 (by simp at hs; omega) hy
    have h1 := sqT_bd r (s ++ [p]) n m (by simpa using h) (by simp at hs ⊢; omega) (fun k q hq => hx (k + 1) q (by simpa using hq)) (fun k q hq => by
      rcases Nat.lt_or_ge k s.length with hk | hk
      · rw [List.getElem?_append_left hk] at hq; exact hy k q hq
      · rw [List.getElem?_append_right hk] at hq
        have : k - s.length = 0 := by have := (List.getElem?_eq_some_iff.1 hq).1; simp at this; omega
        rw [this] at hq; simp at hq; subst hq; exact hp)
    simp only [sqT]
    push_cast
    omega
theorem nnn_bd {n : Int} (h1 : 2 ≤ n) (h2 : n ≤ 100) : 4 ≤ n * n ∧ n * n ≤ 10000 ∧ 0 < n * n * (n - 1) ∧ n * n * (n - 1) ≤ 1000000 ∧ 0 ≤ n - 1 := by
  have a := mul_bd (a := n) (b := n) (A := 100) (B := 100) (by omega) (by omega) (by omega) (by omega)
  have a2 : 2 * 2 ≤ n * n := Int.mul_le_mul h1 h1 (by omega) (by omega)
  have b := mul_bd (a := n * n) (b := n - 1) (A := 10000) (B := 100) (by omega) (by omega) (by omega) (by omega)
  have b2 : 0 < n * n * (n - 1) := Int.mul_pos (by omega) (by omega)
  omega
def seN (xs : List Int) : Int := if twC xs = 0 then frN (sqT [] xs) ((xs.length : Int) * xs.length * ((xs.length : Int) - 1)) else 0
def seD (xs : List Int) : Int := if twC xs = 0 then frD (sqT [] xs) ((xs.length : Int) * xs.length * ((xs.length : Int) - 1)) else 0
set_option maxRecDepth 20000 in
set_option maxHeartbeats 2000000 in
theorem l11Squares_any (A : Option Addr) (c : Nat) (xs : List Int) (w : World) (h : Rd encI 1 w w.heap.size A xs) (hn : xs.length ≤ 100) (hc : xs.length ≤ c) (X : Hid (∀ (k : Nat) (p : Int), xs[k]? = some p → -2000 ≤ p ∧ p ≤ 20000)) :
    Calls Try.prog 25 #[.slice A xs.length c] w fun e w' => e = .returned (.int .i64 (sqT [] xs)) ∧ Below w.heap.size w w' := by
  go_enter Try.func25, Try.ntmps25
  go_wp2
  go_loopw [3, 4] (fun sv i wr => ∃ (k : Nat) (a : Int), k ≤ xs.length ∧ i = .int .i64 k ∧ sv = .int .i64 a ∧ 0 ≤ a ∧ a ≤ k * 48400000000 ∧ Below w.heap.size w wr ∧ Hid (sqT [] xs = a + sqT (xs.take k) (xs.drop k))) (fun _ i _ => xs.length - (intOf i).toNat)
  case atStart => exact ⟨0, 0, Nat.zero_le _, rfl, rfl, by omega, by omega, (by repeat (first | assumption | exact Below.refl _ _ | apply Below.al | apply Below.drewN' | apply Below.drew | (apply Below.tr; assumption))), hid (by simp)⟩
  case round =>
    obtain ⟨k, a, hk, rfl, rfl, a0, a1, hb, H⟩ := hrel
    by_cases hlt : k < xs.length
    · obtain ⟨p, hp⟩ := getx hlt
      obtain ⟨bb, o, rfl, hbB, c0⟩ := (h.below hb (Nat.le_refl _)).at1 hp rfl
      have hsz := hb.size
      obtain ⟨p1, p2⟩ := X.out k p hp
      have b0 : bb < wr.heap.size := by omega
      have HS : Hid (sqT (xs.take k) (xs.drop k) = sqR p (xs.take k) + sqT (xs.take (k+1)) (xs.drop (k+1))) := by rw [dropx hp]; simp only [sqT]; rw [List.take_add_one, hp]; rfl
      clear hp
      obtain ⟨w0, rfl⟩ : ∃ w0, w0 = wr := ⟨_, rfl⟩
      go_wp2
      go_loopw [3, 5] (fun sv i wr => ∃ (j : Nat) (n : Int), j ≤ k ∧ i = .int .i64 j ∧ sv = .int .i64 (a + n) ∧ 0 ≤ n ∧ n ≤ j * 484000000 ∧ Below w0.heap.size w0 wr ∧ Hid (sqR p (xs.take k) = n + sqR p ((xs.take k).drop j))) (fun _ i _ => k - (intOf i).toNat)
      case atStart => exact ⟨0, 0, Nat.zero_le _, rfl, by simp, by omega, by omega, (by repeat (first | assumption | exact Below.refl _ _ | apply Below.al | apply Below.drewN' | apply Below.drew | (apply Below.tr; assumption))), hid (by simp)⟩
      case round =>
        obtain ⟨j, n, hj, rfl, rfl, n0, n1, hb2, H2⟩ := hrel
        obtain ⟨hc2, hf2⟩ := bcell hb2
        have hzz2 := hb2.size
        have b2 : bb < wr.heap.size := by omega
        by_cases hlj : j < k
        · obtain ⟨q, hq⟩ : ∃ q, xs[j]? = some q := getx (by omega)
          obtain ⟨b', o', e1, _, d0⟩ := (h.below hb (Nat.le_refl _)).at1 hq rfl
          simp at e1; obtain ⟨rfl, rfl⟩ := e1
          obtain ⟨q1, q2⟩ := X.out j q hq
          have HQ : Hid ((xs.take k)[j]? = some q) := hid (by rw [List.getElem?_take_of_lt hlj]; exact hq)
          have HS2 : Hid (sqR p ((xs.take k).drop j) = (p - q) * (p - q) + sqR p ((xs.take k).drop (j+1))) := by rw [dropx HQ.out]; rfl
          obtain ⟨m1, m2⟩ := sq_bd (d := p - q) (by omega) (by omega)
          clear hq
          go_wp2
          all_goals first
            | (refine wp_region_ext (by kernel_rfl) (by kernel_rfl) ?_
               repeat (go_big_quiet_step ((first | fail)))
               refine wpQuiet_nil ?_
               intro w3 hb3
               obtain ⟨hc_w3, hf_w3⟩ := bcell hb3
               have hz_w3 := hb3.size
               go_wp2)
            | skip
          go_roundw
          case rel => exact ⟨j + 1, n + (p - q) * (p - q), by omega, by go_num, by congr 1; omega, by omega, by push_cast; omega, (by repeat (first | assumption | exact Below.refl _ _ | apply Below.al | apply Below.drewN' | apply Below.drew | (apply Below.tr; assumption))), hid (by rw [H2.out, HS2.out]; omega)⟩
          case measure => simp [intOf]; omega
        · have HE : Hid (sqR p (xs.take k) = n) := hid (by rw [H2.out, List.drop_eq_nil_of_le (by simp; omega)]; simp [sqR])
          go_wp2
          go_roundw
          case rel => exact ⟨k + 1, a + n, by omega, by go_num, rfl, by omega, by push_cast; omega, Below.tr hb2 hb, hid (by rw [H.out, HS.out, HE.out]; omega)⟩
          case measure => simp [intOf]; omega
    · have HE : Hid (sqT [] xs = a) := hid (by rw [H.out, List.drop_eq_nil_of_le (by omega)]; simp [sqT])
      go_wp2
      go_ret
      exact ⟨ret_int HE.out.symm, (by repeat (first | assumption | exact Below.refl _ _ | apply Below.al | apply Below.drewN' | apply Below.drew | (apply Below.tr; assumption)))⟩
set_option maxRecDepth 20000 in
set_option maxHeartbeats 2000000 in
theorem pairSquares_any (A : Option Addr) (c : Nat) (xs : List Int) (w : World) (h : Rd encI 1 w w.heap.size A xs) (hn : xs.length ≤ 100) (hc : xs.length ≤ c) (X : Hid (∀ (k : Nat) (p : Int), xs[k]? = some p → -2000 ≤ p ∧ p ≤ 20000)) :
    Calls Try.prog 27 #[.slice A xs.length c] w fun e w' => e = .returned (.int .i64 (sqT [] xs)) ∧ Below w.heap.size w w' := by
  go_enter Try.func27, Try.ntmps27
  go_wp2
  go_loopw [3, 10] (fun sv i wr => ∃ (k : Nat) (a : Int), k ≤ xs.length ∧ i = .int .i64 k ∧ sv = .int .i64 a ∧ 0 ≤ a ∧ a ≤ k * 48400000000 ∧ Below w.heap.size w wr ∧ Hid (sqT [] xs = a + sqT (xs.take k) (xs.drop k))) (fun _ i _ => xs.length - (intOf i).toNat)
  case atStart => exact ⟨0, 0, Nat.zero_le _, rfl, rfl, by omega, by omega, (by repeat (first | assumption | exact Below.refl _ _ | apply Below.al | apply Below.drewN' | apply Below.drew | (apply Below.tr; assumption))), hid (by simp)⟩
  case round =>
    obtain ⟨k, a, hk, rfl, rfl, a0, a1, hb, H⟩ := hrel
    by_cases hlt : k < xs.length
    · obtain ⟨p, hp⟩ := getx hlt
      obtain ⟨bb, o, rfl, hbB, c0⟩ := (h.below hb (Nat.le_refl _)).at1 hp rfl
      have hsz := hb.size
      obtain ⟨p1, p2⟩ := X.out k p hp
      have b0 : bb < wr.heap.size := by omega
      have HS : Hid (sqT (xs.take k) (xs.drop k) = sqR p (xs.take k) + sqT (xs.take (k+1)) (xs.drop (k+1))) := by rw [dropx hp]; simp only [sqT]; rw [List.take_add_one, hp]; rfl
      clear hp
      obtain ⟨w0, rfl⟩ : ∃ w0, w0 = wr := ⟨_, rfl⟩
      go_wp2
      go_loopw [3, 19] (fun sv i wr => ∃ (j : Nat) (n : Int), j ≤ k ∧ i = .int .i64 j ∧ sv = .int .i64 (a + n) ∧ 0 ≤ n ∧ n ≤ j * 484000000 ∧ Below w0.heap.size w0 wr ∧ Hid (sqR p (xs.take k) = n + sqR p ((xs.take k).drop j))) (fun _ i _ => k - (intOf i).toNat)
      case atStart => exact ⟨0, 0, Nat.zero_le _, rfl, by simp, by omega, by omega, (by repeat (first | assumption | exact Below.refl _ _ | apply Below.al | apply Below.drewN' | apply Below.drew | (apply Below.tr; assumption))), hid (by simp)⟩
      case round =>
        obtain ⟨j, n, hj, rfl, rfl, n0, n1, hb2, H2⟩ := hrel
        obtain ⟨hc2, hf2⟩ := bcell hb2
        have hzz2 := hb2.size
        have b2 : bb < wr.heap.size := by omega
        by_cases hlj : j < k
        · obtain ⟨q, hq⟩ : ∃ q, xs[j]? = some q := getx (by omega)
          obtain ⟨b', o', e1, _, d0⟩ := (h.below hb (Nat.le_refl _)).at1 hq rfl
          simp at e1; obtain ⟨rfl, rfl⟩ := e1
          obtain ⟨q1, q2⟩ := X.out j q hq
          have HQ : Hid ((xs.take k)[j]? = some q) := hid (by rw [List.getElem?_take_of_lt hlj]; exact hq)
          have HS2 : Hid (sqR p ((xs.take k).drop j) = (p - q) * (p - q) + sqR p ((xs.take k).drop (j+1))) := by rw [dropx HQ.out]; rfl
          obtain ⟨m1, m2⟩ := sq_bd (d := p - q) (by omega) (by omega)
          clear hq
          go_wp2
          all_goals first
            | (refine wp_region_ext (by kernel_rfl) (by kernel_rfl) ?_
               repeat (go_big_quiet_step ((first | fail)))
               refine wpQuiet_nil ?_
               intro w3 hb3
               obtain ⟨hc_w3, hf_w3⟩ := bcell hb3
               have hz_w3 := hb3.size
               go_wp2)
            | skip
          go_roundw
          case rel => exact ⟨j + 1, n + (p - q) * (p - q), by omega, by go_num, by congr 1; omega, by omega, by push_cast; omega, (by repeat (first | assumption | exact Below.refl _ _ | apply Below.al | apply Below.drewN' | apply Below.drew | (apply Below.tr; assumption))), hid (by rw [H2.out, HS2.out]; omega)⟩
          case measure => simp [intOf]; omega
        · have HE : Hid (sqR p (xs.take k) = n) := hid (by rw [H2.out, List.drop_eq_nil_of_le (by simp; omega)]; simp [sqR])
          go_wp2
          go_roundw
          case rel => exact ⟨k + 1, a + n, by omega, by go_num, rfl, by omega, by push_cast; omega, Below.tr hb2 hb, hid (by rw [H.out, HS.out, HE.out]; omega)⟩
          case measure => simp [intOf]; omega
    · have HE : Hid (sqT [] xs = a) := hid (by rw [H.out, List.drop_eq_nil_of_le (by omega)]; simp [sqT])
      go_wp2
      go_ret
      exact ⟨ret_int HE.out.symm, (by repeat (first | assumption | exact Below.refl _ _ | apply Below.al | apply Below.drewN' | apply Below.drew | (apply Below.tr; assumption)))⟩
set_option maxRecDepth 20000 in
set_option maxHeartbeats 4000000 in
theorem specSquareOfError_any (A : Option Addr) (c : Nat) (xs : List Int) (w : World) (h : Rd encI 1 w w.heap.size A xs) (hn : xs.length ≤ 1048576) (hcap : xs.length ≤ c) :
    Calls Try.prog 12 #[.slice A xs.length c] w fun e w' => e = .returned (.tuple #[.agg #[.int .i64 (seN xs), .int .i64 (seD xs)], .int .i64 (twC xs)]) ∧ Below w.heap.size w w' := by
  by_cases hc : twC xs = 0
  rotate_left
  · have HO : Hid (seN xs = 0) := by simp [Hid, seN, hc]
    have HF : Hid (seD xs = 0) := by simp [Hid, seD, hc]
    cases h1 : magsB xs <;> by_cases h2 : xs.length < 2
    all_goals
      first
        | (exfalso; apply hc; unfold twC; rw [h1]; simp; omega)
        | (have HM := hid (show codeMags xs = _ by unfold codeMags; rw [h1])
           have HC2 : Hid (twC xs = if magsB xs = true then 3 else 2) := hid (by unfold twC; rw [h1]; simp; try omega)
           first
             | (have HN1 : (codeMags xs == 0) = true := by rw [HM.out]; rfl)
             | (have HN1 : (codeMags xs == 0) = false := by rw [HM.out]; rfl)
           first
             | (have HN2 : (codeMags xs != 0) = true := by rw [HM.out]; rfl)
             | (have HN2 : (codeMags xs != 0) = false := by rw [HM.out]; rfl)
           have HE1 := hid h1
           clear hc h1
           go_enter Try.func12, Try.ntmps12
           go_wp2_with (go_at_call 17; refine (l02List_any A c xs _ ((h.below (B' := w.heap.size) (by repeat (first | assumption | exact Below.refl _ _ | apply Below.al | apply Below.drewN' | apply Below.drew | (apply Below.tr; assumption))) (Nat.le_refl _)).more (by first | omega | (simp; done) | (simp; omega))) hn).mono ?_; rintro e w1 ⟨rfl, hb1⟩; obtain ⟨hc_w1, hf_w1⟩ := bcell hb1; have hz_w1 := hb1.size; (try simp at hz_w1); (try have g_w1 : w.heap.size < w1.heap.size := (by omega)))
           exact bodyPost_ret (v := .tuple #[.agg #[.int .i64 (seN xs), .int .i64 (seD xs)], .int .i64 (twC xs)]) (by rw [HO.out, HF.out, HC2.out, HE1.out]; simp [results, Try.results12, go_sem, hc_w1, hf_w1, HM.out]) rfl ⟨rfl, (by repeat (first | assumption | exact Below.refl _ _ | apply Below.al | apply Below.drewN' | apply Below.drew | (refine Below.sc ?_ (by first | omega | (simp; done) | (simp; omega)) _) | (apply Below.tr; assumption)))⟩)
  have hm : magsB xs = true := by unfold twC at hc; cases h1 : magsB xs <;> simp_all
  have h2 : ¬ xs.length < 2 := by unfold twC at hc; rw [hm] at hc; intro h9; simp [h9] at hc
  have HM : Hid (codeMags xs = 0) := hid (by unfold codeMags; rw [hm]; rfl)
  have HN1 : (codeMags xs == 0) = true := by rw [HM.out]; rfl
  have HN2 : (codeMags xs != 0) = false := by rw [HM.out]; rfl
  obtain ⟨hl, hx⟩ := magsB_true hm
  have X := hid hx
  obtain ⟨s1, s2⟩ := sqT_bd xs [] 100 100 hl (by simpa using hl) X.out (fun k p hp => by simp at hp)
  obtain ⟨n1, n2, n3, n4, n5⟩ := nnn_bd (n := (xs.length : Int)) (by omega) (by omega)
  have HO : Hid (seN xs = frN (sqT [] xs) ((xs.length : Int) * xs.length * ((xs.length : Int) - 1))) := by simp [Hid, seN, hc]
  have HF : Hid (seD xs = frD (sqT [] xs) ((xs.length : Int) * xs.length * ((xs.length : Int) - 1))) := by simp [Hid, seD, hc]
  have HC := hid hc
  clear hc hm hx
  go_enter Try.func12, Try.ntmps12
  go_wp2_with (first | (go_at_call 17; refine (l02List_any A c xs _ ((h.below (B' := w.heap.size) (by repeat (first | assumption | exact Below.refl _ _ | apply Below.al | apply Below.drewN' | apply Below.drew | (apply Below.tr; assumption))) (Nat.le_refl _)).more (by first | omega | (simp; done) | (simp; omega))) hn).mono ?_; rintro e w1 ⟨rfl, hb1⟩; obtain ⟨hc_w1, hf_w1⟩ := bcell hb1; have hz_w1 := hb1.size; (try simp at hz_w1); (try have g_w1 : w.heap.size < w1.heap.size := (by omega))) | (go_at_call 25; refine (l11Squares_any A c xs _ ((h.below (B' := w.heap.size) (by repeat (first | assumption | exact Below.refl _ _ | apply Below.al | apply Below.drewN' | apply Below.drew | (apply Below.tr; assumption))) (Nat.le_refl _)).more (by first | omega | (simp; done) | (simp; omega))) (by omega) hcap X).mono ?_; rintro e w2 ⟨rfl, hb2⟩; obtain ⟨hc_w2, hf_w2⟩ := bcell hb2; have hz_w2 := hb2.size; (try simp at hz_w2); (try have g_w2 : w.heap.size < w2.heap.size := (by omega))) | (go_at_call 24; refine (l02Make_any _ _ _ (by omega) (by omega) (by omega) (by omega)).mono ?_; rintro e w3 ⟨rfl, hb3⟩; obtain ⟨hc_w3, hf_w3⟩ := bcell hb3; have hz_w3 := hb3.size; (try simp at hz_w3); (try have g_w3 : w.heap.size < w3.heap.size := (by omega))))
  exact bodyPost_ret (v := .tuple #[.agg #[.int .i64 (seN xs), .int .i64 (seD xs)], .int .i64 (twC xs)]) (by rw [HO.out, HF.out, HC.out]; simp [results, Try.results12, go_sem, hc_w3, hf_w3, hc_w2, hf_w2, hc_w1, hf_w1, g_w1, g_w2]) rfl ⟨rfl, (by repeat (first | assumption | exact Below.refl _ _ | apply Below.al | apply Below.drewN' | apply Below.drew | (refine Below.sc ?_ (by first | omega | (simp; done) | (simp; omega)) _) | (apply Below.tr; assumption)))⟩
set_option maxRecDepth 20000 in
set_option maxHeartbeats 4000000 in
theorem implSquareOfError_any (A : Option Addr) (c : Nat) (xs : List Int) (w : World) (h : Rd encI 1 w w.heap.size A xs) (hn : xs.length ≤ 1048576) (hcap : xs.length ≤ c) :
    Calls Try.prog 13 #[.slice A xs.length c] w fun e w' => e = .returned (.tuple #[.agg #[.int .i64 (seN xs), .int .i64 (seD xs)], .int .i64 (twC xs)]) ∧ Below w.heap.size w w' := by
  by_cases hc : twC xs = 0
  rotate_left
  · have HO : Hid (seN xs = 0) := by simp [Hid, seN, hc]
    have HF : Hid (seD xs = 0) := by simp [Hid, seD, hc]
    have HN : (twC xs != 0) = true := by simp [hc]
    clear hc
    go_enter Try.func13, Try.ntmps13
    go_wp2_with (go_at_call 20; refine (twoMags_any A c xs _ ((h.below (B' := w.heap.size) (by repeat (first | assumption | exact Below.refl _ _ | apply Below.al | apply Below.drewN' | apply Below.drew | (apply Below.tr; assumption))) (Nat.le_refl _)).more (by first | omega | (simp; done) | (simp; omega))) hn).mono ?_; rintro e w1 ⟨rfl, hb1⟩; obtain ⟨hc_w1, hf_w1⟩ := bcell hb1; have hz_w1 := hb1.size; (try simp at hz_w1); (try have g_w1 : w.heap.size < w1.heap.size := (by omega)))
    exact bodyPost_ret (v := .tuple #[.agg #[.int .i64 (seN xs), .int .i64 (seD xs)], .int .i64 (twC xs)]) (by rw [HO.out, HF.out]; simp [results, Try.results13, go_sem, hc_w1, hf_w1]) rfl ⟨rfl, (by repeat (first | assumption | exact Below.refl _ _ | apply Below.al | apply Below.drewN' | apply Below.drew | (refine Below.sc ?_ (by first | omega | (simp; done) | (simp; omega)) _) | (apply Below.tr; assumption)))⟩
  have hm : magsB xs = true := by unfold twC at hc; cases h1 : magsB xs <;> simp_all
  have h2 : ¬ xs.length < 2 := by unfold twC at hc; rw [hm] at hc; intro h9; simp [h9] at hc
  have HN : (twC xs != 0) = false := by simp [hc]
  obtain ⟨hl, hx⟩ := magsB_true hm
  have X := hid hx
  obtain ⟨s1, s2⟩ := sqT_bd xs [] 100 100 hl (by simpa using hl) X.out (fun k p hp => by simp at hp)
  obtain ⟨n1, n2, n3, n4, n5⟩ := nnn_bd (n := (xs.length : Int)) (by omega) (by omega)
  have HO : Hid (seN xs = frN (sqT [] xs) ((xs.length : Int) * xs.length * ((xs.length : Int) - 1))) := by simp [Hid, seN, hc]
  have HF : Hid (seD xs = frD (sqT [] xs) ((xs.length : Int) * xs.length * ((xs.length : Int) - 1))) := by simp [Hid, seD, hc]
  have HC := hid hc
  clear hc hm hx
  go_enter Try.func13, Try.ntmps13
  go_wp2_with (first | (go_at_call 20; refine (twoMags_any A c xs _ ((h.below (B' := w.heap.size) (by repeat (first | assumption | exact Below.refl _ _ | apply Below.al | apply Below.drewN' | apply Below.drew | (apply Below.tr; assumption))) (Nat.le_refl _)).more (by first | omega | (simp; done) | (simp; omega))) hn).mono ?_; rintro e w1 ⟨rfl, hb1⟩; obtain ⟨hc_w1, hf_w1⟩ := bcell hb1; have hz_w1 := hb1.size; (try simp at hz_w1); (try have g_w1 : w.heap.size < w1.heap.size := (by omega))) | (go_at_call 27; refine (pairSquares_any A c xs _ ((h.below (B' := w.heap.size) (by repeat (first | assumption | exact Below.refl _ _ | apply Below.al | apply Below.drewN' | apply Below.drew | (apply Below.tr; assumption))) (Nat.le_refl _)).more (by first | omega | (simp; done) | (simp; omega))) (by omega) hcap X).mono ?_; rintro e w2 ⟨rfl, hb2⟩; obtain ⟨hc_w2, hf_w2⟩ := bcell hb2; have hz_w2 := hb2.size; (try simp at hz_w2); (try have g_w2 : w.heap.size < w2.heap.size := (by omega))) | (go_at_call 26; refine (lowest_any _ _ _ (by omega) (by omega) (by omega) (by omega)).mono ?_; rintro e w3 ⟨rfl, hb3⟩; obtain ⟨hc_w3, hf_w3⟩ := bcell hb3; have hz_w3 := hb3.size; (try simp at hz_w3); (try have g_w3 : w.heap.size < w3.heap.size := (by omega))) | (go_at_call 23; refine (countI_any _ _ _ _).mono ?_; rintro e w' ⟨rfl, rfl⟩))
  exact bodyPost_ret (v := .tuple #[.agg #[.int .i64 (seN xs), .int .i64 (seD xs)], .int .i64 (twC xs)]) (by rw [HO.out, HF.out, HC.out]; simp [results, Try.results13, go_sem, hc_w3, hf_w3, hc_w2, hf_w2, hc_w1, hf_w1, g_w1, g_w2]) rfl ⟨rfl, (by repeat (first | assumption | exact Below.refl _ _ | apply Below.al | apply Below.drewN' | apply Below.drew | (refine Below.sc ?_ (by first | omega | (simp; done) | (simp; omega)) _) | (apply Below.tr; assumption)))⟩
end Go.Proofs.Ytjdlledbjindmaa
