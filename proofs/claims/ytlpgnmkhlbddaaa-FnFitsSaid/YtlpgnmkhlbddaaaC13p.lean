/- Plain laws of fits: how great the numbers of a fitted line are. No program in sight. -/
import Derived.Test.YtlpgnmkhlbddaaaC13f
namespace Go.Proofs.Ytlpgnmkhlbddaaa
open Go.RowKit
set_option linter.unusedVariables false
theorem fr_eq (n : Int) {d : Int} (hd : 0 < d) : frN n d * d = frD n d * n := by
  have h1 : ((Int.gcd n d : Nat) : Int) ∣ n := Int.gcd_dvd_left ..
  have h2 : ((Int.gcd n d : Nat) : Int) ∣ d := Int.gcd_dvd_right ..
  have e1 : frN n d * (Int.gcd n d : Int) = n := Int.tdiv_mul_cancel h1
  have e2 : frD n d * (Int.gcd n d : Int) = d := Int.tdiv_mul_cancel h2
  generalize frN n d = a at *
  generalize frD n d = b at *
  generalize (Int.gcd n d : Int) = g at *
  subst e1
  clear h1 h2
  rw [← e2]
  grind
theorem fr_co (n : Int) {d : Int} (hd : 0 < d) : Int.gcd (frN n d) (frD n d) = 1 := by
  have h1 : ((Int.gcd n d : Nat) : Int) ∣ n := Int.gcd_dvd_left ..
  have h2 : ((Int.gcd n d : Nat) : Int) ∣ d := Int.gcd_dvd_right ..
  have e1 : frN n d * (Int.gcd n d : Int) = n := Int.tdiv_mul_cancel h1
  have e2 : frD n d * (Int.gcd n d : Int) = d := Int.tdiv_mul_cancel h2
  have g1 := gcd_pos (a := n) hd
  have hc := Int.gcd_mul_right (frN n d) (Int.gcd n d : Int) (frD n d)
  rw [e1, e2] at hc
  have h3 : ((Int.gcd n d : Int)).natAbs = Int.gcd n d := rfl
  rw [h3] at hc
  have h4 : 0 < Int.gcd n d := by omega
  have h5 : 1 * Int.gcd n d = Int.gcd (frN n d) (frD n d) * Int.gcd n d := by omega
  exact (Nat.eq_of_mul_eq_mul_right h4 h5).symm
theorem mC_bd : ∀ {xs : List Mn}, (∀ p ∈ xs, 0 ≤ p.c ∧ p.c ≤ 51 ∧ 0 ≤ p.t ∧ p.t ≤ 480000) → (0 ≤ mC xs ∧ mC xs ≤ (xs.length : Int) * 51) ∧ (0 ≤ mT xs ∧ mT xs ≤ (xs.length : Int) * 480000) ∧ (0 ≤ mX xs ∧ mX xs ≤ (xs.length : Int) * 24480000) ∧ (0 ≤ mQ xs ∧ mQ xs ≤ 51 * mC xs)
  | [], _ => by simp [mC, mT, mX, mQ]
  | p :: r, h => by
    obtain ⟨h1, h2, h3, h4⟩ := mC_bd (xs := r) (fun x hx => h x (List.mem_cons_of_mem _ hx))
    have hp := h p (List.mem_cons_self)
    have a1 := mul_bds (x := p.c) (y := p.t) (A := 51) (B := 480000) (by omega) (by omega) (by omega) (by omega)
    have a2 := Int.mul_nonneg hp.1 hp.2.2.1
    have a3 := Int.mul_nonneg hp.1 hp.1
    have a4 : p.c * p.c ≤ 51 * p.c := Int.mul_le_mul_of_nonneg_right hp.2.1 hp.1
    simp only [mC, mT, mX, mQ, List.length_cons]
    push_cast
    omega
theorem mD_le4 {xs : List Mn} (h : ∀ p ∈ xs, 0 ≤ p.c ∧ p.c ≤ 51 ∧ 0 ≤ p.t ∧ p.t ≤ 480000) (hn : xs.length ≤ 8) : mD xs ≤ 41616 := by
  obtain ⟨h1, h2, h3, h4⟩ := mC_bd h
  have a1 : (xs.length : Int) * mQ xs ≤ 8 * mQ xs := Int.mul_le_mul_of_nonneg_right (by omega) h4.1
  have a2 := sq_nn (mC xs - 204)
  have a3 : (mC xs - 204) * (mC xs - 204) = mC xs * mC xs - 408 * mC xs + 41616 := by grind
  unfold mD
  omega
theorem mN_bd {xs : List Mn} (h : ∀ p ∈ xs, 0 ≤ p.c ∧ p.c ≤ 51 ∧ 0 ≤ p.t ∧ p.t ≤ 480000) (hn : xs.length ≤ 8) : -1566720000 ≤ mN xs ∧ mN xs ≤ 1566720000 := by
  obtain ⟨h1, h2, h3, h4⟩ := mC_bd h
  have a1 := mul_bds (x := (xs.length : Int)) (y := mX xs) (A := 8) (B := 195840000) (by omega) (by omega) (by omega) (by omega)
  have a2 := mul_bds (x := mC xs) (y := mT xs) (A := 408) (B := 3840000) (by omega) (by omega) (by omega) (by omega)
  have a3 := Int.mul_nonneg (a := (xs.length : Int)) (b := mX xs) (by omega) h3.1
  have a4 := Int.mul_nonneg h1.1 h2.1
  unfold mN
  omega
theorem fit_bds {xs : List Mn} (h : ∀ p ∈ xs, 0 ≤ p.c ∧ p.c ≤ 51 ∧ 0 ≤ p.t ∧ p.t ≤ 480000) (hn : xs.length ≤ 8) (hn0 : 0 < xs.length) (hd : 0 < mD xs) :
    1 ≤ fPd xs ∧ fPd xs ≤ 41616 ∧ -1566720000 ≤ fPn xs ∧ fPn xs ≤ 1566720000 ∧ 1 ≤ fTd xs ∧ fTd xs ≤ 41616 ∧ -79902720000 ≤ fTn xs ∧ fTn xs ≤ 79902720000 ∧
    (∀ tn td pn pd, tn = fTn xs → td = fTd xs → pn = fPn xs → pd = fPd xs → dS1 tn td pn pd xs = 0 ∧ dW1 tn td pn pd xs = 0) := by
  have D1 := mD_le4 h hn
  have N1 := mN_bd h hn
  obtain ⟨h1, h2, h3, h4⟩ := mC_bd h
  have b1 := frD_in (mN xs) (mD xs) hd
  have b2 := frN_le (mN xs) (mD xs) hd
  have b3 : absI (mN xs) ≤ 1566720000 := by unfold absI; omega
  have hnp : 0 < (xs.length : Int) * fPd xs := Int.mul_pos (by omega) b1.1
  have p1 : fPn xs * mD xs = fPd xs * mN xs := fr_eq _ hd
  have t1 : fTn xs * ((xs.length : Int) * fPd xs) = fTd xs * (mT xs * fPd xs - fPn xs * mC xs) := fr_eq _ hnp
  have c1 : Int.gcd (fTn xs) (fTd xs) = 1 := fr_co _ hnp
  have b4 : 0 < fTd xs := (frD_in _ _ hnp).1
  have key : fTn xs * mD xs = fTd xs * (mT xs * mQ xs - mC xs * mX xs) := by
    have e : ((xs.length : Int) * fPd xs) * (fTn xs * mD xs) = ((xs.length : Int) * fPd xs) * (fTd xs * (mT xs * mQ xs - mC xs * mX xs)) := by
      have d1 : mD xs = (xs.length : Int) * mQ xs - mC xs * mC xs := rfl
      have d2 : mN xs = (xs.length : Int) * mX xs - mC xs * mT xs := rfl
      rw [d1, d2] at p1
      rw [d1]
      clear c1 b4 b1 b2 b3 N1 D1 h1 h2 h3 h4 d1 d2 hnp
      generalize fTn xs = tn at *
      generalize fTd xs = td at *
      generalize fPn xs = pn at *
      generalize fPd xs = pd at *
      generalize mT xs = T at *
      generalize mC xs = C at *
      generalize mX xs = X at *
      generalize mQ xs = Q at *
      generalize (xs.length : Int) = n at *
      grind
    exact Int.eq_of_mul_eq_mul_left (by omega) e
  have dv : fTd xs ∣ mD xs := by
    refine dvd_co (N := fTn xs) ⟨mT xs * mQ xs - mC xs * mX xs, ?_⟩ c1
    rw [Int.mul_comm]; exact key
  have b5 : fTd xs ≤ mD xs := Int.le_of_dvd hd dv
  have m1 := mul_bds (x := mT xs) (y := mQ xs) (A := 3840000) (B := 20808) (by omega) (by omega) (by omega) (by omega)
  have m2 := mul_bds (x := mC xs) (y := mX xs) (A := 408) (B := 195840000) (by omega) (by omega) (by omega) (by omega)
  have m3 := Int.mul_nonneg h2.1 h4.1
  have m4 := Int.mul_nonneg h1.1 h3.1
  have b6 : -79902720000 ≤ mT xs * mQ xs - mC xs * mX xs ∧ mT xs * mQ xs - mC xs * mX xs ≤ 79902720000 := by omega
  have b7 : -79902720000 ≤ fTn xs ∧ fTn xs ≤ 79902720000 := by
    generalize mT xs * mQ xs - mC xs * mX xs = Z at *
    have e1 : (fTn xs).natAbs * (mD xs).natAbs = (fTd xs).natAbs * Z.natAbs := by rw [← Int.natAbs_mul, ← Int.natAbs_mul, key]
    have e2 : (fTd xs).natAbs * Z.natAbs ≤ (mD xs).natAbs * Z.natAbs := Nat.mul_le_mul_right _ (by omega)
    have e3 : (mD xs).natAbs * (fTn xs).natAbs ≤ (mD xs).natAbs * Z.natAbs := by rw [Nat.mul_comm (mD xs).natAbs (fTn xs).natAbs]; omega
    have e4 := Nat.le_of_mul_le_mul_left e3 (by omega)
    omega
  have c2 : -1566720000 ≤ fPn xs ∧ fPn xs ≤ 1566720000 := by unfold fPn; omega
  have c3 : 1 ≤ fPd xs ∧ fPd xs ≤ 41616 := by unfold fPd; omega
  refine ⟨c3.1, c3.2, c2.1, c2.2, by omega, by omega, b7.1, b7.2, ?_⟩
  rintro _ _ _ _ rfl rfl rfl rfl
  exact ⟨fit_sum t1, fit_weighted hn0 t1 p1⟩
theorem dv1_bd {tn td pn pd : Int} {p : Mn} (hp : 0 ≤ p.c ∧ p.c ≤ 51 ∧ 0 ≤ p.t ∧ p.t ≤ 480000) (h1 : 1 ≤ pd) (h2 : pd ≤ 41616) (h3 : -1566720000 ≤ pn) (h4 : pn ≤ 1566720000) (h5 : 1 ≤ td) (h6 : td ≤ 41616) (h7 : -79902720000 ≤ tn) (h8 : tn ≤ 79902720000) :
    (-19975680000 ≤ p.t * td ∧ p.t * td ≤ 19975680000) ∧ (-831307898880000 ≤ p.t * td * pd ∧ p.t * td * pd ≤ 831307898880000) ∧ (-3325231595520000 ≤ tn * pd ∧ tn * pd ≤ 3325231595520000) ∧ (-79902720000 ≤ p.c * pn ∧ p.c * pn ≤ 79902720000) ∧ (-3325231595520000 ≤ p.c * pn * td ∧ p.c * pn * td ≤ 3325231595520000) := by
  have a1 := mul_bds (x := p.t) (y := td) (A := 480000) (B := 41616) (by omega) (by omega) (by omega) (by omega)
  have a2 := mul_bds (x := p.t * td) (y := pd) (A := 19975680000) (B := 41616) (by omega) (by omega) (by omega) (by omega)
  have a3 := mul_bds (x := tn) (y := pd) (A := 79902720000) (B := 41616) (by omega) (by omega) (by omega) (by omega)
  have a4 := mul_bds (x := p.c) (y := pn) (A := 51) (B := 1566720000) (by omega) (by omega) (by omega) (by omega)
  have a5 := mul_bds (x := p.c * pn) (y := td) (A := 79902720000) (B := 41616) (by omega) (by omega) (by omega) (by omega)
  omega
end Go.Proofs.Ytlpgnmkhlbddaaa
