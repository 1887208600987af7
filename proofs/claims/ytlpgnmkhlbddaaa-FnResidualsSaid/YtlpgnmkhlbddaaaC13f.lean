/- The fitted line of few minima, in the program. -/
import Derived.Test.YtlpgnmkhlbddaaaC13v
import Derived.Deep.RegionHeld3
namespace Go.Proofs.Ytlpgnmkhlbddaaa
open Go.RowKit
set_option linter.unusedVariables false
theorem sq_nn (x : Int) : 0 ≤ x * x := by
  rcases Int.le_total 0 x with h | h
  · exact Int.mul_nonneg h h
  · have := Int.mul_nonneg (a := -x) (b := -x) (by omega) (by omega); rwa [Int.neg_mul_neg] at this
def fPn (xs : List Mn) : Int := frN (mN xs) (mD xs)
def fPd (xs : List Mn) : Int := frD (mN xs) (mD xs)
def fTn (xs : List Mn) : Int := frN (mT xs * fPd xs - fPn xs * mC xs) ((xs.length : Int) * fPd xs)
def fTd (xs : List Mn) : Int := frD (mT xs * fPd xs - fPn xs * mC xs) ((xs.length : Int) * fPd xs)
set_option maxRecDepth 20000 in
set_option maxHeartbeats 4000000 in
theorem fit_any (A : Option Addr) (c : Nat) (xs : List Mn) (w : World) (h : Rd encMn 2 w w.heap.size A xs) (hn1 : 2 ≤ xs.length) (hn2 : xs.length ≤ 8) (hv : MvOk xs) (hr : ∀ p ∈ xs, -200 ≤ p.c ∧ p.c ≤ 200 ∧ 0 ≤ p.t ∧ p.t ≤ 480000) (hd : 0 < mD xs) :
    Calls Try.prog 9 #[.slice A xs.length c] w fun e w' => e = .returned (.tuple #[.agg #[.int .i64 (fTn xs), .int .i64 (fTd xs)], .agg #[.int .i64 (fPn xs), .int .i64 (fPd xs)], .int .i64 0]) ∧ Below w.heap.size w w' := by
  have h0 : decide ((xs.length : Int) < 2) = false := by simp; omega
  have V := hid hv
  have HR := hid hr
  have HP := hid hd
  have HA : Hid (fPn xs = frN (mN xs) (mD xs)) := hid rfl
  have HB : Hid (fPd xs = frD (mN xs) (mD xs)) := hid rfl
  have HG : Hid (fTn xs = frN (mT xs * fPd xs - fPn xs * mC xs) ((xs.length : Int) * fPd xs)) := hid rfl
  have HE : Hid (fTd xs = frD (mT xs * fPd xs - fPn xs * mC xs) ((xs.length : Int) * fPd xs)) := hid rfl
  have HN : Hid (mN xs = (xs.length : Int) * mX xs - mC xs * mT xs) := hid rfl
  have HD : Hid (mD xs = (xs.length : Int) * mQ xs - mC xs * mC xs) := hid rfl
  clear hr hd
  obtain ⟨u, hu⟩ : ∃ u, xs[0]? = some u := getx (by omega)
  obtain ⟨v, hvl⟩ : ∃ v, xs[xs.length-1]? = some v := getx (by omega)
  go_enter Try.func9, Try.ntmps9
  go_wp2_with (go_at_call 13; refine (validMinima_ok A c xs _ ((h.below (B' := w.heap.size) (by repeat (first | assumption | exact Below.refl _ _ | apply Below.al | apply Below.drewN' | apply Below.drew | (apply Below.tr; assumption))) (Nat.le_refl _)).more (by first | (simp; done) | (simp; omega))) hv).mono ?_; rintro e w1 ⟨rfl, hb1⟩; obtain ⟨hc_w1, hf_w1⟩ := bcell hb1; have hz_w1 := hb1.size; (try simp at hz_w1); (try have g_w1 : w.heap.size < w1.heap.size := (by omega)))
  have hbw : Below w.heap.size w w1 := (by repeat (first | assumption | exact Below.refl _ _ | apply Below.al | apply Below.drewN' | apply Below.drew | (refine Below.sc ?_ (by first | omega | (simp; done) | (simp; omega)) _) | (apply Below.tr; assumption)))
  obtain ⟨bb, o, rfl, hbB, c0, c1⟩ := (h.below hbw (Nat.le_refl _)).at2 hu rfl
  obtain ⟨_, _, ee, _, d0, d1⟩ := (h.below hbw (Nat.le_refl _)).at2 hvl rfl
  simp at ee; obtain ⟨rfl, rfl⟩ := ee
  simp only [Nat.zero_mul, Nat.add_zero] at c0 c1
  have bx : bb < w1.heap.size := by omega
  have hln : 0 < xs.length := by omega
  have r1 := HR.out u (List.mem_of_getElem? hu)
  have r2 := HR.out v (List.mem_of_getElem? hvl)
  have ht : decide (1000 < v.c - u.c) = false := by simp; omega
  clear hu hvl hv c1 d1
  refine wp_region_ext (by kernel_rfl) (by kernel_rfl) ?_
  repeat (go_big_quiet_step ((first | fail)))
  refine wpQuiet_nil ?_
  intro w2 hb2
  obtain ⟨hc_w2, hf_w2⟩ := bcell hb2
  have hz_w2 := hb2.size
  have hb2' := Below.tr hb2 hb1
  clear c0 d0 hc_w1 hf_w1 hc_w2 hf_w2 hb2 hb1 hbw r1 r2 ht bx hbB h0
  go_wp2_with (go_at_call 21; refine (countMn_any _ _ _ _).mono ?_; rintro e w' ⟨rfl, rfl⟩)
  go_loopw [6, 7, 8, 9, 45] (fun cv tv xv qv i wr => ∃ (k : Nat) (a b s d : Int), k ≤ xs.length ∧ i = .int .i64 k ∧ cv = .int .i64 a ∧ tv = .int .i64 b ∧ xv = .int .i64 s ∧ qv = .int .i64 d ∧ -(k * 200) ≤ a ∧ a ≤ k * 200 ∧ 0 ≤ b ∧ b ≤ k * 480000 ∧ -(k * 96000000) ≤ s ∧ s ≤ k * 96000000 ∧ 0 ≤ d ∧ d ≤ k * 40000 ∧ Below (World.heap ((w.alloc (.cells #[.int .i64 0, .int .i64 0] 30)).alloc (.cells #[.int .i64 0, .int .i64 0] 30))).size ((w.alloc (.cells #[.int .i64 0, .int .i64 0] 30)).alloc (.cells #[.int .i64 0, .int .i64 0] 30)) wr ∧ Hid (mC xs = a + mC (xs.drop k)) ∧ Hid (mT xs = b + mT (xs.drop k)) ∧ Hid (mX xs = s + mX (xs.drop k)) ∧ Hid (mQ xs = d + mQ (xs.drop k))) (fun _ _ _ _ i _ => xs.length - (intOf i).toNat)
  case atStart => exact ⟨0, 0, 0, 0, 0, Nat.zero_le _, rfl, rfl, rfl, rfl, rfl, by omega, by omega, by omega, by omega, by omega, by omega, by omega, by omega, hb2', hid (by simp), hid (by simp), hid (by simp), hid (by simp)⟩
  case round =>
  clear hb2'
  obtain ⟨k, a, b, s, d, hk, rfl, rfl, rfl, rfl, rfl, a0, a1, b0, b1, s0, s1, q0, q1, hb, H1, H2, H3, H4⟩ := hrel
  have hbw : Below w.heap.size w wr := Below.tr hb (by repeat (first | assumption | exact Below.refl _ _ | apply Below.al | apply Below.drewN' | apply Below.drew | (refine Below.sc ?_ (by first | omega | (simp; done) | (simp; omega)) _) | (apply Below.tr; assumption)))
  have hsz := hb.size
  simp at hsz
  have g0 : w.heap.size < wr.heap.size := by omega
  have g1 : w.heap.size + 1 < wr.heap.size := by omega
  by_cases hlt : k < xs.length
  · obtain ⟨p, hp⟩ := getx hlt
    obtain ⟨b', o', e', hbB, c0, c1⟩ := (h.below hbw (Nat.le_refl _)).at2 hp rfl
    simp at e'; obtain ⟨rfl, rfl⟩ := e'
    obtain ⟨p1, p2, p3, p4⟩ := HR.out p (List.mem_of_getElem? hp)
    have HS1 : Hid (mC (xs.drop k) = p.c + mC (xs.drop (k+1))) := by rw [dropx hp]; rfl
    have HS2 : Hid (mT (xs.drop k) = p.t + mT (xs.drop (k+1))) := by rw [dropx hp]; rfl
    have HS3 : Hid (mX (xs.drop k) = p.c * p.t + mX (xs.drop (k+1))) := by rw [dropx hp]; rfl
    have HS4 : Hid (mQ (xs.drop k) = p.c * p.c + mQ (xs.drop (k+1))) := by rw [dropx hp]; rfl
    have bx : bb < wr.heap.size := by omega
    have m1 := mul_bds (x := p.c) (y := p.t) (A := 200) (B := 480000) (by omega) (by omega) (by omega) (by omega)
    have m2 := mul_bds (x := p.c) (y := p.c) (A := 200) (B := 200) (by omega) (by omega) (by omega) (by omega)
    have m3 : 0 ≤ p.c * p.c := sq_nn p.c
    clear hp
    have y0 : (wr.alloc (.cells #[.int .i64 p.c, .int .i64 p.t] 34)).cell? ⟨wr.heap.size, 0, none⟩ = some (.int .i64 p.c) := by simp [go_sem]
    have y1 : (wr.alloc (.cells #[.int .i64 p.c, .int .i64 p.t] 34)).cell? ⟨wr.heap.size, 1, none⟩ = some (.int .i64 p.t) := by simp [go_sem]
    have z5 : wr.heap.size < (World.heap (wr.alloc (.cells #[.int .i64 p.c, .int .i64 p.t] 34))).size := by simp
    have hbL := Below.tr (Below.al (Below.refl _ wr) (.cells #[.int .i64 p.c, .int .i64 p.t] 34)) hb
    go_wp2_with fail
    clear c0 c1
    generalize wr.alloc (.cells #[.int .i64 p.c, .int .i64 p.t] 34) = wL at *
    generalize wr.heap.size = pL at *
    refine wp_region_ext (by kernel_rfl) (by kernel_rfl) ?_
    repeat (go_big_quiet_step ((first | fail)))
    refine wpQuiet_nil ?_
    intro w3 hb3
    obtain ⟨hc_w3, hf_w3⟩ := bcell hb3
    have hz_w3 := hb3.size
    have hb3' := Below.tr hb3 hbL
    clear hc_w3 hf_w3 y0 y1
    go_wp2
    go_roundw
    case rel => exact ⟨k + 1, a + p.c, b + p.t, s + p.c * p.t, d + p.c * p.c, by omega, by go_num, rfl, rfl, rfl, rfl, by push_cast; omega, by push_cast; omega, by push_cast; omega, by push_cast; omega, by push_cast; omega, by push_cast; omega, by push_cast; omega, by push_cast; omega, hb3', hid (by rw [H1.out, HS1.out]; omega), hid (by rw [H2.out, HS2.out]; omega), hid (by rw [H3.out, HS3.out]; omega), hid (by rw [H4.out, HS4.out]; omega)⟩
    case measure => simp [intOf]; omega
  · have hkl : k = xs.length := by omega
    have E1 : mC xs = a := by rw [H1.out, List.drop_eq_nil_of_le (by omega)]; simp [mC]
    have E2 : mT xs = b := by rw [H2.out, List.drop_eq_nil_of_le (by omega)]; simp [mT]
    have E3 : mX xs = s := by rw [H3.out, List.drop_eq_nil_of_le (by omega)]; simp [mX]
    have E4 : mQ xs = d := by rw [H4.out, List.drop_eq_nil_of_le (by omega)]; simp [mQ]
    have e0 : wr.cell? ⟨w.heap.size, 0, none⟩ = some (.int .i64 0) := by rw [(bcell hb).1 (w.heap.size) 0 (by first | (simp; done) | (simp; omega))]; simp [go_sem]
    have f0 : wr.frozen? ⟨w.heap.size, 0, none⟩ = false := by rw [(bcell hb).2 (w.heap.size) 0 (by first | (simp; done) | (simp; omega))]; simp [go_sem]
    have e1 : wr.cell? ⟨w.heap.size, 1, none⟩ = some (.int .i64 0) := by rw [(bcell hb).1 (w.heap.size) 1 (by first | (simp; done) | (simp; omega))]; simp [go_sem]
    have f1 : wr.frozen? ⟨w.heap.size, 1, none⟩ = false := by rw [(bcell hb).2 (w.heap.size) 1 (by first | (simp; done) | (simp; omega))]; simp [go_sem]
    have e2 : wr.cell? ⟨w.heap.size + 1, 0, none⟩ = some (.int .i64 0) := by rw [(bcell hb).1 (w.heap.size + 1) 0 (by first | (simp; done) | (simp; omega))]; simp [go_sem]
    have f2 : wr.frozen? ⟨w.heap.size + 1, 0, none⟩ = false := by rw [(bcell hb).2 (w.heap.size + 1) 0 (by first | (simp; done) | (simp; omega))]; simp [go_sem]
    have e3 : wr.cell? ⟨w.heap.size + 1, 1, none⟩ = some (.int .i64 0) := by rw [(bcell hb).1 (w.heap.size + 1) 1 (by first | (simp; done) | (simp; omega))]; simp [go_sem]
    have f3 : wr.frozen? ⟨w.heap.size + 1, 1, none⟩ = false := by rw [(bcell hb).2 (w.heap.size + 1) 1 (by first | (simp; done) | (simp; omega))]; simp [go_sem]
    have n1 := mul_bds (x := (xs.length : Int)) (y := s) (A := 8) (B := 768000000) (by omega) (by omega) (by omega) (by omega)
    have n2 := mul_bds (x := (xs.length : Int)) (y := d) (A := 8) (B := 320000) (by omega) (by omega) (by omega) (by omega)
    have n3 := mul_bds (x := a) (y := b) (A := 1600) (B := 3840000) (by omega) (by omega) (by omega) (by omega)
    have n4 := mul_bds (x := a) (y := a) (A := 1600) (B := 1600) (by omega) (by omega) (by omega) (by omega)
    have n5 := sq_nn a
    have EN : mN xs = ((xs.length : Int) * s - a * b) := by rw [HN.out, E1, E2, E3]
    have ED : mD xs = ((xs.length : Int) * d - a * a) := by rw [HD.out, E1, E4]
    have hp0 := HP.out
    rw [ED] at hp0
    have P1 : Hid (fPn xs = frN ((xs.length : Int) * s - a * b) ((xs.length : Int) * d - a * a)) := hid (by rw [HA.out, EN, ED])
    have P2 : Hid (fPd xs = frD ((xs.length : Int) * s - a * b) ((xs.length : Int) * d - a * a)) := hid (by rw [HB.out, EN, ED])
    have E1 := hid E1
    have E2 := hid E2
    clear E3 E4 EN ED hkl
    have r1 : -13000000000 ≤ ((xs.length : Int) * s - a * b) := by omega
    have r2 : ((xs.length : Int) * s - a * b) ≤ 13000000000 := by omega
    have r3 : ((xs.length : Int) * d - a * a) ≤ 2560000 := by omega
    have fA := frN_le ((xs.length : Int) * s - a * b) ((xs.length : Int) * d - a * a) hp0
    have fB := frD_in ((xs.length : Int) * s - a * b) ((xs.length : Int) * d - a * a) hp0
    have aA : absI ((xs.length : Int) * s - a * b) ≤ 13000000000 := by unfold absI; omega
    go_wp2_with fail
    refine (lowest_any _ _ _ (by omega) (by omega) hp0 (by omega)).mono ?_
    rintro e w2 ⟨rfl, hb2⟩
    generalize frN ((xs.length : Int) * s - a * b) ((xs.length : Int) * d - a * a) = pn at *
    generalize frD ((xs.length : Int) * s - a * b) ((xs.length : Int) * d - a * a) = pd at *
    have fA1 : -13000000000 ≤ pn ∧ pn ≤ 13000000000 := by omega
    have fB1 : 0 < pd ∧ pd ≤ 2560000 := by omega
    have t1 := mul_bds (x := b) (y := pd) (A := 3840000) (B := 2560000) (by omega) (by omega) (by omega) (by omega)
    have t2 := mul_bds (x := pn) (y := a) (A := 13000000000) (B := 1600) (by omega) (by omega) (by omega) (by omega)
    have t3 := mul_bds (x := (xs.length : Int)) (y := pd) (A := 8) (B := 2560000) (by omega) (by omega) (by omega) (by omega)
    have t4 : 0 < (xs.length : Int) * pd := Int.mul_pos (by omega) (by omega)
    have P3 : Hid (fTn xs = frN (b * pd - pn * a) ((xs.length : Int) * pd)) := hid (by rw [HG.out, E1.out, E2.out, P1.out, P2.out])
    have P4 : Hid (fTd xs = frD (b * pd - pn * a) ((xs.length : Int) * pd)) := hid (by rw [HE.out, E1.out, E2.out, P1.out, P2.out])
    have hbx := Below.tr (Below.al (Below.refl _ w2) (.cells #[.int .i64 pn, .int .i64 pd] 30)) hb2
    have e0 := ((bcell hbx).1 (w.heap.size) 0 g0).trans e0
    have f0 := ((bcell hbx).2 (w.heap.size) 0 g0).trans f0
    have e1 := ((bcell hbx).1 (w.heap.size) 1 g0).trans e1
    have f1 := ((bcell hbx).2 (w.heap.size) 1 g0).trans f1
    have e2 := ((bcell hbx).1 (w.heap.size + 1) 0 g1).trans e2
    have f2 := ((bcell hbx).2 (w.heap.size + 1) 0 g1).trans f2
    have e3 := ((bcell hbx).1 (w.heap.size + 1) 1 g1).trans e3
    have f3 := ((bcell hbx).2 (w.heap.size + 1) 1 g1).trans f3
    have x0 : (w2.alloc (.cells #[.int .i64 pn, .int .i64 pd] 30)).cell? ⟨w2.heap.size, 0, none⟩ = some (.int .i64 pn) := by simp [go_sem]
    have x1 : (w2.alloc (.cells #[.int .i64 pn, .int .i64 pd] 30)).cell? ⟨w2.heap.size, 1, none⟩ = some (.int .i64 pd) := by simp [go_sem]
    have zx : w2.heap.size < (World.heap (w2.alloc (.cells #[.int .i64 pn, .int .i64 pd] 30))).size := by simp
    have zy := hb2.size
    have hbz : Below w.heap.size w (w2.alloc (.cells #[.int .i64 pn, .int .i64 pd] 30)) := Below.tr hbx hbw
    have n2 : ¬ w2.heap.size = w.heap.size := by omega
    have n3 : ¬ w.heap.size = w2.heap.size := by omega
    have n4 : ¬ w2.heap.size = w.heap.size + 1 := by omega
    have n5 : ¬ w.heap.size + 1 = w2.heap.size := by omega
    clear n1 r1 r2 r3 fA fB aA hp0 a0 a1 b0 b1 s0 s1 q0 q1 hb hbw hb2 H1 H2 H3 H4 HN HD HG HA HB HE HP hbx
    go_wp2_with fail
    generalize w2.alloc (.cells #[.int .i64 pn, .int .i64 pd] 30) = wX at *
    generalize w2.heap.size = px at *
    have gx0 : w.heap.size < wX.heap.size := by omega
    have gx1 : w.heap.size + 1 < wX.heap.size := by omega
    have k1 : IntKind.i64.wrap (b * pd) = b * pd := IntWalk.i64_in _ ⟨by omega, by omega⟩
    have k2 : IntKind.i64.wrap (pn * a) = pn * a := IntWalk.i64_in _ ⟨by omega, by omega⟩
    have k3 : IntKind.i64.wrap (b * pd - pn * a) = b * pd - pn * a := IntWalk.i64_in _ ⟨by omega, by omega⟩
    have k4 : IntKind.i64.wrap ((xs.length : Int) * pd) = (xs.length : Int) * pd := IntWalk.i64_in _ ⟨by omega, by omega⟩
    have CC : ∀ W : World, Calls Try.prog 22 #[.int .i64 (IntKind.i64.wrap (IntKind.i64.wrap (b * pd) - IntKind.i64.wrap (pn * a))), .int .i64 (IntKind.i64.wrap ((xs.length : Int) * pd))] W fun e W' => e = .returned (.agg #[.int .i64 (fTn xs), .int .i64 (fTd xs)]) ∧ Below W.heap.size W W' := fun W => by
      rw [k1, k2, k3, k4, P3.out, P4.out]
      exact lowest_any _ _ _ (by omega) (by omega) (by omega) (by omega)
    clear k1 k2 k3 k4
    go_region_held3 (fun w' => w'.cell? ⟨px, 0, none⟩ = some (.int .i64 pn) ∧ w'.cell? ⟨px, 1, none⟩ = some (.int .i64 pd)) (go_keep)
      ((go_at_call 22; refine (CC _).mono ?_; rintro e w4 ⟨rfl, hb4⟩; have hbd := Below.tr hb4 (Below.drew (Below.refl _ wX)); have y0 := ((bcell hbd).1 px 0 zx).trans x0; have y1 := ((bcell hbd).1 px 1 zx).trans x1; have e0 := ((bcell hbd).1 (w.heap.size) 0 gx0).trans e0; have f0 := ((bcell hbd).2 (w.heap.size) 0 gx0).trans f0; have e1 := ((bcell hbd).1 (w.heap.size) 1 gx0).trans e1; have f1 := ((bcell hbd).2 (w.heap.size) 1 gx0).trans f1; have e2 := ((bcell hbd).1 (w.heap.size + 1) 0 gx1).trans e2; have f2 := ((bcell hbd).2 (w.heap.size + 1) 0 gx1).trans f2; have e3 := ((bcell hbd).1 (w.heap.size + 1) 1 gx1).trans e3; have f3 := ((bcell hbd).2 (w.heap.size + 1) 1 gx1).trans f3))
    all_goals
      have hb5 : Below w.heap.size w w4 := Below.tr hbd hbz
      go_wp2
      refine bodyPost_ret (v := .tuple #[.agg #[.int .i64 (fTn xs), .int .i64 (fTd xs)], .agg #[.int .i64 pn, .int .i64 pd], .int .i64 0]) (by simp [results, Try.results9, go_sem, e0, e1, f0, f1, e2, e3, f2, f3]) rfl ⟨by rw [P1.out, P2.out], ?_⟩
      exact (((hb5.setCell (p := ⟨w.heap.size, 0, none⟩) (Nat.le_refl _) _).setCell (p := ⟨w.heap.size, 1, none⟩) (Nat.le_refl _) _).setCell (p := ⟨w.heap.size + 1, 0, none⟩) (Nat.le_succ _) _).setCell (p := ⟨w.heap.size + 1, 1, none⟩) (Nat.le_succ _) _

end Go.Proofs.Ytlpgnmkhlbddaaa
