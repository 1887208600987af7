/- The slope of a light curve: plain laws and the contract of SlopeOf in the program, at curves that are few and short. -/
import Derived.Test.YthlolfhjnfkcfaaC08b
import Derived.Test.YthlolfhjnfkcfaaCGcd
namespace Go.Proofs.Ythlolfhjnfkcfaa
open Go.RowKit
set_option linter.unusedVariables false
def s1 : List Int → Int | [] => 0 | x :: r => x + s1 r
def s2 : List Int → Int | [] => 0 | x :: r => x * x + s2 r
def dv (x : Int) : List Int → Int | [] => 0 | y :: r => (x - y) * (x - y) + dv x r
theorem dv_eq (x : Int) : ∀ r : List Int, dv x r = (r.length : Int) * (x * x) - 2 * (x * s1 r) + s2 r
  | [] => by simp [dv, s1, s2]
  | y :: r => by
    have ih := dv_eq x r
    simp only [dv, s1, s2, List.length_cons, ih]
    push_cast
    grind
theorem dv_nn (x : Int) : ∀ r : List Int, 0 ≤ dv x r
  | [] => by simp [dv]
  | y :: r => by
    have ih := dv_nn x r
    have h : 0 ≤ (x - y) * (x - y) := by
      rcases Int.le_total 0 (x - y) with h | h
      · exact Int.mul_nonneg h h
      · have := Int.mul_nonneg (a := -(x-y)) (b := -(x-y)) (by omega) (by omega); rwa [Int.neg_mul_neg] at this
    simp only [dv]; omega
def vr (xs : List Int) : Int := (xs.length : Int) * s2 xs - s1 xs * s1 xs
theorem vr_cons (x : Int) (r : List Int) : vr (x :: r) = vr r + dv x r := by
  rw [dv_eq]; simp only [vr, s1, s2, List.length_cons]; push_cast; grind
theorem vr_nn : ∀ xs : List Int, 0 ≤ vr xs
  | [] => by simp [vr, s1, s2]
  | x :: r => by rw [vr_cons]; have := vr_nn r; have := dv_nn x r; omega
theorem vr_pos {x y : Int} (r : List Int) (h : x < y) : 0 < vr (x :: y :: r) := by
  rw [vr_cons]
  have h1 := vr_nn (y :: r)
  have h2 := dv_nn x r
  have h3 : 0 < (x - y) * (x - y) := by
    have := Int.mul_pos (a := y - x) (b := y - x) (by omega) (by omega)
    have e : (x - y) * (x - y) = (y - x) * (y - x) := by grind
    omega
  simp only [dv]; omega
theorem dvd_co {N D k : Int} (h : D ∣ k * N) (hc : Int.gcd N D = 1) : D ∣ k := by
  have h1 : D.natAbs ∣ k.natAbs * N.natAbs := by rw [← Int.natAbs_mul]; exact Int.natAbs_dvd_natAbs.2 h
  have hc' : Nat.Coprime D.natAbs N.natAbs := by unfold Nat.Coprime; rw [Nat.gcd_comm]; exact hc
  exact Int.natAbs_dvd_natAbs.1 (hc'.dvd_of_dvd_mul_right h1)
theorem line_end {num den rise : Int} (hd : 0 < den) (h : 100 * num = rise * den) :
    ∃ G D N : Int, (Int.gcd num den : Int) = G ∧ 0 < G ∧ den = G * D ∧ num = G * N ∧ D ∣ 100 ∧ 0 < D ∧ 100 * N = rise * D := by
  have hg : 0 < (Int.gcd num den : Int) := by have := Int.gcd_pos_of_ne_zero_right num (b := den) (by omega); omega
  obtain ⟨D, hD⟩ := Int.gcd_dvd_right num den
  obtain ⟨N, hN⟩ := Int.gcd_dvd_left num den
  generalize hG : (Int.gcd num den : Int) = G at *
  have hDp : 0 < D := by
    rcases Int.lt_or_le 0 D with h0 | h0
    · exact h0
    · have := Int.mul_nonneg (a := G) (b := -D) (by omega) (by omega); rw [Int.mul_neg] at this; omega
  have e1 : 100 * N = rise * D := by
    have : G * (100 * N) = G * (rise * D) := by rw [hD, hN] at h; grind
    exact Int.eq_of_mul_eq_mul_left (by omega) this
  refine ⟨G, D, N, rfl, hg, hD, hN, ?_, hDp, e1⟩
  have hc : Int.gcd N D = 1 := by
    have := Int.gcd_mul_left G N D
    rw [← hN, ← hD] at this
    have h2 : (Int.gcd num den : Int) = G.natAbs * Int.gcd N D := by rw [this]; push_cast; rfl
    rw [hG] at h2
    have h3 : (G.natAbs : Int) = G := Int.natAbs_of_nonneg (by omega)
    rw [h3] at h2
    have h4 : G * 1 = G * (Int.gcd N D : Int) := by omega
    have := Int.eq_of_mul_eq_mul_left (by omega) h4
    omega
  have h5 : D ∣ 100 * N := ⟨rise, by rw [e1]; exact Int.mul_comm _ _⟩
  exact dvd_co h5 hc

theorem mul_bds {x y A B : Int} (h1 : -A ≤ x) (h2 : x ≤ A) (h3 : -B ≤ y) (h4 : y ≤ B) : -(A * B) ≤ x * y ∧ x * y ≤ A * B := by
  have a1 := Int.mul_nonneg (a := A - x) (b := B - y) (by omega) (by omega)
  have a2 := Int.mul_nonneg (a := A + x) (b := B + y) (by omega) (by omega)
  have a3 := Int.mul_nonneg (a := A - x) (b := B + y) (by omega) (by omega)
  have a4 := Int.mul_nonneg (a := A + x) (b := B - y) (by omega) (by omega)
  simp only [Int.mul_add, Int.add_mul, Int.sub_mul, Int.mul_sub] at a1 a2 a3 a4
  omega
/-! ### The sums of a curve, told from a point on -/
def sT (q : Pt) : List Pt → Int | [] => 0 | p :: r => (p.t - q.t) + sT q r
def sM (q : Pt) : List Pt → Int | [] => 0 | p :: r => (p.m - q.m) + sM q r
def sX (q : Pt) : List Pt → Int | [] => 0 | p :: r => (p.t - q.t) * (p.m - q.m) + sX q r
def sQ (q : Pt) : List Pt → Int | [] => 0 | p :: r => (p.t - q.t) * (p.t - q.t) + sQ q r
def slN (q : Pt) (ys : List Pt) : Int := (ys.length : Int) * sX q ys - sT q ys * sM q ys
def slD (q : Pt) (ys : List Pt) : Int := (ys.length : Int) * sQ q ys - sT q ys * sT q ys
def slG (q : Pt) (ys : List Pt) : Int := (Int.gcd 10000 (frD (slN q ys) (slD q ys)) : Int)
def slA (q : Pt) (ys : List Pt) : Int := frN (slN q ys) (slD q ys) * (10000 / slG q ys)
def slB (q : Pt) (ys : List Pt) : Int := frD (slN q ys) (slD q ys) / slG q ys
theorem frN_le (n d : Int) (hd : 0 < d) : -absI n ≤ frN n d ∧ frN n d ≤ absI n := by
  have h := Int.natAbs_tdiv_le_natAbs n (Int.gcd n d : Int)
  unfold frN absI
  split <;> omega
theorem frD_in (n d : Int) (hd : 0 < d) : 0 < frD n d ∧ frD n d ≤ d := by
  have h1 := gcd_pos (a := n) hd
  have h2 := gcd_le (a := n) hd
  unfold frD
  rw [Int.tdiv_eq_ediv_of_nonneg (by omega)]
  constructor
  · have : 1 * (Int.gcd n d : Int) ≤ d := by omega
    have := Int.le_ediv_of_mul_le h1 this
    omega
  · exact Int.ediv_le_self _ (by omega)
theorem gcd_le10 {D : Int} (hD : 0 < D) : (Int.gcd 10000 D : Int) ≤ 10000 := by
  have h : Int.gcd 10000 D ∣ (10000 : Int).natAbs := Nat.gcd_dvd_left _ _
  have := Nat.le_of_dvd (by omega) h
  omega
theorem countPt_any (A : Option Addr) (n c : Nat) (w : World) :
    Calls Try.prog 26 #[.slice A n c] w fun e w' => e = .returned (.int .i64 n) ∧ w = w' := by
  go_enter Try.func26, Try.ntmps26
  go_wp2
  go_ret
  exact ⟨rfl, rfl⟩
set_option maxRecDepth 20000 in
set_option maxHeartbeats 4000000 in
theorem slopeFew_any (A : Option Addr) (c : Nat) (xs : List Pt) (w : World) (h : Rd encPt 2 w w.heap.size A xs) (hn : xs.length ≤ 1) (hv : cvB xs = true) :
    Calls Try.prog 13 #[.slice A xs.length c] w fun e w' => e = .returned (.tuple #[.agg #[.int .i64 0, .int .i64 0], .int .i64 3]) ∧ Below w.heap.size w w' := by
  have h0 : decide ((xs.length : Int) < 2) = true := by simp; omega
  go_enter Try.func13, Try.ntmps13
  go_wp2_with (go_at_call 25; refine (validCurve_any A c xs _ ((h.below (B' := w.heap.size) (by repeat (first | assumption | exact Below.refl _ _ | apply Below.al | apply Below.drewN' | apply Below.drew | (apply Below.tr; assumption))) (Nat.le_refl _)).more (by first | (simp; done) | (simp; omega))) (by omega)).mono ?_; rintro e w1 ⟨rfl, hb1⟩; obtain ⟨hc_w1, hf_w1⟩ := bcell hb1; have hz_w1 := hb1.size; (try simp at hz_w1); (try have g_w1 : w.heap.size < w1.heap.size := (by omega)))
  exact bodyPost_ret (v := .tuple #[.agg #[.int .i64 0, .int .i64 0], .int .i64 3]) (by simp [results, Try.results13, go_sem, hc_w1, hf_w1]) rfl ⟨rfl, (by repeat (first | assumption | exact Below.refl _ _ | apply Below.al | apply Below.drewN' | apply Below.drew | (refine Below.sc ?_ (by first | omega | (simp; done) | (simp; omega)) _) | (apply Below.tr; assumption)))⟩
set_option maxRecDepth 20000 in
set_option maxHeartbeats 4000000 in
theorem slope_any (A : Option Addr) (c : Nat) (xs : List Pt) (q : Pt) (w : World) (h : Rd encPt 2 w w.heap.size A xs) (hn1 : 2 ≤ xs.length) (hn2 : xs.length ≤ 12) (hv : cvB xs = true) (ht : ∀ p ∈ xs, 0 ≤ p.t ∧ p.t ≤ 60000) (hq : xs[0]? = some q) (hd : 0 < slD q xs) :
    Calls Try.prog 13 #[.slice A xs.length c] w fun e w' => e = .returned (.tuple #[.agg #[.int .i64 (slA q xs), .int .i64 (slB q xs)], .int .i64 0]) ∧ Below w.heap.size w w' := by
  have h0 : decide ((xs.length : Int) < 2) = false := by simp; omega
  have V := hid (cvB_at hv)
  have HT := hid ht
  have HQ := hid hq
  have HP := hid hd
  have HA : Hid (slA q xs = frN (slN q xs) (slD q xs) * (10000 / slG q xs)) := hid rfl
  have HB : Hid (slB q xs = frD (slN q xs) (slD q xs) / slG q xs) := hid rfl
  have HG : Hid (slG q xs = (Int.gcd 10000 (frD (slN q xs) (slD q xs)) : Int)) := hid rfl
  have HN : Hid (slN q xs = (xs.length : Int) * sX q xs - sT q xs * sM q xs) := hid rfl
  have HD : Hid (slD q xs = (xs.length : Int) * sQ q xs - sT q xs * sT q xs) := hid rfl
  clear ht hq hd
  go_enter Try.func13, Try.ntmps13
  go_wp2_with (first | (go_at_call 25; refine (validCurve_any A c xs _ ((h.below (B' := w.heap.size) (by repeat (first | assumption | exact Below.refl _ _ | apply Below.al | apply Below.drewN' | apply Below.drew | (apply Below.tr; assumption))) (Nat.le_refl _)).more (by first | (simp; done) | (simp; omega))) (by omega)).mono ?_; rintro e w1 ⟨rfl, hb1⟩; obtain ⟨hc_w1, hf_w1⟩ := bcell hb1; have hz_w1 := hb1.size; (try simp at hz_w1); (try have g_w1 : w.heap.size < w1.heap.size := (by omega))) | (go_at_call 26; refine (countPt_any _ _ _ _).mono ?_; rintro e w' ⟨rfl, rfl⟩))
  clear hv h0
  go_loopw [5, 6, 7, 8, 29] (fun tv mv xv qv i wr => ∃ (k : Nat) (a b c d : Int), k ≤ xs.length ∧ i = .int .i64 k ∧ tv = .int .i64 a ∧ mv = .int .i64 b ∧ xv = .int .i64 c ∧ qv = .int .i64 d ∧ -(k * 60000) ≤ a ∧ a ≤ k * 60000 ∧ -(k * 22000) ≤ b ∧ b ≤ k * 22000 ∧ -(k * 1320000000) ≤ c ∧ c ≤ k * 1320000000 ∧ -(k * 3600000000) ≤ d ∧ d ≤ k * 3600000000 ∧ Below (World.heap (w.alloc (.cells #[.int .i64 0, .int .i64 0] 41))).size (w.alloc (.cells #[.int .i64 0, .int .i64 0] 41)) wr ∧ Hid (sT q xs = a + sT q (xs.drop k)) ∧ Hid (sM q xs = b + sM q (xs.drop k)) ∧ Hid (sX q xs = c + sX q (xs.drop k)) ∧ Hid (sQ q xs = d + sQ q (xs.drop k))) (fun _ _ _ _ i _ => xs.length - (intOf i).toNat)
  case atStart => exact ⟨0, 0, 0, 0, 0, Nat.zero_le _, rfl, rfl, rfl, rfl, rfl, by omega, by omega, by omega, by omega, by omega, by omega, by omega, by omega, (by repeat (first | assumption | exact Below.refl _ _ | apply Below.al | apply Below.drewN' | apply Below.drew | (apply Below.tr; assumption))), hid (by simp), hid (by simp), hid (by simp), hid (by simp)⟩
  case round =>
  obtain ⟨k, a, b, s, d, hk, rfl, rfl, rfl, rfl, rfl, a0, a1, b0, b1, s0, s1, d0, d1, hb, H1, H2, H3, H4⟩ := hrel
  have hbw : Below w.heap.size w wr := Below.tr hb (by repeat (first | assumption | exact Below.refl _ _ | apply Below.al | apply Below.drewN' | apply Below.drew | (apply Below.tr; assumption)))
  have hsz := hb.size
  simp at hsz
  have g0 : w.heap.size < wr.heap.size := by omega
  by_cases hlt : k < xs.length
  · obtain ⟨p, hp⟩ := getx hlt
    obtain ⟨bb, o, rfl, hbB, c0, c1⟩ := (h.below hbw (Nat.le_refl _)).at2 hp rfl
    obtain ⟨_, _, ee, _, f0, f1⟩ := (h.below hbw (Nat.le_refl _)).at2 HQ.out rfl
    simp at ee; obtain ⟨rfl, rfl⟩ := ee
    simp only [Nat.mul_zero, Nat.zero_mul, Nat.add_zero] at f0 f1
    obtain ⟨p1, p2, p3, p4⟩ := V.out k p hp
    obtain ⟨q1, q2, q3, q4⟩ := V.out 0 q HQ.out
    obtain ⟨p5, p6⟩ := HT.out p (List.mem_of_getElem? hp)
    obtain ⟨q5, q6⟩ := HT.out q (List.mem_of_getElem? HQ.out)
    have HS1 : Hid (sT q (xs.drop k) = (p.t - q.t) + sT q (xs.drop (k+1))) := by rw [dropx hp]; rfl
    have HS2 : Hid (sM q (xs.drop k) = (p.m - q.m) + sM q (xs.drop (k+1))) := by rw [dropx hp]; rfl
    have HS3 : Hid (sX q (xs.drop k) = (p.t - q.t) * (p.m - q.m) + sX q (xs.drop (k+1))) := by rw [dropx hp]; rfl
    have HS4 : Hid (sQ q (xs.drop k) = (p.t - q.t) * (p.t - q.t) + sQ q (xs.drop (k+1))) := by rw [dropx hp]; rfl
    have bx : bb < wr.heap.size := by omega
    have hk0 : 0 < xs.length := by omega
    have m1 := mul_bds (x := p.t - q.t) (y := p.m - q.m) (A := 60000) (B := 22000) (by omega) (by omega) (by omega) (by omega)
    have m2 := mul_bds (x := p.t - q.t) (y := p.t - q.t) (A := 60000) (B := 60000) (by omega) (by omega) (by omega) (by omega)
    clear hp
    have y0 : (wr.alloc (.cells #[.int .i64 p.t, .int .i64 p.m] 45)).cell? ⟨wr.heap.size, 0, none⟩ = some (.int .i64 p.t) := by simp [go_sem]
    have y1 : (wr.alloc (.cells #[.int .i64 p.t, .int .i64 p.m] 45)).cell? ⟨wr.heap.size, 1, none⟩ = some (.int .i64 p.m) := by simp [go_sem]
    have y2 := ((bcell (Below.al (Below.refl _ wr) (.cells #[.int .i64 p.t, .int .i64 p.m] 45))).1 bb _ bx).trans f0
    have y3 := ((bcell (Below.al (Below.refl _ wr) (.cells #[.int .i64 p.t, .int .i64 p.m] 45))).1 bb _ bx).trans f1
    have z5 : wr.heap.size < (World.heap (wr.alloc (.cells #[.int .i64 p.t, .int .i64 p.m] 45))).size := by simp
    have z6 : bb < (World.heap (wr.alloc (.cells #[.int .i64 p.t, .int .i64 p.m] 45))).size := by simp; omega
    have hbL := Below.tr (Below.al (Below.refl _ wr) (.cells #[.int .i64 p.t, .int .i64 p.m] 45)) hb
    have hzL : wr.heap.size ≤ (World.heap (wr.alloc (.cells #[.int .i64 p.t, .int .i64 p.m] 45))).size := by simp
    clear f0 f1
    go_wp2_with fail
    clear c0 c1
    generalize wr.alloc (.cells #[.int .i64 p.t, .int .i64 p.m] 45) = wL at *
    generalize wr.heap.size = pL at *
    refine wp_region_ext (by kernel_rfl) (by kernel_rfl) ?_
    repeat (go_big_quiet_step ((first | fail)))
    refine wpQuiet_nil ?_
    intro w3 hb3
    obtain ⟨hc_w3, hf_w3⟩ := bcell hb3
    have hz_w3 := hb3.size
    have hb3' := Below.tr hb3 hbL
    clear hc_w3 hf_w3 y0 y1 y2 y3
    go_wp2
    go_roundw
    case rel => exact ⟨k + 1, a + (p.t - q.t), b + (p.m - q.m), s + (p.t - q.t) * (p.m - q.m), d + (p.t - q.t) * (p.t - q.t), by omega, by go_num, rfl, rfl, rfl, rfl, by push_cast; omega, by push_cast; omega, by push_cast; omega, by push_cast; omega, by push_cast; omega, by push_cast; omega, by push_cast; omega, by push_cast; omega, hb3', hid (by rw [H1.out, HS1.out]; omega), hid (by rw [H2.out, HS2.out]; omega), hid (by rw [H3.out, HS3.out]; omega), hid (by rw [H4.out, HS4.out]; omega)⟩
    case measure => simp [intOf]; omega
  · have hkl : k = xs.length := by omega
    have E1 : sT q xs = a := by rw [H1.out, List.drop_eq_nil_of_le (by omega)]; simp [sT]
    have E2 : sM q xs = b := by rw [H2.out, List.drop_eq_nil_of_le (by omega)]; simp [sM]
    have E3 : sX q xs = s := by rw [H3.out, List.drop_eq_nil_of_le (by omega)]; simp [sX]
    have E4 : sQ q xs = d := by rw [H4.out, List.drop_eq_nil_of_le (by omega)]; simp [sQ]
    have e0 : wr.cell? ⟨w.heap.size, 0, none⟩ = some (.int .i64 0) := by rw [(bcell hb).1 (w.heap.size) 0 (by first | (simp; done) | (simp; omega))]; simp [go_sem]
    have e1 : wr.cell? ⟨w.heap.size, 1, none⟩ = some (.int .i64 0) := by rw [(bcell hb).1 (w.heap.size) 1 (by first | (simp; done) | (simp; omega))]; simp [go_sem]
    have f0 : wr.frozen? ⟨w.heap.size, 0, none⟩ = false := by rw [(bcell hb).2 (w.heap.size) 0 (by first | (simp; done) | (simp; omega))]; simp [go_sem]
    have f1 : wr.frozen? ⟨w.heap.size, 1, none⟩ = false := by rw [(bcell hb).2 (w.heap.size) 1 (by first | (simp; done) | (simp; omega))]; simp [go_sem]
    have n1 := mul_bds (x := (xs.length : Int)) (y := s) (A := 12) (B := 20000000000) (by omega) (by omega) (by omega) (by omega)
    have n2 := mul_bds (x := (xs.length : Int)) (y := d) (A := 12) (B := 50000000000) (by omega) (by omega) (by omega) (by omega)
    have n3 := mul_bds (x := a) (y := b) (A := 720000) (B := 264000) (by omega) (by omega) (by omega) (by omega)
    have n4 := mul_bds (x := a) (y := a) (A := 720000) (B := 720000) (by omega) (by omega) (by omega) (by omega)
    have EN : slN q xs = (xs.length : Int) * s - a * b := by rw [HN.out, E1, E2, E3]
    have ED : slD q xs = (xs.length : Int) * d - a * a := by rw [HD.out, E1, E4]
    have hp0 := HP.out
    rw [ED] at hp0
    have HA2 : Hid (slA q xs = frN ((xs.length : Int) * s - a * b) ((xs.length : Int) * d - a * a) * (10000 / (Int.gcd 10000 (frD ((xs.length : Int) * s - a * b) ((xs.length : Int) * d - a * a)) : Int))) := hid (by rw [HA.out, HG.out, EN, ED])
    have HB2 : Hid (slB q xs = frD ((xs.length : Int) * s - a * b) ((xs.length : Int) * d - a * a) / (Int.gcd 10000 (frD ((xs.length : Int) * s - a * b) ((xs.length : Int) * d - a * a)) : Int)) := hid (by rw [HB.out, HG.out, EN, ED])
    clear E1 E2 E3 E4 EN ED hkl
    have r1 : -1000000000000 ≤ (xs.length : Int) * s - a * b := by omega
    have r2 : (xs.length : Int) * s - a * b ≤ 1000000000000 := by omega
    have r3 : (xs.length : Int) * d - a * a ≤ 2000000000000 := by omega
    have fA := frN_le ((xs.length : Int) * s - a * b) ((xs.length : Int) * d - a * a) hp0
    have fB := frD_in ((xs.length : Int) * s - a * b) ((xs.length : Int) * d - a * a) hp0
    have gp := gcd_pos (a := 10000) fB.1
    have gl := gcd_le10 fB.1
    have aA : absI ((xs.length : Int) * s - a * b) ≤ 1000000000000 := by unfold absI; omega
    go_wp2_with fail
    refine (lowest_any _ _ _ (by omega) (by omega) hp0 (by omega)).mono ?_
    rintro e w2 ⟨rfl, hb2⟩
    generalize frN ((xs.length : Int) * s - a * b) ((xs.length : Int) * d - a * a) = fn at *
    generalize frD ((xs.length : Int) * s - a * b) ((xs.length : Int) * d - a * a) = fd at *
    have fA1 : -1000000000000 ≤ fn ∧ fn ≤ 1000000000000 := by omega
    have fB1 : 0 < fd ∧ fd ≤ 2000000000000 := by omega
    have e0 := ((bcell hb2).1 (w.heap.size) 0 g0).trans e0
    have e1 := ((bcell hb2).1 (w.heap.size) 1 g0).trans e1
    have f0 := ((bcell hb2).2 (w.heap.size) 0 g0).trans f0
    have f1 := ((bcell hb2).2 (w.heap.size) 1 g0).trans f1
    have g2 : w.heap.size < w2.heap.size := by have := hb2.size; omega
    have hb22 : Below w.heap.size w w2 := Below.tr hb2 hbw
    clear n1 n2 n3 n4 r1 r2 r3 fA fB aA hp0 a0 a1 b0 b1 s0 s1 d0 d1 hb hbw hb2 H1 H2 H3 H4 HN HD HG HA HB
    go_wp2_with fail
    refine (gcd_any _ _ _ (by omega) (by omega) (by omega) (by omega)).mono ?_
    rintro e w4 ⟨rfl, hb4⟩
    generalize (Int.gcd 10000 fd : Int) = g at *
    have k0 : (g == 0) = false := by simp; omega
    have k1 : (g == -1) = false := by simp; omega
    have v1 : 0 ≤ 10000 / g := Int.ediv_nonneg (by omega) (by omega)
    have v2 : 10000 / g ≤ 10000 := Int.ediv_le_self _ (by omega)
    have v3 : 0 ≤ fd / g := Int.ediv_nonneg (by omega) (by omega)
    have v4 : fd / g ≤ fd := Int.ediv_le_self _ (by omega)
    have v5 := mul_bds (x := fn) (y := 10000 / g) (A := 1000000000000) (B := 10000) (by omega) (by omega) (by omega) (by omega)
    have z4 := hb4.size
    simp at z4
    have x0 := ((bcell hb4).1 (w2.heap.size) 0 (by simp)).trans (show (w2.alloc (.cells #[.int .i64 fn, .int .i64 fd] 41)).cell? ⟨w2.heap.size, 0, none⟩ = some (.int .i64 fn) from by simp [go_sem])
    have x1 := ((bcell hb4).1 (w2.heap.size) 1 (by simp)).trans (show (w2.alloc (.cells #[.int .i64 fn, .int .i64 fd] 41)).cell? ⟨w2.heap.size, 1, none⟩ = some (.int .i64 fd) from by simp [go_sem])
    have hbx := Below.tr hb4 (Below.al (Below.refl _ w2) (.cells #[.int .i64 fn, .int .i64 fd] 41))
    have e0 := ((bcell hbx).1 (w.heap.size) 0 g2).trans e0
    have e1 := ((bcell hbx).1 (w.heap.size) 1 g2).trans e1
    have f0 := ((bcell hbx).2 (w.heap.size) 0 g2).trans f0
    have f1 := ((bcell hbx).2 (w.heap.size) 1 g2).trans f1
    have hbz : Below w.heap.size w w4 := Below.tr hbx hb22
    have g4 : w.heap.size < w4.heap.size := by omega
    have n2 : ¬ w2.heap.size = w.heap.size := by omega
    have n3 : ¬ w.heap.size = w2.heap.size := by omega
    clear hb4 hbx hb22
    go_wp2_with fail
    go_region
    go_wp2
    refine bodyPost_ret (v := .tuple #[.agg #[.int .i64 (slA q xs), .int .i64 (slB q xs)], .int .i64 0]) (by rw [HA2.out, HB2.out]; simp [results, Try.results13, go_sem, e0, e1, f0, f1]) rfl ⟨rfl, ?_⟩
    exact ((hbz.setCell (p := ⟨w.heap.size, 0, none⟩) (Nat.le_refl _) _).setCell (p := ⟨w.heap.size, 1, none⟩) (Nat.le_refl _) _).drew

end Go.Proofs.Ythlolfhjnfkcfaa
