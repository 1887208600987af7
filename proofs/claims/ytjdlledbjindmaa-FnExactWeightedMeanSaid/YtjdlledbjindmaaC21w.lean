/- Contracts: the weighted mean, in the program and in the reference. -/
import Derived.Test.YtjdlledbjindmaaC21m
namespace Go.Proofs.Ytjdlledbjindmaa
open Go.RowKit
set_option linter.unusedVariables false
theorem wtsB_true2 {xs ws : List Int} (h : wtsB xs ws = true) : ws.length = xs.length ∧ ∀ (k : Nat) (p : Int), ws[k]? = some p → 0 ≤ p ∧ p ≤ 100 := by
  simp only [wtsB, Bool.and_eq_true, decide_eq_true_eq, List.all_eq_true] at h
  exact ⟨h.1, fun k p hp => inB_true.1 (h.2 p (List.mem_of_getElem? hp))⟩
def tW : List Int → List Int → Int
  | x :: r, y :: s => x * y + tW r s
  | _, _ => 0
def wmC (xs ws : List Int) : Int := if magsB xs = true ∧ wtsB xs ws = true then (if sumI ws = 0 then 6 else 0) else 2
def wmN (xs ws : List Int) : Int := if wmC xs ws = 0 then frN (tW xs ws) (sumI ws) else 0
def wmD (xs ws : List Int) : Int := if wmC xs ws = 0 then frD (tW xs ws) (sumI ws) else 0
set_option maxRecDepth 20000 in
set_option maxHeartbeats 4000000 in
theorem specWeightedMean_any (A : Option Addr) (c : Nat) (xs : List Int) (A' : Option Addr) (c' : Nat) (ys : List Int) (w : World) (h : Rd encI 1 w w.heap.size A xs) (hn : xs.length ≤ 1048576) (h' : Rd encI 1 w w.heap.size A' ys) (hn' : ys.length ≤ 1048576) :
    Calls Try.prog 15 #[.slice A xs.length c, .slice A' ys.length c'] w fun e w' => e = .returned (.tuple #[.agg #[.int .i64 (wmN xs ys), .int .i64 (wmD xs ys)], .int .i64 (wmC xs ys)]) ∧ Below w.heap.size w w' := by
  cases h1 : magsB xs
  · have HC : Hid (wmC xs ys = 2) := by simp [Hid, wmC, h1]
    have HO : Hid (wmN xs ys = 0) := by simp [Hid, wmN, HC.out]
    have HF : Hid (wmD xs ys = 0) := by simp [Hid, wmD, HC.out]
    have HM := hid (show codeMags xs = _ by unfold codeMags; rw [h1])
    first
      | (have HN1 : (codeMags xs == 0) = true := by rw [HM.out]; rfl)
      | (have HN1 : (codeMags xs == 0) = false := by rw [HM.out]; rfl)
    first
      | (have HN2 : (codeMags xs != 0) = true := by rw [HM.out]; rfl)
      | (have HN2 : (codeMags xs != 0) = false := by rw [HM.out]; rfl)
    have HK : Hid (codeMags xs = 2) := hid (by rw [HM.out]; rfl)
    go_enter Try.func15, Try.ntmps15
    go_wp2_with (first | (go_at_call 17; refine (l02List_any A c xs _ ((h.below (B' := w.heap.size) (by repeat (first | assumption | exact Below.refl _ _ | apply Below.al | apply Below.drewN' | apply Below.drew | (apply Below.tr; assumption))) (Nat.le_refl _)).more (by first | omega | (simp; done) | (simp; omega))) hn).mono ?_; rintro e w1 ⟨rfl, hb1⟩; obtain ⟨hc_w1, hf_w1⟩ := bcell hb1; have hz_w1 := hb1.size; (try simp at hz_w1); (try have g_w1 : w.heap.size < w1.heap.size := (by omega))) | (go_at_call 28; refine (l21Weights_any A A' c c' xs ys _ ((h'.below (B' := w.heap.size) (by repeat (first | assumption | exact Below.refl _ _ | apply Below.al | apply Below.drewN' | apply Below.drew | (apply Below.tr; assumption))) (Nat.le_refl _)).more (by first | omega | (simp; done) | (simp; omega))) hn hn').mono ?_; rintro e w2 ⟨rfl, hb2⟩; obtain ⟨hc_w2, hf_w2⟩ := bcell hb2; have hz_w2 := hb2.size; (try simp at hz_w2); (try have g_w2 : w.heap.size < w2.heap.size := (by omega))))
    exact bodyPost_ret (v := .tuple #[.agg #[.int .i64 (wmN xs ys), .int .i64 (wmD xs ys)], .int .i64 (wmC xs ys)]) (by rw [HO.out, HF.out, HC.out]; simp [results, Try.results15, go_sem, hc_w1, hf_w1, HK.out]) rfl ⟨rfl, (by repeat (first | assumption | exact Below.refl _ _ | apply Below.al | apply Below.drewN' | apply Below.drew | (refine Below.sc ?_ (by first | omega | (simp; done) | (simp; omega)) _) | (apply Below.tr; assumption)))⟩
  cases h2 : wtsB xs ys
  · have HC : Hid (wmC xs ys = 2) := by simp [Hid, wmC, h1, h2]
    have HO : Hid (wmN xs ys = 0) := by simp [Hid, wmN, HC.out]
    have HF : Hid (wmD xs ys = 0) := by simp [Hid, wmD, HC.out]
    have HM := hid (show codeMags xs = _ by unfold codeMags; rw [h1])
    first
      | (have HN1 : (codeMags xs == 0) = true := by rw [HM.out]; rfl)
      | (have HN1 : (codeMags xs == 0) = false := by rw [HM.out]; rfl)
    first
      | (have HN2 : (codeMags xs != 0) = true := by rw [HM.out]; rfl)
      | (have HN2 : (codeMags xs != 0) = false := by rw [HM.out]; rfl)
    have HK : Hid (codeMags xs = 0) := hid (by rw [HM.out]; rfl)
    go_enter Try.func15, Try.ntmps15
    go_wp2_with (first | (go_at_call 17; refine (l02List_any A c xs _ ((h.below (B' := w.heap.size) (by repeat (first | assumption | exact Below.refl _ _ | apply Below.al | apply Below.drewN' | apply Below.drew | (apply Below.tr; assumption))) (Nat.le_refl _)).more (by first | omega | (simp; done) | (simp; omega))) hn).mono ?_; rintro e w1 ⟨rfl, hb1⟩; obtain ⟨hc_w1, hf_w1⟩ := bcell hb1; have hz_w1 := hb1.size; (try simp at hz_w1); (try have g_w1 : w.heap.size < w1.heap.size := (by omega))) | (go_at_call 28; refine (l21Weights_any A A' c c' xs ys _ ((h'.below (B' := w.heap.size) (by repeat (first | assumption | exact Below.refl _ _ | apply Below.al | apply Below.drewN' | apply Below.drew | (apply Below.tr; assumption))) (Nat.le_refl _)).more (by first | omega | (simp; done) | (simp; omega))) hn hn').mono ?_; rintro e w2 ⟨rfl, hb2⟩; obtain ⟨hc_w2, hf_w2⟩ := bcell hb2; have hz_w2 := hb2.size; (try simp at hz_w2); (try have g_w2 : w.heap.size < w2.heap.size := (by omega))))
    have e2 : w2.cell? ⟨w.heap.size, 0, none⟩ = some (.int .i64 0) := ((bcell hb2).1 (w.heap.size) 0 g_w1).trans ((hc_w1 (w.heap.size) 0 (by first | (simp; done) | (simp; omega))).trans (by simp [go_sem]))
    have e3 : w2.cell? ⟨w.heap.size, 1, none⟩ = some (.int .i64 0) := ((bcell hb2).1 (w.heap.size) 1 g_w1).trans ((hc_w1 (w.heap.size) 1 (by first | (simp; done) | (simp; omega))).trans (by simp [go_sem]))
    have f2 : w2.frozen? ⟨w.heap.size, 0, none⟩ = false := ((bcell hb2).2 (w.heap.size) 0 g_w1).trans ((hf_w1 (w.heap.size) 0 (by first | (simp; done) | (simp; omega))).trans (by simp [go_sem]))
    have f3 : w2.frozen? ⟨w.heap.size, 1, none⟩ = false := ((bcell hb2).2 (w.heap.size) 1 g_w1).trans ((hf_w1 (w.heap.size) 1 (by first | (simp; done) | (simp; omega))).trans (by simp [go_sem]))
    exact bodyPost_ret (v := .tuple #[.agg #[.int .i64 (wmN xs ys), .int .i64 (wmD xs ys)], .int .i64 (wmC xs ys)]) (by rw [HO.out, HF.out, HC.out]; simp [results, Try.results15, go_sem, e2, e3, f2, f3, HK.out]) rfl ⟨rfl, (by repeat (first | assumption | exact Below.refl _ _ | apply Below.al | apply Below.drewN' | apply Below.drew | (refine Below.sc ?_ (by first | omega | (simp; done) | (simp; omega)) _) | (apply Below.tr; assumption)))⟩
  have HM := hid (show codeMags xs = _ by unfold codeMags; rw [h1])
  have HN1 : (codeMags xs == 0) = true := by rw [HM.out]; rfl
  have HN2 : (codeMags xs != 0) = false := by rw [HM.out]; rfl
  obtain ⟨hl, hx⟩ := magsB_true h1
  obtain ⟨hl2, hy⟩ := wtsB_true2 h2
  have HL := hid hl2
  have hl3 : ys.length ≤ 100 := by omega
  have X := hid hx
  have Y : Hid (∀ (k : Nat) (p : Int), ys[k]? = some p → -20000 ≤ p ∧ p ≤ 20000) := hid (fun k p hp => by have := hy k p hp; omega)
  have Y2 := hid hy
  have ys0 := sumI_nn ys (fun k p hp => (hy k p hp).1)
  obtain ⟨ys1, ys2⟩ := sumI_bd ys 100 hl3 Y.out
  have HCC := hid (show wmC xs ys = if sumI ys = 0 then 6 else 0 by unfold wmC; rw [if_pos ⟨h1, h2⟩])
  clear hx hy hl2
  go_enter Try.func15, Try.ntmps15
  go_wp2_with (first | (go_at_call 17; refine (l02List_any A c xs _ ((h.below (B' := w.heap.size) (by repeat (first | assumption | exact Below.refl _ _ | apply Below.al | apply Below.drewN' | apply Below.drew | (apply Below.tr; assumption))) (Nat.le_refl _)).more (by first | omega | (simp; done) | (simp; omega))) hn).mono ?_; rintro e w1 ⟨rfl, hb1⟩; obtain ⟨hc_w1, hf_w1⟩ := bcell hb1; have hz_w1 := hb1.size; (try simp at hz_w1); (try have g_w1 : w.heap.size < w1.heap.size := (by omega))) | (go_at_call 28; refine (l21Weights_any A A' c c' xs ys _ ((h'.below (B' := w.heap.size) (by repeat (first | assumption | exact Below.refl _ _ | apply Below.al | apply Below.drewN' | apply Below.drew | (apply Below.tr; assumption))) (Nat.le_refl _)).more (by first | omega | (simp; done) | (simp; omega))) hn hn').mono ?_; rintro e w2 ⟨rfl, hb2⟩; obtain ⟨hc_w2, hf_w2⟩ := bcell hb2; have hz_w2 := hb2.size; (try simp at hz_w2); (try have g_w2 : w.heap.size < w2.heap.size := (by omega))))
  clear h1 h2
  go_loopw [7, 8, 9] (fun tv wv i wr => ∃ (k : Nat) (a b : Int), k ≤ xs.length ∧ i = .int .i64 k ∧ tv = .int .i64 a ∧ -(k * 2000000) ≤ a ∧ a ≤ k * 2000000 ∧ Below (World.heap (w.alloc (.cells #[.int .i64 0, .int .i64 0] 30))).size (w.alloc (.cells #[.int .i64 0, .int .i64 0] 30)) wr ∧ Hid (tW xs ys = a + tW (xs.drop k) (ys.drop k)) ∧ wv = .int .i64 b ∧ 0 ≤ b ∧ b ≤ k * 100 ∧ Hid (sumI ys = b + sumI (ys.drop k))) (fun _ _ i _ => xs.length - (intOf i).toNat)
  case atStart => exact ⟨0, 0, 0, Nat.zero_le _, rfl, rfl, by omega, by omega, (by repeat (first | assumption | exact Below.refl _ _ | apply Below.al | apply Below.drewN' | apply Below.drew | (apply Below.tr; assumption))), hid (by simp), rfl, by omega, by omega, hid (by simp)⟩
  case round =>
  obtain ⟨k, a, b, hk, rfl, rfl, a0, a1, hb, H, rfl, b1, b2, H2⟩ := hrel
  have hbw : Below w.heap.size w wr := Below.tr hb (by repeat (first | assumption | exact Below.refl _ _ | apply Below.al | apply Below.drewN' | apply Below.drew | (apply Below.tr; assumption)))
  have hsz := hb.size
  simp at hsz
  have g0 : w.heap.size < wr.heap.size := by omega
  by_cases hlt : k < xs.length
  · obtain ⟨p, hp⟩ := getx hlt
    obtain ⟨bb, o, rfl, hbB, c0⟩ := (h.below hbw (Nat.le_refl _)).at1 hp rfl
    obtain ⟨q, hq⟩ : ∃ q, ys[k]? = some q := getx (by have := HL.out; omega)
    obtain ⟨bb', o', rfl, hbB', d0⟩ := (h'.below hbw (Nat.le_refl _)).at1 hq rfl
    obtain ⟨p1, p2⟩ := X.out k p hp
    obtain ⟨q1, q2⟩ := Y2.out k q hq
    obtain ⟨m1, m2⟩ := mul_bd (a := p) (b := q) (A := 20000) (B := 100) (by omega) (by omega) (by omega) (by omega)
    have m1 : -2000000 ≤ p * q := by omega
    have m2 : p * q ≤ 2000000 := by omega
    have HS : Hid (tW (xs.drop k) (ys.drop k) = p * q + tW (xs.drop (k+1)) (ys.drop (k+1))) := by rw [dropx hp, dropx hq]; rfl
    have HS2 : Hid (sumI (ys.drop k) = q + sumI (ys.drop (k+1))) := by rw [dropx hq]; rfl
    have bx : bb < wr.heap.size := by omega
    have bx' : bb' < wr.heap.size := by omega
    have ky : k < ys.length := by have := HL.out; omega
    clear hp hq
    go_wp2
    all_goals first
      | (refine wp_region_ext (by kernel_rfl) (by kernel_rfl) ?_
         repeat (go_big_quiet_step ((first | fail)))
         refine wpQuiet_nil ?_
         intro w3 hb3
         obtain ⟨hc_w3, hf_w3⟩ := bcell hb3
         have hz_w3 := hb3.size
         go_wp2)
      | skip
    go_roundw
    case rel => exact ⟨k + 1, a + p * q, b + q, by omega, by go_num, rfl, by push_cast; omega, by push_cast; omega, (by repeat (first | assumption | exact Below.refl _ _ | apply Below.al | apply Below.drewN' | apply Below.drew | (apply Below.tr; assumption))), hid (by rw [H.out, HS.out]; omega), rfl, by omega, by push_cast; omega, hid (by rw [H2.out, HS2.out]; omega)⟩
    case measure => simp [intOf]; omega
  · have HE : Hid (tW xs ys = a) := hid (by rw [H.out, List.drop_eq_nil_of_le (by omega)]; simp [tW])
    have HE2 : Hid (sumI ys = b) := hid (by rw [H2.out, List.drop_eq_nil_of_le (by have := HL.out; omega)]; simp [sumI])
    have e0 : wr.cell? ⟨w.heap.size, 0, none⟩ = some (.int .i64 0) := by rw [(bcell hb).1 (w.heap.size) 0 (by first | (simp; done) | (simp; omega))]; simp [go_sem]
    have e1 : wr.cell? ⟨w.heap.size, 1, none⟩ = some (.int .i64 0) := by rw [(bcell hb).1 (w.heap.size) 1 (by first | (simp; done) | (simp; omega))]; simp [go_sem]
    have f0 : wr.frozen? ⟨w.heap.size, 0, none⟩ = false := by rw [(bcell hb).2 (w.heap.size) 0 (by first | (simp; done) | (simp; omega))]; simp [go_sem]
    have f1 : wr.frozen? ⟨w.heap.size, 1, none⟩ = false := by rw [(bcell hb).2 (w.heap.size) 1 (by first | (simp; done) | (simp; omega))]; simp [go_sem]
    by_cases hz : b = 0
    · have HC : Hid (wmC xs ys = 6) := hid (by rw [HCC.out, if_pos (by rw [HE2.out]; exact hz)])
      have HO : Hid (wmN xs ys = 0) := by simp [Hid, wmN, HC.out]
      have HF : Hid (wmD xs ys = 0) := by simp [Hid, wmD, HC.out]
      have hz' : (b == 0) = true := by simpa using hz
      clear hz
      go_wp2
      exact bodyPost_ret (v := .tuple #[.agg #[.int .i64 (wmN xs ys), .int .i64 (wmD xs ys)], .int .i64 (wmC xs ys)]) (by rw [HO.out, HF.out, HC.out]; simp [results, Try.results15, go_sem, e0, e1, f0, f1]) rfl ⟨rfl, (by repeat (first | assumption | exact Below.refl _ _ | apply Below.al | apply Below.drewN' | apply Below.drew | (refine Below.sc ?_ (by first | omega | (simp; done) | (simp; omega)) _) | (apply Below.tr; assumption)))⟩
    · have HC : Hid (wmC xs ys = 0) := hid (by rw [HCC.out, if_neg (by rw [HE2.out]; exact hz)])
      have HO : Hid (wmN xs ys = frN a b) := by simp [Hid, wmN, HC.out, HE.out, HE2.out]
      have HF : Hid (wmD xs ys = frD a b) := by simp [Hid, wmD, HC.out, HE.out, HE2.out]
      have hz' : (b == 0) = false := by simpa using hz
      have hzp : 0 < b := by omega
      clear hz
      go_wp2_with (go_at_call 24; refine (l02Make_any _ _ _ (by omega) (by omega) (by omega) (by omega)).mono ?_; rintro e w7 ⟨rfl, hb7⟩; obtain ⟨hc_w7, hf_w7⟩ := bcell hb7; have hz_w7 := hb7.size; (try simp at hz_w7); (try have g_w7 : w.heap.size < w7.heap.size := (by omega)))
      have e2 : w7.cell? ⟨w.heap.size, 0, none⟩ = some (.int .i64 0) := ((bcell hb7).1 (w.heap.size) 0 g0).trans e0
      have e3 : w7.cell? ⟨w.heap.size, 1, none⟩ = some (.int .i64 0) := ((bcell hb7).1 (w.heap.size) 1 g0).trans e1
      have f2 : w7.frozen? ⟨w.heap.size, 0, none⟩ = false := ((bcell hb7).2 (w.heap.size) 0 g0).trans f0
      have f3 : w7.frozen? ⟨w.heap.size, 1, none⟩ = false := ((bcell hb7).2 (w.heap.size) 1 g0).trans f1
      exact bodyPost_ret (v := .tuple #[.agg #[.int .i64 (wmN xs ys), .int .i64 (wmD xs ys)], .int .i64 (wmC xs ys)]) (by rw [HO.out, HF.out, HC.out]; simp [results, Try.results15, go_sem, e2, e3, f2, f3]) rfl ⟨rfl, (by repeat (first | assumption | exact Below.refl _ _ | apply Below.al | apply Below.drewN' | apply Below.drew | (refine Below.sc ?_ (by first | omega | (simp; done) | (simp; omega)) _) | (apply Below.tr; assumption)))⟩
set_option maxRecDepth 20000 in
set_option maxHeartbeats 4000000 in
theorem implWeightedMean_any (A : Option Addr) (c : Nat) (xs : List Int) (A' : Option Addr) (c' : Nat) (ys : List Int) (w : World) (h : Rd encI 1 w w.heap.size A xs) (hn : xs.length ≤ 1048576) (h' : Rd encI 1 w w.heap.size A' ys) (hn' : ys.length ≤ 1048576) :
    Calls Try.prog 16 #[.slice A xs.length c, .slice A' ys.length c'] w fun e w' => e = .returned (.tuple #[.agg #[.int .i64 (wmN xs ys), .int .i64 (wmD xs ys)], .int .i64 (wmC xs ys)]) ∧ Below w.heap.size w w' := by
  cases h1 : magsB xs
  · have HC : Hid (wmC xs ys = 2) := by simp [Hid, wmC, h1]
    have HO : Hid (wmN xs ys = 0) := by simp [Hid, wmN, HC.out]
    have HF : Hid (wmD xs ys = 0) := by simp [Hid, wmD, HC.out]
    go_enter Try.func16, Try.ntmps16
    go_wp2_with (first | (go_at_call 29; refine (areMags_any A c xs _ ((h.below (B' := w.heap.size) (by repeat (first | assumption | exact Below.refl _ _ | apply Below.al | apply Below.drewN' | apply Below.drew | (apply Below.tr; assumption))) (Nat.le_refl _)).more (by first | omega | (simp; done) | (simp; omega))) hn).mono ?_; rintro e w1 ⟨rfl, hb1⟩; obtain ⟨hc_w1, hf_w1⟩ := bcell hb1; have hz_w1 := hb1.size; (try simp at hz_w1); (try have g_w1 : w.heap.size < w1.heap.size := (by omega))) | (go_at_call 30; refine (areWeights_any A A' c c' xs ys _ ((h'.below (B' := w.heap.size) (by repeat (first | assumption | exact Below.refl _ _ | apply Below.al | apply Below.drewN' | apply Below.drew | (apply Below.tr; assumption))) (Nat.le_refl _)).more (by first | omega | (simp; done) | (simp; omega))) hn hn').mono ?_; rintro e w2 ⟨rfl, hb2⟩; obtain ⟨hc_w2, hf_w2⟩ := bcell hb2; have hz_w2 := hb2.size; (try simp at hz_w2); (try have g_w2 : w.heap.size < w2.heap.size := (by omega))))
    exact bodyPost_ret (v := .tuple #[.agg #[.int .i64 (wmN xs ys), .int .i64 (wmD xs ys)], .int .i64 (wmC xs ys)]) (by rw [HO.out, HF.out, HC.out]; simp [results, Try.results16, go_sem, hc_w1, hf_w1]) rfl ⟨rfl, (by repeat (first | assumption | exact Below.refl _ _ | apply Below.al | apply Below.drewN' | apply Below.drew | (refine Below.sc ?_ (by first | omega | (simp; done) | (simp; omega)) _) | (apply Below.tr; assumption)))⟩
  cases h2 : wtsB xs ys
  · have HC : Hid (wmC xs ys = 2) := by simp [Hid, wmC, h1, h2]
    have HO : Hid (wmN xs ys = 0) := by simp [Hid, wmN, HC.out]
    have HF : Hid (wmD xs ys = 0) := by simp [Hid, wmD, HC.out]
    go_enter Try.func16, Try.ntmps16
    go_wp2_with (first | (go_at_call 29; refine (areMags_any A c xs _ ((h.below (B' := w.heap.size) (by repeat (first | assumption | exact Below.refl _ _ | apply Below.al | apply Below.drewN' | apply Below.drew | (apply Below.tr; assumption))) (Nat.le_refl _)).more (by first | omega | (simp; done) | (simp; omega))) hn).mono ?_; rintro e w1 ⟨rfl, hb1⟩; obtain ⟨hc_w1, hf_w1⟩ := bcell hb1; have hz_w1 := hb1.size; (try simp at hz_w1); (try have g_w1 : w.heap.size < w1.heap.size := (by omega))) | (go_at_call 30; refine (areWeights_any A A' c c' xs ys _ ((h'.below (B' := w.heap.size) (by repeat (first | assumption | exact Below.refl _ _ | apply Below.al | apply Below.drewN' | apply Below.drew | (apply Below.tr; assumption))) (Nat.le_refl _)).more (by first | omega | (simp; done) | (simp; omega))) hn hn').mono ?_; rintro e w2 ⟨rfl, hb2⟩; obtain ⟨hc_w2, hf_w2⟩ := bcell hb2; have hz_w2 := hb2.size; (try simp at hz_w2); (try have g_w2 : w.heap.size < w2.heap.size := (by omega))))
    have e2 : w2.cell? ⟨w.heap.size, 0, none⟩ = some (.int .i64 0) := ((bcell hb2).1 (w.heap.size) 0 g_w1).trans ((hc_w1 (w.heap.size) 0 (by first | (simp; done) | (simp; omega))).trans (by simp [go_sem]))
    have e3 : w2.cell? ⟨w.heap.size, 1, none⟩ = some (.int .i64 0) := ((bcell hb2).1 (w.heap.size) 1 g_w1).trans ((hc_w1 (w.heap.size) 1 (by first | (simp; done) | (simp; omega))).trans (by simp [go_sem]))
    have f2 : w2.frozen? ⟨w.heap.size, 0, none⟩ = false := ((bcell hb2).2 (w.heap.size) 0 g_w1).trans ((hf_w1 (w.heap.size) 0 (by first | (simp; done) | (simp; omega))).trans (by simp [go_sem]))
    have f3 : w2.frozen? ⟨w.heap.size, 1, none⟩ = false := ((bcell hb2).2 (w.heap.size) 1 g_w1).trans ((hf_w1 (w.heap.size) 1 (by first | (simp; done) | (simp; omega))).trans (by simp [go_sem]))
    exact bodyPost_ret (v := .tuple #[.agg #[.int .i64 (wmN xs ys), .int .i64 (wmD xs ys)], .int .i64 (wmC xs ys)]) (by rw [HO.out, HF.out, HC.out]; simp [results, Try.results16, go_sem, e2, e3, f2, f3]) rfl ⟨rfl, (by repeat (first | assumption | exact Below.refl _ _ | apply Below.al | apply Below.drewN' | apply Below.drew | (refine Below.sc ?_ (by first | omega | (simp; done) | (simp; omega)) _) | (apply Below.tr; assumption)))⟩
  skip
  obtain ⟨hl, hx⟩ := magsB_true h1
  obtain ⟨hl2, hy⟩ := wtsB_true2 h2
  have HL := hid hl2
  have hl3 : ys.length ≤ 100 := by omega
  have X := hid hx
  have Y : Hid (∀ (k : Nat) (p : Int), ys[k]? = some p → -20000 ≤ p ∧ p ≤ 20000) := hid (fun k p hp => by have := hy k p hp; omega)
  have Y2 := hid hy
  have ys0 := sumI_nn ys (fun k p hp => (hy k p hp).1)
  obtain ⟨ys1, ys2⟩ := sumI_bd ys 100 hl3 Y.out
  have HCC := hid (show wmC xs ys = if sumI ys = 0 then 6 else 0 by unfold wmC; rw [if_pos ⟨h1, h2⟩])
  clear hx hy hl2
  go_enter Try.func16, Try.ntmps16
  go_wp2_with (first | (go_at_call 29; refine (areMags_any A c xs _ ((h.below (B' := w.heap.size) (by repeat (first | assumption | exact Below.refl _ _ | apply Below.al | apply Below.drewN' | apply Below.drew | (apply Below.tr; assumption))) (Nat.le_refl _)).more (by first | omega | (simp; done) | (simp; omega))) hn).mono ?_; rintro e w1 ⟨rfl, hb1⟩; obtain ⟨hc_w1, hf_w1⟩ := bcell hb1; have hz_w1 := hb1.size; (try simp at hz_w1); (try have g_w1 : w.heap.size < w1.heap.size := (by omega))) | (go_at_call 30; refine (areWeights_any A A' c c' xs ys _ ((h'.below (B' := w.heap.size) (by repeat (first | assumption | exact Below.refl _ _ | apply Below.al | apply Below.drewN' | apply Below.drew | (apply Below.tr; assumption))) (Nat.le_refl _)).more (by first | omega | (simp; done) | (simp; omega))) hn hn').mono ?_; rintro e w2 ⟨rfl, hb2⟩; obtain ⟨hc_w2, hf_w2⟩ := bcell hb2; have hz_w2 := hb2.size; (try simp at hz_w2); (try have g_w2 : w.heap.size < w2.heap.size := (by omega))))
  clear h1 h2
  go_loopw [6, 21] (fun tv i wr => ∃ (k : Nat) (a : Int), k ≤ xs.length ∧ i = .int .i64 k ∧ tv = .int .i64 a ∧ -(k * 2000000) ≤ a ∧ a ≤ k * 2000000 ∧ Below (World.heap (w.alloc (.cells #[.int .i64 0, .int .i64 0] 30))).size (w.alloc (.cells #[.int .i64 0, .int .i64 0] 30)) wr ∧ Hid (tW xs ys = a + tW (xs.drop k) (ys.drop k)) ) (fun _ i _ => xs.length - (intOf i).toNat)
  case atStart => exact ⟨0, 0, Nat.zero_le _, rfl, rfl, by omega, by omega, (by repeat (first | assumption | exact Below.refl _ _ | apply Below.al | apply Below.drewN' | apply Below.drew | (apply Below.tr; assumption))), hid (by simp)⟩
  case round =>
  obtain ⟨k, a, hk, rfl, rfl, a0, a1, hb, H⟩ := hrel
  have hbw : Below w.heap.size w wr := Below.tr hb (by repeat (first | assumption | exact Below.refl _ _ | apply Below.al | apply Below.drewN' | apply Below.drew | (apply Below.tr; assumption)))
  have hsz := hb.size
  simp at hsz
  have g0 : w.heap.size < wr.heap.size := by omega
  by_cases hlt : k < xs.length
  · obtain ⟨p, hp⟩ := getx hlt
    obtain ⟨bb, o, rfl, hbB, c0⟩ := (h.below hbw (Nat.le_refl _)).at1 hp rfl
    obtain ⟨q, hq⟩ : ∃ q, ys[k]? = some q := getx (by have := HL.out; omega)
    obtain ⟨bb', o', rfl, hbB', d0⟩ := (h'.below hbw (Nat.le_refl _)).at1 hq rfl
    obtain ⟨p1, p2⟩ := X.out k p hp
    obtain ⟨q1, q2⟩ := Y2.out k q hq
    obtain ⟨m1, m2⟩ := mul_bd (a := p) (b := q) (A := 20000) (B := 100) (by omega) (by omega) (by omega) (by omega)
    have m1 : -2000000 ≤ p * q := by omega
    have m2 : p * q ≤ 2000000 := by omega
    have HS : Hid (tW (xs.drop k) (ys.drop k) = p * q + tW (xs.drop (k+1)) (ys.drop (k+1))) := by rw [dropx hp, dropx hq]; rfl
    skip
    have bx : bb < wr.heap.size := by omega
    have bx' : bb' < wr.heap.size := by omega
    have ky : k < ys.length := by have := HL.out; omega
    clear hp hq
    go_wp2
    all_goals first
      | (refine wp_region_ext (by kernel_rfl) (by kernel_rfl) ?_
         repeat (go_big_quiet_step ((first | fail)))
         refine wpQuiet_nil ?_
         intro w3 hb3
         obtain ⟨hc_w3, hf_w3⟩ := bcell hb3
         have hz_w3 := hb3.size
         go_wp2)
      | skip
    go_roundw
    case rel => exact ⟨k + 1, a + p * q, by omega, by go_num, rfl, by push_cast; omega, by push_cast; omega, (by repeat (first | assumption | exact Below.refl _ _ | apply Below.al | apply Below.drewN' | apply Below.drew | (apply Below.tr; assumption))), hid (by rw [H.out, HS.out]; omega)⟩
    case measure => simp [intOf]; omega
  · have HE : Hid (tW xs ys = a) := hid (by rw [H.out, List.drop_eq_nil_of_le (by omega)]; simp [tW])
    skip
    have e0 : wr.cell? ⟨w.heap.size, 0, none⟩ = some (.int .i64 0) := by rw [(bcell hb).1 (w.heap.size) 0 (by first | (simp; done) | (simp; omega))]; simp [go_sem]
    have e1 : wr.cell? ⟨w.heap.size, 1, none⟩ = some (.int .i64 0) := by rw [(bcell hb).1 (w.heap.size) 1 (by first | (simp; done) | (simp; omega))]; simp [go_sem]
    have f0 : wr.frozen? ⟨w.heap.size, 0, none⟩ = false := by rw [(bcell hb).2 (w.heap.size) 0 (by first | (simp; done) | (simp; omega))]; simp [go_sem]
    have f1 : wr.frozen? ⟨w.heap.size, 1, none⟩ = false := by rw [(bcell hb).2 (w.heap.size) 1 (by first | (simp; done) | (simp; omega))]; simp [go_sem]
    go_wp2_with fail
    refine (sum_any A' c' ys _ ((h'.below (B' := w.heap.size) (by repeat (first | assumption | exact Below.refl _ _ | apply Below.al | apply Below.drewN' | apply Below.drew | (apply Below.tr; assumption))) (Nat.le_refl _)).more (by omega)) (by omega) Y).mono ?_
    rintro e w5 ⟨rfl, hb5⟩
    have hz5 := hb5.size
    by_cases hz : sumI ys = 0
    · have HC : Hid (wmC xs ys = 6) := hid (by rw [HCC.out, if_pos hz])
      have HO : Hid (wmN xs ys = 0) := by simp [Hid, wmN, HC.out]
      have HF : Hid (wmD xs ys = 0) := by simp [Hid, wmD, HC.out]
      have hz' : (sumI ys == 0) = true := by simpa using hz
      have e2 : w5.cell? ⟨w.heap.size, 0, none⟩ = some (.int .i64 0) := ((bcell hb5).1 (w.heap.size) 0 g0).trans e0
      have e3 : w5.cell? ⟨w.heap.size, 1, none⟩ = some (.int .i64 0) := ((bcell hb5).1 (w.heap.size) 1 g0).trans e1
      have f2 : w5.frozen? ⟨w.heap.size, 0, none⟩ = false := ((bcell hb5).2 (w.heap.size) 0 g0).trans f0
      have f3 : w5.frozen? ⟨w.heap.size, 1, none⟩ = false := ((bcell hb5).2 (w.heap.size) 1 g0).trans f1
      clear hz
      go_wp2
      exact bodyPost_ret (v := .tuple #[.agg #[.int .i64 (wmN xs ys), .int .i64 (wmD xs ys)], .int .i64 (wmC xs ys)]) (by rw [HO.out, HF.out, HC.out]; simp [results, Try.results16, go_sem, e2, e3, f2, f3]) rfl ⟨rfl, (by repeat (first | assumption | exact Below.refl _ _ | apply Below.al | apply Below.drewN' | apply Below.drew | (refine Below.sc ?_ (by first | omega | (simp; done) | (simp; omega)) _) | (apply Below.tr; assumption)))⟩
    · have HC : Hid (wmC xs ys = 0) := hid (by rw [HCC.out, if_neg hz])
      have HO : Hid (wmN xs ys = frN a (sumI ys)) := by simp [Hid, wmN, HC.out, HE.out]
      have HF : Hid (wmD xs ys = frD a (sumI ys)) := by simp [Hid, wmD, HC.out, HE.out]
      have hz' : (sumI ys == 0) = false := by simpa using hz
      have hzp : 0 < sumI ys := by omega
      clear hz
      go_wp2_with fail
      refine (sum_any A' c' ys _ ((h'.below (B' := w.heap.size) (by repeat (first | assumption | exact Below.refl _ _ | apply Below.al | apply Below.drewN' | apply Below.drew | (apply Below.tr; assumption))) (Nat.le_refl _)).more (by omega)) (by omega) Y).mono ?_
      rintro e w6 ⟨rfl, hb6⟩
      have hz6 := hb6.size
      have hy9 : sumI ys ≤ 4000000000000000000 := by omega
      go_wp2_with fail
      refine (lowest_any _ _ _ (by omega) (by omega) hzp hy9).mono ?_
      rintro e w7 ⟨rfl, hb7⟩
      have hb9 : Below wr.heap.size wr w7 := (by repeat (first | assumption | exact Below.refl _ _ | apply Below.al | apply Below.drewN' | apply Below.drew | (apply Below.tr; assumption)))
      have e2 : w7.cell? ⟨w.heap.size, 0, none⟩ = some (.int .i64 0) := ((bcell hb9).1 (w.heap.size) 0 g0).trans e0
      have e3 : w7.cell? ⟨w.heap.size, 1, none⟩ = some (.int .i64 0) := ((bcell hb9).1 (w.heap.size) 1 g0).trans e1
      have f2 : w7.frozen? ⟨w.heap.size, 0, none⟩ = false := ((bcell hb9).2 (w.heap.size) 0 g0).trans f0
      have f3 : w7.frozen? ⟨w.heap.size, 1, none⟩ = false := ((bcell hb9).2 (w.heap.size) 1 g0).trans f1
      go_wp2
      exact bodyPost_ret (v := .tuple #[.agg #[.int .i64 (wmN xs ys), .int .i64 (wmD xs ys)], .int .i64 (wmC xs ys)]) (by rw [HO.out, HF.out, HC.out]; simp [results, Try.results16, go_sem, e2, e3, f2, f3]) rfl ⟨rfl, (by repeat (first | assumption | exact Below.refl _ _ | apply Below.al | apply Below.drewN' | apply Below.drew | (refine Below.sc ?_ (by first | omega | (simp; done) | (simp; omega)) _) | (apply Below.tr; assumption)))⟩
end Go.Proofs.Ytjdlledbjindmaa
