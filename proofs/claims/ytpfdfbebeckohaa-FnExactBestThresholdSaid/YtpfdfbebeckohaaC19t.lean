/- Contracts of BestThreshold, in the program and in the reference. -/
import Derived.Test.YtpfdfbebeckohaaC19o
namespace Go.Proofs.Ytpfdfbebeckohaa
open Go.RowKit
set_option linter.unusedVariables false
def tOk (xs : List Pt) (wi mo m : Int) : Bool := inB ((alRun wl [] none xs (scanB (obF m (m + wi)) false xs)).length : Int) 1 mo
def btGo (xs : List Pt) (wi mo : Int) : Nat → Int → Option Int
  | 0, _ => none
  | n + 1, m => if m < -2000 then none else if tOk xs wi mo m = true then some m else btGo xs wi mo n (m - 10)
def bt (xs : List Pt) (wi mo : Int) : Option Int := btGo xs wi mo 2201 (20000 - wi)
def btC (xs : List Pt) (wi mo : Int) : Int := if cvB xs = true then (if inB wi 0 20000 = true ∧ inB mo 0 50 = true then (if bt xs wi mo = none then 3 else 0) else 2) else 1
def btO (xs : List Pt) (wi mo : Int) : Int := if btC xs wi mo = 0 then (bt xs wi mo).getD 0 else 0
def btF (xs : List Pt) (wi mo : Int) : Int := if btC xs wi mo = 0 then (bt xs wi mo).getD 0 + wi else 0
theorem countA_any (A : Option Addr) (n c : Nat) (w : World) :
    Calls Try.prog 77 #[.slice A n c] w fun e w' => e = .returned (.int .i64 (n : Int)) ∧ w = w' := by
  go_enter Try.func77, Try.ntmps77
  go_wp2
  go_ret
  exact ⟨rfl, rfl⟩
set_option maxRecDepth 20000 in
set_option maxHeartbeats 4000000 in
theorem specBestThreshold_any (A : Option Addr) (c : Nat) (xs : List Pt) (wi mo : Int) (w : World) (h : Rd encPt 2 w w.heap.size A xs) (hn : xs.length ≤ 1048576) :
    Calls Try.prog 40 #[.slice A xs.length c, .int .i64 wi, .int .i64 mo] w fun e w' => e = .returned (.tuple #[.agg #[.int .i64 (btO xs wi mo), .int .i64 (btF xs wi mo)], .int .i64 (btC xs wi mo)]) ∧ Below w.heap.size w w' := by
  cases hv : cvB xs
  · have HC : Hid (btC xs wi mo = 1) := by simp [Hid, btC, hv]
    have HO : Hid (btO xs wi mo = 0) := by simp [Hid, btO, HC.out]
    have HF : Hid (btF xs wi mo = 0) := by simp [Hid, btF, HC.out]
    go_enter Try.func40, Try.ntmps40
    go_wp2_with (first | (go_at_call 63; refine (l08Ok_any A c xs _ ((h.below (B' := w.heap.size) (by repeat (first | assumption | exact Below.refl _ _ | apply Below.al | apply Below.drewN' | apply Below.drew | (apply Below.tr; assumption))) (Nat.le_refl _)).more (by first | (simp; done) | (simp; omega))) hn).mono ?_; rintro e w1 ⟨rfl, hb1⟩; obtain ⟨hc_w1, hf_w1⟩ := bcell hb1; have hz_w1 := hb1.size; (try simp at hz_w1); (try have g_w1 : w.heap.size < w1.heap.size := (by omega))) | (go_at_call 64; refine (l00In_any _ _ _ _).mono ?_; rintro e w' ⟨rfl, rfl⟩))
    exact bodyPost_ret (v := .tuple #[.agg #[.int .i64 (btO xs wi mo), .int .i64 (btF xs wi mo)], .int .i64 (btC xs wi mo)]) (by rw [HO.out, HF.out, HC.out]; simp [results, Try.results40, go_sem, *]) rfl ⟨rfl, (by repeat (first | assumption | exact Below.refl _ _ | apply Below.al | apply Below.drewN' | apply Below.drew | (refine Below.sc ?_ (by first | omega | (simp; done) | (simp; omega)) _) | (apply Below.tr; assumption)))⟩
  cases h1 : inB wi 0 20000
  · have HC : Hid (btC xs wi mo = 2) := by simp [Hid, btC, hv, h1]
    have HO : Hid (btO xs wi mo = 0) := by simp [Hid, btO, HC.out]
    have HF : Hid (btF xs wi mo = 0) := by simp [Hid, btF, HC.out]
    go_enter Try.func40, Try.ntmps40
    go_wp2_with (first | (go_at_call 63; refine (l08Ok_any A c xs _ ((h.below (B' := w.heap.size) (by repeat (first | assumption | exact Below.refl _ _ | apply Below.al | apply Below.drewN' | apply Below.drew | (apply Below.tr; assumption))) (Nat.le_refl _)).more (by first | (simp; done) | (simp; omega))) hn).mono ?_; rintro e w1 ⟨rfl, hb1⟩; obtain ⟨hc_w1, hf_w1⟩ := bcell hb1; have hz_w1 := hb1.size; (try simp at hz_w1); (try have g_w1 : w.heap.size < w1.heap.size := (by omega))) | (go_at_call 64; refine (l00In_any _ _ _ _).mono ?_; rintro e w' ⟨rfl, rfl⟩))
    exact bodyPost_ret (v := .tuple #[.agg #[.int .i64 (btO xs wi mo), .int .i64 (btF xs wi mo)], .int .i64 (btC xs wi mo)]) (by rw [HO.out, HF.out, HC.out]; simp [results, Try.results40, go_sem, *]) rfl ⟨rfl, (by repeat (first | assumption | exact Below.refl _ _ | apply Below.al | apply Below.drewN' | apply Below.drew | (refine Below.sc ?_ (by first | omega | (simp; done) | (simp; omega)) _) | (apply Below.tr; assumption)))⟩
  cases h2 : inB mo 0 50
  · have HC : Hid (btC xs wi mo = 2) := by simp [Hid, btC, hv, h1, h2]
    have HO : Hid (btO xs wi mo = 0) := by simp [Hid, btO, HC.out]
    have HF : Hid (btF xs wi mo = 0) := by simp [Hid, btF, HC.out]
    go_enter Try.func40, Try.ntmps40
    go_wp2_with (first | (go_at_call 63; refine (l08Ok_any A c xs _ ((h.below (B' := w.heap.size) (by repeat (first | assumption | exact Below.refl _ _ | apply Below.al | apply Below.drewN' | apply Below.drew | (apply Below.tr; assumption))) (Nat.le_refl _)).more (by first | (simp; done) | (simp; omega))) hn).mono ?_; rintro e w1 ⟨rfl, hb1⟩; obtain ⟨hc_w1, hf_w1⟩ := bcell hb1; have hz_w1 := hb1.size; (try simp at hz_w1); (try have g_w1 : w.heap.size < w1.heap.size := (by omega))) | (go_at_call 64; refine (l00In_any _ _ _ _).mono ?_; rintro e w' ⟨rfl, rfl⟩))
    exact bodyPost_ret (v := .tuple #[.agg #[.int .i64 (btO xs wi mo), .int .i64 (btF xs wi mo)], .int .i64 (btC xs wi mo)]) (by rw [HO.out, HF.out, HC.out]; simp [results, Try.results40, go_sem, *]) rfl ⟨rfl, (by repeat (first | assumption | exact Below.refl _ _ | apply Below.al | apply Below.drewN' | apply Below.drew | (refine Below.sc ?_ (by first | omega | (simp; done) | (simp; omega)) _) | (apply Below.tr; assumption)))⟩
  have V := hid (cvB_at hv)
  obtain ⟨a1, a2⟩ := inB_true.1 h1
  obtain ⟨a3, a4⟩ := inB_true.1 h2
  have HCC := hid (show btC xs wi mo = if bt xs wi mo = none then 3 else 0 by unfold btC; rw [if_pos hv, if_pos ⟨h1, h2⟩])
  go_enter Try.func40, Try.ntmps40
  go_wp2_with (first | (go_at_call 63; refine (l08Ok_any A c xs _ ((h.below (B' := w.heap.size) (by repeat (first | assumption | exact Below.refl _ _ | apply Below.al | apply Below.drewN' | apply Below.drew | (apply Below.tr; assumption))) (Nat.le_refl _)).more (by first | (simp; done) | (simp; omega))) hn).mono ?_; rintro e w1 ⟨rfl, hb1⟩; obtain ⟨hc_w1, hf_w1⟩ := bcell hb1; have hz_w1 := hb1.size; (try simp at hz_w1); (try have g_w1 : w.heap.size < w1.heap.size := (by omega))) | (go_at_call 64; refine (l00In_any _ _ _ _).mono ?_; rintro e w' ⟨rfl, rfl⟩))
  clear hv h1 h2
  go_loopw [8] (fun mm wr => ∃ (n : Nat) (m : Int), mm = .int .i64 m ∧ m ≤ 20000 - wi ∧ -2010 ≤ m ∧ m + 2000 < 10 * n ∧ Below (World.heap (w.alloc (.cells #[.int .i64 0, .int .i64 0] 51))).size (w.alloc (.cells #[.int .i64 0, .int .i64 0] 51)) wr ∧ Hid (bt xs wi mo = btGo xs wi mo n m)) (fun mm _ => (intOf mm + 2010).toNat)
  case atStart => exact ⟨2201, 20000 - wi, rfl, by omega, by omega, by omega, (by repeat (first | assumption | exact Below.refl _ _ | apply Below.al | apply Below.drewN' | apply Below.drew | (apply Below.tr; assumption))), hid rfl⟩
  case round =>
  obtain ⟨n, m, rfl, m1, m2, m3, hb, H⟩ := hrel
  have hbw : Below w.heap.size w wr := Below.tr hb (by repeat (first | assumption | exact Below.refl _ _ | apply Below.al | apply Below.drewN' | apply Below.drew | (apply Below.tr; assumption)))
  have hsz := hb.size
  simp at hsz
  have g0 : w.heap.size < wr.heap.size := by omega
  have e0 : wr.cell? ⟨w.heap.size, 0, none⟩ = some (.int .i64 0) := by rw [(bcell hb).1 (w.heap.size) 0 (by first | (simp; done) | (simp; omega))]; simp [go_sem]
  have e1 : wr.cell? ⟨w.heap.size, 1, none⟩ = some (.int .i64 0) := by rw [(bcell hb).1 (w.heap.size) 1 (by first | (simp; done) | (simp; omega))]; simp [go_sem]
  have f0 : wr.frozen? ⟨w.heap.size, 0, none⟩ = false := by rw [(bcell hb).2 (w.heap.size) 0 (by first | (simp; done) | (simp; omega))]; simp [go_sem]
  have f1 : wr.frozen? ⟨w.heap.size, 1, none⟩ = false := by rw [(bcell hb).2 (w.heap.size) 1 (by first | (simp; done) | (simp; omega))]; simp [go_sem]
  by_cases hlt : -2000 ≤ m
  · obtain ⟨n, rfl⟩ : ∃ n', n = n' + 1 := ⟨n - 1, by omega⟩
    go_wp2_with fail
    refine (l19States_any A c xs m (m + wi) _ ((h.below (B' := w.heap.size) (by repeat (first | assumption | exact Below.refl _ _ | apply Below.al | apply Below.drewN' | apply Below.drew | (apply Below.tr; assumption))) (Nat.le_refl _)).more (by first | (simp; done) | (simp; omega))) hn).mono ?_
    rintro e w1 ⟨A1, c1, rfl, o1, hb1⟩
    have hw1 : Below w.heap.size w w1 := (by repeat (first | assumption | exact Below.refl _ _ | apply Below.al | apply Below.drewN' | apply Below.drew | (apply Below.tr; assumption)))
    have hd := hid (rd_of_own (enc := encBo) (k := 1) (fun _ => rfl) o1)
    have HL : Hid ((scanB (obF m (m + wi)) false xs).length = xs.length) := hid (scanB_len _ _ _)
    go_wp2_with fail
    refine (l19AlertsL_any A c xs A1 c1 (scanB (obF m (m + wi)) false xs) _ ((h.below hw1 (Nat.le_refl _)).more hw1.size) hn hd.out HL.out V).mono ?_
    rintro e w2 ⟨Ar, cr, rfl, o2, hb2⟩
    clear hw1
    have hbx : Below (World.heap (wr.alloc (.cells #[.int .i64 m, .int .i64 (m + wi)] 51))).size (wr.alloc (.cells #[.int .i64 m, .int .i64 (m + wi)] 51)) w2 := (by repeat (first | assumption | exact Below.refl _ _ | apply Below.al | apply Below.drewN' | apply Below.drew | (apply Below.tr; assumption)))
    have hb2' : Below wr.heap.size wr w2 := Below.tr hbx (Below.al (Below.refl _ _) _)
    have e2 : w2.cell? ⟨w.heap.size, 0, none⟩ = some (.int .i64 0) := ((bcell hb2').1 (w.heap.size) 0 g0).trans e0
    have e3 : w2.cell? ⟨w.heap.size, 1, none⟩ = some (.int .i64 0) := ((bcell hb2').1 (w.heap.size) 1 g0).trans e1
    have f2 : w2.frozen? ⟨w.heap.size, 0, none⟩ = false := ((bcell hb2').2 (w.heap.size) 0 g0).trans f0
    have f3 : w2.frozen? ⟨w.heap.size, 1, none⟩ = false := ((bcell hb2').2 (w.heap.size) 1 g0).trans f1
    have g2 : w.heap.size < w2.heap.size := Nat.lt_of_lt_of_le g0 hb2'.size
    have x0 : w2.cell? ⟨wr.heap.size, 0, none⟩ = some (.int .i64 m) := ((bcell hbx).1 (wr.heap.size) 0 (by simp)).trans (by simp [go_sem])
    have x1 : w2.cell? ⟨wr.heap.size, 1, none⟩ = some (.int .i64 (m + wi)) := ((bcell hbx).1 (wr.heap.size) 1 (by simp)).trans (by simp [go_sem])
    by_cases hg1 : ((alRun wl [] none xs (scanB (obF m (m + wi)) false xs)).length : Int) ≤ mo
    · have hg1' : decide (((alRun wl [] none xs (scanB (obF m (m + wi)) false xs)).length : Int) ≤ mo) = true := by simpa using hg1
      by_cases hg2 : 0 < (alRun wl [] none xs (scanB (obF m (m + wi)) false xs)).length
      · have HI : inB ((alRun wl [] none xs (scanB (obF m (m + wi)) false xs)).length : Int) 1 mo = true := inB_true.2 ⟨by omega, hg1⟩
        have hg2' : decide (0 < (alRun wl [] none xs (scanB (obF m (m + wi)) false xs)).length) = true := by simpa using hg2
        go_wp2
        have HE : Hid (bt xs wi mo = some m) := hid (by rw [H.out]; simp only [btGo]; rw [if_neg (by omega), if_pos (show tOk xs wi mo m = true from HI)])
        have HC : Hid (btC xs wi mo = 0) := hid (by rw [HCC.out, HE.out]; simp)
        have HO : Hid (btO xs wi mo = m) := by simp [Hid, btO, HC.out, HE.out]
        have HF : Hid (btF xs wi mo = m + wi) := by simp [Hid, btF, HC.out, HE.out]
        exact bodyPost_ret (v := .tuple #[.agg #[.int .i64 (btO xs wi mo), .int .i64 (btF xs wi mo)], .int .i64 (btC xs wi mo)]) (by rw [HO.out, HF.out, HC.out]; simp [results, Try.results40, go_sem, *]) rfl ⟨rfl, (by repeat (first | assumption | exact Below.refl _ _ | apply Below.al | apply Below.drewN' | apply Below.drew | (refine Below.sc ?_ (by first | omega | (simp; done) | (simp; omega)) _) | (apply Below.tr; assumption)))⟩
      · have HI : inB ((alRun wl [] none xs (scanB (obF m (m + wi)) false xs)).length : Int) 1 mo = false := inB_false.2 (by omega)
        have hg2' : decide (0 < (alRun wl [] none xs (scanB (obF m (m + wi)) false xs)).length) = false := by simpa using hg2
        go_wp2
        go_roundw
        case rel => exact ⟨n, m - 10, rfl, by omega, by omega, by omega, (by repeat (first | assumption | exact Below.refl _ _ | apply Below.al | apply Below.drewN' | apply Below.drew | (refine Below.sc ?_ (by first | omega | (simp; done) | (simp; omega)) _) | (apply Below.tr; assumption))), hid (by rw [H.out]; simp only [btGo]; rw [if_neg (by omega), if_neg (show ¬ tOk xs wi mo m = true from by simp only [tOk, HI]; simp)])⟩
        case measure => simp [intOf]; omega
    · have hg1' : decide (((alRun wl [] none xs (scanB (obF m (m + wi)) false xs)).length : Int) ≤ mo) = false := by simpa using hg1
      have HI : inB ((alRun wl [] none xs (scanB (obF m (m + wi)) false xs)).length : Int) 1 mo = false := inB_false.2 (by omega)
      go_wp2
      go_roundw
      case rel => exact ⟨n, m - 10, rfl, by omega, by omega, by omega, (by repeat (first | assumption | exact Below.refl _ _ | apply Below.al | apply Below.drewN' | apply Below.drew | (refine Below.sc ?_ (by first | omega | (simp; done) | (simp; omega)) _) | (apply Below.tr; assumption))), hid (by rw [H.out]; simp only [btGo]; rw [if_neg (by omega), if_neg (show ¬ tOk xs wi mo m = true from by simp only [tOk, HI]; simp)])⟩
      case measure => simp [intOf]; omega
  · have HE : Hid (bt xs wi mo = none) := hid (by rw [H.out]; cases n <;> simp [btGo]; omega)
    have HC : Hid (btC xs wi mo = 3) := hid (by rw [HCC.out, HE.out]; simp)
    have HO : Hid (btO xs wi mo = 0) := by simp [Hid, btO, HC.out]
    have HF : Hid (btF xs wi mo = 0) := by simp [Hid, btF, HC.out]
    go_wp2
    exact bodyPost_ret (v := .tuple #[.agg #[.int .i64 (btO xs wi mo), .int .i64 (btF xs wi mo)], .int .i64 (btC xs wi mo)]) (by rw [HO.out, HF.out, HC.out]; simp [results, Try.results40, go_sem, *]) rfl ⟨rfl, (by repeat (first | assumption | exact Below.refl _ _ | apply Below.al | apply Below.drewN' | apply Below.drew | (refine Below.sc ?_ (by first | omega | (simp; done) | (simp; omega)) _) | (apply Below.tr; assumption)))⟩
set_option maxRecDepth 20000 in
set_option maxHeartbeats 4000000 in
theorem implBestThreshold_any (A : Option Addr) (c : Nat) (xs : List Pt) (wi mo : Int) (w : World) (h : Rd encPt 2 w w.heap.size A xs) (hn : xs.length ≤ 1048576) :
    Calls Try.prog 41 #[.slice A xs.length c, .int .i64 wi, .int .i64 mo] w fun e w' => e = .returned (.tuple #[.agg #[.int .i64 (btO xs wi mo), .int .i64 (btF xs wi mo)], .int .i64 (btC xs wi mo)]) ∧ Below w.heap.size w w' := by
  cases hv : cvB xs
  · have HC : Hid (btC xs wi mo = 1) := by simp [Hid, btC, hv]
    have HO : Hid (btO xs wi mo = 0) := by simp [Hid, btO, HC.out]
    have HF : Hid (btF xs wi mo = 0) := by simp [Hid, btF, HC.out]
    go_enter Try.func41, Try.ntmps41
    go_wp2_with (first | (go_at_call 66; refine (validCurve_any A c xs _ ((h.below (B' := w.heap.size) (by repeat (first | assumption | exact Below.refl _ _ | apply Below.al | apply Below.drewN' | apply Below.drew | (apply Below.tr; assumption))) (Nat.le_refl _)).more (by first | (simp; done) | (simp; omega))) hn).mono ?_; rintro e w1 ⟨rfl, hb1⟩; obtain ⟨hc_w1, hf_w1⟩ := bcell hb1; have hz_w1 := hb1.size; (try simp at hz_w1); (try have g_w1 : w.heap.size < w1.heap.size := (by omega))) | (go_at_call 67; refine (in_any _ _ _ _).mono ?_; rintro e w' ⟨rfl, rfl⟩))
    exact bodyPost_ret (v := .tuple #[.agg #[.int .i64 (btO xs wi mo), .int .i64 (btF xs wi mo)], .int .i64 (btC xs wi mo)]) (by rw [HO.out, HF.out, HC.out]; simp [results, Try.results41, go_sem, *]) rfl ⟨rfl, (by repeat (first | assumption | exact Below.refl _ _ | apply Below.al | apply Below.drewN' | apply Below.drew | (refine Below.sc ?_ (by first | omega | (simp; done) | (simp; omega)) _) | (apply Below.tr; assumption)))⟩
  cases h1 : inB wi 0 20000
  · have HC : Hid (btC xs wi mo = 2) := by simp [Hid, btC, hv, h1]
    have HO : Hid (btO xs wi mo = 0) := by simp [Hid, btO, HC.out]
    have HF : Hid (btF xs wi mo = 0) := by simp [Hid, btF, HC.out]
    go_enter Try.func41, Try.ntmps41
    go_wp2_with (first | (go_at_call 66; refine (validCurve_any A c xs _ ((h.below (B' := w.heap.size) (by repeat (first | assumption | exact Below.refl _ _ | apply Below.al | apply Below.drewN' | apply Below.drew | (apply Below.tr; assumption))) (Nat.le_refl _)).more (by first | (simp; done) | (simp; omega))) hn).mono ?_; rintro e w1 ⟨rfl, hb1⟩; obtain ⟨hc_w1, hf_w1⟩ := bcell hb1; have hz_w1 := hb1.size; (try simp at hz_w1); (try have g_w1 : w.heap.size < w1.heap.size := (by omega))) | (go_at_call 67; refine (in_any _ _ _ _).mono ?_; rintro e w' ⟨rfl, rfl⟩))
    exact bodyPost_ret (v := .tuple #[.agg #[.int .i64 (btO xs wi mo), .int .i64 (btF xs wi mo)], .int .i64 (btC xs wi mo)]) (by rw [HO.out, HF.out, HC.out]; simp [results, Try.results41, go_sem, *]) rfl ⟨rfl, (by repeat (first | assumption | exact Below.refl _ _ | apply Below.al | apply Below.drewN' | apply Below.drew | (refine Below.sc ?_ (by first | omega | (simp; done) | (simp; omega)) _) | (apply Below.tr; assumption)))⟩
  cases h2 : inB mo 0 50
  · have HC : Hid (btC xs wi mo = 2) := by simp [Hid, btC, hv, h1, h2]
    have HO : Hid (btO xs wi mo = 0) := by simp [Hid, btO, HC.out]
    have HF : Hid (btF xs wi mo = 0) := by simp [Hid, btF, HC.out]
    go_enter Try.func41, Try.ntmps41
    go_wp2_with (first | (go_at_call 66; refine (validCurve_any A c xs _ ((h.below (B' := w.heap.size) (by repeat (first | assumption | exact Below.refl _ _ | apply Below.al | apply Below.drewN' | apply Below.drew | (apply Below.tr; assumption))) (Nat.le_refl _)).more (by first | (simp; done) | (simp; omega))) hn).mono ?_; rintro e w1 ⟨rfl, hb1⟩; obtain ⟨hc_w1, hf_w1⟩ := bcell hb1; have hz_w1 := hb1.size; (try simp at hz_w1); (try have g_w1 : w.heap.size < w1.heap.size := (by omega))) | (go_at_call 67; refine (in_any _ _ _ _).mono ?_; rintro e w' ⟨rfl, rfl⟩))
    exact bodyPost_ret (v := .tuple #[.agg #[.int .i64 (btO xs wi mo), .int .i64 (btF xs wi mo)], .int .i64 (btC xs wi mo)]) (by rw [HO.out, HF.out, HC.out]; simp [results, Try.results41, go_sem, *]) rfl ⟨rfl, (by repeat (first | assumption | exact Below.refl _ _ | apply Below.al | apply Below.drewN' | apply Below.drew | (refine Below.sc ?_ (by first | omega | (simp; done) | (simp; omega)) _) | (apply Below.tr; assumption)))⟩
  have V := hid (cvB_at hv)
  obtain ⟨a1, a2⟩ := inB_true.1 h1
  obtain ⟨a3, a4⟩ := inB_true.1 h2
  have HCC := hid (show btC xs wi mo = if bt xs wi mo = none then 3 else 0 by unfold btC; rw [if_pos hv, if_pos ⟨h1, h2⟩])
  go_enter Try.func41, Try.ntmps41
  go_wp2_with (first | (go_at_call 66; refine (validCurve_any A c xs _ ((h.below (B' := w.heap.size) (by repeat (first | assumption | exact Below.refl _ _ | apply Below.al | apply Below.drewN' | apply Below.drew | (apply Below.tr; assumption))) (Nat.le_refl _)).more (by first | (simp; done) | (simp; omega))) hn).mono ?_; rintro e w1 ⟨rfl, hb1⟩; obtain ⟨hc_w1, hf_w1⟩ := bcell hb1; have hz_w1 := hb1.size; (try simp at hz_w1); (try have g_w1 : w.heap.size < w1.heap.size := (by omega))) | (go_at_call 67; refine (in_any _ _ _ _).mono ?_; rintro e w' ⟨rfl, rfl⟩))
  clear hv h1 h2
  go_loopw [8] (fun mm wr => ∃ (n : Nat) (m : Int), mm = .int .i64 m ∧ m ≤ 20000 - wi ∧ -2010 ≤ m ∧ m + 2000 < 10 * n ∧ Below (World.heap (w.alloc (.cells #[.int .i64 0, .int .i64 0] 51))).size (w.alloc (.cells #[.int .i64 0, .int .i64 0] 51)) wr ∧ Hid (bt xs wi mo = btGo xs wi mo n m)) (fun mm _ => (intOf mm + 2010).toNat)
  case atStart => exact ⟨2201, 20000 - wi, rfl, by omega, by omega, by omega, (by repeat (first | assumption | exact Below.refl _ _ | apply Below.al | apply Below.drewN' | apply Below.drew | (apply Below.tr; assumption))), hid rfl⟩
  case round =>
  obtain ⟨n, m, rfl, m1, m2, m3, hb, H⟩ := hrel
  have hbw : Below w.heap.size w wr := Below.tr hb (by repeat (first | assumption | exact Below.refl _ _ | apply Below.al | apply Below.drewN' | apply Below.drew | (apply Below.tr; assumption)))
  have hsz := hb.size
  simp at hsz
  have g0 : w.heap.size < wr.heap.size := by omega
  have e0 : wr.cell? ⟨w.heap.size, 0, none⟩ = some (.int .i64 0) := by rw [(bcell hb).1 (w.heap.size) 0 (by first | (simp; done) | (simp; omega))]; simp [go_sem]
  have e1 : wr.cell? ⟨w.heap.size, 1, none⟩ = some (.int .i64 0) := by rw [(bcell hb).1 (w.heap.size) 1 (by first | (simp; done) | (simp; omega))]; simp [go_sem]
  have f0 : wr.frozen? ⟨w.heap.size, 0, none⟩ = false := by rw [(bcell hb).2 (w.heap.size) 0 (by first | (simp; done) | (simp; omega))]; simp [go_sem]
  have f1 : wr.frozen? ⟨w.heap.size, 1, none⟩ = false := by rw [(bcell hb).2 (w.heap.size) 1 (by first | (simp; done) | (simp; omega))]; simp [go_sem]
  by_cases hlt : -2000 ≤ m
  · obtain ⟨n, rfl⟩ : ∃ n', n = n' + 1 := ⟨n - 1, by omega⟩
    go_wp2_with fail
    refine (outbursts_any A c xs m (m + wi) _ ((h.below (B' := w.heap.size) (by repeat (first | assumption | exact Below.refl _ _ | apply Below.al | apply Below.drewN' | apply Below.drew | (apply Below.tr; assumption))) (Nat.le_refl _)).more (by first | (simp; done) | (simp; omega))) hn V).mono ?_
    rintro e w2 ⟨Ar, cr, rfl, o2, hb2⟩
    have hb2' : Below wr.heap.size wr w2 := (by repeat (first | assumption | exact Below.refl _ _ | apply Below.al | apply Below.drewN' | apply Below.drew | (apply Below.tr; assumption)))
    have e2 : w2.cell? ⟨w.heap.size, 0, none⟩ = some (.int .i64 0) := ((bcell hb2').1 (w.heap.size) 0 g0).trans e0
    have e3 : w2.cell? ⟨w.heap.size, 1, none⟩ = some (.int .i64 0) := ((bcell hb2').1 (w.heap.size) 1 g0).trans e1
    have f2 : w2.frozen? ⟨w.heap.size, 0, none⟩ = false := ((bcell hb2').2 (w.heap.size) 0 g0).trans f0
    have f3 : w2.frozen? ⟨w.heap.size, 1, none⟩ = false := ((bcell hb2').2 (w.heap.size) 1 g0).trans f1
    have g2 : w.heap.size < w2.heap.size := Nat.lt_of_lt_of_le g0 hb2'.size
    have x0 : w2.cell? ⟨wr.heap.size, 0, none⟩ = some (.int .i64 m) := ((bcell hb2).1 (wr.heap.size) 0 (by simp)).trans (by simp [go_sem])
    have x1 : w2.cell? ⟨wr.heap.size, 1, none⟩ = some (.int .i64 (m + wi)) := ((bcell hb2).1 (wr.heap.size) 1 (by simp)).trans (by simp [go_sem])
    by_cases hg : 1 ≤ ((alRun wl [] none xs (scanB (obF m (m + wi)) false xs)).length : Int) ∧ ((alRun wl [] none xs (scanB (obF m (m + wi)) false xs)).length : Int) ≤ mo
    · have HI : inB ((alRun wl [] none xs (scanB (obF m (m + wi)) false xs)).length : Int) 1 mo = true := inB_true.2 hg
      go_wp2_with (first | (go_at_call 77; refine (countA_any _ _ _ _).mono ?_; rintro e w' ⟨rfl, rfl⟩) | (go_at_call 67; refine (in_eq HI _).mono ?_; rintro e w' ⟨rfl, rfl⟩))
      have HE : Hid (bt xs wi mo = some m) := hid (by rw [H.out]; simp only [btGo]; rw [if_neg (by omega), if_pos (show tOk xs wi mo m = true from HI)])
      have HC : Hid (btC xs wi mo = 0) := hid (by rw [HCC.out, HE.out]; simp)
      have HO : Hid (btO xs wi mo = m) := by simp [Hid, btO, HC.out, HE.out]
      have HF : Hid (btF xs wi mo = m + wi) := by simp [Hid, btF, HC.out, HE.out]
      exact bodyPost_ret (v := .tuple #[.agg #[.int .i64 (btO xs wi mo), .int .i64 (btF xs wi mo)], .int .i64 (btC xs wi mo)]) (by rw [HO.out, HF.out, HC.out]; simp [results, Try.results41, go_sem, *]) rfl ⟨rfl, (by repeat (first | assumption | exact Below.refl _ _ | apply Below.al | apply Below.drewN' | apply Below.drew | (refine Below.sc ?_ (by first | omega | (simp; done) | (simp; omega)) _) | (apply Below.tr; assumption)))⟩
    · have HI : inB ((alRun wl [] none xs (scanB (obF m (m + wi)) false xs)).length : Int) 1 mo = false := inB_false.2 hg
      go_wp2_with (first | (go_at_call 77; refine (countA_any _ _ _ _).mono ?_; rintro e w' ⟨rfl, rfl⟩) | (go_at_call 67; refine (in_eq HI _).mono ?_; rintro e w' ⟨rfl, rfl⟩))
      go_roundw
      case rel => exact ⟨n, m - 10, rfl, by omega, by omega, by omega, (by repeat (first | assumption | exact Below.refl _ _ | apply Below.al | apply Below.drewN' | apply Below.drew | (refine Below.sc ?_ (by first | omega | (simp; done) | (simp; omega)) _) | (apply Below.tr; assumption))), hid (by rw [H.out]; simp only [btGo]; rw [if_neg (by omega), if_neg (show ¬ tOk xs wi mo m = true from by simp only [tOk, HI]; simp)])⟩
      case measure => simp [intOf]; omega
  · have HE : Hid (bt xs wi mo = none) := hid (by rw [H.out]; cases n <;> simp [btGo]; omega)
    have HC : Hid (btC xs wi mo = 3) := hid (by rw [HCC.out, HE.out]; simp)
    have HO : Hid (btO xs wi mo = 0) := by simp [Hid, btO, HC.out]
    have HF : Hid (btF xs wi mo = 0) := by simp [Hid, btF, HC.out]
    go_wp2
    exact bodyPost_ret (v := .tuple #[.agg #[.int .i64 (btO xs wi mo), .int .i64 (btF xs wi mo)], .int .i64 (btC xs wi mo)]) (by rw [HO.out, HF.out, HC.out]; simp [results, Try.results41, go_sem, *]) rfl ⟨rfl, (by repeat (first | assumption | exact Below.refl _ _ | apply Below.al | apply Below.drewN' | apply Below.drew | (refine Below.sc ?_ (by first | omega | (simp; done) | (simp; omega)) _) | (apply Below.tr; assumption)))⟩
end Go.Proofs.Ytpfdfbebeckohaa
