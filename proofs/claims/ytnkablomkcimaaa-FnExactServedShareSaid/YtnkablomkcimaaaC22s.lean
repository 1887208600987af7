/- Contracts: the share of requests that is served, in the program and in the reference. -/
import Derived.Test.YtnkablomkcimaaaC22v
import Derived.Test.YtnkablomkcimaaaCGcd
namespace Go.Proofs.Ytnkablomkcimaaa
open Go.RowKit
set_option linter.unusedVariables false
def dS : List Rq → Int
  | [] => 0
  | x :: r => x.d + dS r
def wS : List Rq → Int
  | [] => 0
  | x :: r => x.n + wS r
def ssC (xs : List Rq) : Int := if rqL xs = true then (if xs.length = 0 then 3 else 0) else 1
def ssN (xs : List Rq) : Int := if ssC xs = 0 then frN (dS xs) (wS xs) else 0
def ssD (xs : List Rq) : Int := if ssC xs = 0 then frD (dS xs) (wS xs) else 0
set_option maxRecDepth 20000 in
set_option maxHeartbeats 4000000 in
theorem specServedShare_any (A : Option Addr) (c : Nat) (xs : List Rq) (w : World) (h : Rd encRq 6 w w.heap.size A xs) (hn : xs.length ≤ 1048576) (wf : ∀ x ∈ xs, x.s.size ≤ maxLen) :
    Calls Try.prog 54 #[.slice A xs.length c] w fun e w' => e = .returned (.tuple #[.agg #[.int .i64 (ssN xs), .int .i64 (ssD xs)], .int .i64 (ssC xs)]) ∧ Below w.heap.size w w' := by
  cases hv : rqL xs
  · have HC : Hid (ssC xs = 1) := by simp [Hid, ssC, hv]
    have HO : Hid (ssN xs = 0) := by simp [Hid, ssN, HC.out]
    have HF : Hid (ssD xs = 0) := by simp [Hid, ssD, HC.out]
    go_enter Try.func54, Try.ntmps54
    go_wp2_with (go_at_call 103; refine (l22Ok_any A c xs _ ((h.below (B' := w.heap.size) (by repeat (first | assumption | exact Below.refl _ _ | apply Below.al | apply Below.drewN' | apply Below.drew | (apply Below.tr; assumption))) (Nat.le_refl _)).more (by first | (simp; done) | (simp; omega))) hn wf).mono ?_; rintro e w1 ⟨rfl, hb1⟩; obtain ⟨hc_w1, hf_w1⟩ := bcell hb1; have hz_w1 := hb1.size; (try simp at hz_w1); (try have g_w1 : w.heap.size < w1.heap.size := (by omega)))
    exact bodyPost_ret (v := .tuple #[.agg #[.int .i64 (ssN xs), .int .i64 (ssD xs)], .int .i64 (ssC xs)]) (by rw [HO.out, HF.out, HC.out]; simp [results, Try.results54, go_sem, hc_w1, hf_w1]) rfl ⟨rfl, (by repeat (first | assumption | exact Below.refl _ _ | apply Below.al | apply Below.drewN' | apply Below.drew | (refine Below.sc ?_ (by first | omega | (simp; done) | (simp; omega)) _) | (apply Below.tr; assumption)))⟩
  by_cases h0 : xs.length = 0
  · have h0' : ((xs.length : Int) == 0) = true := by simp [h0]
    have HC : Hid (ssC xs = 3) := by simp [Hid, ssC, hv, h0]
    have HO : Hid (ssN xs = 0) := by simp [Hid, ssN, HC.out]
    have HF : Hid (ssD xs = 0) := by simp [Hid, ssD, HC.out]
    clear h0
    go_enter Try.func54, Try.ntmps54
    go_wp2_with (go_at_call 103; refine (l22Ok_any A c xs _ ((h.below (B' := w.heap.size) (by repeat (first | assumption | exact Below.refl _ _ | apply Below.al | apply Below.drewN' | apply Below.drew | (apply Below.tr; assumption))) (Nat.le_refl _)).more (by first | (simp; done) | (simp; omega))) hn wf).mono ?_; rintro e w1 ⟨rfl, hb1⟩; obtain ⟨hc_w1, hf_w1⟩ := bcell hb1; have hz_w1 := hb1.size; (try simp at hz_w1); (try have g_w1 : w.heap.size < w1.heap.size := (by omega)))
    exact bodyPost_ret (v := .tuple #[.agg #[.int .i64 (ssN xs), .int .i64 (ssD xs)], .int .i64 (ssC xs)]) (by rw [HO.out, HF.out, HC.out]; simp [results, Try.results54, go_sem, hc_w1, hf_w1]) rfl ⟨rfl, (by repeat (first | assumption | exact Below.refl _ _ | apply Below.al | apply Below.drewN' | apply Below.drew | (refine Below.sc ?_ (by first | omega | (simp; done) | (simp; omega)) _) | (apply Below.tr; assumption)))⟩
  have h0' : ((xs.length : Int) == 0) = false := by simpa using h0
  have HC : Hid (ssC xs = 0) := by simp [Hid, ssC, hv, h0]
  have HO : Hid (ssN xs = frN (dS xs) (wS xs)) := by simp [Hid, ssN, HC.out]
  have HF : Hid (ssD xs = frD (dS xs) (wS xs)) := by simp [Hid, ssD, HC.out]
  have V := hid (fun (k : Nat) (x : Rq) (hx : xs[k]? = some x) => rqL_at hv hx)
  have hlen := rqL_len hv
  have hpos : 0 < xs.length := by omega
  clear h0
  go_enter Try.func54, Try.ntmps54
  go_wp2_with (go_at_call 103; refine (l22Ok_any A c xs _ ((h.below (B' := w.heap.size) (by repeat (first | assumption | exact Below.refl _ _ | apply Below.al | apply Below.drewN' | apply Below.drew | (apply Below.tr; assumption))) (Nat.le_refl _)).more (by first | (simp; done) | (simp; omega))) hn wf).mono ?_; rintro e w1 ⟨rfl, hb1⟩; obtain ⟨hc_w1, hf_w1⟩ := bcell hb1; have hz_w1 := hb1.size; (try simp at hz_w1); (try have g_w1 : w.heap.size < w1.heap.size := (by omega)))
  clear hv h0'
  go_loopw [4, 5, 6] (fun dv wv i wr => ∃ (k : Nat) (a b : Int), k ≤ xs.length ∧ i = .int .i64 k ∧ dv = .int .i64 a ∧ wv = .int .i64 b ∧ 0 ≤ a ∧ a ≤ k * 100 ∧ k ≤ b ∧ b ≤ k * 100 ∧ Below (World.heap (w.alloc (.cells #[.int .i64 0, .int .i64 0] 45))).size (w.alloc (.cells #[.int .i64 0, .int .i64 0] 45)) wr ∧ Hid (dS xs = a + dS (xs.drop k)) ∧ Hid (wS xs = b + wS (xs.drop k))) (fun _ _ i _ => xs.length - (intOf i).toNat)
  case atStart => exact ⟨0, 0, 0, Nat.zero_le _, rfl, rfl, rfl, by omega, by omega, by omega, by omega, (by repeat (first | assumption | exact Below.refl _ _ | apply Below.al | apply Below.drewN' | apply Below.drew | (apply Below.tr; assumption))), hid (by simp), hid (by simp)⟩
  case round =>
  obtain ⟨k, a, b, hk, rfl, rfl, rfl, a0, a1, b0', b1', hb, H1, H2⟩ := hrel
  have hbw : Below w.heap.size w wr := Below.tr hb (by repeat (first | assumption | exact Below.refl _ _ | apply Below.al | apply Below.drewN' | apply Below.drew | (apply Below.tr; assumption)))
  have hsz := hb.size
  simp at hsz
  have g0 : w.heap.size < wr.heap.size := by omega
  by_cases hlt : k < xs.length
  · obtain ⟨p, hp⟩ := getx hlt
    obtain ⟨bb, o, rfl, hbB, c0, c1, c2, c3, c4, c5⟩ := (h.below hbw (Nat.le_refl _)).at6 hp rfl
    obtain ⟨_, _, _, p1, p2, p3, p4, _, _⟩ := V.out k p hp
    have HS1 : Hid (dS (xs.drop k) = p.d + dS (xs.drop (k+1))) := by rw [dropx hp]; rfl
    have HS2 : Hid (wS (xs.drop k) = p.n + wS (xs.drop (k+1))) := by rw [dropx hp]; rfl
    have bx : bb < wr.heap.size := by omega
    clear hp
    go_wp2
    go_roundw
    case rel => exact ⟨k + 1, a + p.d, b + p.n, by omega, by go_num, rfl, rfl, by omega, by push_cast; omega, by push_cast; omega, by push_cast; omega, (by repeat (first | assumption | exact Below.refl _ _ | apply Below.al | apply Below.drewN' | apply Below.drew | (apply Below.tr; assumption))), hid (by rw [H1.out, HS1.out]; omega), hid (by rw [H2.out, HS2.out]; omega)⟩
    case measure => simp [intOf]; omega
  · have HE1 : Hid (dS xs = a) := hid (by rw [H1.out, List.drop_eq_nil_of_le (by omega)]; simp [dS])
    have HE2 : Hid (wS xs = b) := hid (by rw [H2.out, List.drop_eq_nil_of_le (by omega)]; simp [wS])
    have e0 : wr.cell? ⟨w.heap.size, 0, none⟩ = some (.int .i64 0) := by rw [(bcell hb).1 (w.heap.size) 0 (by first | (simp; done) | (simp; omega))]; simp [go_sem]
    have e1 : wr.cell? ⟨w.heap.size, 1, none⟩ = some (.int .i64 0) := by rw [(bcell hb).1 (w.heap.size) 1 (by first | (simp; done) | (simp; omega))]; simp [go_sem]
    have f0 : wr.frozen? ⟨w.heap.size, 0, none⟩ = false := by rw [(bcell hb).2 (w.heap.size) 0 (by first | (simp; done) | (simp; omega))]; simp [go_sem]
    have f1 : wr.frozen? ⟨w.heap.size, 1, none⟩ = false := by rw [(bcell hb).2 (w.heap.size) 1 (by first | (simp; done) | (simp; omega))]; simp [go_sem]
    have HO1 : Hid (ssN xs = frN a b) := hid (by rw [HO.out, HE1.out, HE2.out])
    have HF1 : Hid (ssD xs = frD a b) := hid (by rw [HF.out, HE1.out, HE2.out])
    go_wp2_with (go_at_call 112; refine (l02Make_any _ _ _ (by omega) (by omega) (by omega) (by omega)).mono ?_; rintro e w2 ⟨rfl, hb2⟩; obtain ⟨hc_w2, hf_w2⟩ := bcell hb2; have hz_w2 := hb2.size; (try simp at hz_w2); (try have g_w2 : w.heap.size < w2.heap.size := (by omega)))
    have e2 : w2.cell? ⟨w.heap.size, 0, none⟩ = some (.int .i64 0) := ((bcell hb2).1 (w.heap.size) 0 g0).trans e0
    have e3 : w2.cell? ⟨w.heap.size, 1, none⟩ = some (.int .i64 0) := ((bcell hb2).1 (w.heap.size) 1 g0).trans e1
    have f2 : w2.frozen? ⟨w.heap.size, 0, none⟩ = false := ((bcell hb2).2 (w.heap.size) 0 g0).trans f0
    have f3 : w2.frozen? ⟨w.heap.size, 1, none⟩ = false := ((bcell hb2).2 (w.heap.size) 1 g0).trans f1
    exact bodyPost_ret (v := .tuple #[.agg #[.int .i64 (ssN xs), .int .i64 (ssD xs)], .int .i64 (ssC xs)]) (by rw [HO1.out, HF1.out, HC.out]; simp [results, Try.results54, go_sem, e2, e3, f2, f3]) rfl ⟨rfl, (by repeat (first | assumption | exact Below.refl _ _ | apply Below.al | apply Below.drewN' | apply Below.drew | (refine Below.sc ?_ (by first | omega | (simp; done) | (simp; omega)) _) | (apply Below.tr; assumption)))⟩
set_option maxRecDepth 20000 in
set_option maxHeartbeats 4000000 in
theorem implServedShare_any (A : Option Addr) (c : Nat) (xs : List Rq) (w : World) (h : Rd encRq 6 w w.heap.size A xs) (hn : xs.length ≤ 1048576) (wf : ∀ x ∈ xs, x.s.size ≤ maxLen) :
    Calls Try.prog 55 #[.slice A xs.length c] w fun e w' => e = .returned (.tuple #[.agg #[.int .i64 (ssN xs), .int .i64 (ssD xs)], .int .i64 (ssC xs)]) ∧ Below w.heap.size w w' := by
  cases hv : rqL xs
  · have HC : Hid (ssC xs = 1) := by simp [Hid, ssC, hv]
    have HO : Hid (ssN xs = 0) := by simp [Hid, ssN, HC.out]
    have HF : Hid (ssD xs = 0) := by simp [Hid, ssD, HC.out]
    go_enter Try.func55, Try.ntmps55
    go_wp2_with (go_at_call 50; refine (validRequests_any A c xs _ ((h.below (B' := w.heap.size) (by repeat (first | assumption | exact Below.refl _ _ | apply Below.al | apply Below.drewN' | apply Below.drew | (apply Below.tr; assumption))) (Nat.le_refl _)).more (by first | (simp; done) | (simp; omega))) hn wf).mono ?_; rintro e w1 ⟨rfl, hb1⟩; obtain ⟨hc_w1, hf_w1⟩ := bcell hb1; have hz_w1 := hb1.size; (try simp at hz_w1); (try have g_w1 : w.heap.size < w1.heap.size := (by omega)))
    exact bodyPost_ret (v := .tuple #[.agg #[.int .i64 (ssN xs), .int .i64 (ssD xs)], .int .i64 (ssC xs)]) (by rw [HO.out, HF.out, HC.out]; simp [results, Try.results55, go_sem, hc_w1, hf_w1]) rfl ⟨rfl, (by repeat (first | assumption | exact Below.refl _ _ | apply Below.al | apply Below.drewN' | apply Below.drew | (refine Below.sc ?_ (by first | omega | (simp; done) | (simp; omega)) _) | (apply Below.tr; assumption)))⟩
  by_cases h0 : xs.length = 0
  · have h0' : ((xs.length : Int) == 0) = true := by simp [h0]
    have HC : Hid (ssC xs = 3) := by simp [Hid, ssC, hv, h0]
    have HO : Hid (ssN xs = 0) := by simp [Hid, ssN, HC.out]
    have HF : Hid (ssD xs = 0) := by simp [Hid, ssD, HC.out]
    clear h0
    go_enter Try.func55, Try.ntmps55
    go_wp2_with (go_at_call 50; refine (validRequests_any A c xs _ ((h.below (B' := w.heap.size) (by repeat (first | assumption | exact Below.refl _ _ | apply Below.al | apply Below.drewN' | apply Below.drew | (apply Below.tr; assumption))) (Nat.le_refl _)).more (by first | (simp; done) | (simp; omega))) hn wf).mono ?_; rintro e w1 ⟨rfl, hb1⟩; obtain ⟨hc_w1, hf_w1⟩ := bcell hb1; have hz_w1 := hb1.size; (try simp at hz_w1); (try have g_w1 : w.heap.size < w1.heap.size := (by omega)))
    exact bodyPost_ret (v := .tuple #[.agg #[.int .i64 (ssN xs), .int .i64 (ssD xs)], .int .i64 (ssC xs)]) (by rw [HO.out, HF.out, HC.out]; simp [results, Try.results55, go_sem, hc_w1, hf_w1]) rfl ⟨rfl, (by repeat (first | assumption | exact Below.refl _ _ | apply Below.al | apply Below.drewN' | apply Below.drew | (refine Below.sc ?_ (by first | omega | (simp; done) | (simp; omega)) _) | (apply Below.tr; assumption)))⟩
  have h0' : ((xs.length : Int) == 0) = false := by simpa using h0
  have HC : Hid (ssC xs = 0) := by simp [Hid, ssC, hv, h0]
  have HO : Hid (ssN xs = frN (dS xs) (wS xs)) := by simp [Hid, ssN, HC.out]
  have HF : Hid (ssD xs = frD (dS xs) (wS xs)) := by simp [Hid, ssD, HC.out]
  have V := hid (fun (k : Nat) (x : Rq) (hx : xs[k]? = some x) => rqL_at hv hx)
  have hlen := rqL_len hv
  have hpos : 0 < xs.length := by omega
  clear h0
  go_enter Try.func55, Try.ntmps55
  go_wp2_with (go_at_call 50; refine (validRequests_any A c xs _ ((h.below (B' := w.heap.size) (by repeat (first | assumption | exact Below.refl _ _ | apply Below.al | apply Below.drewN' | apply Below.drew | (apply Below.tr; assumption))) (Nat.le_refl _)).more (by first | (simp; done) | (simp; omega))) hn wf).mono ?_; rintro e w1 ⟨rfl, hb1⟩; obtain ⟨hc_w1, hf_w1⟩ := bcell hb1; have hz_w1 := hb1.size; (try simp at hz_w1); (try have g_w1 : w.heap.size < w1.heap.size := (by omega)))
  clear hv h0'
  go_loopw [4, 5, 20] (fun dv wv i wr => ∃ (k : Nat) (a b : Int), k ≤ xs.length ∧ i = .int .i64 k ∧ dv = .int .i64 a ∧ wv = .int .i64 b ∧ 0 ≤ a ∧ a ≤ k * 100 ∧ k ≤ b ∧ b ≤ k * 100 ∧ Below (World.heap (w.alloc (.cells #[.int .i64 0, .int .i64 0] 45))).size (w.alloc (.cells #[.int .i64 0, .int .i64 0] 45)) wr ∧ Hid (dS xs = a + dS (xs.drop k)) ∧ Hid (wS xs = b + wS (xs.drop k))) (fun _ _ i _ => xs.length - (intOf i).toNat)
  case atStart => exact ⟨0, 0, 0, Nat.zero_le _, rfl, rfl, rfl, by omega, by omega, by omega, by omega, (by repeat (first | assumption | exact Below.refl _ _ | apply Below.al | apply Below.drewN' | apply Below.drew | (apply Below.tr; assumption))), hid (by simp), hid (by simp)⟩
  case round =>
  obtain ⟨k, a, b, hk, rfl, rfl, rfl, a0, a1, b0', b1', hb, H1, H2⟩ := hrel
  have hbw : Below w.heap.size w wr := Below.tr hb (by repeat (first | assumption | exact Below.refl _ _ | apply Below.al | apply Below.drewN' | apply Below.drew | (apply Below.tr; assumption)))
  have hsz := hb.size
  simp at hsz
  have g0 : w.heap.size < wr.heap.size := by omega
  by_cases hlt : k < xs.length
  · obtain ⟨p, hp⟩ := getx hlt
    obtain ⟨bb, o, rfl, hbB, c0, c1, c2, c3, c4, c5⟩ := (h.below hbw (Nat.le_refl _)).at6 hp rfl
    obtain ⟨_, _, _, p1, p2, p3, p4, _, _⟩ := V.out k p hp
    have HS1 : Hid (dS (xs.drop k) = p.d + dS (xs.drop (k+1))) := by rw [dropx hp]; rfl
    have HS2 : Hid (wS (xs.drop k) = p.n + wS (xs.drop (k+1))) := by rw [dropx hp]; rfl
    have bx : bb < wr.heap.size := by omega
    clear hp
    go_wp2
    refine wp_region_ext (by kernel_rfl) (by kernel_rfl) ?_
    repeat (go_big_quiet_step ((first | fail)))
    refine wpQuiet_nil ?_
    intro w3 hb3
    obtain ⟨hc_w3, hf_w3⟩ := bcell hb3
    have hz_w3 := hb3.size
    go_wp2
    go_roundw
    case rel => exact ⟨k + 1, a + p.d, b + p.n, by omega, by go_num, rfl, rfl, by omega, by push_cast; omega, by push_cast; omega, by push_cast; omega, (by repeat (first | assumption | exact Below.refl _ _ | apply Below.al | apply Below.drewN' | apply Below.drew | (apply Below.tr; assumption))), hid (by rw [H1.out, HS1.out]; omega), hid (by rw [H2.out, HS2.out]; omega)⟩
    case measure => simp [intOf]; omega
  · have HE1 : Hid (dS xs = a) := hid (by rw [H1.out, List.drop_eq_nil_of_le (by omega)]; simp [dS])
    have HE2 : Hid (wS xs = b) := hid (by rw [H2.out, List.drop_eq_nil_of_le (by omega)]; simp [wS])
    have e0 : wr.cell? ⟨w.heap.size, 0, none⟩ = some (.int .i64 0) := by rw [(bcell hb).1 (w.heap.size) 0 (by first | (simp; done) | (simp; omega))]; simp [go_sem]
    have e1 : wr.cell? ⟨w.heap.size, 1, none⟩ = some (.int .i64 0) := by rw [(bcell hb).1 (w.heap.size) 1 (by first | (simp; done) | (simp; omega))]; simp [go_sem]
    have f0 : wr.frozen? ⟨w.heap.size, 0, none⟩ = false := by rw [(bcell hb).2 (w.heap.size) 0 (by first | (simp; done) | (simp; omega))]; simp [go_sem]
    have f1 : wr.frozen? ⟨w.heap.size, 1, none⟩ = false := by rw [(bcell hb).2 (w.heap.size) 1 (by first | (simp; done) | (simp; omega))]; simp [go_sem]
    have HO1 : Hid (ssN xs = frN a b) := hid (by rw [HO.out, HE1.out, HE2.out])
    have HF1 : Hid (ssD xs = frD a b) := hid (by rw [HF.out, HE1.out, HE2.out])
    go_wp2_with (go_at_call 80; refine (lowest_any _ _ _ (by omega) (by omega) (by omega) (by omega)).mono ?_; rintro e w2 ⟨rfl, hb2⟩; obtain ⟨hc_w2, hf_w2⟩ := bcell hb2; have hz_w2 := hb2.size; (try simp at hz_w2); (try have g_w2 : w.heap.size < w2.heap.size := (by omega)))
    have e2 : w2.cell? ⟨w.heap.size, 0, none⟩ = some (.int .i64 0) := ((bcell hb2).1 (w.heap.size) 0 g0).trans e0
    have e3 : w2.cell? ⟨w.heap.size, 1, none⟩ = some (.int .i64 0) := ((bcell hb2).1 (w.heap.size) 1 g0).trans e1
    have f2 : w2.frozen? ⟨w.heap.size, 0, none⟩ = false := ((bcell hb2).2 (w.heap.size) 0 g0).trans f0
    have f3 : w2.frozen? ⟨w.heap.size, 1, none⟩ = false := ((bcell hb2).2 (w.heap.size) 1 g0).trans f1
    exact bodyPost_ret (v := .tuple #[.agg #[.int .i64 (ssN xs), .int .i64 (ssD xs)], .int .i64 (ssC xs)]) (by rw [HO1.out, HF1.out, HC.out]; simp [results, Try.results55, go_sem, e2, e3, f2, f3]) rfl ⟨rfl, (by repeat (first | assumption | exact Below.refl _ _ | apply Below.al | apply Below.drewN' | apply Below.drew | (refine Below.sc ?_ (by first | omega | (simp; done) | (simp; omega)) _) | (apply Below.tr; assumption)))⟩
end Go.Proofs.Ytnkablomkcimaaa
