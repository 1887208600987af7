/- Contracts of BestWindow, in the program and in the reference. -/
import Derived.Test.YtnkablomkcimaaaC16w
import Derived.Test.YtnkablomkcimaaaCEpB
namespace Go.Proofs.Ytnkablomkcimaaa
open Go.RowKit
set_option linter.unusedVariables false
def epB (x : Ep) : Bool := ephB x.e x.p
theorem epB_at {es : List Ep} (h : es.all epB = true) : ∀ (k : Nat) (x : Ep), es[k]? = some x → 0 ≤ x.e ∧ x.e ≤ 10000000 ∧ 1 ≤ x.p ∧ x.p ≤ 1000000 := fun k x hx => by
  rw [List.all_eq_true] at h
  have := h x (List.mem_of_getElem? hx)
  simp only [epB, ephB, Bool.and_eq_true, inB_true] at this
  omega
def bwS (x : Wi) : List Ep → Int
  | [] => 0
  | e :: r => extI e.e e.p x.f x.t + bwS x r
def bwGo (es : List Ep) : Int × Int → Nat → List Wi → Int × Int
  | b, _, [] => b
  | b, i, x :: r => bwGo es (if b.2 < bwS x es then ((i : Int), bwS x es) else b) (i + 1) r
def bwC (es : List Ep) (xs : List Wi) : Int := if es.all epB = true ∧ wsB xs = true then (if 20 < es.length then 2 else if xs.length = 0 then 3 else 0) else 1
def bwA (es : List Ep) (xs : List Wi) : Int := if bwC es xs = 0 then (bwGo es (0, -1) 0 xs).1 else 0
def bwM (es : List Ep) (xs : List Wi) : Int := if bwC es xs = 0 then (bwGo es (0, -1) 0 xs).2 else 0
set_option maxRecDepth 20000 in
set_option maxHeartbeats 4000000 in
theorem specBestWindow_any (A : Option Addr) (c : Nat) (es : List Ep) (A' : Option Addr) (c' : Nat) (xs : List Wi) (w : World) (h : Rd encEp 2 w w.heap.size A es) (hn : es.length ≤ 1048576) (h' : Rd encWi 2 w w.heap.size A' xs) (hn' : xs.length ≤ 1048576) :
    Calls Try.prog 41 #[.slice A es.length c, .slice A' xs.length c'] w fun e w' => e = .returned (.tuple #[.int .i64 (bwA es xs), .int .i64 (bwM es xs), .int .i64 (bwC es xs)]) ∧ Below w.heap.size w w' := by
  go_enter Try.func41, Try.ntmps41
  go_wp2
  go_loopw [7] (fun i wr => ∃ k : Nat, k ≤ es.length ∧ i = .int .i64 k ∧ Below w.heap.size w wr ∧ Hid (es.all epB = (es.drop k).all epB)) (fun i _ => es.length - (intOf i).toNat)
  case atStart => exact ⟨0, Nat.zero_le _, rfl, (by repeat (first | assumption | exact Below.refl _ _ | apply Below.al | apply Below.drewN' | apply Below.drew | (apply Below.tr; assumption))), hid rfl⟩
  case round =>
  obtain ⟨k, hk, rfl, hb, H⟩ := hrel
  have hsz := hb.size
  by_cases hlt : k < es.length
  · obtain ⟨p, hp⟩ := getx hlt
    obtain ⟨bb, o, rfl, hbB, c0, c1⟩ := (h.below hb (Nat.le_refl _)).at2 hp rfl
    have HS : Hid ((es.drop k).all epB = (epB p && (es.drop (k+1)).all epB)) := by rw [dropx hp]; rfl
    have b0 : bb < wr.heap.size := by omega
    clear hp
    cases he : ephB p.e p.p
    · have HX : Hid (es.all epB = false) := hid (by rw [H.out, HS.out]; simp [epB, he])
      have HC : Hid (bwC es xs = 1) := hid (by unfold bwC; rw [HX.out]; simp)
      have HA : Hid (bwA es xs = 0) := by simp [Hid, bwA, HC.out]
      have HM : Hid (bwM es xs = 0) := by simp [Hid, bwM, HC.out]
      go_wp2_with (go_at_call 95; refine (l09Ok_any _ _ _).mono ?_; rintro e w1 ⟨rfl, hb1⟩; obtain ⟨hc_w1, hf_w1⟩ := bcell hb1; have hz_w1 := hb1.size; (try simp at hz_w1); (try have g_w1 : w.heap.size < w1.heap.size := (by omega)))
      refine bodyPost_ret (v := .tuple #[.int .i64 (bwA es xs), .int .i64 (bwM es xs), .int .i64 (bwC es xs)]) (by rw [HA.out, HM.out, HC.out]; simp [results, Try.results41, go_sem]) rfl ⟨rfl, (by repeat (first | assumption | exact Below.refl _ _ | apply Below.al | apply Below.drewN' | apply Below.drew | (apply Below.tr; assumption)))⟩
    · go_wp2_with (go_at_call 95; refine (l09Ok_any _ _ _).mono ?_; rintro e w1 ⟨rfl, hb1⟩; obtain ⟨hc_w1, hf_w1⟩ := bcell hb1; have hz_w1 := hb1.size; (try simp at hz_w1); (try have g_w1 : w.heap.size < w1.heap.size := (by omega)))
      go_roundw
      case rel => exact ⟨k + 1, by omega, by go_num, (by repeat (first | assumption | exact Below.refl _ _ | apply Below.al | apply Below.drewN' | apply Below.drew | (apply Below.tr; assumption))), hid (by rw [H.out, HS.out]; simp [epB, he])⟩
      case measure => simp [intOf]; omega
  have HX : Hid (es.all epB = true) := hid (by rw [H.out, List.drop_eq_nil_of_le (by omega)]; rfl)
  cases hw : wsB xs
  · have HC : Hid (bwC es xs = 1) := hid (by unfold bwC; rw [HX.out, hw]; simp)
    have HA : Hid (bwA es xs = 0) := by simp [Hid, bwA, HC.out]
    have HM : Hid (bwM es xs = 0) := by simp [Hid, bwM, HC.out]
    go_wp2_with (go_at_call 96; refine (l15Ok_any A' c' xs _ ((h'.below (B' := w.heap.size) (by repeat (first | assumption | exact Below.refl _ _ | apply Below.al | apply Below.drewN' | apply Below.drew | (apply Below.tr; assumption))) (Nat.le_refl _)).more (by omega)) hn').mono ?_; rintro e w1 ⟨rfl, hb1⟩; obtain ⟨hc_w1, hf_w1⟩ := bcell hb1; have hz_w1 := hb1.size; (try simp at hz_w1); (try have g_w1 : w.heap.size < w1.heap.size := (by omega)))
    refine bodyPost_ret (v := .tuple #[.int .i64 (bwA es xs), .int .i64 (bwM es xs), .int .i64 (bwC es xs)]) (by rw [HA.out, HM.out, HC.out]; simp [results, Try.results41, go_sem]) rfl ⟨rfl, (by repeat (first | assumption | exact Below.refl _ _ | apply Below.al | apply Below.drewN' | apply Below.drew | (apply Below.tr; assumption)))⟩
  by_cases h20 : 20 < es.length
  · have HC : Hid (bwC es xs = 2) := hid (by unfold bwC; rw [HX.out, hw]; simp [h20])
    have HA : Hid (bwA es xs = 0) := by simp [Hid, bwA, HC.out]
    have HM : Hid (bwM es xs = 0) := by simp [Hid, bwM, HC.out]
    go_wp2_with (go_at_call 96; refine (l15Ok_any A' c' xs _ ((h'.below (B' := w.heap.size) (by repeat (first | assumption | exact Below.refl _ _ | apply Below.al | apply Below.drewN' | apply Below.drew | (apply Below.tr; assumption))) (Nat.le_refl _)).more (by omega)) hn').mono ?_; rintro e w1 ⟨rfl, hb1⟩; obtain ⟨hc_w1, hf_w1⟩ := bcell hb1; have hz_w1 := hb1.size; (try simp at hz_w1); (try have g_w1 : w.heap.size < w1.heap.size := (by omega)))
    refine bodyPost_ret (v := .tuple #[.int .i64 (bwA es xs), .int .i64 (bwM es xs), .int .i64 (bwC es xs)]) (by rw [HA.out, HM.out, HC.out]; simp [results, Try.results41, go_sem]) rfl ⟨rfl, (by repeat (first | assumption | exact Below.refl _ _ | apply Below.al | apply Below.drewN' | apply Below.drew | (apply Below.tr; assumption)))⟩
  by_cases hx0 : xs.length = 0
  · have HC : Hid (bwC es xs = 3) := hid (by unfold bwC; rw [HX.out, hw]; simp [h20, hx0])
    have HA : Hid (bwA es xs = 0) := by simp [Hid, bwA, HC.out]
    have HM : Hid (bwM es xs = 0) := by simp [Hid, bwM, HC.out]
    have hx1 : ((xs.length : Int) == 0) = true := by simp [hx0]
    clear hx0
    go_wp2_with (go_at_call 96; refine (l15Ok_any A' c' xs _ ((h'.below (B' := w.heap.size) (by repeat (first | assumption | exact Below.refl _ _ | apply Below.al | apply Below.drewN' | apply Below.drew | (apply Below.tr; assumption))) (Nat.le_refl _)).more (by omega)) hn').mono ?_; rintro e w1 ⟨rfl, hb1⟩; obtain ⟨hc_w1, hf_w1⟩ := bcell hb1; have hz_w1 := hb1.size; (try simp at hz_w1); (try have g_w1 : w.heap.size < w1.heap.size := (by omega)))
    refine bodyPost_ret (v := .tuple #[.int .i64 (bwA es xs), .int .i64 (bwM es xs), .int .i64 (bwC es xs)]) (by rw [HA.out, HM.out, HC.out]; simp [results, Try.results41, go_sem]) rfl ⟨rfl, (by repeat (first | assumption | exact Below.refl _ _ | apply Below.al | apply Below.drewN' | apply Below.drew | (apply Below.tr; assumption)))⟩
  have HC : Hid (bwC es xs = 0) := hid (by unfold bwC; rw [HX.out, hw]; simp [h20, hx0])
  have HA : Hid (bwA es xs = (bwGo es (0, -1) 0 xs).1) := by simp [Hid, bwA, HC.out]
  have HM : Hid (bwM es xs = (bwGo es (0, -1) 0 xs).2) := by simp [Hid, bwM, HC.out]
  have hx1 : ((xs.length : Int) == 0) = false := by simpa using hx0
  have V := hid (wsB_at hw)
  have VE := hid (epB_at HX.out)
  clear hx0
  go_wp2_with (go_at_call 96; refine (l15Ok_any A' c' xs _ ((h'.below (B' := w.heap.size) (by repeat (first | assumption | exact Below.refl _ _ | apply Below.al | apply Below.drewN' | apply Below.drew | (apply Below.tr; assumption))) (Nat.le_refl _)).more (by omega)) hn').mono ?_; rintro e w1 ⟨rfl, hb1⟩; obtain ⟨hc_w1, hf_w1⟩ := bcell hb1; have hz_w1 := hb1.size; (try simp at hz_w1); (try have g_w1 : w.heap.size < w1.heap.size := (by omega)))
  clear hk hlt hx1 H hw
  go_loopw [8, 9, 10] (fun bv mv i wr => ∃ (k : Nat) (best most : Int), k ≤ xs.length ∧ i = .int .i64 k ∧ bv = .int .i64 best ∧ mv = .int .i64 most ∧ Below w.heap.size w wr ∧ Hid (bwGo es (0, -1) 0 xs = bwGo es (best, most) k (xs.drop k))) (fun _ _ i _ => xs.length - (intOf i).toNat)
  case atStart => exact ⟨0, 0, -1, Nat.zero_le _, rfl, rfl, rfl, (by repeat (first | assumption | exact Below.refl _ _ | apply Below.al | apply Below.drewN' | apply Below.drew | (apply Below.tr; assumption))), hid rfl⟩
  case round =>
    obtain ⟨k, best, most, hk, rfl, rfl, rfl, hb, H⟩ := hrel
    have hsz := hb.size
    by_cases hlt : k < xs.length
    · obtain ⟨p, hp⟩ := getx hlt
      obtain ⟨bb, o, rfl, hbB, c0, c1⟩ := (h'.below hb (Nat.le_refl _)).at2 hp rfl
      obtain ⟨p1, p2, p3, p4, p5⟩ := V.out k p hp
      have HS : Hid (bwGo es (best, most) k (xs.drop k) = bwGo es (if most < bwS p es then ((k : Int), bwS p es) else (best, most)) (k+1) (xs.drop (k+1))) := by rw [dropx hp]; rfl
      have b0 : bb < wr.heap.size := by omega
      clear hp
      obtain ⟨w0, rfl⟩ : ∃ w0, w0 = wr := ⟨_, rfl⟩
      go_wp2
      go_loopw [11, 12] (fun nv i wr => ∃ (j : Nat) (n : Int), j ≤ es.length ∧ i = .int .i64 j ∧ nv = .int .i64 n ∧ 0 ≤ n ∧ n ≤ j * 10000001 ∧ Below (World.heap w0).size w0 wr ∧ Hid (bwS p es = n + bwS p (es.drop j))) (fun _ i _ => es.length - (intOf i).toNat)
      case atStart => exact ⟨0, 0, Nat.zero_le _, rfl, rfl, by omega, by omega, (by repeat (first | assumption | exact Below.refl _ _ | apply Below.al | apply Below.drewN' | apply Below.drew | (refine Below.sc ?_ (by first | omega | (simp; done) | (simp; omega)) _) | (apply Below.tr; assumption))), hid (by simp)⟩
      case round =>
        obtain ⟨j, n, hj, rfl, rfl, n0, n1, hb2, H2⟩ := hrel
        have hb3w : Below w0.heap.size w0 wr := hb2
        have hbw : Below w.heap.size w wr := Below.tr hb3w hb
        have hszw := hbw.size
        by_cases hlj : j < es.length
        · obtain ⟨q, hq⟩ := getx hlj
          obtain ⟨bb', o', rfl, hbB', d0, d1⟩ := (h.below hbw (Nat.le_refl _)).at2 hq rfl
          obtain ⟨q1, q2, q3, q4⟩ := VE.out j q hq
          have HS2 : Hid (bwS p (es.drop j) = extI q.e q.p p.f p.t + bwS p (es.drop (j+1))) := by rw [dropx hq]; rfl
          have y0 := extI_nn (e := q.e) (f := p.f) (t := p.t) q3
          have y1 := extI_le (e := q.e) (t := p.t) q3 p1 p4
          have b2 : bb' < wr.heap.size := by omega
          have gx : w0.heap.size ≤ wr.heap.size := hb2.size
          have c0' : wr.cell? ⟨bb, o + k * 2, none⟩ = some (.int .i64 p.f) := ((bcell hb2).1 bb _ b0).trans c0
          have c1' : wr.cell? ⟨bb, o + k * 2 + 1, none⟩ = some (.int .i64 p.t) := ((bcell hb2).1 bb _ b0).trans c1
          have b0' : bb < wr.heap.size := by omega
          clear hq
          go_wp2
          refine wp_region_ext (by kernel_rfl) (by kernel_rfl) ?_
          repeat (go_big_quiet_step ((first | (go_at_call 97; exact ext_below (l16Count_any _ _ _ _ _ q1 q2 q3 q4 p1 p2 p3 p4)))))
          refine wpQuiet_nil ?_
          intro w3 hb3
          obtain ⟨hc_w3, hf_w3⟩ := bcell hb3
          have hz_w3 := hb3.size
          go_wp2
          go_roundw
          case rel => exact ⟨j + 1, n + extI q.e q.p p.f p.t, by omega, by go_num, rfl, by omega, by push_cast; omega, (by repeat (first | assumption | exact Below.refl _ _ | apply Below.al | apply Below.drewN' | apply Below.drew | (refine Below.sc ?_ (by first | omega | (simp; done) | (simp; omega)) _) | (apply Below.tr; assumption))), hid (by rw [H2.out, HS2.out]; omega)⟩
          case measure => simp [intOf]; omega
        · have HE : Hid (bwS p es = n) := hid (by rw [H2.out, List.drop_eq_nil_of_le (by omega)]; simp [bwS])
          by_cases hg : most < n
          · have HG : Hid (bwGo es (0, -1) 0 xs = bwGo es ((k : Int), n) (k+1) (xs.drop (k+1))) := hid (by rw [H.out, HS.out, HE.out, if_pos hg])
            go_wp2
            go_roundw
            case rel => exact ⟨k + 1, (k : Int), n, by omega, by go_num, rfl, rfl, hbw, HG⟩
            case measure => simp [intOf]; omega
          · have HG : Hid (bwGo es (0, -1) 0 xs = bwGo es (best, most) (k+1) (xs.drop (k+1))) := hid (by rw [H.out, HS.out, HE.out, if_neg hg])
            go_wp2
            go_roundw
            case rel => exact ⟨k + 1, best, most, by omega, by go_num, rfl, rfl, hbw, HG⟩
            case measure => simp [intOf]; omega
    · have HE : Hid (bwGo es (0, -1) 0 xs = (best, most)) := hid (by rw [H.out, List.drop_eq_nil_of_le (by omega)]; rfl)
      have HA1 : Hid (bwA es xs = best) := hid (by rw [HA.out, HE.out])
      have HM1 : Hid (bwM es xs = most) := hid (by rw [HM.out, HE.out])
      go_wp2
      refine bodyPost_ret (v := .tuple #[.int .i64 (bwA es xs), .int .i64 (bwM es xs), .int .i64 (bwC es xs)]) (by rw [HA1.out, HM1.out, HC.out]; simp [results, Try.results41, go_sem]) rfl ⟨rfl, (by repeat (first | assumption | exact Below.refl _ _ | apply Below.al | apply Below.drewN' | apply Below.drew | (apply Below.tr; assumption)))⟩
set_option maxRecDepth 20000 in
set_option maxHeartbeats 4000000 in
theorem implBestWindow_any (A : Option Addr) (c : Nat) (es : List Ep) (A' : Option Addr) (c' : Nat) (xs : List Wi) (w : World) (h : Rd encEp 2 w w.heap.size A es) (hn : es.length ≤ 1048576) (h' : Rd encWi 2 w w.heap.size A' xs) (hn' : xs.length ≤ 1048576) :
    Calls Try.prog 44 #[.slice A es.length c, .slice A' xs.length c'] w fun e w' => e = .returned (.tuple #[.int .i64 (bwA es xs), .int .i64 (bwM es xs), .int .i64 (bwC es xs)]) ∧ Below w.heap.size w w' := by
  go_enter Try.func44, Try.ntmps44
  go_wp2
  go_loopw [18] (fun i wr => ∃ k : Nat, k ≤ es.length ∧ i = .int .i64 k ∧ Below w.heap.size w wr ∧ Hid (es.all epB = (es.drop k).all epB)) (fun i _ => es.length - (intOf i).toNat)
  case atStart => exact ⟨0, Nat.zero_le _, rfl, (by repeat (first | assumption | exact Below.refl _ _ | apply Below.al | apply Below.drewN' | apply Below.drew | (apply Below.tr; assumption))), hid rfl⟩
  case round =>
  obtain ⟨k, hk, rfl, hb, H⟩ := hrel
  have hsz := hb.size
  by_cases hlt : k < es.length
  · obtain ⟨p, hp⟩ := getx hlt
    obtain ⟨bb, o, rfl, hbB, c0, c1⟩ := (h.below hb (Nat.le_refl _)).at2 hp rfl
    have HS : Hid ((es.drop k).all epB = (epB p && (es.drop (k+1)).all epB)) := by rw [dropx hp]; rfl
    have b0 : bb < wr.heap.size := by omega
    clear hp
    cases he : ephB p.e p.p
    · have HX : Hid (es.all epB = false) := hid (by rw [H.out, HS.out]; simp [epB, he])
      have HC : Hid (bwC es xs = 1) := hid (by unfold bwC; rw [HX.out]; simp)
      have HA : Hid (bwA es xs = 0) := by simp [Hid, bwA, HC.out]
      have HM : Hid (bwM es xs = 0) := by simp [Hid, bwM, HC.out]
      go_wp2_with (go_at_call 88; refine (validEphemeris_any _ _ _).mono ?_; rintro e w1 ⟨rfl, hb1⟩; obtain ⟨hc_w1, hf_w1⟩ := bcell hb1; have hz_w1 := hb1.size; (try simp at hz_w1); (try have g_w1 : w.heap.size < w1.heap.size := (by omega)))
      refine bodyPost_ret (v := .tuple #[.int .i64 (bwA es xs), .int .i64 (bwM es xs), .int .i64 (bwC es xs)]) (by rw [HA.out, HM.out, HC.out]; simp [results, Try.results44, go_sem]) rfl ⟨rfl, (by repeat (first | assumption | exact Below.refl _ _ | apply Below.al | apply Below.drewN' | apply Below.drew | (apply Below.tr; assumption)))⟩
    · go_wp2_with (go_at_call 88; refine (validEphemeris_any _ _ _).mono ?_; rintro e w1 ⟨rfl, hb1⟩; obtain ⟨hc_w1, hf_w1⟩ := bcell hb1; have hz_w1 := hb1.size; (try simp at hz_w1); (try have g_w1 : w.heap.size < w1.heap.size := (by omega)))
      go_roundw
      case rel => exact ⟨k + 1, by omega, by go_num, (by repeat (first | assumption | exact Below.refl _ _ | apply Below.al | apply Below.drewN' | apply Below.drew | (apply Below.tr; assumption))), hid (by rw [H.out, HS.out]; simp [epB, he])⟩
      case measure => simp [intOf]; omega
  have HX : Hid (es.all epB = true) := hid (by rw [H.out, List.drop_eq_nil_of_le (by omega)]; rfl)
  cases hw : wsB xs
  · have HC : Hid (bwC es xs = 1) := hid (by unfold bwC; rw [HX.out, hw]; simp)
    have HA : Hid (bwA es xs = 0) := by simp [Hid, bwA, HC.out]
    have HM : Hid (bwM es xs = 0) := by simp [Hid, bwM, HC.out]
    go_wp2_with (go_at_call 100; refine (validWindows_any A' c' xs _ ((h'.below (B' := w.heap.size) (by repeat (first | assumption | exact Below.refl _ _ | apply Below.al | apply Below.drewN' | apply Below.drew | (apply Below.tr; assumption))) (Nat.le_refl _)).more (by omega)) hn').mono ?_; rintro e w1 ⟨rfl, hb1⟩; obtain ⟨hc_w1, hf_w1⟩ := bcell hb1; have hz_w1 := hb1.size; (try simp at hz_w1); (try have g_w1 : w.heap.size < w1.heap.size := (by omega)))
    refine bodyPost_ret (v := .tuple #[.int .i64 (bwA es xs), .int .i64 (bwM es xs), .int .i64 (bwC es xs)]) (by rw [HA.out, HM.out, HC.out]; simp [results, Try.results44, go_sem]) rfl ⟨rfl, (by repeat (first | assumption | exact Below.refl _ _ | apply Below.al | apply Below.drewN' | apply Below.drew | (apply Below.tr; assumption)))⟩
  by_cases h20 : 20 < es.length
  · have HC : Hid (bwC es xs = 2) := hid (by unfold bwC; rw [HX.out, hw]; simp [h20])
    have HA : Hid (bwA es xs = 0) := by simp [Hid, bwA, HC.out]
    have HM : Hid (bwM es xs = 0) := by simp [Hid, bwM, HC.out]
    go_wp2_with (go_at_call 100; refine (validWindows_any A' c' xs _ ((h'.below (B' := w.heap.size) (by repeat (first | assumption | exact Below.refl _ _ | apply Below.al | apply Below.drewN' | apply Below.drew | (apply Below.tr; assumption))) (Nat.le_refl _)).more (by omega)) hn').mono ?_; rintro e w1 ⟨rfl, hb1⟩; obtain ⟨hc_w1, hf_w1⟩ := bcell hb1; have hz_w1 := hb1.size; (try simp at hz_w1); (try have g_w1 : w.heap.size < w1.heap.size := (by omega)))
    refine bodyPost_ret (v := .tuple #[.int .i64 (bwA es xs), .int .i64 (bwM es xs), .int .i64 (bwC es xs)]) (by rw [HA.out, HM.out, HC.out]; simp [results, Try.results44, go_sem]) rfl ⟨rfl, (by repeat (first | assumption | exact Below.refl _ _ | apply Below.al | apply Below.drewN' | apply Below.drew | (apply Below.tr; assumption)))⟩
  by_cases hx0 : xs.length = 0
  · have HC : Hid (bwC es xs = 3) := hid (by unfold bwC; rw [HX.out, hw]; simp [h20, hx0])
    have HA : Hid (bwA es xs = 0) := by simp [Hid, bwA, HC.out]
    have HM : Hid (bwM es xs = 0) := by simp [Hid, bwM, HC.out]
    have hx1 : ((xs.length : Int) == 0) = true := by simp [hx0]
    clear hx0
    go_wp2_with (go_at_call 100; refine (validWindows_any A' c' xs _ ((h'.below (B' := w.heap.size) (by repeat (first | assumption | exact Below.refl _ _ | apply Below.al | apply Below.drewN' | apply Below.drew | (apply Below.tr; assumption))) (Nat.le_refl _)).more (by omega)) hn').mono ?_; rintro e w1 ⟨rfl, hb1⟩; obtain ⟨hc_w1, hf_w1⟩ := bcell hb1; have hz_w1 := hb1.size; (try simp at hz_w1); (try have g_w1 : w.heap.size < w1.heap.size := (by omega)))
    refine bodyPost_ret (v := .tuple #[.int .i64 (bwA es xs), .int .i64 (bwM es xs), .int .i64 (bwC es xs)]) (by rw [HA.out, HM.out, HC.out]; simp [results, Try.results44, go_sem]) rfl ⟨rfl, (by repeat (first | assumption | exact Below.refl _ _ | apply Below.al | apply Below.drewN' | apply Below.drew | (apply Below.tr; assumption)))⟩
  have HC : Hid (bwC es xs = 0) := hid (by unfold bwC; rw [HX.out, hw]; simp [h20, hx0])
  have HA : Hid (bwA es xs = (bwGo es (0, -1) 0 xs).1) := by simp [Hid, bwA, HC.out]
  have HM : Hid (bwM es xs = (bwGo es (0, -1) 0 xs).2) := by simp [Hid, bwM, HC.out]
  have hx1 : ((xs.length : Int) == 0) = false := by simpa using hx0
  have V := hid (wsB_at hw)
  have VE := hid (epB_at HX.out)
  clear hx0
  go_wp2_with (go_at_call 100; refine (validWindows_any A' c' xs _ ((h'.below (B' := w.heap.size) (by repeat (first | assumption | exact Below.refl _ _ | apply Below.al | apply Below.drewN' | apply Below.drew | (apply Below.tr; assumption))) (Nat.le_refl _)).more (by omega)) hn').mono ?_; rintro e w1 ⟨rfl, hb1⟩; obtain ⟨hc_w1, hf_w1⟩ := bcell hb1; have hz_w1 := hb1.size; (try simp at hz_w1); (try have g_w1 : w.heap.size < w1.heap.size := (by omega)))
  clear hk hlt hx1 H hw
  go_loopw [9, 10, 40] (fun bv mv i wr => ∃ (k : Nat) (best most : Int), k ≤ xs.length ∧ i = .int .i64 k ∧ bv = .int .i64 best ∧ mv = .int .i64 most ∧ Below w.heap.size w wr ∧ Hid (bwGo es (0, -1) 0 xs = bwGo es (best, most) k (xs.drop k))) (fun _ _ i _ => xs.length - (intOf i).toNat)
  case atStart => exact ⟨0, 0, -1, Nat.zero_le _, rfl, rfl, rfl, (by repeat (first | assumption | exact Below.refl _ _ | apply Below.al | apply Below.drewN' | apply Below.drew | (apply Below.tr; assumption))), hid rfl⟩
  case round =>
    obtain ⟨k, best, most, hk, rfl, rfl, rfl, hb, H⟩ := hrel
    have hsz := hb.size
    by_cases hlt : k < xs.length
    · obtain ⟨p, hp⟩ := getx hlt
      obtain ⟨bb, o, rfl, hbB, c0, c1⟩ := (h'.below hb (Nat.le_refl _)).at2 hp rfl
      obtain ⟨p1, p2, p3, p4, p5⟩ := V.out k p hp
      have HS : Hid (bwGo es (best, most) k (xs.drop k) = bwGo es (if most < bwS p es then ((k : Int), bwS p es) else (best, most)) (k+1) (xs.drop (k+1))) := by rw [dropx hp]; rfl
      have b0 : bb < wr.heap.size := by omega
      clear hp
      obtain ⟨w0, rfl⟩ : ∃ w0, w0 = wr := ⟨_, rfl⟩
      go_wp2
      go_loopw [13, 47] (fun nv i wr => ∃ (j : Nat) (n : Int), j ≤ es.length ∧ i = .int .i64 j ∧ nv = .int .i64 n ∧ 0 ≤ n ∧ n ≤ j * 10000001 ∧ Below (World.heap (w0.alloc (.cells #[.int .i64 p.f, .int .i64 p.t] 54))).size (w0.alloc (.cells #[.int .i64 p.f, .int .i64 p.t] 54)) wr ∧ Hid (bwS p es = n + bwS p (es.drop j))) (fun _ i _ => es.length - (intOf i).toNat)
      case atStart => exact ⟨0, 0, Nat.zero_le _, rfl, rfl, by omega, by omega, (by repeat (first | assumption | exact Below.refl _ _ | apply Below.al | apply Below.drewN' | apply Below.drew | (refine Below.sc ?_ (by first | omega | (simp; done) | (simp; omega)) _) | (apply Below.tr; assumption))), hid (by simp)⟩
      case round =>
        obtain ⟨j, n, hj, rfl, rfl, n0, n1, hb2, H2⟩ := hrel
        have hb3w : Below w0.heap.size w0 wr := Below.tr hb2 (Below.al (Below.refl _ _) _)
        have hbw : Below w.heap.size w wr := Below.tr hb3w hb
        have hszw := hbw.size
        by_cases hlj : j < es.length
        · obtain ⟨q, hq⟩ := getx hlj
          obtain ⟨bb', o', rfl, hbB', d0, d1⟩ := (h.below hbw (Nat.le_refl _)).at2 hq rfl
          obtain ⟨q1, q2, q3, q4⟩ := VE.out j q hq
          have HS2 : Hid (bwS p (es.drop j) = extI q.e q.p p.f p.t + bwS p (es.drop (j+1))) := by rw [dropx hq]; rfl
          have y0 := extI_nn (e := q.e) (f := p.f) (t := p.t) q3
          have y1 := extI_le (e := q.e) (t := p.t) q3 p1 p4
          have b2 : bb' < wr.heap.size := by omega
          have x0 : wr.cell? ⟨w0.heap.size, 0, none⟩ = some (.int .i64 p.f) := ((bcell hb2).1 (w0.heap.size) 0 (by simp)).trans (by simp [go_sem])
          have x1 : wr.cell? ⟨w0.heap.size, 1, none⟩ = some (.int .i64 p.t) := ((bcell hb2).1 (w0.heap.size) 1 (by simp)).trans (by simp [go_sem])
          have gx : w0.heap.size < wr.heap.size := by have := hb2.size; simp at this; omega
          clear hq
          go_wp2_with (go_at_call 83; refine (extremaIn_any _ _ _ _ _ q1 q2 q3 q4 p1 p2 p3 p4).mono ?_; rintro e w9 ⟨rfl, hb9⟩; obtain ⟨hc_w9, hf_w9⟩ := bcell hb9; have hz_w9 := hb9.size; (try simp at hz_w9); (try have g_w9 : w.heap.size < w9.heap.size := (by omega)))
          go_roundw
          case rel => exact ⟨j + 1, n + extI q.e q.p p.f p.t, by omega, by go_num, rfl, by omega, by push_cast; omega, (by repeat (first | assumption | exact Below.refl _ _ | apply Below.al | apply Below.drewN' | apply Below.drew | (refine Below.sc ?_ (by first | omega | (simp; done) | (simp; omega)) _) | (apply Below.tr; assumption))), hid (by rw [H2.out, HS2.out]; omega)⟩
          case measure => simp [intOf]; omega
        · have HE : Hid (bwS p es = n) := hid (by rw [H2.out, List.drop_eq_nil_of_le (by omega)]; simp [bwS])
          by_cases hg : most < n
          · have HG : Hid (bwGo es (0, -1) 0 xs = bwGo es ((k : Int), n) (k+1) (xs.drop (k+1))) := hid (by rw [H.out, HS.out, HE.out, if_pos hg])
            go_wp2
            go_roundw
            case rel => exact ⟨k + 1, (k : Int), n, by omega, by go_num, rfl, rfl, hbw, HG⟩
            case measure => simp [intOf]; omega
          · have HG : Hid (bwGo es (0, -1) 0 xs = bwGo es (best, most) (k+1) (xs.drop (k+1))) := hid (by rw [H.out, HS.out, HE.out, if_neg hg])
            go_wp2
            go_roundw
            case rel => exact ⟨k + 1, best, most, by omega, by go_num, rfl, rfl, hbw, HG⟩
            case measure => simp [intOf]; omega
    · have HE : Hid (bwGo es (0, -1) 0 xs = (best, most)) := hid (by rw [H.out, List.drop_eq_nil_of_le (by omega)]; rfl)
      have HA1 : Hid (bwA es xs = best) := hid (by rw [HA.out, HE.out])
      have HM1 : Hid (bwM es xs = most) := hid (by rw [HM.out, HE.out])
      go_wp2
      refine bodyPost_ret (v := .tuple #[.int .i64 (bwA es xs), .int .i64 (bwM es xs), .int .i64 (bwC es xs)]) (by rw [HA1.out, HM1.out, HC.out]; simp [results, Try.results44, go_sem]) rfl ⟨rfl, (by repeat (first | assumption | exact Below.refl _ _ | apply Below.al | apply Below.drewN' | apply Below.drew | (apply Below.tr; assumption)))⟩
end Go.Proofs.Ytnkablomkcimaaa
