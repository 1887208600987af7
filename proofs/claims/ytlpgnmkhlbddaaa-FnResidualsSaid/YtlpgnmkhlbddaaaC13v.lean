/- Contracts: lists of minima that are valid; the fitted line of few minima. -/
import Derived.Test.YtlpgnmkhlbddaaaC13d
import Derived.BigRegion
namespace Go.Proofs.Ytlpgnmkhlbddaaa
open Go.RowKit
set_option linter.unusedVariables false
def MvOk (xs : List Mn) : Prop := xs.Pairwise (fun p q => p.c < q.c ∧ p.t < q.t) ∧ (∀ p ∈ xs, -10000 ≤ p.c ∧ p.c ≤ 10000 ∧ 0 ≤ p.t ∧ p.t ≤ 10000000) ∧ xs.length ≤ 50
theorem MvOk.at {xs : List Mn} (h : MvOk xs) {k : Nat} {p : Mn} (hp : xs[k]? = some p) : -10000 ≤ p.c ∧ p.c ≤ 10000 ∧ 0 ≤ p.t ∧ p.t ≤ 10000000 := h.2.1 p (List.mem_of_getElem? hp)
theorem MvOk.lt {ys : List Mn} (h : MvOk ys) {j k : Nat} {p q : Mn} (hj : ys[j]? = some p) (hk : ys[k]? = some q) (hjk : j < k) : p.c < q.c ∧ p.t < q.t := by
  obtain ⟨h1, rfl⟩ := List.getElem?_eq_some_iff.1 hj
  obtain ⟨h2, rfl⟩ := List.getElem?_eq_some_iff.1 hk
  exact List.pairwise_iff_getElem.1 h.1 j k h1 h2 hjk
theorem MnOk.mv {ys : List Mn} (h : MnOk ys) (hl : ys.length ≤ 8) : MvOk ys := ⟨h.1, fun p hp => by have := h.2 p hp; omega, by omega⟩
theorem l13One_ok (a b : Int) (w : World) (h1 : -10000 ≤ a) (h2 : a ≤ 10000) (h3 : 0 ≤ b) (h4 : b ≤ 10000000) :
    Calls Try.prog 36 #[.agg #[.int .i64 a, .int .i64 b]] w fun e w' => e = .returned (.bool true) ∧ Below w.heap.size w w' := by
  have v1 : inB a (-10000) 10000 = true := inB_true.2 ⟨h1, h2⟩
  have v2 : inB b 0 10000000 = true := inB_true.2 ⟨h3, h4⟩
  go_enter Try.func36, Try.ntmps36
  go_wp2_with (first | (go_at_call 42; refine (l00In_any _ _ _ _).mono ?_; rintro e w' ⟨rfl, rfl⟩) | (go_at_call 33; refine (l06Time_any _ _).mono ?_; rintro e w' ⟨rfl, rfl⟩))
  go_ret
  exact ⟨ret_bool (by first | rfl | simp [v1, v2]), (by repeat (first | assumption | exact Below.refl _ _ | apply Below.al | apply Below.drewN' | apply Below.drew | (apply Below.tr; assumption)))⟩
set_option maxHeartbeats 2000000 in
theorem l13Ok_ok (A : Option Addr) (c : Nat) (xs : List Mn) (w : World) (h : Rd encMn 2 w w.heap.size A xs) (ok : MvOk xs) :
    Calls Try.prog 24 #[.slice A xs.length c] w fun e w' => e = .returned (.bool true) ∧ Below w.heap.size w w' := by
  have hn := ok.2.2
  have OK := hid ok
  clear ok
  go_enter Try.func24, Try.ntmps24
  go_wp2
  go_loopw [3] (fun i wr => ∃ (k : Nat), k ≤ xs.length ∧ i = .int .i64 k ∧ Below w.heap.size w wr) (fun i _ => xs.length - (intOf i).toNat)
  case atStart => exact ⟨0, Nat.zero_le _, rfl, (by repeat (first | assumption | exact Below.refl _ _ | apply Below.al | apply Below.drewN' | apply Below.drew | (apply Below.tr; assumption)))⟩
  case round =>
    obtain ⟨k, hk, rfl, hb⟩ := hrel
    by_cases hlt : k < xs.length
    · obtain ⟨p, hp⟩ := getx hlt
      obtain ⟨b, o, rfl, hbB, c0, c1⟩ := (h.below hb (Nat.le_refl _)).at2 hp rfl
      have hsz := hb.size
      have b0 : b < wr.heap.size := by omega
      have b1 : b < wr.heap.size + 1 := by omega
      obtain ⟨p1, p2, p3, p4⟩ := OK.out.at hp
      have HP := hid hp
      clear hp
      by_cases hk0 : 0 < k
      · obtain ⟨q, hq⟩ : ∃ q, xs[k-1]? = some q := getx (by omega)
        obtain ⟨b', o', e1, _, d0, d1⟩ := (h.below hb (Nat.le_refl _)).at2 hq rfl
        simp at e1; obtain ⟨rfl, rfl⟩ := e1
        have hd : decide (0 < (k : Int)) = true := by simp; omega
        have hl := OK.out.lt hq HP.out (by omega)
        have hl1 : decide (p.c ≤ q.c) = false := by simp; omega
        have hl2 : decide (p.t ≤ q.t) = false := by simp; omega
        clear hq
        go_wp2
        refine wp_region_ext (by kernel_rfl) (by kernel_rfl) ?_
        repeat (go_big_quiet_step ((first | (go_at_call 36; exact ext_below (l13One_ok _ _ _ p1 p2 p3 p4)))))
        refine wpQuiet_nil ?_
        intro w3 hb3
        obtain ⟨hc_w3, hf_w3⟩ := bcell hb3
        have hz_w3 := hb3.size
        go_wp2
        go_roundw
        case rel => exact ⟨k + 1, by omega, by go_num, (by repeat (first | assumption | exact Below.refl _ _ | apply Below.al | apply Below.drewN' | apply Below.drew | (apply Below.tr; assumption)))⟩
        case measure => simp [intOf]; omega
      · have hd : decide (0 < (k : Int)) = false := by simp; omega
        go_wp2
        refine wp_region_ext (by kernel_rfl) (by kernel_rfl) ?_
        repeat (go_big_quiet_step ((first | (go_at_call 36; exact ext_below (l13One_ok _ _ _ p1 p2 p3 p4)))))
        refine wpQuiet_nil ?_
        intro w3 hb3
        obtain ⟨hc_w3, hf_w3⟩ := bcell hb3
        have hz_w3 := hb3.size
        go_wp2
        go_roundw
        case rel => exact ⟨k + 1, by omega, by go_num, (by repeat (first | assumption | exact Below.refl _ _ | apply Below.al | apply Below.drewN' | apply Below.drew | (apply Below.tr; assumption)))⟩
        case measure => simp [intOf]; omega
    · have hd : decide ((xs.length : Int) ≤ 50) = true := by simp; omega
      go_wp2
      go_ret
      exact ⟨rfl, (by repeat (first | assumption | exact Below.refl _ _ | apply Below.al | apply Below.drewN' | apply Below.drew | (apply Below.tr; assumption)))⟩
theorem isMinimum_ok (a b : Int) (w : World) (h1 : -10000 ≤ a) (h2 : a ≤ 10000) (h3 : 0 ≤ b) (h4 : b ≤ 10000000) :
    Calls Try.prog 25 #[.agg #[.int .i64 a, .int .i64 b]] w fun e w' => e = .returned (.bool true) ∧ Below w.heap.size w w' := by
  have v1 : inB a (-10000) 10000 = true := inB_true.2 ⟨h1, h2⟩
  have v2 : inB b 0 10000000 = true := inB_true.2 ⟨h3, h4⟩
  go_enter Try.func25, Try.ntmps25
  go_wp2_with (first | (go_at_call 23; refine (in_eq (by assumption) _).mono ?_; rintro e w' ⟨rfl, rfl⟩) | (go_at_call 37; refine (validTime_any _ _).mono ?_; rintro e w' ⟨rfl, rfl⟩))
  go_ret
  exact ⟨ret_bool (by first | rfl | simp [v1, v2]), (by repeat (first | assumption | exact Below.refl _ _ | apply Below.al | apply Below.drewN' | apply Below.drew | (apply Below.tr; assumption)))⟩
set_option maxHeartbeats 2000000 in
theorem validMinima_ok (A : Option Addr) (c : Nat) (xs : List Mn) (w : World) (h : Rd encMn 2 w w.heap.size A xs) (ok : MvOk xs) :
    Calls Try.prog 13 #[.slice A xs.length c] w fun e w' => e = .returned (.bool true) ∧ Below w.heap.size w w' := by
  have hn := ok.2.2
  have OK := hid ok
  clear ok
  go_enter Try.func13, Try.ntmps13
  go_wp2
  go_loopw [10] (fun i wr => ∃ (k : Nat), k ≤ xs.length ∧ i = .int .i64 k ∧ Below w.heap.size w wr) (fun i _ => xs.length - (intOf i).toNat)
  case atStart => exact ⟨0, Nat.zero_le _, rfl, (by repeat (first | assumption | exact Below.refl _ _ | apply Below.al | apply Below.drewN' | apply Below.drew | (apply Below.tr; assumption)))⟩
  case round =>
    obtain ⟨k, hk, rfl, hb⟩ := hrel
    by_cases hlt : k < xs.length
    · obtain ⟨p, hp⟩ := getx hlt
      obtain ⟨b, o, rfl, hbB, c0, c1⟩ := (h.below hb (Nat.le_refl _)).at2 hp rfl
      have hsz := hb.size
      have b0 : b < wr.heap.size := by omega
      have b1 : b < wr.heap.size + 1 := by omega
      obtain ⟨p1, p2, p3, p4⟩ := OK.out.at hp
      have HP := hid hp
      clear hp
      by_cases hk0 : 0 < k
      · obtain ⟨q, hq⟩ : ∃ q, xs[k-1]? = some q := getx (by omega)
        obtain ⟨b', o', e1, _, d0, d1⟩ := (h.below hb (Nat.le_refl _)).at2 hq rfl
        simp at e1; obtain ⟨rfl, rfl⟩ := e1
        have hd : decide (0 < (k : Int)) = true := by simp; omega
        have hl := OK.out.lt hq HP.out (by omega)
        have hl1 : decide (p.c ≤ q.c) = false := by simp; omega
        have hl2 : decide (p.t ≤ q.t) = false := by simp; omega
        clear hq
        go_wp2
        refine wp_region_ext (by kernel_rfl) (by kernel_rfl) ?_
        repeat (go_big_quiet_step ((first | (go_at_call 25; exact ext_below (isMinimum_ok _ _ _ p1 p2 p3 p4)))))
        refine wpQuiet_nil ?_
        intro w3 hb3
        obtain ⟨hc_w3, hf_w3⟩ := bcell hb3
        have hz_w3 := hb3.size
        go_wp2
        go_roundw
        case rel => exact ⟨k + 1, by omega, by go_num, (by repeat (first | assumption | exact Below.refl _ _ | apply Below.al | apply Below.drewN' | apply Below.drew | (apply Below.tr; assumption)))⟩
        case measure => simp [intOf]; omega
      · have hd : decide (0 < (k : Int)) = false := by simp; omega
        go_wp2
        refine wp_region_ext (by kernel_rfl) (by kernel_rfl) ?_
        repeat (go_big_quiet_step ((first | (go_at_call 25; exact ext_below (isMinimum_ok _ _ _ p1 p2 p3 p4)))))
        refine wpQuiet_nil ?_
        intro w3 hb3
        obtain ⟨hc_w3, hf_w3⟩ := bcell hb3
        have hz_w3 := hb3.size
        go_wp2
        go_roundw
        case rel => exact ⟨k + 1, by omega, by go_num, (by repeat (first | assumption | exact Below.refl _ _ | apply Below.al | apply Below.drewN' | apply Below.drew | (apply Below.tr; assumption)))⟩
        case measure => simp [intOf]; omega
    · have hd : decide ((xs.length : Int) ≤ 50) = true := by simp; omega
      go_wp2
      go_ret
      exact ⟨rfl, (by repeat (first | assumption | exact Below.refl _ _ | apply Below.al | apply Below.drewN' | apply Below.drew | (apply Below.tr; assumption)))⟩
theorem countMn_any (A : Option Addr) (n c : Nat) (w : World) :
    Calls Try.prog 21 #[.slice A n c] w fun e w' => e = .returned (.int .i64 n) ∧ w = w' := by
  go_enter Try.func21, Try.ntmps21
  go_wp2
  go_ret
  exact ⟨rfl, rfl⟩
set_option maxRecDepth 20000 in
set_option maxHeartbeats 4000000 in
theorem fitFew_any (A : Option Addr) (c : Nat) (xs : List Mn) (w : World) (h : Rd encMn 2 w w.heap.size A xs) (hn : xs.length ≤ 1) (hv : MvOk xs) :
    Calls Try.prog 9 #[.slice A xs.length c] w fun e w' => e = .returned (.tuple #[.agg #[.int .i64 0, .int .i64 0], .agg #[.int .i64 0, .int .i64 0], .int .i64 3]) ∧ Below w.heap.size w w' := by
  have h0 : decide ((xs.length : Int) < 2) = true := by simp; omega
  go_enter Try.func9, Try.ntmps9
  go_wp2_with (go_at_call 13; refine (validMinima_ok A c xs _ ((h.below (B' := w.heap.size) (by repeat (first | assumption | exact Below.refl _ _ | apply Below.al | apply Below.drewN' | apply Below.drew | (apply Below.tr; assumption))) (Nat.le_refl _)).more (by first | (simp; done) | (simp; omega))) hv).mono ?_; rintro e w1 ⟨rfl, hb1⟩; obtain ⟨hc_w1, hf_w1⟩ := bcell hb1; have hz_w1 := hb1.size; (try simp at hz_w1); (try have g_w1 : w.heap.size < w1.heap.size := (by omega)))
  have e0 : w1.cell? ⟨w.heap.size, 0, none⟩ = some (.int .i64 0) := by rw [(bcell hb1).1 (w.heap.size) 0 (by first | (simp; done) | (simp; omega))]; simp [go_sem]
  have e1 : w1.cell? ⟨w.heap.size, 1, none⟩ = some (.int .i64 0) := by rw [(bcell hb1).1 (w.heap.size) 1 (by first | (simp; done) | (simp; omega))]; simp [go_sem]
  have e2 : w1.cell? ⟨w.heap.size + 1, 0, none⟩ = some (.int .i64 0) := by rw [(bcell hb1).1 (w.heap.size + 1) 0 (by first | (simp; done) | (simp; omega))]; simp [go_sem]
  have e3 : w1.cell? ⟨w.heap.size + 1, 1, none⟩ = some (.int .i64 0) := by rw [(bcell hb1).1 (w.heap.size + 1) 1 (by first | (simp; done) | (simp; omega))]; simp [go_sem]
  have f0 : w1.frozen? ⟨w.heap.size, 0, none⟩ = false := by rw [(bcell hb1).2 (w.heap.size) 0 (by first | (simp; done) | (simp; omega))]; simp [go_sem]
  have f1 : w1.frozen? ⟨w.heap.size, 1, none⟩ = false := by rw [(bcell hb1).2 (w.heap.size) 1 (by first | (simp; done) | (simp; omega))]; simp [go_sem]
  have f2 : w1.frozen? ⟨w.heap.size + 1, 0, none⟩ = false := by rw [(bcell hb1).2 (w.heap.size + 1) 0 (by first | (simp; done) | (simp; omega))]; simp [go_sem]
  have f3 : w1.frozen? ⟨w.heap.size + 1, 1, none⟩ = false := by rw [(bcell hb1).2 (w.heap.size + 1) 1 (by first | (simp; done) | (simp; omega))]; simp [go_sem]
  exact bodyPost_ret (v := .tuple #[.agg #[.int .i64 0, .int .i64 0], .agg #[.int .i64 0, .int .i64 0], .int .i64 3]) (by simp [results, Try.results9, go_sem, e0, e1, f0, f1, e2, e3, f2, f3]) rfl ⟨rfl, (by repeat (first | assumption | exact Below.refl _ _ | apply Below.al | apply Below.drewN' | apply Below.drew | (refine Below.sc ?_ (by first | omega | (simp; done) | (simp; omega)) _) | (apply Below.tr; assumption)))⟩

end Go.Proofs.Ytlpgnmkhlbddaaa
