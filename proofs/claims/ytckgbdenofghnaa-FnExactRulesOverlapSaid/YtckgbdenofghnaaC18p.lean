/- Contracts: two rules overlap, in the program. -/
import Derived.Test.YtckgbdenofghnaaC18o
namespace Go.Proofs.Ytckgbdenofghnaa
open Go.RowKit
set_option linter.unusedVariables false
theorem ovB_iff {x y : Ru} : ovB x y = true ↔ x.fa ≤ y.ta ∧ y.fa ≤ x.ta ∧ x.fp ≤ y.tp ∧ y.fp ≤ x.tp ∧ (x.sh = 0 ∨ y.sh = 0 ∨ x.sh = y.sh) := by simp [ovB]
set_option maxRecDepth 20000 in
set_option maxHeartbeats 4000000 in
theorem implRulesOverlap_any (A : Option Addr) (c : Nat) (xs : List Ru) (a b : Int) (w : World) (h : Rd encRu 6 w w.heap.size A xs) (hn : xs.length ≤ 1048576) (wf : ∀ x ∈ xs, x.s.size ≤ maxLen) :
    Calls Try.prog 9 #[.slice A xs.length c, .int .i64 a, .int .i64 b] w fun e w' => e = .returned (.tuple #[.bool (roB xs a b), .int .i64 (roC xs a b)]) ∧ Below w.heap.size w w' := by
  cases h1 : ruL xs
  · have HC : Hid (roC xs a b = 1) := by simp [Hid, roC, h1]
    have HV : Hid (roB xs a b = false) := by simp [Hid, roB, HC.out]
    go_enter Try.func9, Try.ntmps9
    go_wp2_with (first | (go_at_call 28; refine (validRules_any A c xs _ ((h.below (B' := w.heap.size) (by repeat (first | assumption | exact Below.refl _ _ | apply Below.al | apply Below.drewN' | apply Below.drew | (apply Below.tr; assumption))) (Nat.le_refl _)).more (by first | (simp; done) | (simp; omega))) hn wf).mono ?_; rintro e w1 ⟨rfl, hb1⟩; obtain ⟨hc_w1, hf_w1⟩ := bcell hb1; have hz_w1 := hb1.size; (try simp at hz_w1); (try have g_w1 : w.heap.size < w1.heap.size := (by omega)); (try have b1 : bb < w1.heap.size := (by omega)); (try have b2 : bb < w1.heap.size + 1 := (by omega))) | (go_at_call 30; refine (countR_any _ _ _ _).mono ?_; rintro e w' ⟨rfl, rfl⟩) | (go_at_call 29; refine (in_any _ _ _ _).mono ?_; rintro e w' ⟨rfl, rfl⟩))
    go_ret2
    exact ⟨by rw [HV.out, HC.out]; rfl, (by repeat (first | assumption | exact Below.refl _ _ | apply Below.al | apply Below.drewN' | apply Below.drew | (apply Below.tr; assumption)))⟩
  cases h2 : inB a 0 ((xs.length : Int) - 1)
  · have HC : Hid (roC xs a b = 2) := by simp [Hid, roC, h1, h2]
    have HV : Hid (roB xs a b = false) := by simp [Hid, roB, HC.out]
    go_enter Try.func9, Try.ntmps9
    go_wp2_with (first | (go_at_call 28; refine (validRules_any A c xs _ ((h.below (B' := w.heap.size) (by repeat (first | assumption | exact Below.refl _ _ | apply Below.al | apply Below.drewN' | apply Below.drew | (apply Below.tr; assumption))) (Nat.le_refl _)).more (by first | (simp; done) | (simp; omega))) hn wf).mono ?_; rintro e w1 ⟨rfl, hb1⟩; obtain ⟨hc_w1, hf_w1⟩ := bcell hb1; have hz_w1 := hb1.size; (try simp at hz_w1); (try have g_w1 : w.heap.size < w1.heap.size := (by omega)); (try have b1 : bb < w1.heap.size := (by omega)); (try have b2 : bb < w1.heap.size + 1 := (by omega))) | (go_at_call 30; refine (countR_any _ _ _ _).mono ?_; rintro e w' ⟨rfl, rfl⟩) | (go_at_call 29; refine (in_any _ _ _ _).mono ?_; rintro e w' ⟨rfl, rfl⟩))
    go_ret2
    exact ⟨by rw [HV.out, HC.out]; rfl, (by repeat (first | assumption | exact Below.refl _ _ | apply Below.al | apply Below.drewN' | apply Below.drew | (apply Below.tr; assumption)))⟩
  cases h3 : inB b 0 ((xs.length : Int) - 1)
  · have HC : Hid (roC xs a b = 2) := by simp [Hid, roC, h1, h2, h3]
    have HV : Hid (roB xs a b = false) := by simp [Hid, roB, HC.out]
    go_enter Try.func9, Try.ntmps9
    go_wp2_with (first | (go_at_call 28; refine (validRules_any A c xs _ ((h.below (B' := w.heap.size) (by repeat (first | assumption | exact Below.refl _ _ | apply Below.al | apply Below.drewN' | apply Below.drew | (apply Below.tr; assumption))) (Nat.le_refl _)).more (by first | (simp; done) | (simp; omega))) hn wf).mono ?_; rintro e w1 ⟨rfl, hb1⟩; obtain ⟨hc_w1, hf_w1⟩ := bcell hb1; have hz_w1 := hb1.size; (try simp at hz_w1); (try have g_w1 : w.heap.size < w1.heap.size := (by omega)); (try have b1 : bb < w1.heap.size := (by omega)); (try have b2 : bb < w1.heap.size + 1 := (by omega))) | (go_at_call 30; refine (countR_any _ _ _ _).mono ?_; rintro e w' ⟨rfl, rfl⟩) | (go_at_call 29; refine (in_any _ _ _ _).mono ?_; rintro e w' ⟨rfl, rfl⟩))
    go_ret2
    exact ⟨by rw [HV.out, HC.out]; rfl, (by repeat (first | assumption | exact Below.refl _ _ | apply Below.al | apply Below.drewN' | apply Below.drew | (apply Below.tr; assumption)))⟩
  have HC : Hid (roC xs a b = 0) := by simp [Hid, roC, h1, h2, h3]
  obtain ⟨ka, rfl⟩ : ∃ k : Nat, a = k := ⟨a.toNat, by have := inB_true.1 h2; omega⟩
  obtain ⟨kb, rfl⟩ : ∃ k : Nat, b = k := ⟨b.toNat, by have := inB_true.1 h3; omega⟩
  have la : ka < xs.length := by have := inB_true.1 h2; omega
  have lb : kb < xs.length := by have := inB_true.1 h3; omega
  obtain ⟨x, hx⟩ := getx la
  obtain ⟨y, hy⟩ := getx lb
  have HV := hid (roB_at HC.out hx hy)
  obtain ⟨x1, x2, x3, x4, x5, x6, x7, x8⟩ := ruB_rng (ruL_at h1 hx)
  obtain ⟨y1, y2, y3, y4, y5, y6, y7, y8⟩ := ruB_rng (ruL_at h1 hy)
  obtain ⟨bb, o, rfl, hbB, c0, c1, c2, c3, c4, c5⟩ := h.at6 hx rfl
  obtain ⟨_, _, e1, _, d0, d1, d2, d3, d4, d5⟩ := h.at6 hy rfl
  simp at e1; obtain ⟨rfl, rfl⟩ := e1
  clear hx hy
  go_enter Try.func9, Try.ntmps9
  go_wp2_with (first | (go_at_call 28; refine (validRules_any _ c xs _ ((h.below (B' := w.heap.size) (by repeat (first | assumption | exact Below.refl _ _ | apply Below.al | apply Below.drewN' | apply Below.drew | (apply Below.tr; assumption))) (Nat.le_refl _)).more (by first | (simp; done) | (simp; omega))) hn wf).mono ?_; rintro e w1 ⟨rfl, hb1⟩; obtain ⟨hc_w1, hf_w1⟩ := bcell hb1; have hz_w1 := hb1.size; (try simp at hz_w1); (try have g_w1 : w.heap.size < w1.heap.size := (by omega)); (try have b1 : bb < w1.heap.size := (by omega)); (try have b2 : bb < w1.heap.size + 1 := (by omega))) | (go_at_call 30; refine (countR_any _ _ _ _).mono ?_; rintro e w' ⟨rfl, rfl⟩) | (go_at_call 29; refine (in_any _ _ _ _).mono ?_; rintro e w' ⟨rfl, rfl⟩))
  go_region
  go_wp2
  all_goals
    go_ret2
    refine ⟨?_, (by repeat (first | assumption | exact Below.refl _ _ | apply Below.al | apply Below.drewN' | apply Below.drew | (apply Below.tr; assumption)))⟩
    rw [HV.out, HC.out]
    refine congrArg (fun v => Ending.returned (.tuple #[.bool v, .int .i64 0])) (Bool.eq_iff_iff.2 ?_)
    rw [ovB_iff]
    simp
    try omega
end Go.Proofs.Ytckgbdenofghnaa
