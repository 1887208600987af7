/- Contracts: two rules overlap, in the program and in the reference. -/
import Derived.Test.YtckgbdenofghnaaC18v
import Derived.BigRegion
namespace Go.Proofs.Ytckgbdenofghnaa
open Go.RowKit
set_option linter.unusedVariables false
def roC (xs : List Ru) (a b : Int) : Int := if ruL xs = true then (if inB a 0 ((xs.length : Int) - 1) = true ∧ inB b 0 ((xs.length : Int) - 1) = true then 0 else 2) else 1
def ovB (x y : Ru) : Bool := decide (x.fa ≤ y.ta) && (decide (y.fa ≤ x.ta) && (decide (x.fp ≤ y.tp) && (decide (y.fp ≤ x.tp) && (x.sh == 0 || (y.sh == 0 || x.sh == y.sh)))))
def roB (xs : List Ru) (a b : Int) : Bool := if roC xs a b = 0 then (match xs[a.toNat]?, xs[b.toNat]? with | some x, some y => ovB x y | _, _ => false) else false
theorem ruB_rng {x : Ru} (h : ruB x = true) : 0 ≤ x.fa ∧ x.fa ≤ x.ta ∧ x.ta ≤ 20000 ∧ 0 ≤ x.fp ∧ x.fp ≤ x.tp ∧ x.tp ≤ 1000000 ∧ 0 ≤ x.sh ∧ x.sh ≤ 3 := by
  simp only [ruB, Bool.and_eq_true, inB_true] at h
  omega
/-- The program's form: greatest beginnings against least ends (with both ranges in order). -/
theorem ov_max {x y : Ru} (hx : ruB x = true) (hy : ruB y = true) : (max x.fa y.fa ≤ min x.ta y.ta ↔ x.fa ≤ y.ta ∧ y.fa ≤ x.ta) ∧ (max x.fp y.fp ≤ min x.tp y.tp ↔ x.fp ≤ y.tp ∧ y.fp ≤ x.tp) := by
  have := ruB_rng hx
  have := ruB_rng hy
  constructor <;> omega
theorem roB_at {xs : List Ru} {a b : Nat} {x y : Ru} (hc : roC xs a b = 0) (hx : xs[a]? = some x) (hy : xs[b]? = some y) : roB xs a b = ovB x y := by
  unfold roB
  rw [if_pos hc]
  simp only [Int.toNat_natCast, hx, hy]
theorem ruL_at {xs : List Ru} (h : ruL xs = true) {k : Nat} {x : Ru} (hx : xs[k]? = some x) : ruB x = true := by
  unfold ruL at h
  simp only [Bool.and_eq_true, List.all_eq_true] at h
  exact h.2 x (List.mem_of_getElem? hx)
theorem countR_any (A : Option Addr) (n c : Nat) (w : World) :
    Calls Try.prog 30 #[.slice A n c] w fun e w' => e = .returned (.int .i64 (n : Int)) ∧ w = w' := by
  go_enter Try.func30, Try.ntmps30
  go_wp2
  go_ret
  exact ⟨rfl, rfl⟩
set_option maxRecDepth 20000 in
set_option maxHeartbeats 4000000 in
theorem specRulesOverlap_any (A : Option Addr) (c : Nat) (xs : List Ru) (a b : Int) (w : World) (h : Rd encRu 6 w w.heap.size A xs) (hn : xs.length ≤ 1048576) (wf : ∀ x ∈ xs, x.s.size ≤ maxLen) :
    Calls Try.prog 7 #[.slice A xs.length c, .int .i64 a, .int .i64 b] w fun e w' => e = .returned (.tuple #[.bool (roB xs a b), .int .i64 (roC xs a b)]) ∧ Below w.heap.size w w' := by
  cases h1 : ruL xs
  · have HC : Hid (roC xs a b = 1) := by simp [Hid, roC, h1]
    have HV : Hid (roB xs a b = false) := by simp [Hid, roB, HC.out]
    go_enter Try.func7, Try.ntmps7
    go_wp2_with (first | (go_at_call 25; refine (l18Ok_any A c xs _ ((h.below (B' := w.heap.size) (by repeat (first | assumption | exact Below.refl _ _ | apply Below.al | apply Below.drewN' | apply Below.drew | (apply Below.tr; assumption))) (Nat.le_refl _)).more (by first | (simp; done) | (simp; omega))) hn wf).mono ?_; rintro e w1 ⟨rfl, hb1⟩; obtain ⟨hc_w1, hf_w1⟩ := bcell hb1; have hz_w1 := hb1.size; (try simp at hz_w1); (try have g_w1 : w.heap.size < w1.heap.size := (by omega)); (try have b1 : bb < w1.heap.size := (by omega))) | (go_at_call 26; refine (l00In_any _ _ _ _).mono ?_; rintro e w' ⟨rfl, rfl⟩))
    go_ret2
    exact ⟨by rw [HV.out, HC.out]; rfl, (by repeat (first | assumption | exact Below.refl _ _ | apply Below.al | apply Below.drewN' | apply Below.drew | (apply Below.tr; assumption)))⟩
  cases h2 : inB a 0 ((xs.length : Int) - 1)
  · have HC : Hid (roC xs a b = 2) := by simp [Hid, roC, h1, h2]
    have HV : Hid (roB xs a b = false) := by simp [Hid, roB, HC.out]
    go_enter Try.func7, Try.ntmps7
    go_wp2_with (first | (go_at_call 25; refine (l18Ok_any A c xs _ ((h.below (B' := w.heap.size) (by repeat (first | assumption | exact Below.refl _ _ | apply Below.al | apply Below.drewN' | apply Below.drew | (apply Below.tr; assumption))) (Nat.le_refl _)).more (by first | (simp; done) | (simp; omega))) hn wf).mono ?_; rintro e w1 ⟨rfl, hb1⟩; obtain ⟨hc_w1, hf_w1⟩ := bcell hb1; have hz_w1 := hb1.size; (try simp at hz_w1); (try have g_w1 : w.heap.size < w1.heap.size := (by omega)); (try have b1 : bb < w1.heap.size := (by omega))) | (go_at_call 26; refine (l00In_any _ _ _ _).mono ?_; rintro e w' ⟨rfl, rfl⟩))
    go_ret2
    exact ⟨by rw [HV.out, HC.out]; rfl, (by repeat (first | assumption | exact Below.refl _ _ | apply Below.al | apply Below.drewN' | apply Below.drew | (apply Below.tr; assumption)))⟩
  cases h3 : inB b 0 ((xs.length : Int) - 1)
  · have HC : Hid (roC xs a b = 2) := by simp [Hid, roC, h1, h2, h3]
    have HV : Hid (roB xs a b = false) := by simp [Hid, roB, HC.out]
    go_enter Try.func7, Try.ntmps7
    go_wp2_with (first | (go_at_call 25; refine (l18Ok_any A c xs _ ((h.below (B' := w.heap.size) (by repeat (first | assumption | exact Below.refl _ _ | apply Below.al | apply Below.drewN' | apply Below.drew | (apply Below.tr; assumption))) (Nat.le_refl _)).more (by first | (simp; done) | (simp; omega))) hn wf).mono ?_; rintro e w1 ⟨rfl, hb1⟩; obtain ⟨hc_w1, hf_w1⟩ := bcell hb1; have hz_w1 := hb1.size; (try simp at hz_w1); (try have g_w1 : w.heap.size < w1.heap.size := (by omega)); (try have b1 : bb < w1.heap.size := (by omega))) | (go_at_call 26; refine (l00In_any _ _ _ _).mono ?_; rintro e w' ⟨rfl, rfl⟩))
    go_ret2
    exact ⟨by rw [HV.out, HC.out]; rfl, (by repeat (first | assumption | exact Below.refl _ _ | apply Below.al | apply Below.drewN' | apply Below.drew | (apply Below.tr; assumption)))⟩
  have HC : Hid (roC xs a b = 0) := by simp [Hid, roC, h1, h2, h3]
  obtain ⟨ka, rfl⟩ : ∃ k : Nat, a = k := ⟨a.toNat, by have := inB_true.1 h2; omega⟩
  obtain ⟨kb, rfl⟩ : ∃ k : Nat, b = k := ⟨b.toNat, by have := inB_true.1 h3; omega⟩
  have la : ka < xs.length := by have := inB_true.1 h2; omega
  have lb : kb < xs.length := by have := inB_true.1 h3; omega
  obtain ⟨x, hx⟩ := getx la
  obtain ⟨y, hy⟩ := getx lb
  have HV := hid (roB_at HC.out hx hy)
  obtain ⟨x1, x2, x3, x4, x5, x6, x7, x8⟩ := ruB_rng (ruL_at h1 hx)
  obtain ⟨y1, y2, y3, y4, y5, y6, y7, y8⟩ := ruB_rng (ruL_at h1 hy)
  obtain ⟨bb, o, rfl, hbB, c0, c1, c2, c3, c4, c5⟩ := h.at6 hx rfl
  obtain ⟨_, _, e1, _, d0, d1, d2, d3, d4, d5⟩ := h.at6 hy rfl
  simp at e1; obtain ⟨rfl, rfl⟩ := e1
  clear hx hy
  by_cases g0 : y.ta < x.fa
  · have g0' : decide (y.ta < x.fa) = true := by simpa using g0
    have HF : Hid (roB xs ka kb = false) := hid (by rw [HV.out]; simp [ovB, *] <;> omega)
    go_enter Try.func7, Try.ntmps7
    go_wp2_with (first | (go_at_call 25; refine (l18Ok_any _ c xs _ ((h.below (B' := w.heap.size) (by repeat (first | assumption | exact Below.refl _ _ | apply Below.al | apply Below.drewN' | apply Below.drew | (apply Below.tr; assumption))) (Nat.le_refl _)).more (by first | (simp; done) | (simp; omega))) hn wf).mono ?_; rintro e w1 ⟨rfl, hb1⟩; obtain ⟨hc_w1, hf_w1⟩ := bcell hb1; have hz_w1 := hb1.size; (try simp at hz_w1); (try have g_w1 : w.heap.size < w1.heap.size := (by omega)); (try have b1 : bb < w1.heap.size := (by omega))) | (go_at_call 26; refine (l00In_any _ _ _ _).mono ?_; rintro e w' ⟨rfl, rfl⟩))
    refine wp_region_ext (by kernel_rfl) (by kernel_rfl) ?_
    repeat (go_big_quiet_step ((first | fail)))
    refine wpQuiet_nil ?_
    intro w3 hb3
    obtain ⟨hc_w3, hf_w3⟩ := bcell hb3
    have hz_w3 := hb3.size
    go_wp2
    go_ret2
    exact ⟨by rw [HF.out, HC.out]; rfl, (by repeat (first | assumption | exact Below.refl _ _ | apply Below.al | apply Below.drewN' | apply Below.drew | (apply Below.tr; assumption)))⟩
  · have g0' : decide (y.ta < x.fa) = false := by simpa using g0
    by_cases g1 : x.ta < y.fa
    · have g1' : decide (x.ta < y.fa) = true := by simpa using g1
      have HF : Hid (roB xs ka kb = false) := hid (by rw [HV.out]; simp [ovB, *] <;> omega)
      go_enter Try.func7, Try.ntmps7
      go_wp2_with (first | (go_at_call 25; refine (l18Ok_any _ c xs _ ((h.below (B' := w.heap.size) (by repeat (first | assumption | exact Below.refl _ _ | apply Below.al | apply Below.drewN' | apply Below.drew | (apply Below.tr; assumption))) (Nat.le_refl _)).more (by first | (simp; done) | (simp; omega))) hn wf).mono ?_; rintro e w1 ⟨rfl, hb1⟩; obtain ⟨hc_w1, hf_w1⟩ := bcell hb1; have hz_w1 := hb1.size; (try simp at hz_w1); (try have g_w1 : w.heap.size < w1.heap.size := (by omega)); (try have b1 : bb < w1.heap.size := (by omega))) | (go_at_call 26; refine (l00In_any _ _ _ _).mono ?_; rintro e w' ⟨rfl, rfl⟩))
      refine wp_region_ext (by kernel_rfl) (by kernel_rfl) ?_
      repeat (go_big_quiet_step ((first | fail)))
      refine wpQuiet_nil ?_
      intro w3 hb3
      obtain ⟨hc_w3, hf_w3⟩ := bcell hb3
      have hz_w3 := hb3.size
      go_wp2
      go_ret2
      exact ⟨by rw [HF.out, HC.out]; rfl, (by repeat (first | assumption | exact Below.refl _ _ | apply Below.al | apply Below.drewN' | apply Below.drew | (apply Below.tr; assumption)))⟩
    · have g1' : decide (x.ta < y.fa) = false := by simpa using g1
      by_cases g2 : y.tp < x.fp
      · have g2' : decide (y.tp < x.fp) = true := by simpa using g2
        have HF : Hid (roB xs ka kb = false) := hid (by rw [HV.out]; simp [ovB, *] <;> omega)
        go_enter Try.func7, Try.ntmps7
        go_wp2_with (first | (go_at_call 25; refine (l18Ok_any _ c xs _ ((h.below (B' := w.heap.size) (by repeat (first | assumption | exact Below.refl _ _ | apply Below.al | apply Below.drewN' | apply Below.drew | (apply Below.tr; assumption))) (Nat.le_refl _)).more (by first | (simp; done) | (simp; omega))) hn wf).mono ?_; rintro e w1 ⟨rfl, hb1⟩; obtain ⟨hc_w1, hf_w1⟩ := bcell hb1; have hz_w1 := hb1.size; (try simp at hz_w1); (try have g_w1 : w.heap.size < w1.heap.size := (by omega)); (try have b1 : bb < w1.heap.size := (by omega))) | (go_at_call 26; refine (l00In_any _ _ _ _).mono ?_; rintro e w' ⟨rfl, rfl⟩))
        refine wp_region_ext (by kernel_rfl) (by kernel_rfl) ?_
        repeat (go_big_quiet_step ((first | fail)))
        refine wpQuiet_nil ?_
        intro w3 hb3
        obtain ⟨hc_w3, hf_w3⟩ := bcell hb3
        have hz_w3 := hb3.size
        go_wp2
        go_ret2
        exact ⟨by rw [HF.out, HC.out]; rfl, (by repeat (first | assumption | exact Below.refl _ _ | apply Below.al | apply Below.drewN' | apply Below.drew | (apply Below.tr; assumption)))⟩
      · have g2' : decide (y.tp < x.fp) = false := by simpa using g2
        by_cases g3 : x.tp < y.fp
        · have g3' : decide (x.tp < y.fp) = true := by simpa using g3
          have HF : Hid (roB xs ka kb = false) := hid (by rw [HV.out]; simp [ovB, *] <;> omega)
          go_enter Try.func7, Try.ntmps7
          go_wp2_with (first | (go_at_call 25; refine (l18Ok_any _ c xs _ ((h.below (B' := w.heap.size) (by repeat (first | assumption | exact Below.refl _ _ | apply Below.al | apply Below.drewN' | apply Below.drew | (apply Below.tr; assumption))) (Nat.le_refl _)).more (by first | (simp; done) | (simp; omega))) hn wf).mono ?_; rintro e w1 ⟨rfl, hb1⟩; obtain ⟨hc_w1, hf_w1⟩ := bcell hb1; have hz_w1 := hb1.size; (try simp at hz_w1); (try have g_w1 : w.heap.size < w1.heap.size := (by omega)); (try have b1 : bb < w1.heap.size := (by omega))) | (go_at_call 26; refine (l00In_any _ _ _ _).mono ?_; rintro e w' ⟨rfl, rfl⟩))
          refine wp_region_ext (by kernel_rfl) (by kernel_rfl) ?_
          repeat (go_big_quiet_step ((first | fail)))
          refine wpQuiet_nil ?_
          intro w3 hb3
          obtain ⟨hc_w3, hf_w3⟩ := bcell hb3
          have hz_w3 := hb3.size
          go_wp2
          go_ret2
          exact ⟨by rw [HF.out, HC.out]; rfl, (by repeat (first | assumption | exact Below.refl _ _ | apply Below.al | apply Below.drewN' | apply Below.drew | (apply Below.tr; assumption)))⟩
        · have g3' : decide (x.tp < y.fp) = false := by simpa using g3
          by_cases z1 : x.sh = 0 <;> by_cases z2 : y.sh = 0 <;> by_cases z3 : x.sh = y.sh
          all_goals
            first | (have y1 : (x.sh == 0) = true := by simpa using z1) | (have y1 : (x.sh == 0) = false := by simpa using z1)
            first | (have y2 : (y.sh == 0) = true := by simpa using z2) | (have y2 : (y.sh == 0) = false := by simpa using z2)
            first | (have y3 : (x.sh == y.sh) = true := by simpa using z3) | (have y3 : (x.sh == y.sh) = false := by simpa using z3)
            have HF : Hid (roB xs ka kb = (x.sh == 0 || (y.sh == 0 || x.sh == y.sh))) := hid (by rw [HV.out]; simp [ovB, *] <;> omega)
            clear z1 z2 z3
            go_enter Try.func7, Try.ntmps7
            go_wp2_with (first | (go_at_call 25; refine (l18Ok_any _ c xs _ ((h.below (B' := w.heap.size) (by repeat (first | assumption | exact Below.refl _ _ | apply Below.al | apply Below.drewN' | apply Below.drew | (apply Below.tr; assumption))) (Nat.le_refl _)).more (by first | (simp; done) | (simp; omega))) hn wf).mono ?_; rintro e w1 ⟨rfl, hb1⟩; obtain ⟨hc_w1, hf_w1⟩ := bcell hb1; have hz_w1 := hb1.size; (try simp at hz_w1); (try have g_w1 : w.heap.size < w1.heap.size := (by omega)); (try have b1 : bb < w1.heap.size := (by omega))) | (go_at_call 26; refine (l00In_any _ _ _ _).mono ?_; rintro e w' ⟨rfl, rfl⟩))
            refine wp_region_ext (by kernel_rfl) (by kernel_rfl) ?_
            repeat (go_big_quiet_step ((first | fail)))
            refine wpQuiet_nil ?_
            intro w3 hb3
            obtain ⟨hc_w3, hf_w3⟩ := bcell hb3
            have hz_w3 := hb3.size
            have b3 : bb < w3.heap.size := by omega
            go_wp2
            refine wp_region_ext (by kernel_rfl) (by kernel_rfl) ?_
            repeat (go_big_quiet_step ((first | fail)))
            refine wpQuiet_nil ?_
            intro w4 hb4
            obtain ⟨hc_w4, hf_w4⟩ := bcell hb4
            have hz_w4 := hb4.size
            go_wp2
            go_ret2
            exact ⟨by rw [HF.out, HC.out]; simp [y1, y2, y3], (by repeat (first | assumption | exact Below.refl _ _ | apply Below.al | apply Below.drewN' | apply Below.drew | (apply Below.tr; assumption)))⟩
end Go.Proofs.Ytckgbdenofghnaa
