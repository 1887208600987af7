/- Contracts: the class for facts, in the program and in the reference. -/
import Derived.Test.YtmjapoolmadmpaaC18v
namespace Go.Proofs.Ytmjapoolmadmpaa
open Go.RowKit
set_option linter.unusedVariables false
set_option maxRecDepth 20000 in
set_option maxHeartbeats 2000000 in
theorem specClassOf_any (A : Option Addr) (c : Nat) (xs : List Ru) (f : Fa) (w : World) (h : Rd encRu 6 w w.heap.size A xs) (hn : xs.length ≤ 1048576) (wf : ∀ x ∈ xs, x.s.size ≤ maxLen) :
    Calls Try.prog 6 #[.slice A xs.length c, .agg #[.int .i64 f.a, .int .i64 f.p, .int .i64 f.s]] w fun e w' => e = .returned (.tuple #[.string (clV xs f), .int .i64 (clC xs f)]) ∧ Below w.heap.size w w' := by
  by_cases hc : c18 xs f = 0
  rotate_left
  · have HV : Hid (clV xs f = ByteArray.empty) := by simp [Hid, clV, hc]
    have HC : Hid (clC xs f = c18 xs f) := by simp [Hid, clC, hc]
    have HN : (c18 xs f != 0) = true := by simp [hc]
    clear hc
    go_enter Try.func6, Try.ntmps6
    go_wp2_with (first | (go_at_call 18; refine (l18Code_any A c xs f _ ((h.below (B' := w.heap.size) (by repeat (first | assumption | exact Below.refl _ _ | apply Below.al | apply Below.drewN' | apply Below.drew | (apply Below.tr; assumption))) (Nat.le_refl _)).more (by first | (simp; done) | (simp; omega))) hn wf).mono ?_; rintro e w1 ⟨rfl, hb1⟩; obtain ⟨hc_w1, hf_w1⟩ := bcell hb1; have hz_w1 := hb1.size; (try simp at hz_w1); (try have g_w1 : w.heap.size < w1.heap.size := (by omega))))
    go_ret2
    exact ⟨by rw [HV.out, HC.out]; simp; rfl, (by repeat (first | assumption | exact Below.refl _ _ | apply Below.al | apply Below.drewN' | apply Below.drew | (apply Below.tr; assumption)))⟩
  have HN : (c18 xs f != 0) = false := by simp [hc]
  have HV : Hid (clV xs f = ((xs.find? fun x => mtB x f).map (·.s)).getD ByteArray.empty) := by simp [Hid, clV, hc]
  have HC : Hid (clC xs f = if (xs.find? fun x => mtB x f) = none then 3 else 0) := by simp [Hid, clC, hc]
  rcases idxF_find (fun x => mtB x f) xs 0 with ⟨i1, i2⟩ | ⟨k, p, i1, hp, i2⟩
  · have HX := hid i1
    have HV1 : Hid (clV xs f = ByteArray.empty) := hid (by rw [HV.out, i2]; rfl)
    have HC1 : Hid (clC xs f = 3) := hid (by rw [HC.out, i2]; rfl)
    clear i1 i2 hc
    skip
    go_enter Try.func6, Try.ntmps6
    go_wp2_with (first | (go_at_call 18; refine (l18Code_any A c xs f _ ((h.below (B' := w.heap.size) (by repeat (first | assumption | exact Below.refl _ _ | apply Below.al | apply Below.drewN' | apply Below.drew | (apply Below.tr; assumption))) (Nat.le_refl _)).more (by first | (simp; done) | (simp; omega))) hn wf).mono ?_; rintro e w1 ⟨rfl, hb1⟩; obtain ⟨hc_w1, hf_w1⟩ := bcell hb1; have hz_w1 := hb1.size; (try simp at hz_w1); (try have g_w1 : w.heap.size < w1.heap.size := (by omega))))
    have hw : Below w.heap.size w w1 := (by repeat (first | assumption | exact Below.refl _ _ | apply Below.al | apply Below.drewN' | apply Below.drew | (apply Below.tr; assumption)))
    refine (l18First_any A c xs f _ ((h.below hw (Nat.le_refl _)).more hw.size) hn).mono ?_
    rw [HX.out]
    rintro e w5 ⟨rfl, hb5⟩
    go_wp2
    go_ret2
    exact ⟨by rw [HV1.out, HC1.out]; rfl, (by repeat (first | assumption | exact Below.refl _ _ | apply Below.al | apply Below.drewN' | apply Below.drew | (apply Below.tr; assumption)))⟩
  · have i3 : idxF (fun x => mtB x f) 0 xs = (k : Int) := by simpa using i1
    have HX := hid i3
    have HV1 : Hid (clV xs f = p.s) := hid (by rw [HV.out, i2]; rfl)
    have HC1 : Hid (clC xs f = 0) := hid (by rw [HC.out, i2]; simp)
    obtain ⟨b, o, rfl, hbB, c0, _, _, _, _, _⟩ := h.at6 hp rfl
    have hk : k < xs.length := (List.getElem?_eq_some_iff.1 hp).1
    have hd : decide ((k : Int) < 0) = false := by simp
    clear i1 i2 i3 hp hc
    go_enter Try.func6, Try.ntmps6
    go_wp2_with (first | (go_at_call 18; refine (l18Code_any _ c xs f _ ((h.below (B' := w.heap.size) (by repeat (first | assumption | exact Below.refl _ _ | apply Below.al | apply Below.drewN' | apply Below.drew | (apply Below.tr; assumption))) (Nat.le_refl _)).more (by first | (simp; done) | (simp; omega))) hn wf).mono ?_; rintro e w1 ⟨rfl, hb1⟩; obtain ⟨hc_w1, hf_w1⟩ := bcell hb1; have hz_w1 := hb1.size; (try simp at hz_w1); (try have g_w1 : w.heap.size < w1.heap.size := (by omega))))
    have hw : Below w.heap.size w w1 := (by repeat (first | assumption | exact Below.refl _ _ | apply Below.al | apply Below.drewN' | apply Below.drew | (apply Below.tr; assumption)))
    refine (l18First_any _ c xs f _ ((h.below hw (Nat.le_refl _)).more hw.size) hn).mono ?_
    rw [HX.out]
    rintro e w5 ⟨rfl, hb5⟩
    have hw5 : Below w.heap.size w w5 := (by repeat (first | assumption | exact Below.refl _ _ | apply Below.al | apply Below.drewN' | apply Below.drew | (apply Below.tr; assumption)))
    have c9 : w5.cell? ⟨b, o + k * 6, none⟩ = some (.string p.s) := ((bcell hw5).1 b _ hbB).trans c0
    go_wp2
    go_ret2
    exact ⟨by rw [HV1.out, HC1.out]; rfl, hw5⟩
theorem specClassOf_3 (A : Option Addr) (c : Nat) (xs : List Ru) (a p s : Int) (w : World) (h : Rd encRu 6 w w.heap.size A xs) (hn : xs.length ≤ 1048576) (wf : ∀ x ∈ xs, x.s.size ≤ maxLen) :
    Calls Try.prog 6 #[.slice A xs.length c, .agg #[.int .i64 a, .int .i64 p, .int .i64 s]] w fun e w' => e = .returned (.tuple #[.string (clV xs ⟨a, p, s⟩), .int .i64 (clC xs ⟨a, p, s⟩)]) ∧ Below w.heap.size w w' := specClassOf_any A c xs ⟨a, p, s⟩ w h hn wf
set_option maxRecDepth 20000 in
set_option maxHeartbeats 2000000 in
theorem implClassOf_any (A : Option Addr) (c : Nat) (xs : List Ru) (f : Fa) (w : World) (h : Rd encRu 6 w w.heap.size A xs) (hn : xs.length ≤ 1048576) (wf : ∀ x ∈ xs, x.s.size ≤ maxLen) :
    Calls Try.prog 9 #[.slice A xs.length c, .agg #[.int .i64 f.a, .int .i64 f.p, .int .i64 f.s]] w fun e w' => e = .returned (.tuple #[.string (clV xs f), .int .i64 (clC xs f)]) ∧ Below w.heap.size w w' := by
  by_cases hc : c18 xs f = 0
  rotate_left
  · have HV : Hid (clV xs f = ByteArray.empty) := by simp [Hid, clV, hc]
    have HC : Hid (clC xs f = c18 xs f) := by simp [Hid, clC, hc]
    cases h1 : ruL xs <;> cases h2 : faB f
    all_goals
      first
        | (exfalso; apply hc; unfold c18; rw [h1, h2]; rfl)
        | (have HC2 := hid (show c18 xs f = _ by unfold c18; rw [h1, h2])
           clear hc
           go_enter Try.func9, Try.ntmps9
           go_wp2_with (first | (go_at_call 21; refine (validRules_any A c xs _ ((h.below (B' := w.heap.size) (by repeat (first | assumption | exact Below.refl _ _ | apply Below.al | apply Below.drewN' | apply Below.drew | (apply Below.tr; assumption))) (Nat.le_refl _)).more (by first | (simp; done) | (simp; omega))) hn wf).mono ?_; rintro e w1 ⟨rfl, hb1⟩; obtain ⟨hc_w1, hf_w1⟩ := bcell hb1; have hz_w1 := hb1.size; (try simp at hz_w1); (try have g_w1 : w.heap.size < w1.heap.size := (by omega))) | (go_at_call 22; refine (areFacts_any f.a f.p f.s _).mono ?_; rintro e w2 ⟨rfl, hb2⟩; obtain ⟨hc_w2, hf_w2⟩ := bcell hb2; have hz_w2 := hb2.size; (try simp at hz_w2); (try have g_w2 : w.heap.size < w2.heap.size := (by omega))))
           go_ret2
           exact ⟨by rw [HV.out, HC.out, HC2.out]; rfl, (by repeat (first | assumption | exact Below.refl _ _ | apply Below.al | apply Below.drewN' | apply Below.drew | (apply Below.tr; assumption)))⟩)
  obtain ⟨h1, h2⟩ := c18_zero hc
  have HV : Hid (clV xs f = ((xs.find? fun x => mtB x f).map (·.s)).getD ByteArray.empty) := by simp [Hid, clV, hc]
  have HC : Hid (clC xs f = if (xs.find? fun x => mtB x f) = none then 3 else 0) := by simp [Hid, clC, hc]
  rcases idxF_find (fun x => mtB x f) xs 0 with ⟨i1, i2⟩ | ⟨k, p, i1, hp, i2⟩
  · have HX := hid i1
    have HV1 : Hid (clV xs f = ByteArray.empty) := hid (by rw [HV.out, i2]; rfl)
    have HC1 : Hid (clC xs f = 3) := hid (by rw [HC.out, i2]; rfl)
    skip
    clear i1 i2 hc
    go_enter Try.func9, Try.ntmps9
    go_wp2_with (first | (go_at_call 21; refine (validRules_any A c xs _ ((h.below (B' := w.heap.size) (by repeat (first | assumption | exact Below.refl _ _ | apply Below.al | apply Below.drewN' | apply Below.drew | (apply Below.tr; assumption))) (Nat.le_refl _)).more (by first | (simp; done) | (simp; omega))) hn wf).mono ?_; rintro e w1 ⟨rfl, hb1⟩; obtain ⟨hc_w1, hf_w1⟩ := bcell hb1; have hz_w1 := hb1.size; (try simp at hz_w1); (try have g_w1 : w.heap.size < w1.heap.size := (by omega))) | (go_at_call 22; refine (areFacts_any f.a f.p f.s _).mono ?_; rintro e w2 ⟨rfl, hb2⟩; obtain ⟨hc_w2, hf_w2⟩ := bcell hb2; have hz_w2 := hb2.size; (try simp at hz_w2); (try have g_w2 : w.heap.size < w2.heap.size := (by omega))))
    have hw : Below w.heap.size w w2 := (by repeat (first | assumption | exact Below.refl _ _ | apply Below.al | apply Below.drewN' | apply Below.drew | (apply Below.tr; assumption)))
    refine (first_any A c xs f _ ((h.below hw (Nat.le_refl _)).more hw.size) hn).mono ?_
    rw [HX.out]
    rintro e w5 ⟨rfl, hb5⟩
    go_wp2
    go_ret2
    exact ⟨by rw [HV1.out, HC1.out]; rfl, (by repeat (first | assumption | exact Below.refl _ _ | apply Below.al | apply Below.drewN' | apply Below.drew | (apply Below.tr; assumption)))⟩
  · have i3 : idxF (fun x => mtB x f) 0 xs = (k : Int) := by simpa using i1
    have HX := hid i3
    have HV1 : Hid (clV xs f = p.s) := hid (by rw [HV.out, i2]; rfl)
    have HC1 : Hid (clC xs f = 0) := hid (by rw [HC.out, i2]; simp)
    obtain ⟨b, o, rfl, hbB, c0, _, _, _, _, _⟩ := h.at6 hp rfl
    have hk : k < xs.length := (List.getElem?_eq_some_iff.1 hp).1
    have hd : decide ((k : Int) < 0) = false := by simp
    clear i1 i2 i3 hp hc
    go_enter Try.func9, Try.ntmps9
    go_wp2_with (first | (go_at_call 21; refine (validRules_any _ c xs _ ((h.below (B' := w.heap.size) (by repeat (first | assumption | exact Below.refl _ _ | apply Below.al | apply Below.drewN' | apply Below.drew | (apply Below.tr; assumption))) (Nat.le_refl _)).more (by first | (simp; done) | (simp; omega))) hn wf).mono ?_; rintro e w1 ⟨rfl, hb1⟩; obtain ⟨hc_w1, hf_w1⟩ := bcell hb1; have hz_w1 := hb1.size; (try simp at hz_w1); (try have g_w1 : w.heap.size < w1.heap.size := (by omega))) | (go_at_call 22; refine (areFacts_any f.a f.p f.s _).mono ?_; rintro e w2 ⟨rfl, hb2⟩; obtain ⟨hc_w2, hf_w2⟩ := bcell hb2; have hz_w2 := hb2.size; (try simp at hz_w2); (try have g_w2 : w.heap.size < w2.heap.size := (by omega))))
    have hw : Below w.heap.size w w2 := (by repeat (first | assumption | exact Below.refl _ _ | apply Below.al | apply Below.drewN' | apply Below.drew | (apply Below.tr; assumption)))
    refine (first_any _ c xs f _ ((h.below hw (Nat.le_refl _)).more hw.size) hn).mono ?_
    rw [HX.out]
    rintro e w5 ⟨rfl, hb5⟩
    have hw5 : Below w.heap.size w w5 := (by repeat (first | assumption | exact Below.refl _ _ | apply Below.al | apply Below.drewN' | apply Below.drew | (apply Below.tr; assumption)))
    have c9 : w5.cell? ⟨b, o + k * 6, none⟩ = some (.string p.s) := ((bcell hw5).1 b _ hbB).trans c0
    go_wp2
    go_ret2
    exact ⟨by rw [HV1.out, HC1.out]; rfl, hw5⟩
theorem implClassOf_3 (A : Option Addr) (c : Nat) (xs : List Ru) (a p s : Int) (w : World) (h : Rd encRu 6 w w.heap.size A xs) (hn : xs.length ≤ 1048576) (wf : ∀ x ∈ xs, x.s.size ≤ maxLen) :
    Calls Try.prog 9 #[.slice A xs.length c, .agg #[.int .i64 a, .int .i64 p, .int .i64 s]] w fun e w' => e = .returned (.tuple #[.string (clV xs ⟨a, p, s⟩), .int .i64 (clC xs ⟨a, p, s⟩)]) ∧ Below w.heap.size w w' := implClassOf_any A c xs ⟨a, p, s⟩ w h hn wf
end Go.Proofs.Ytmjapoolmadmpaa
