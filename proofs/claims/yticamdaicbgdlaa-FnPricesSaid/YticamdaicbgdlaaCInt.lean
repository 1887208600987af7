/- Contracts: lists of numbers: the laws' helpers, and the tests of whole lists. -/
import Derived.Test.YticamdaicbgdlaaC1
namespace Go.Proofs.Yticamdaicbgdlaa
open Go.RowKit
set_option linter.unusedVariables false
set_option maxRecDepth 20000 in
set_option maxHeartbeats 1000000 in
theorem indexFuncI_any (F : FuncId) (caps : Array Value) (f : Int → Bool) (A : Option Addr) (c : Nat) (xs : List Int) (w : World) (h : Rd encI 1 w w.heap.size A xs) (hn : xs.length ≤ 1048576)
    (hF : ∀ (args : Array Value) (w : World), (callFunc F args).run Try.prog w = .ok (.enter F args) w)
    (hcl : ∀ (x : Int) (w1 : World), Below w.heap.size w w1 → Calls Try.prog F (#[.int .i64 x] ++ caps) w1 fun e w2 => e = .returned (.bool (f x)) ∧ Below w1.heap.size w1 w2) :
    Calls Try.prog 50 #[.slice A xs.length c, .func (.func F) #[] caps] w fun e w' => e = .returned (.int .i64 (idxF f 0 xs)) ∧ Below w.heap.size w w' := by
  have HC := hid hcl
  clear hcl
  go_enter Try.func50, Try.ntmps50
  go_wp2
  go_loopw [8] (fun i wr => ∃ k : Nat, k ≤ xs.length ∧ i = .int .i64 k ∧ Below w.heap.size w wr ∧ Hid (idxF f 0 xs = idxF f k (xs.drop k))) (fun i _ => xs.length - (intOf i).toNat)
  case atStart => exact ⟨0, Nat.zero_le _, rfl, (by repeat (first | assumption | exact Below.refl _ _ | apply Below.al | apply Below.drewN' | apply Below.drew | (apply Below.tr; assumption))), hid rfl⟩
  case round =>
    obtain ⟨k, hk, rfl, hb, H⟩ := hrel
    by_cases hlt : k < xs.length
    · obtain ⟨p, hp⟩ := getx hlt
      obtain ⟨b, o, rfl, hbB, c0⟩ := (h.below hb (Nat.le_refl _)).at1 hp rfl
      have hsz := hb.size
      have HS : Hid (idxF f k (xs.drop k) = if f p = true then (k : Int) else idxF f (k + 1) (xs.drop (k+1))) := by rw [dropx hp]; rfl
      clear hp
      cases h1 : f p
      all_goals
        go_wp2_with fail
        refine (HC.out p _ hb).mono ?_
        rintro e w1 ⟨rfl, hb1⟩
        go_wp2
        first
          | (go_ret
             exact ⟨ret_int (by rw [H.out, HS.out]; simp [h1]), (by repeat (first | assumption | exact Below.refl _ _ | apply Below.al | apply Below.drewN' | apply Below.drew | (apply Below.tr; assumption)))⟩)
          | (go_roundw
             case rel => exact ⟨k + 1, by omega, by go_num, (by repeat (first | assumption | exact Below.refl _ _ | apply Below.al | apply Below.drewN' | apply Below.drew | (apply Below.tr; assumption))), hid (by rw [H.out, HS.out]; simp [h1])⟩
             case measure => simp [intOf]; omega)
    · have HE : Hid (idxF f 0 xs = -1) := hid (by rw [H.out, List.drop_eq_nil_of_le (by omega)]; rfl)
      go_wp2
      go_ret
      exact ⟨ret_int HE.out.symm, (by repeat (first | assumption | exact Below.refl _ _ | apply Below.al | apply Below.drewN' | apply Below.drew | (apply Below.tr; assumption)))⟩
theorem containsFuncI_any (F : FuncId) (caps : Array Value) (f : Int → Bool) (A : Option Addr) (c : Nat) (xs : List Int) (w : World) (h : Rd encI 1 w w.heap.size A xs) (hn : xs.length ≤ 1048576)
    (hF : ∀ (args : Array Value) (w : World), (callFunc F args).run Try.prog w = .ok (.enter F args) w)
    (hcl : ∀ (x : Int) (w1 : World), Below w.heap.size w w1 → Calls Try.prog F (#[.int .i64 x] ++ caps) w1 fun e w2 => e = .returned (.bool (f x)) ∧ Below w1.heap.size w1 w2) :
    Calls Try.prog 39 #[.slice A xs.length c, .func (.func F) #[] caps] w fun e w' => e = .returned (.bool (xs.any f)) ∧ Below w.heap.size w w' := by
  have HC := hid hcl
  have HA := hid (idxF_any f xs)
  clear hcl
  cases ha : xs.any f
  · have hlt : idxF f 0 xs < 0 := by rw [ha] at HA; simpa using HA.out
    go_enter Try.func39, Try.ntmps39
    go_wp2_with (go_at_call 50; refine (indexFuncI_any F caps f _ _ xs _ h hn hF HC.out).mono ?_; rintro e w1 ⟨rfl, hb1⟩; obtain ⟨hc_w1, hf_w1⟩ := bcell hb1; have hz_w1 := hb1.size)
    go_ret
    exact ⟨ret_bool (by simp; try omega), (by repeat (first | assumption | exact Below.refl _ _ | apply Below.al | apply Below.drewN' | apply Below.drew | (apply Below.tr; assumption)))⟩
  · have hlt : 0 ≤ idxF f 0 xs := by rw [ha] at HA; simpa using HA.out
    go_enter Try.func39, Try.ntmps39
    go_wp2_with (go_at_call 50; refine (indexFuncI_any F caps f _ _ xs _ h hn hF HC.out).mono ?_; rintro e w1 ⟨rfl, hb1⟩; obtain ⟨hc_w1, hf_w1⟩ := bcell hb1; have hz_w1 := hb1.size)
    go_ret
    exact ⟨ret_bool (by simp; try omega), (by repeat (first | assumption | exact Below.refl _ _ | apply Below.al | apply Below.drewN' | apply Below.drew | (apply Below.tr; assumption)))⟩
theorem allIn1_any (x lo hi : Int) (b b' : Nat) (w : World) (h0 : w.cell? ⟨b, 0, none⟩ = some (.int .i64 lo)) (h1 : w.cell? ⟨b', 0, none⟩ = some (.int .i64 hi)) :
    Calls Try.prog 40 #[.int .i64 x, .pointer (some ⟨b, 0, none⟩), .pointer (some ⟨b', 0, none⟩)] w fun e w' => e = .returned (.bool (!inB x lo hi)) ∧ w = w' := by
  go_enter Try.func40, Try.ntmps40
  go_wp2_with (go_at_call 29; refine (in_any _ _ _ _).mono ?_; rintro e w' ⟨rfl, rfl⟩)
  go_ret
  exact ⟨rfl, rfl⟩
set_option maxHeartbeats 1000000 in
theorem allIn_any (lo hi : Int) (A : Option Addr) (c : Nat) (xs : List Int) (w : World) (h : Rd encI 1 w w.heap.size A xs) (hn : xs.length ≤ 1048576) :
    Calls Try.prog 28 #[.slice A xs.length c, .int .i64 lo, .int .i64 hi] w fun e w' => e = .returned (.bool (xs.all fun x => inB x lo hi)) ∧ Below w.heap.size w w' := by
  go_enter Try.func28, Try.ntmps28
  go_wp2_with fail
  refine (containsFuncI_any 40 _ (fun x => !inB x lo hi) A c xs _ ((h.below (B' := w.heap.size) (by repeat (first | assumption | exact Below.refl _ _ | apply Below.al | apply Below.drewN' | apply Below.drew | (apply Below.tr; assumption))) (Nat.le_refl _)).more (by simp; omega)) hn (callFunc_enter Try.func40 (by kernel_rfl) (by kernel_rfl)) ?_).mono ?_
  · intro x w1 hb
    refine (allIn1_any x lo hi w.heap.size (w.heap.size + 1) w1 ?_ ?_).mono ?_
    · rw [(bcell hb).1 _ _ (by first | (simp; done) | (simp; omega))]; simp
    · rw [(bcell hb).1 _ _ (by first | (simp; done) | (simp; omega))]; simp
    · rintro e w2 ⟨rfl, rfl⟩
      exact ⟨rfl, Below.refl _ _⟩
  · rintro e w1 ⟨rfl, hb1⟩
    go_wp2
    go_ret
    exact ⟨ret_bool (by simp [any_not]), (by repeat (first | assumption | exact Below.refl _ _ | apply Below.al | apply Below.drewN' | apply Below.drew | (apply Below.tr; assumption)))⟩
