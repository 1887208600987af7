/- Contracts: drawn worths are valid, in the program and in the reference. -/
import Derived.Test.YticamdaicbgdlaaC17d
namespace Go.Proofs.Yticamdaicbgdlaa
open Go.RowKit
set_option linter.unusedVariables false
theorem WOk.at {n : Nat} {Ls : List (List Int)} (h : WOk n Ls) {i : Nat} (hi : i < Ls.length) : ∃ L, Ls[i]? = some L ∧ L.length = n ∧ (∀ (k : Nat) (x : Int), L[k]? = some x → 0 ≤ x ∧ x ≤ 11) := by
  obtain ⟨L, hL⟩ := getx hi
  exact ⟨L, hL, h.row L (List.mem_of_getElem? hL), fun k x hx => h.num L (List.mem_of_getElem? hL) x (List.mem_of_getElem? hx)⟩
theorem all_in {L : List Int} {a b : Int} (h : ∀ (k : Nat) (x : Int), L[k]? = some x → a ≤ x ∧ x ≤ b) : (L.all fun x => inB x a b) = true := by
  rw [List.all_eq_true]
  intro x hx
  obtain ⟨k, hk⟩ := List.mem_iff_getElem?.1 hx
  exact inB_true.2 (h k x hk)
set_option maxHeartbeats 1000000 in
theorem validWorths_any (n : Nat) (A : Option Addr) (c : Nat) (Ls : List (List Int)) (w : World) (h : RL w w.heap.size A Ls) (OK : WOk n Ls) :
    Calls Try.prog 21 #[.slice A Ls.length c] w fun e w' => e = .returned (.bool true) ∧ Below w.heap.size w w' := by
  have m1 := OK.m1; have m2 := OK.m2; have n1 := OK.n1; have n2 := OK.n2
  go_enter Try.func21, Try.ntmps21
  go_wp2
  go_loopw [15] (fun i wr => ∃ k : Nat, k ≤ Ls.length ∧ i = .int .i64 k ∧ Below w.heap.size w wr) (fun i _ => Ls.length - (intOf i).toNat)
  case atStart => exact ⟨0, Nat.zero_le _, rfl, (by repeat (first | assumption | exact Below.refl _ _ | apply Below.al | apply Below.drewN' | apply Below.drew | (apply Below.tr; assumption)))⟩
  case round =>
    obtain ⟨k, hk, rfl, hb⟩ := hrel
    by_cases hlt : k < Ls.length
    · obtain ⟨L, hL, lL, xL⟩ := OK.at hlt
      obtain ⟨L0, hL0, lL0, xL0⟩ := OK.at (i := 0) (by omega)
      have hsz := hb.size
      obtain ⟨b, rfl, hbB, hr⟩ := h.below hb (Nat.le_refl _)
      obtain ⟨A1, c1, e1, r1⟩ := hr k L hL
      obtain ⟨A2, c2, e2, r2⟩ := hr 0 L0 hL0
      have AI := fun (W : World) (hW : Below wr.heap.size wr W) => allIn_any 0 1000 A1 c1 L W ((r1.below hW hsz).more (by have := hW.size; omega)) (by omega)
      rw [all_in (fun k x hx => by have := xL k x hx; omega)] at AI
      rw [lL] at e1 AI
      rw [lL0] at e2
      have AI := hid AI
      clear hL hL0 xL xL0 r1 r2 hr
      go_wp2_with (go_at_call 28; refine (AI.out _ (by repeat (first | assumption | exact Below.refl _ _ | apply Below.al | apply Below.drewN' | apply Below.drew | (apply Below.tr; assumption)))).mono ?_; rintro e w2 ⟨rfl, hb2⟩)
      go_roundw
      case rel => exact ⟨k + 1, by omega, by go_num, (by repeat (first | assumption | exact Below.refl _ _ | apply Below.al | apply Below.drewN' | apply Below.drew | (apply Below.tr; assumption)))⟩
      case measure => simp [intOf]; omega
    · go_wp2
      go_ret
      exact ⟨rfl, (by repeat (first | assumption | exact Below.refl _ _ | apply Below.al | apply Below.drewN' | apply Below.drew | (apply Below.tr; assumption)))⟩
theorem l00In_eq' {n lo hi : Int} {v : Bool} (h : inB n lo hi = v) (w : World) :
    Calls Try.prog 26 #[.int .i64 n, .int .i64 lo, .int .i64 hi] w fun e w' => e = .returned (.bool v) ∧ w = w' := by
  subst h; exact l00In_any n lo hi w
set_option maxHeartbeats 1000000 in
theorem l17Ok_any (n : Nat) (A : Option Addr) (c : Nat) (Ls : List (List Int)) (w : World) (h : RL w w.heap.size A Ls) (OK : WOk n Ls) :
    Calls Try.prog 23 #[.slice A Ls.length c] w fun e w' => e = .returned (.bool true) ∧ Below w.heap.size w w' := by
  have m1 := OK.m1; have m2 := OK.m2; have n1 := OK.n1; have n2 := OK.n2
  have hN : inB (n : Int) 1 8 = true := inB_true.2 (by omega)
  have hM : inB (Ls.length : Int) 1 6 = true := inB_true.2 (by omega)
  go_enter Try.func23, Try.ntmps23
  go_wp2
  go_loopw [3] (fun i wr => ∃ k : Nat, k ≤ Ls.length ∧ i = .int .i64 k ∧ Below w.heap.size w wr) (fun i _ => Ls.length - (intOf i).toNat)
  case atStart => exact ⟨0, Nat.zero_le _, rfl, (by repeat (first | assumption | exact Below.refl _ _ | apply Below.al | apply Below.drewN' | apply Below.drew | (apply Below.tr; assumption)))⟩
  case round =>
    obtain ⟨k, hk, rfl, hb⟩ := hrel
    by_cases hlt : k < Ls.length
    · obtain ⟨L, hL, lL, xL⟩ := OK.at hlt
      obtain ⟨L0, hL0, lL0, xL0⟩ := OK.at (i := 0) (by omega)
      have hsz := hb.size
      have H := h.below hb (Nat.le_refl _)
      obtain ⟨b, rfl, hbB, hr⟩ := H
      obtain ⟨A1, c1, e1, r1⟩ := hr k L hL
      obtain ⟨A2, c2, e2, r2⟩ := hr 0 L0 hL0
      rw [lL] at e1
      rw [lL0] at e2
      have b0 : b < wr.heap.size := by omega
      have r1 := hid r1
      have xL := hid xL
      clear hL hL0 xL0 r2 hr
      go_wp2
      refine wp_region_ext (by kernel_rfl) (by kernel_rfl) ?_
      repeat (go_big_quiet_step ((first | (go_at_call 26; exact ext_same (l00In_eq' hN _)))))
      refine wpQuiet_nil ?_
      intro w3 hb3
      obtain ⟨hc_w3, hf_w3⟩ := bcell hb3
      have hz_w3 := hb3.size
      have E1 := (hc_w3 _ _ b0).trans e1
      have z3 : b < w3.heap.size := by omega
      have R1 := hid (r1.out.below hb3 hsz)
      clear e1 e2
      go_wp2
      obtain ⟨w6, rfl⟩ : ∃ w6, w6 = w3 := ⟨_, rfl⟩
      go_loopw [4] (fun i wr => ∃ j : Nat, j ≤ n ∧ i = .int .i64 j ∧ Below w6.heap.size w6 wr) (fun i _ => n - (intOf i).toNat)
      case atStart => exact ⟨0, Nat.zero_le _, rfl, (by repeat (first | assumption | exact Below.refl _ _ | apply Below.al | apply Below.drewN' | apply Below.drew | (apply Below.tr; assumption)))⟩
      case round =>
        obtain ⟨j, hj, rfl, hb'⟩ := hrel
        have E2 := ((bcell hb').1 _ _ z3).trans E1
        by_cases hlt' : j < n
        · obtain ⟨x, hx⟩ := getx (xs := L) (k := j) (by omega)
          obtain ⟨x0, x1⟩ := xL.out j x hx
          obtain ⟨b', o', rfl, hbB', d0⟩ := (R1.out.below hb' (by omega)).at1 hx rfl
          have hX : inB x 0 1000 = true := inB_true.2 (by omega)
          clear hx
          go_wp2_with (go_at_call 26; refine (l00In_any _ _ _ _).mono ?_; rintro e w' ⟨rfl, rfl⟩)
          go_roundw
          case rel => exact ⟨j + 1, by omega, by go_num, hb'⟩
          case measure => simp [intOf]; omega
        · go_wp2
          go_roundw
          case rel => exact ⟨k + 1, by omega, by go_num, (by repeat (first | assumption | exact Below.refl _ _ | apply Below.al | apply Below.drewN' | apply Below.drew | (apply Below.tr; assumption)))⟩
          case measure => simp [intOf]; omega
    · go_wp2_with (go_at_call 26; refine (l00In_any _ _ _ _).mono ?_; rintro e w' ⟨rfl, rfl⟩)
      go_ret
      exact ⟨rfl, (by repeat (first | assumption | exact Below.refl _ _ | apply Below.al | apply Below.drewN' | apply Below.drew | (apply Below.tr; assumption)))⟩
end Go.Proofs.Yticamdaicbgdlaa
