/- Contracts: SignChanges, ChiSquare, DeviationsFrom, in the program and in the reference. -/
import Derived.Test.YtkkjljahfpdfhaaCInt
namespace Go.Proofs.Ytkkjljahfpdfhaa
open Go.RowKit
set_option linter.unusedVariables false
theorem magsB_true {xs : List Int} (h : magsB xs = true) : xs.length ≤ 100 ∧ ∀ (k : Nat) (p : Int), xs[k]? = some p → -2000 ≤ p ∧ p ≤ 20000 := by
  simp only [magsB, Bool.and_eq_true, decide_eq_true_eq, List.all_eq_true] at h
  exact ⟨h.1, fun k p hp => inB_true.1 (h.2 p (List.mem_of_getElem? hp))⟩
theorem getx_zip {α β : Type} {xs : List α} {ys : List β} {k : Nat} (hk : k < xs.length) (hl : xs.length = ys.length) : ∃ q, ys[k]? = some q := getx (by omega)
def codeModel (xs ys : List Int) : Int := if magsB xs = true ∧ magsB ys = true ∧ xs.length = ys.length then 0 else 2
theorem codeModel_zero {xs ys : List Int} (h : codeModel xs ys = 0) : magsB xs = true ∧ magsB ys = true ∧ xs.length = ys.length := by
  unfold codeModel at h
  split at h
  · assumption
  · simp at h
theorem codeModel_two {xs ys : List Int} (h : ¬ codeModel xs ys = 0) : codeModel xs ys = 2 := by
  unfold codeModel at *
  split
  · rename_i hx; exact absurd (if_pos hx) h
  · rfl
theorem l21Model_any (A A' : Option Addr) (c c' : Nat) (xs ys : List Int) (w : World) (h : Rd encI 1 w w.heap.size A xs) (h' : Rd encI 1 w w.heap.size A' ys) (hn : xs.length ≤ 1048576) (hn' : ys.length ≤ 1048576) :
    Calls Try.prog 76 #[.slice A xs.length c, .slice A' ys.length c'] w fun e w' => e = .returned (.int .i64 (codeModel xs ys)) ∧ Below w.heap.size w w' := by
  cases h1 : magsB xs
  · have e1 : Hid (codeMags xs = 2) := by simp [Hid, codeMags, h1]
    have e0 : Hid (codeModel xs ys = 2) := by simp [Hid, codeModel, h1]
    go_enter Try.func76, Try.ntmps76
    go_wp2_with fail
    refine (l02List_any A c xs _ h hn).mono ?_
    rw [e1.out]
    rintro e w1 ⟨rfl, hb1⟩
    go_wp2
    go_ret
    exact ⟨ret_int e0.out.symm, (by repeat (first | assumption | exact Below.refl _ _ | apply Below.al | apply Below.drewN' | apply Below.drew | (apply Below.tr; assumption)))⟩
  · have e1 : Hid (codeMags xs = 0) := by simp [Hid, codeMags, h1]
    cases h2 : magsB ys
    · have e2 : Hid (codeMags ys = 2) := by simp [Hid, codeMags, h2]
      have e0 : Hid (codeModel xs ys = 2) := by simp [Hid, codeModel, h2]
      go_enter Try.func76, Try.ntmps76
      go_wp2_with fail
      refine (l02List_any A c xs _ h hn).mono ?_
      rw [e1.out]
      rintro e w1 ⟨rfl, hb1⟩
      go_wp2_with fail
      refine (l02List_any A' c' ys _ ((h'.below hb1 (Nat.le_refl _)).more hb1.size) hn').mono ?_
      rw [e2.out]
      rintro e w2 ⟨rfl, hb2⟩
      go_wp2
      go_ret
      exact ⟨ret_int e0.out.symm, (by repeat (first | assumption | exact Below.refl _ _ | apply Below.al | apply Below.drewN' | apply Below.drew | (apply Below.tr; assumption)))⟩
    · have e2 : Hid (codeMags ys = 0) := by simp [Hid, codeMags, h2]
      by_cases hl : xs.length = ys.length
      · have e0 : Hid (codeModel xs ys = 0) := by simp [Hid, codeModel, h1, h2, hl]
        have hl1 : ((ys.length : Int) != xs.length) = false := by simp [hl]
        have HL := hid hl
        clear hl
        go_enter Try.func76, Try.ntmps76
        go_wp2_with fail
        refine (l02List_any A c xs _ h hn).mono ?_
        rw [e1.out]
        rintro e w1 ⟨rfl, hb1⟩
        go_wp2_with fail
        refine (l02List_any A' c' ys _ ((h'.below hb1 (Nat.le_refl _)).more hb1.size) hn').mono ?_
        rw [e2.out]
        rintro e w2 ⟨rfl, hb2⟩
        go_wp2
        go_ret
        exact ⟨ret_int e0.out.symm, (by repeat (first | assumption | exact Below.refl _ _ | apply Below.al | apply Below.drewN' | apply Below.drew | (apply Below.tr; assumption)))⟩
      · have e0 : Hid (codeModel xs ys = 2) := by simp [Hid, codeModel, hl]
        have hl1 : ((ys.length : Int) != xs.length) = true := by simp; omega
        go_enter Try.func76, Try.ntmps76
        go_wp2_with fail
        refine (l02List_any A c xs _ h hn).mono ?_
        rw [e1.out]
        rintro e w1 ⟨rfl, hb1⟩
        go_wp2_with fail
        refine (l02List_any A' c' ys _ ((h'.below hb1 (Nat.le_refl _)).more hb1.size) hn').mono ?_
        rw [e2.out]
        rintro e w2 ⟨rfl, hb2⟩
        go_wp2
        go_ret
        exact ⟨ret_int e0.out.symm, (by repeat (first | assumption | exact Below.refl _ _ | apply Below.al | apply Below.drewN' | apply Below.drew | (apply Below.tr; assumption)))⟩
def scN (n last d : Int) : Int := if d ≠ 0 ∧ last ≠ 0 ∧ ¬ (0 < d ↔ 0 < last) then n + 1 else n
def scL (last d : Int) : Int := if d ≠ 0 then d else last
def scGo : List Int → List Int → Int → Int → Int
  | x :: r, y :: s, n, last => scGo r s (scN n last (x - y)) (scL last (x - y))
  | _, _, n, _ => n
def scV (xs ys : List Int) : Int := if codeModel xs ys = 0 then scGo xs ys 0 0 else 0
set_option maxHeartbeats 2000000 in
theorem specSignChanges_any (A : Option Addr) (c : Nat) (xs : List Int) (A' : Option Addr) (c' : Nat) (ys : List Int) (w : World) (h : Rd encI 1 w w.heap.size A xs) (hn : xs.length ≤ 1048576) (h' : Rd encI 1 w w.heap.size A' ys) (hn' : ys.length ≤ 1048576) :
    Calls Try.prog 35 #[.slice A xs.length c, .slice A' ys.length c'] w fun e w' => e = .returned (.tuple #[.int .i64 (scV xs ys), .int .i64 (codeModel xs ys)]) ∧ Below w.heap.size w w' := by
  by_cases hc : codeModel xs ys = 0
  · obtain ⟨g1, g2, g3⟩ := codeModel_zero hc
    obtain ⟨l1, v1⟩ := magsB_true g1
    obtain ⟨l2, v2⟩ := magsB_true g2
    have V1 := hid v1
    have V2 := hid v2
    have HL := hid g3
    have hne : ((ys.length : Int) != xs.length) = false := by simp [g3]
    have e0 := hid hc
    have eV : Hid (scV xs ys = scGo xs ys 0 0) := by simp [Hid, scV, hc]
    have G1 := hid g1
    have G2 := hid g2
    clear hc g1 g2 g3 v1 v2
    go_enter Try.func35, Try.ntmps35
    go_wp2_with fail
    refine (l21Model_any A A' c c' xs ys _ h h' hn hn').mono ?_
    rw [e0.out]
    rintro e w1 ⟨rfl, hb1⟩
    go_wp2
    go_loopw [7, 8, 9] (fun n la i wr => ∃ (k : Nat) (a b : Int), k ≤ xs.length ∧ i = .int .i64 k ∧ n = .int .i64 a ∧ la = .int .i64 b ∧ 0 ≤ a ∧ a ≤ k ∧ -30000 ≤ b ∧ b ≤ 30000 ∧ Below w.heap.size w wr ∧ Hid (scGo xs ys 0 0 = scGo (xs.drop k) (ys.drop k) a b)) (fun _ _ i _ => xs.length - (intOf i).toNat)
    case atStart => exact ⟨0, 0, 0, Nat.zero_le _, rfl, rfl, rfl, by omega, by omega, by omega, by omega, (by repeat (first | assumption | exact Below.refl _ _ | apply Below.al | apply Below.drewN' | apply Below.drew | (apply Below.tr; assumption))), hid rfl⟩
    case round =>
      obtain ⟨k, a, b, hk, rfl, rfl, rfl, ha0, ha1, hbl, hbu, hb, H⟩ := hrel
      by_cases hlt : k < xs.length
      · obtain ⟨p, hp⟩ := getx hlt
        obtain ⟨bb, o, rfl, hbB, c0⟩ := (h.below hb (Nat.le_refl _)).at1 hp rfl
        have hsz := hb.size
        obtain ⟨q, hq⟩ := getx_zip hlt HL.out
        obtain ⟨bb', o', rfl, hbB', d0⟩ := (h'.below hb (Nat.le_refl _)).at1 hq rfl
        obtain ⟨p1, p2⟩ := V1.out k p hp
        obtain ⟨q1, q2⟩ := V2.out k q hq
        have HS : Hid (scGo (xs.drop k) (ys.drop k) a b = scGo (xs.drop (k+1)) (ys.drop (k+1)) (scN a b (p - q)) (scL b (p - q))) := by rw [dropx hp, dropx hq]; rfl
        have b0 : bb < wr.heap.size := by omega
        have b1 : bb' < wr.heap.size := by omega
        have hky : k < ys.length := by have := HL.out; omega
        clear hp hq
        rcases Int.lt_trichotomy (p - q) 0 with hd | hd | hd <;> rcases Int.lt_trichotomy b 0 with hl | hl | hl
        all_goals
          first
            | (have z1 : (p - q == 0) = true := by simp; omega)
            | (have z1 : (p - q == 0) = false := by simp; omega)
          first
            | (have z0 : (p - q != 0) = false := by simp; omega)
            | (have z0 : (p - q != 0) = true := by simp; omega)
          first
            | (have z2 : (b != 0) = true := by simp; omega)
            | (have z2 : (b != 0) = false := by simp; omega)
          first
            | (have z3 : decide (q < p) = true := by simp; omega)
            | (have z3 : decide (q < p) = false := by simp; omega)
          first
            | (have z4 : decide (0 < b) = true := by simp; omega)
            | (have z4 : decide (0 < b) = false := by simp; omega)
          go_wp2
          refine wp_region_ext (by kernel_rfl) (by kernel_rfl) ?_
          repeat (go_big_quiet_step ((first | fail)))
          refine wpQuiet_nil ?_
          intro w3 hb3
          obtain ⟨hc_w3, hf_w3⟩ := bcell hb3
          go_wp2
          go_roundw
          case rel => exact ⟨k + 1, _, _, by omega, by go_num, rfl, rfl, by omega, by omega, by omega, by omega, (by repeat (first | assumption | exact Below.refl _ _ | apply Below.al | apply Below.drewN' | apply Below.drew | (apply Below.tr; assumption))), hid (by rw [H.out, HS.out]; congr 1 <;> (simp only [scN, scL]; split <;> omega))⟩
          case measure => simp [intOf]; omega
      · have HE : Hid (scGo xs ys 0 0 = a) := hid (by rw [H.out, List.drop_eq_nil_of_le (by omega)]; rfl)
        go_wp2
        go_ret2
        exact ⟨by rw [eV.out, HE.out, e0.out]; rfl, (by repeat (first | assumption | exact Below.refl _ _ | apply Below.al | apply Below.drewN' | apply Below.drew | (apply Below.tr; assumption)))⟩
  · have hne : (codeModel xs ys != 0) = true := by simp [hc]
    have eV : Hid (scV xs ys = 0) := by simp [Hid, scV, hc]
    go_enter Try.func35, Try.ntmps35
    go_wp2_with (go_at_call 76; refine (l21Model_any A A' c c' xs ys _ h h' hn hn').mono ?_; rintro e w1 ⟨rfl, hb1⟩; obtain ⟨hc_w1, hf_w1⟩ := bcell hb1; have hz_w1 := hb1.size)
    go_ret2
    exact ⟨by rw [eV.out]; rfl, (by repeat (first | assumption | exact Below.refl _ _ | apply Below.al | apply Below.drewN' | apply Below.drew | (apply Below.tr; assumption)))⟩
set_option maxHeartbeats 2000000 in
theorem implSignChanges_any (A : Option Addr) (c : Nat) (xs : List Int) (A' : Option Addr) (c' : Nat) (ys : List Int) (w : World) (h : Rd encI 1 w w.heap.size A xs) (hn : xs.length ≤ 1048576) (h' : Rd encI 1 w w.heap.size A' ys) (hn' : ys.length ≤ 1048576) :
    Calls Try.prog 37 #[.slice A xs.length c, .slice A' ys.length c'] w fun e w' => e = .returned (.tuple #[.int .i64 (scV xs ys), .int .i64 (codeModel xs ys)]) ∧ Below w.heap.size w w' := by
  by_cases hc : codeModel xs ys = 0
  · obtain ⟨g1, g2, g3⟩ := codeModel_zero hc
    obtain ⟨l1, v1⟩ := magsB_true g1
    obtain ⟨l2, v2⟩ := magsB_true g2
    have V1 := hid v1
    have V2 := hid v2
    have HL := hid g3
    have hne : ((ys.length : Int) != xs.length) = false := by simp [g3]
    have e0 := hid hc
    have eV : Hid (scV xs ys = scGo xs ys 0 0) := by simp [Hid, scV, hc]
    have G1 := hid g1
    have G2 := hid g2
    clear hc g1 g2 g3 v1 v2
    go_enter Try.func37, Try.ntmps37
    go_wp2_with fail
    refine (areMags_any A c xs _ h hn).mono ?_
    rw [G1.out]
    rintro e w1 ⟨rfl, hb1⟩
    go_wp2_with fail
    refine (areMags_any A' c' ys _ ((h'.below hb1 (Nat.le_refl _)).more hb1.size) hn').mono ?_
    rw [G2.out]
    rintro e w2 ⟨rfl, hb2⟩
    go_wp2
    go_loopw [6, 7, 28] (fun n la i wr => ∃ (k : Nat) (a b : Int), k ≤ xs.length ∧ i = .int .i64 k ∧ n = .int .i64 a ∧ la = .int .i64 b ∧ 0 ≤ a ∧ a ≤ k ∧ -30000 ≤ b ∧ b ≤ 30000 ∧ Below w.heap.size w wr ∧ Hid (scGo xs ys 0 0 = scGo (xs.drop k) (ys.drop k) a b)) (fun _ _ i _ => xs.length - (intOf i).toNat)
    case atStart => exact ⟨0, 0, 0, Nat.zero_le _, rfl, rfl, rfl, by omega, by omega, by omega, by omega, (by repeat (first | assumption | exact Below.refl _ _ | apply Below.al | apply Below.drewN' | apply Below.drew | (apply Below.tr; assumption))), hid rfl⟩
    case round =>
      obtain ⟨k, a, b, hk, rfl, rfl, rfl, ha0, ha1, hbl, hbu, hb, H⟩ := hrel
      by_cases hlt : k < xs.length
      · obtain ⟨p, hp⟩ := getx hlt
        obtain ⟨bb, o, rfl, hbB, c0⟩ := (h.below hb (Nat.le_refl _)).at1 hp rfl
        have hsz := hb.size
        obtain ⟨q, hq⟩ := getx_zip hlt HL.out
        obtain ⟨bb', o', rfl, hbB', d0⟩ := (h'.below hb (Nat.le_refl _)).at1 hq rfl
        obtain ⟨p1, p2⟩ := V1.out k p hp
        obtain ⟨q1, q2⟩ := V2.out k q hq
        have HS : Hid (scGo (xs.drop k) (ys.drop k) a b = scGo (xs.drop (k+1)) (ys.drop (k+1)) (scN a b (p - q)) (scL b (p - q))) := by rw [dropx hp, dropx hq]; rfl
        have b0 : bb < wr.heap.size := by omega
        have b1 : bb' < wr.heap.size := by omega
        have hky : k < ys.length := by have := HL.out; omega
        clear hp hq
        rcases Int.lt_trichotomy (p - q) 0 with hd | hd | hd <;> rcases Int.lt_trichotomy b 0 with hl | hl | hl
        all_goals
          first
            | (have z1 : (p - q == 0) = true := by simp; omega)
            | (have z1 : (p - q == 0) = false := by simp; omega)
          first
            | (have z0 : (p - q != 0) = false := by simp; omega)
            | (have z0 : (p - q != 0) = true := by simp; omega)
          first
            | (have z2 : (b != 0) = true := by simp; omega)
            | (have z2 : (b != 0) = false := by simp; omega)
          first
            | (have z3 : decide (q < p) = true := by simp; omega)
            | (have z3 : decide (q < p) = false := by simp; omega)
          first
            | (have z4 : decide (0 < b) = true := by simp; omega)
            | (have z4 : decide (0 < b) = false := by simp; omega)
          go_wp2
          go_roundw
          case rel => exact ⟨k + 1, _, _, by omega, by go_num, rfl, rfl, by omega, by omega, by omega, by omega, (by repeat (first | assumption | exact Below.refl _ _ | apply Below.al | apply Below.drewN' | apply Below.drew | (apply Below.tr; assumption))), hid (by rw [H.out, HS.out]; congr 1 <;> (simp only [scN, scL]; split <;> omega))⟩
          case measure => simp [intOf]; omega
      · have HE : Hid (scGo xs ys 0 0 = a) := hid (by rw [H.out, List.drop_eq_nil_of_le (by omega)]; rfl)
        go_wp2
        go_ret2
        exact ⟨by rw [eV.out, HE.out, e0.out]; rfl, (by repeat (first | assumption | exact Below.refl _ _ | apply Below.al | apply Below.drewN' | apply Below.drew | (apply Below.tr; assumption)))⟩
  · have eV : Hid (scV xs ys = 0) := by simp [Hid, scV, hc]
    have eC : Hid (codeModel xs ys = 2) := codeModel_two hc
    have hx : ¬ (magsB xs = true ∧ magsB ys = true ∧ xs.length = ys.length) := fun hx => hc (if_pos hx)
    clear hc
    cases h1 : magsB xs <;> cases h2 : magsB ys <;> by_cases h3 : ys.length = xs.length
    all_goals
      first
        | (exfalso; exact hx ⟨h1, h2, h3.symm⟩)
        | (clear hx
           first
             | (have hne : ((ys.length : Int) != xs.length) = true := by simp; omega)
             | (have hne : ((ys.length : Int) != xs.length) = false := by simp; omega)
           clear h3
           go_enter Try.func37, Try.ntmps37
           go_wp2_with fail
           refine (areMags_any A c xs _ h hn).mono ?_
           rw [h1]
           rintro e w1 ⟨rfl, hb1⟩
           go_wp2_with fail
           first
             | (go_ret2
                exact ⟨by rw [eV.out, eC.out]; rfl, (by repeat (first | assumption | exact Below.refl _ _ | apply Below.al | apply Below.drewN' | apply Below.drew | (apply Below.tr; assumption)))⟩)
             | (refine (areMags_any A' c' ys _ ((h'.below hb1 (Nat.le_refl _)).more hb1.size) hn').mono ?_
                rw [h2]
                rintro e w2 ⟨rfl, hb2⟩
                go_wp2_with fail
                go_ret2
                exact ⟨by rw [eV.out, eC.out]; rfl, (by repeat (first | assumption | exact Below.refl _ _ | apply Below.al | apply Below.drewN' | apply Below.drew | (apply Below.tr; assumption)))⟩))
def wtsB (xs ws : List Int) : Bool := decide (ws.length = xs.length) && ws.all fun x => inB x 0 100
set_option maxHeartbeats 1000000 in
theorem l21Weights_any (A A' : Option Addr) (c c' : Nat) (xs ys : List Int) (w : World) (h : Rd encI 1 w w.heap.size A' ys) (hn' : xs.length ≤ 1048576) (hn : ys.length ≤ 1048576) :
    Calls Try.prog 77 #[.slice A xs.length c, .slice A' ys.length c'] w fun e w' => e = .returned (.bool (wtsB xs ys)) ∧ Below w.heap.size w w' := by
  go_enter Try.func77, Try.ntmps77
  go_wp2
  go_loopw [5] (fun i wr => ∃ k : Nat, k ≤ ys.length ∧ i = .int .i64 k ∧ Below w.heap.size w wr ∧ Hid ((ys.all fun x => inB x 0 100) = ((ys.drop k).all fun x => inB x 0 100))) (fun i _ => ys.length - (intOf i).toNat)
  case atStart => exact ⟨0, Nat.zero_le _, rfl, (by repeat (first | assumption | exact Below.refl _ _ | apply Below.al | apply Below.drewN' | apply Below.drew | (apply Below.tr; assumption))), hid rfl⟩
  case round =>
    obtain ⟨k, hk, rfl, hb, H⟩ := hrel
    by_cases hlt : k < ys.length
    · obtain ⟨p, hp⟩ := getx hlt
      obtain ⟨b, o, rfl, hbB, c0⟩ := (h.below hb (Nat.le_refl _)).at1 hp rfl
      have hsz := hb.size
      have HS : Hid (((ys.drop k).all fun x => inB x 0 100) = (inB p 0 100 && (ys.drop (k+1)).all fun x => inB x 0 100)) := by rw [dropx hp]; rfl
      clear hp
      cases h1 : inB p 0 100
      all_goals
        go_wp2_with (go_at_call 98; refine (l00In_any _ _ _ _).mono ?_; rintro e w' ⟨rfl, rfl⟩)
        first
          | (go_ret
             exact ⟨ret_bool (by simp [wtsB, H.out, HS.out, h1]), (by repeat (first | assumption | exact Below.refl _ _ | apply Below.al | apply Below.drewN' | apply Below.drew | (apply Below.tr; assumption)))⟩)
          | (go_roundw
             case rel => exact ⟨k + 1, by omega, by go_num, (by repeat (first | assumption | exact Below.refl _ _ | apply Below.al | apply Below.drewN' | apply Below.drew | (apply Below.tr; assumption))), hid (by rw [H.out, HS.out, h1]; rfl)⟩
             case measure => simp [intOf]; omega)
    · have HE : Hid ((ys.all fun x => inB x 0 100) = true) := hid (by rw [H.out, List.drop_eq_nil_of_le (by omega)]; rfl)
      go_wp2
      go_ret
      exact ⟨ret_bool (by simp only [wtsB, HE.out]; rw [Bool.eq_iff_iff]; simp; omega), (by repeat (first | assumption | exact Below.refl _ _ | apply Below.al | apply Below.drewN' | apply Below.drew | (apply Below.tr; assumption)))⟩
theorem areWeights_any (A A' : Option Addr) (c c' : Nat) (xs ys : List Int) (w : World) (h : Rd encI 1 w w.heap.size A' ys) (hn' : xs.length ≤ 1048576) (hn : ys.length ≤ 1048576) :
    Calls Try.prog 78 #[.slice A xs.length c, .slice A' ys.length c'] w fun e w' => e = .returned (.bool (wtsB xs ys)) ∧ Below w.heap.size w w' := by
  by_cases hl : ys.length = xs.length
  · have h1 : ((ys.length : Int) == xs.length) = true := by simp [hl]
    have HL := hid hl
    clear hl
    go_enter Try.func78, Try.ntmps78
    go_wp2_with (go_at_call 102; refine (allIn_any _ _ _ _ ys _ h hn).mono ?_; rintro e w1 ⟨rfl, hb1⟩; obtain ⟨hc_w1, hf_w1⟩ := bcell hb1; have hz_w1 := hb1.size)
    go_ret
    exact ⟨ret_bool (by simp [wtsB, HL.out]), (by repeat (first | assumption | exact Below.refl _ _ | apply Below.al | apply Below.drewN' | apply Below.drew | (apply Below.tr; assumption)))⟩
  · have h1 : ((ys.length : Int) == xs.length) = false := by simp; omega
    go_enter Try.func78, Try.ntmps78
    go_wp2_with (go_at_call 102; refine (allIn_any _ _ _ _ ys _ h hn).mono ?_; rintro e w1 ⟨rfl, hb1⟩; obtain ⟨hc_w1, hf_w1⟩ := bcell hb1; have hz_w1 := hb1.size)
    go_ret
    exact ⟨ret_bool (by simp [wtsB, hl]), (by repeat (first | assumption | exact Below.refl _ _ | apply Below.al | apply Below.drewN' | apply Below.drew | (apply Below.tr; assumption)))⟩
def csGo : List Int → List Int → List Int → Int → Int
  | x :: r, y :: s, z :: u, n => csGo r s u (n + (x - y) * (x - y) * z)
  | _, _, _, n => n
def codeChi (xs ys zs : List Int) : Int := if codeModel xs ys = 0 ∧ wtsB xs zs = true then 0 else 2
def csV (xs ys zs : List Int) : Int := if codeChi xs ys zs = 0 then csGo xs ys zs 0 else 0
theorem wtsB_true {xs ws : List Int} (h : wtsB xs ws = true) : ws.length = xs.length ∧ ∀ (k : Nat) (p : Int), ws[k]? = some p → 0 ≤ p ∧ p ≤ 100 := by
  simp only [wtsB, Bool.and_eq_true, decide_eq_true_eq, List.all_eq_true] at h
  exact ⟨h.1, fun k p hp => inB_true.1 (h.2 p (List.mem_of_getElem? hp))⟩
theorem cs_bd {d z : Int} (h1 : -22000 ≤ d) (h2 : d ≤ 22000) (h3 : 0 ≤ z) (h4 : z ≤ 100) : 0 ≤ d * d ∧ d * d ≤ 484000000 ∧ 0 ≤ d * d * z ∧ d * d * z ≤ 48400000000 ∧ -2200000 ≤ z * d ∧ z * d ≤ 2200000 := by
  have a := mul_bd h1 h2 h1 h2
  have b : 0 ≤ d * d := by
    rcases Int.le_total 0 d with h | h
    · exact Int.mul_nonneg h h
    · exact Int.mul_nonneg_of_nonpos_of_nonpos h h
  have e := mul_bd (a := d * d) (A := 484000000) (b := z) (B := 100) (by omega) (by omega) (by omega) h4
  have f := Int.mul_nonneg b h3
  have g := mul_bd (a := z) (A := 100) (b := d) (B := 22000) (by omega) h4 h1 h2
  omega
set_option maxHeartbeats 2000000 in
theorem specChiSquare_any (A : Option Addr) (c : Nat) (xs : List Int) (A' : Option Addr) (c' : Nat) (ys : List Int) (A'' : Option Addr) (c'' : Nat) (zs : List Int) (w : World) (h : Rd encI 1 w w.heap.size A xs) (hn : xs.length ≤ 1048576) (h' : Rd encI 1 w w.heap.size A' ys) (hn' : ys.length ≤ 1048576) (h'' : Rd encI 1 w w.heap.size A'' zs) (hn'' : zs.length ≤ 1048576) :
    Calls Try.prog 39 #[.slice A xs.length c, .slice A' ys.length c', .slice A'' zs.length c''] w fun e w' => e = .returned (.tuple #[.int .i64 (csV xs ys zs), .int .i64 (codeChi xs ys zs)]) ∧ Below w.heap.size w w' := by
  have k0 := h
  have k1 := h'
  have k2 := h''
  by_cases hc : codeModel xs ys = 0 ∧ wtsB xs zs = true
  · have e0 : Hid (codeChi xs ys zs = 0) := if_pos hc
    obtain ⟨hc, hw⟩ := hc
    obtain ⟨g1, g2, g3⟩ := codeModel_zero hc
    obtain ⟨l1, v1⟩ := magsB_true g1
    obtain ⟨l2, v2⟩ := magsB_true g2
    obtain ⟨l3, v3⟩ := wtsB_true hw
    have V1 := hid v1
    have V2 := hid v2
    have V3 := hid v3
    have HL := hid g3
    have HL3 := hid l3
    have hne : ((ys.length : Int) != xs.length) = false := by simp [g3]
    have eV : Hid (csV xs ys zs = csGo xs ys zs 0) := by simp [Hid, csV, e0.out]
    have G1 := hid g1
    have G2 := hid g2
    have G3 := hid hw
    have e1 := hid hc
    clear hc hw g1 g2 g3 v1 v2 v3 l3
    go_enter Try.func39, Try.ntmps39
    go_wp2_with fail
    refine (l21Model_any A A' c c' xs ys _ h h' hn hn').mono ?_
    rw [e1.out]
    rintro e w1 ⟨rfl, hb1⟩
    go_wp2_with fail
    refine (l21Weights_any A A'' c c'' xs zs _ ((h''.below hb1 (Nat.le_refl _)).more hb1.size) hn hn'').mono ?_
    rw [G3.out]
    rintro e w2 ⟨rfl, hb2⟩
    go_wp2
    go_loopw [9, 10] (fun n i wr => ∃ (k : Nat) (a : Int), k ≤ xs.length ∧ i = .int .i64 k ∧ n = .int .i64 a ∧ 0 ≤ a ∧ a ≤ k * 48400000000 ∧ Below w.heap.size w wr ∧ Hid (csGo xs ys zs 0 = csGo (xs.drop k) (ys.drop k) (zs.drop k) a)) (fun _ i _ => xs.length - (intOf i).toNat)
    case atStart => exact ⟨0, 0, Nat.zero_le _, rfl, rfl, by omega, by omega, (by repeat (first | assumption | exact Below.refl _ _ | apply Below.al | apply Below.drewN' | apply Below.drew | (apply Below.tr; assumption))), hid rfl⟩
    case round =>
      obtain ⟨k, a, hk, rfl, rfl, ha0, ha1, hb, H⟩ := hrel
      by_cases hlt : k < xs.length
      · obtain ⟨p, hp⟩ := getx hlt
        obtain ⟨bb, o, rfl, hbB, c0⟩ := (k0.below hb (Nat.le_refl _)).at1 hp rfl
        have hsz := hb.size
        obtain ⟨q, hq⟩ := getx_zip hlt HL.out
        obtain ⟨bb', o', rfl, hbB', d0⟩ := (k1.below hb (Nat.le_refl _)).at1 hq rfl
        obtain ⟨r, hr⟩ := getx_zip hlt HL3.out.symm
        obtain ⟨bb'', o'', rfl, hbB'', f0⟩ := (k2.below hb (Nat.le_refl _)).at1 hr rfl
        obtain ⟨p1, p2⟩ := V1.out k p hp
        obtain ⟨q1, q2⟩ := V2.out k q hq
        obtain ⟨r1, r2⟩ := V3.out k r hr
        obtain ⟨m1, m2, m3, m4, m5, m6⟩ := cs_bd (d := p - q) (z := r) (by omega) (by omega) r1 r2
        have ET : Hid (r * (p - q) * (p - q) = (p - q) * (p - q) * r) := by unfold Hid; rw [Int.mul_assoc, Int.mul_comm]
        have m7 : 0 ≤ r * (p - q) * (p - q) ∧ r * (p - q) * (p - q) ≤ 48400000000 := by rw [ET.out]; omega
        have HS : Hid (csGo (xs.drop k) (ys.drop k) (zs.drop k) a = csGo (xs.drop (k+1)) (ys.drop (k+1)) (zs.drop (k+1)) (a + (p - q) * (p - q) * r)) := by rw [dropx hp, dropx hq, dropx hr]; rfl
        have b0 : bb < wr.heap.size := by omega
        have b1 : bb' < wr.heap.size := by omega
        have b2 : bb'' < wr.heap.size := by omega
        have hky : k < ys.length := by have := HL.out; omega
        have hkz : k < zs.length := by have := HL3.out; omega
        clear hp hq hr
        go_wp2
        refine wp_region_ext (by kernel_rfl) (by kernel_rfl) ?_
        repeat (go_big_quiet_step ((first | fail)))
        refine wpQuiet_nil ?_
        intro w3 hb3
        obtain ⟨hc_w3, hf_w3⟩ := bcell hb3
        go_wp2
        go_roundw
        case rel => exact ⟨k + 1, a + (p - q) * (p - q) * r, by omega, by go_num, by rw [← ET.out], by omega, by omega, (by repeat (first | assumption | exact Below.refl _ _ | apply Below.al | apply Below.drewN' | apply Below.drew | (apply Below.tr; assumption))), hid (by rw [H.out, HS.out])⟩
        case measure => simp [intOf]; omega
      · have HE : Hid (csGo xs ys zs 0 = a) := hid (by rw [H.out, List.drop_eq_nil_of_le (by omega)]; rfl)
        go_wp2
        go_ret2
        exact ⟨by rw [eV.out, HE.out, e0.out]; rfl, (by repeat (first | assumption | exact Below.refl _ _ | apply Below.al | apply Below.drewN' | apply Below.drew | (apply Below.tr; assumption)))⟩
  · have eC : Hid (codeChi xs ys zs = 2) := if_neg hc
    have eV : Hid (csV xs ys zs = 0) := by simp [Hid, csV, eC.out]
    by_cases h1 : codeModel xs ys = 0
    · have h2 : wtsB xs zs = false := by cases h : wtsB xs zs <;> simp_all
      have E1 := hid h1
      have E2 := hid h2
      clear hc h1 h2
      go_enter Try.func39, Try.ntmps39
      go_wp2_with fail
      refine (l21Model_any A A' c c' xs ys _ h h' hn hn').mono ?_
      rw [E1.out]
      rintro e w1 ⟨rfl, hb1⟩
      go_wp2_with fail
      refine (l21Weights_any A A'' c c'' xs zs _ ((h''.below hb1 (Nat.le_refl _)).more hb1.size) hn hn'').mono ?_
      rw [E2.out]
      rintro e w2 ⟨rfl, hb2⟩
      go_wp2
      go_ret2
      exact ⟨by rw [eV.out, eC.out]; rfl, (by repeat (first | assumption | exact Below.refl _ _ | apply Below.al | apply Below.drewN' | apply Below.drew | (apply Below.tr; assumption)))⟩
    · have E1 : Hid (codeModel xs ys = 2) := codeModel_two h1
      clear hc h1
      go_enter Try.func39, Try.ntmps39
      go_wp2_with fail
      refine (l21Model_any A A' c c' xs ys _ h h' hn hn').mono ?_
      rw [E1.out]
      rintro e w1 ⟨rfl, hb1⟩
      go_wp2
      go_ret2
      exact ⟨by rw [eV.out, eC.out]; rfl, (by repeat (first | assumption | exact Below.refl _ _ | apply Below.al | apply Below.drewN' | apply Below.drew | (apply Below.tr; assumption)))⟩
set_option maxHeartbeats 2000000 in
theorem implChiSquare_any (A : Option Addr) (c : Nat) (xs : List Int) (A' : Option Addr) (c' : Nat) (ys : List Int) (A'' : Option Addr) (c'' : Nat) (zs : List Int) (w : World) (h : Rd encI 1 w w.heap.size A xs) (hn : xs.length ≤ 1048576) (h' : Rd encI 1 w w.heap.size A' ys) (hn' : ys.length ≤ 1048576) (h'' : Rd encI 1 w w.heap.size A'' zs) (hn'' : zs.length ≤ 1048576) :
    Calls Try.prog 40 #[.slice A xs.length c, .slice A' ys.length c', .slice A'' zs.length c''] w fun e w' => e = .returned (.tuple #[.int .i64 (csV xs ys zs), .int .i64 (codeChi xs ys zs)]) ∧ Below w.heap.size w w' := by
  have k0 := h
  have k1 := h'
  have k2 := h''
  by_cases hc : codeModel xs ys = 0 ∧ wtsB xs zs = true
  · have e0 : Hid (codeChi xs ys zs = 0) := if_pos hc
    obtain ⟨hc, hw⟩ := hc
    obtain ⟨g1, g2, g3⟩ := codeModel_zero hc
    obtain ⟨l1, v1⟩ := magsB_true g1
    obtain ⟨l2, v2⟩ := magsB_true g2
    obtain ⟨l3, v3⟩ := wtsB_true hw
    have V1 := hid v1
    have V2 := hid v2
    have V3 := hid v3
    have HL := hid g3
    have HL3 := hid l3
    have hne : ((ys.length : Int) != xs.length) = false := by simp [g3]
    have eV : Hid (csV xs ys zs = csGo xs ys zs 0) := by simp [Hid, csV, e0.out]
    have G1 := hid g1
    have G2 := hid g2
    have G3 := hid hw
    have e1 := hid hc
    clear hc hw g1 g2 g3 v1 v2 v3 l3
    go_enter Try.func40, Try.ntmps40
    go_wp2_with fail
    refine (areMags_any A c xs _ h hn).mono ?_
    rw [G1.out]
    rintro e w1 ⟨rfl, hb1⟩
    have h' := (h'.below hb1 (Nat.le_refl _)).more hb1.size
    have h'' := (h''.below hb1 (Nat.le_refl _)).more hb1.size
    go_wp2_with fail
    refine (areMags_any A' c' ys _ h' hn').mono ?_
    rw [G2.out]
    rintro e w2 ⟨rfl, hb2⟩
    have h' := (h'.below hb2 (Nat.le_refl _)).more hb2.size
    have h'' := (h''.below hb2 (Nat.le_refl _)).more hb2.size
    go_wp2_with fail
    refine (areWeights_any A A'' c c'' xs zs _ h'' hn hn'').mono ?_
    rw [G3.out]
    rintro e w3 ⟨rfl, hb3⟩
    go_wp2
    go_loopw [8, 34] (fun n i wr => ∃ (k : Nat) (a : Int), k ≤ xs.length ∧ i = .int .i64 k ∧ n = .int .i64 a ∧ 0 ≤ a ∧ a ≤ k * 48400000000 ∧ Below w.heap.size w wr ∧ Hid (csGo xs ys zs 0 = csGo (xs.drop k) (ys.drop k) (zs.drop k) a)) (fun _ i _ => xs.length - (intOf i).toNat)
    case atStart => exact ⟨0, 0, Nat.zero_le _, rfl, rfl, by omega, by omega, (by repeat (first | assumption | exact Below.refl _ _ | apply Below.al | apply Below.drewN' | apply Below.drew | (apply Below.tr; assumption))), hid rfl⟩
    case round =>
      obtain ⟨k, a, hk, rfl, rfl, ha0, ha1, hb, H⟩ := hrel
      by_cases hlt : k < xs.length
      · obtain ⟨p, hp⟩ := getx hlt
        obtain ⟨bb, o, rfl, hbB, c0⟩ := (k0.below hb (Nat.le_refl _)).at1 hp rfl
        have hsz := hb.size
        obtain ⟨q, hq⟩ := getx_zip hlt HL.out
        obtain ⟨bb', o', rfl, hbB', d0⟩ := (k1.below hb (Nat.le_refl _)).at1 hq rfl
        obtain ⟨r, hr⟩ := getx_zip hlt HL3.out.symm
        obtain ⟨bb'', o'', rfl, hbB'', f0⟩ := (k2.below hb (Nat.le_refl _)).at1 hr rfl
        obtain ⟨p1, p2⟩ := V1.out k p hp
        obtain ⟨q1, q2⟩ := V2.out k q hq
        obtain ⟨r1, r2⟩ := V3.out k r hr
        obtain ⟨m1, m2, m3, m4, m5, m6⟩ := cs_bd (d := p - q) (z := r) (by omega) (by omega) r1 r2
        have ET : Hid ((p - q) * (p - q) * r = (p - q) * (p - q) * r) := rfl
        have m7 := m3
        have HS : Hid (csGo (xs.drop k) (ys.drop k) (zs.drop k) a = csGo (xs.drop (k+1)) (ys.drop (k+1)) (zs.drop (k+1)) (a + (p - q) * (p - q) * r)) := by rw [dropx hp, dropx hq, dropx hr]; rfl
        have b0 : bb < wr.heap.size := by omega
        have b1 : bb' < wr.heap.size := by omega
        have b2 : bb'' < wr.heap.size := by omega
        have hky : k < ys.length := by have := HL.out; omega
        have hkz : k < zs.length := by have := HL3.out; omega
        clear hp hq hr
        go_wp2
        refine wp_region_ext (by kernel_rfl) (by kernel_rfl) ?_
        repeat (go_big_quiet_step ((first | fail)))
        refine wpQuiet_nil ?_
        intro w3 hb3
        obtain ⟨hc_w3, hf_w3⟩ := bcell hb3
        go_wp2
        go_roundw
        case rel => exact ⟨k + 1, a + (p - q) * (p - q) * r, by omega, by go_num, rfl, by omega, by omega, (by repeat (first | assumption | exact Below.refl _ _ | apply Below.al | apply Below.drewN' | apply Below.drew | (apply Below.tr; assumption))), hid (by rw [H.out, HS.out])⟩
        case measure => simp [intOf]; omega
      · have HE : Hid (csGo xs ys zs 0 = a) := hid (by rw [H.out, List.drop_eq_nil_of_le (by omega)]; rfl)
        go_wp2
        go_ret2
        exact ⟨by rw [eV.out, HE.out, e0.out]; rfl, (by repeat (first | assumption | exact Below.refl _ _ | apply Below.al | apply Below.drewN' | apply Below.drew | (apply Below.tr; assumption)))⟩
  · have eC : Hid (codeChi xs ys zs = 2) := if_neg hc
    have eV : Hid (csV xs ys zs = 0) := by simp [Hid, csV, eC.out]
    have hx : ¬ ((magsB xs = true ∧ magsB ys = true ∧ xs.length = ys.length) ∧ wtsB xs zs = true) := fun hx => hc ⟨if_pos hx.1, hx.2⟩
    clear hc
    cases h1 : magsB xs <;> cases h2 : magsB ys <;> by_cases h3 : ys.length = xs.length <;> cases h4 : wtsB xs zs
    all_goals
      first
        | (exfalso; exact hx ⟨⟨h1, h2, h3.symm⟩, h4⟩)
        | (clear hx
           first
             | (have hne : ((ys.length : Int) != xs.length) = true := by simp; omega)
             | (have hne : ((ys.length : Int) != xs.length) = false := by simp; omega)
           clear h3
           go_enter Try.func40, Try.ntmps40
           go_wp2_with fail
           refine (areMags_any A c xs _ h hn).mono ?_
           rw [h1]
           rintro e w1 ⟨rfl, hb1⟩
           have h' := (h'.below hb1 (Nat.le_refl _)).more hb1.size
           have h'' := (h''.below hb1 (Nat.le_refl _)).more hb1.size
           go_wp2_with fail
           first
             | (go_ret2
                exact ⟨by rw [eV.out, eC.out]; rfl, (by repeat (first | assumption | exact Below.refl _ _ | apply Below.al | apply Below.drewN' | apply Below.drew | (apply Below.tr; assumption)))⟩)
             | (refine (areMags_any A' c' ys _ h' hn').mono ?_
                rw [h2]
                rintro e w2 ⟨rfl, hb2⟩
                have h'' := (h''.below hb2 (Nat.le_refl _)).more hb2.size
                go_wp2_with fail
                first
                  | (go_ret2
                     exact ⟨by rw [eV.out, eC.out]; rfl, (by repeat (first | assumption | exact Below.refl _ _ | apply Below.al | apply Below.drewN' | apply Below.drew | (apply Below.tr; assumption)))⟩)
                  | (refine (areWeights_any A A'' c c'' xs zs _ h'' hn hn'').mono ?_
                     rw [h4]
                     rintro e w3 ⟨rfl, hb3⟩
                     go_wp2_with fail
                     go_ret2
                     exact ⟨by rw [eV.out, eC.out]; rfl, (by repeat (first | assumption | exact Below.refl _ _ | apply Below.al | apply Below.drewN' | apply Below.drew | (apply Below.tr; assumption)))⟩)))
set_option maxHeartbeats 1000000 in
theorem distances_any (Ad : Option Addr) (c : Nat) (xs : List Int) (m : Int) (w : World) (h : Rd encI 1 w w.heap.size Ad xs) (hn : xs.length ≤ 1048576) (hx : ∀ (k : Nat) (p : Int), xs[k]? = some p → -1000000000000000000 ≤ p ∧ p ≤ 1000000000000000000) (m1 : -1000000000000000000 ≤ m) (m2 : m ≤ 1000000000000000000) :
    Calls Try.prog 93 #[.slice Ad xs.length c, .int .i64 m] w (OwnRes 2 1 encI (xs.map fun x => absI (x - m)) w) := by
  obtain ⟨i0, hi0, hz0, hz1, hz2⟩ := info_parts (P := Try.prog) (e := 2) (z := .int .i64 0) (size := 1) (bytes := 8) (by kernel_rfl)
  have HX := hid hx
  clear hx
  go_enter Try.func93, Try.ntmps93
  go_wp2
  go_loopw [5, 11] (fun v i wr => ∃ k : Nat, k ≤ xs.length ∧ i = .int .i64 k ∧ Below w.heap.size w wr ∧ wr.ownsRow w.heap.size 2 1 v k (((xs.take k).map fun x => absI (x - m)).flatMap encI)) (fun _ i _ => xs.length - (intOf i).toNat)
  case atStart => exact ⟨0, Nat.zero_le _, rfl, (by repeat (first | assumption | exact Below.refl _ _ | apply Below.al | apply Below.drewN' | apply Below.drew | (apply Below.tr; assumption))), own_lit0 _ _ _ (Nat.le_refl _)⟩
  case round =>
    obtain ⟨k, hk, rfl, hb, hown⟩ := hrel
    by_cases hlt : k < xs.length
    · obtain ⟨p, hp⟩ := getx hlt
      obtain ⟨b, o, rfl, hbB, c0⟩ := (h.below hb (Nat.le_refl _)).at1 hp rfl
      have hsz := hb.size
      obtain ⟨p1, p2⟩ := HX.out k p hp
      have HP := hid hp
      have H0 := hid hown
      clear hp hown
      go_wp2_with (first | (go_at_call 105; refine (abs_any (p - m) _ (by omega) (by omega)).mono ?_; rintro e w' ⟨rfl, rfl⟩) | (at_builtin; refine wpList_append_own _ rfl _ _ 44 rfl (w.heap.size) 2 i0 _ 1 8 Try.underlying44 hi0 hz0 hz1 hz2 rfl (by decide) _ _ _ rfl (H0.out.alloc _) ⟨(wr).heap.size, 0, none⟩ 1 1 [.int .i64 (absI (p - m))] rfl rfl (news_at wr [.int .i64 (absI (p - m))] 2) (by simp [Value.oneCell']) (by unfold maxLen; omega) (by omega) (by simp; omega) ?_; intro v2 w2 own_w2 grow_w2 _))
      go_roundw
      case rel => exact ⟨k + 1, by omega, by go_num, Below.ap hb hb.size H0.out (Nat.le_refl _) grow_w2, by rw [List.take_add_one, HP.out]; simpa [encI] using own_w2⟩
      case measure => simp [intOf]; omega
    · obtain rfl : k = xs.length := by omega
      have H0 := hid hown
      obtain ⟨Ar, cr, rfl⟩ := own_shape hown
      clear hown
      go_wp2
      go_ret
      exact ⟨Ar, cr, by simp, by have := H0.out; simpa using this, hb⟩
set_option maxHeartbeats 1000000 in
theorem l21Away_any (Ad : Option Addr) (c : Nat) (xs : List Int) (m : Int) (w : World) (h : Rd encI 1 w w.heap.size Ad xs) (hn : xs.length ≤ 1048576) (hx : ∀ (k : Nat) (p : Int), xs[k]? = some p → -1000000000000000000 ≤ p ∧ p ≤ 1000000000000000000) (m1 : -1000000000000000000 ≤ m) (m2 : m ≤ 1000000000000000000) :
    Calls Try.prog 92 #[.slice Ad xs.length c, .int .i64 m] w (OwnRes 2 1 encI (xs.map fun x => absI (x - m)) w) := by
  obtain ⟨i0, hi0, hz0, hz1, hz2⟩ := info_parts (P := Try.prog) (e := 2) (z := .int .i64 0) (size := 1) (bytes := 8) (by kernel_rfl)
  have HX := hid hx
  clear hx
  go_enter Try.func92, Try.ntmps92
  go_wp2
  go_loopw [5, 6] (fun v i wr => ∃ k : Nat, k ≤ xs.length ∧ i = .int .i64 k ∧ Below w.heap.size w wr ∧ wr.ownsRow w.heap.size 2 1 v k (((xs.take k).map fun x => absI (x - m)).flatMap encI)) (fun _ i _ => xs.length - (intOf i).toNat)
  case atStart => exact ⟨0, Nat.zero_le _, rfl, (by repeat (first | assumption | exact Below.refl _ _ | apply Below.al | apply Below.drewN' | apply Below.drew | (apply Below.tr; assumption))), own_lit0 _ _ _ (Nat.le_refl _)⟩
  case round =>
    obtain ⟨k, hk, rfl, hb, hown⟩ := hrel
    by_cases hlt : k < xs.length
    · obtain ⟨p, hp⟩ := getx hlt
      obtain ⟨b, o, rfl, hbB, c0⟩ := (h.below hb (Nat.le_refl _)).at1 hp rfl
      have hsz := hb.size
      obtain ⟨p1, p2⟩ := HX.out k p hp
      have HP := hid hp
      have H0 := hid hown
      clear hp hown
      go_wp2_with (first | (go_at_call 106; refine (l02Size_any (p - m) _ (by omega) (by omega)).mono ?_; rintro e w' ⟨rfl, rfl⟩) | (at_builtin; refine wpList_append_own _ rfl _ _ 44 rfl (w.heap.size) 2 i0 _ 1 8 Try.underlying44 hi0 hz0 hz1 hz2 rfl (by decide) _ _ _ rfl (H0.out.alloc _) ⟨(wr).heap.size, 0, none⟩ 1 1 [.int .i64 (absI (p - m))] rfl rfl (news_at wr [.int .i64 (absI (p - m))] 2) (by simp [Value.oneCell']) (by unfold maxLen; omega) (by omega) (by simp; omega) ?_; intro v2 w2 own_w2 grow_w2 _))
      go_roundw
      case rel => exact ⟨k + 1, by omega, by go_num, Below.ap hb hb.size H0.out (Nat.le_refl _) grow_w2, by rw [List.take_add_one, HP.out]; simpa [encI] using own_w2⟩
      case measure => simp [intOf]; omega
    · obtain rfl : k = xs.length := by omega
      have H0 := hid hown
      obtain ⟨Ar, cr, rfl⟩ := own_shape hown
      clear hown
      go_wp2
      go_ret
      exact ⟨Ar, cr, by simp, by have := H0.out; simpa using this, hb⟩
def codeDev (xs : List Int) (m : Int) : Int := if magsB xs = true ∧ inB m (-2000) 20000 = true then 0 else 2
def devL (xs : List Int) (m : Int) : List Int := if codeDev xs m = 0 then xs.map fun x => absI (x - m) else []
theorem devL_len (xs : List Int) (m : Int) : (devL xs m).length ≤ xs.length := by unfold devL; split <;> simp
theorem specDeviationsFrom_any (Ad : Option Addr) (c : Nat) (xs : List Int) (m : Int) (w : World) (h : Rd encI 1 w w.heap.size Ad xs) (hn : xs.length ≤ 1048576) :
    Calls Try.prog 52 #[.slice Ad xs.length c, .int .i64 m] w (OwnTup 2 1 encI (devL xs m) (codeDev xs m) w) := by
  cases h1 : magsB xs
  · have e1 : Hid (codeMags xs = 2) := by simp [Hid, codeMags, h1]
    have eC : Hid (codeDev xs m = 2) := by simp [Hid, codeDev, h1]
    have eV : Hid (devL xs m = []) := by simp [Hid, devL, eC.out]
    go_enter Try.func52, Try.ntmps52
    go_wp2_with fail
    refine (l02List_any Ad c xs _ h hn).mono ?_
    rw [e1.out]
    rintro e w1 ⟨rfl, hb1⟩
    go_wp2
    go_ret2
    exact ⟨none, 0, by rw [eV.out, eC.out]; rfl, by rw [eV.out]; exact World.ownsRow_nil _ _ _ _, (by repeat (first | assumption | exact Below.refl _ _ | apply Below.al | apply Below.drewN' | apply Below.drew | (apply Below.tr; assumption)))⟩
  · have e1 : Hid (codeMags xs = 0) := by simp [Hid, codeMags, h1]
    cases h2 : inB m (-2000) 20000
    · have eC : Hid (codeDev xs m = 2) := by simp [Hid, codeDev, h2]
      have eV : Hid (devL xs m = []) := by simp [Hid, devL, eC.out]
      go_enter Try.func52, Try.ntmps52
      go_wp2_with fail
      refine (l02List_any Ad c xs _ h hn).mono ?_
      rw [e1.out]
      rintro e w1 ⟨rfl, hb1⟩
      go_wp2_with (go_at_call 91; refine (l02Mag_any _ _).mono ?_; rintro e w' ⟨rfl, rfl⟩)
      go_ret2
      exact ⟨none, 0, by rw [eV.out, eC.out]; rfl, by rw [eV.out]; exact World.ownsRow_nil _ _ _ _, (by repeat (first | assumption | exact Below.refl _ _ | apply Below.al | apply Below.drewN' | apply Below.drew | (apply Below.tr; assumption)))⟩
    · obtain ⟨l1, v1⟩ := magsB_true h1
      obtain ⟨m1, m2⟩ := inB_true.1 h2
      have eC : Hid (codeDev xs m = 0) := by simp [Hid, codeDev, h1, h2]
      have eV : Hid (devL xs m = xs.map fun x => absI (x - m)) := by simp [Hid, devL, eC.out]
      have V1 := hid v1
      clear v1
      go_enter Try.func52, Try.ntmps52
      go_wp2_with fail
      refine (l02List_any Ad c xs _ h hn).mono ?_
      rw [e1.out]
      rintro e w1 ⟨rfl, hb1⟩
      go_wp2_with (go_at_call 91; refine (l02Mag_any _ _).mono ?_; rintro e w' ⟨rfl, rfl⟩)
      refine (l21Away_any Ad c xs m _ ((h.below hb1 (Nat.le_refl _)).more hb1.size) hn (fun k p hp => by have := V1.out k p hp; omega) (by omega) (by omega)).mono ?_
      rintro e w2 ⟨Ar, cr, rfl, o2, hb2⟩
      go_wp2
      go_ret2
      exact ⟨Ar, cr, by rw [eV.out, eC.out]; simp, by rw [eV.out]; exact own_lo o2 hb1.size, (by repeat (first | assumption | exact Below.refl _ _ | apply Below.al | apply Below.drewN' | apply Below.drew | (apply Below.tr; assumption)))⟩
theorem implDeviationsFrom_any (Ad : Option Addr) (c : Nat) (xs : List Int) (m : Int) (w : World) (h : Rd encI 1 w w.heap.size Ad xs) (hn : xs.length ≤ 1048576) :
    Calls Try.prog 53 #[.slice Ad xs.length c, .int .i64 m] w (OwnTup 2 1 encI (devL xs m) (codeDev xs m) w) := by
  cases h1 : magsB xs
  · have eC : Hid (codeDev xs m = 2) := by simp [Hid, codeDev, h1]
    have eV : Hid (devL xs m = []) := by simp [Hid, devL, eC.out]
    go_enter Try.func53, Try.ntmps53
    go_wp2_with fail
    refine (areMags_any Ad c xs _ h hn).mono ?_
    rw [h1]
    rintro e w1 ⟨rfl, hb1⟩
    go_wp2
    go_ret2
    exact ⟨none, 0, by rw [eV.out, eC.out]; rfl, by rw [eV.out]; exact World.ownsRow_nil _ _ _ _, (by repeat (first | assumption | exact Below.refl _ _ | apply Below.al | apply Below.drewN' | apply Below.drew | (apply Below.tr; assumption)))⟩
  · cases h2 : inB m (-2000) 20000
    · have eC : Hid (codeDev xs m = 2) := by simp [Hid, codeDev, h2]
      have eV : Hid (devL xs m = []) := by simp [Hid, devL, eC.out]
      go_enter Try.func53, Try.ntmps53
      go_wp2_with fail
      refine (areMags_any Ad c xs _ h hn).mono ?_
      rw [h1]
      rintro e w1 ⟨rfl, hb1⟩
      go_wp2_with (go_at_call 57; refine (validMag_any _ _).mono ?_; rintro e w' ⟨rfl, rfl⟩)
      go_ret2
      exact ⟨none, 0, by rw [eV.out, eC.out]; rfl, by rw [eV.out]; exact World.ownsRow_nil _ _ _ _, (by repeat (first | assumption | exact Below.refl _ _ | apply Below.al | apply Below.drewN' | apply Below.drew | (apply Below.tr; assumption)))⟩
    · obtain ⟨l1, v1⟩ := magsB_true h1
      obtain ⟨m1, m2⟩ := inB_true.1 h2
      have eC : Hid (codeDev xs m = 0) := by simp [Hid, codeDev, h1, h2]
      have eV : Hid (devL xs m = xs.map fun x => absI (x - m)) := by simp [Hid, devL, eC.out]
      have V1 := hid v1
      clear v1
      go_enter Try.func53, Try.ntmps53
      go_wp2_with fail
      refine (areMags_any Ad c xs _ h hn).mono ?_
      rw [h1]
      rintro e w1 ⟨rfl, hb1⟩
      go_wp2_with (go_at_call 57; refine (validMag_any _ _).mono ?_; rintro e w' ⟨rfl, rfl⟩)
      refine (distances_any Ad c xs m _ ((h.below hb1 (Nat.le_refl _)).more hb1.size) hn (fun k p hp => by have := V1.out k p hp; omega) (by omega) (by omega)).mono ?_
      rintro e w2 ⟨Ar, cr, rfl, o2, hb2⟩
      go_wp2
      go_ret2
      exact ⟨Ar, cr, by rw [eV.out, eC.out]; simp, by rw [eV.out]; exact own_lo o2 hb1.size, (by repeat (first | assumption | exact Below.refl _ _ | apply Below.al | apply Below.drewN' | apply Below.drew | (apply Below.tr; assumption)))⟩
end Go.Proofs.Ytkkjljahfpdfhaa
