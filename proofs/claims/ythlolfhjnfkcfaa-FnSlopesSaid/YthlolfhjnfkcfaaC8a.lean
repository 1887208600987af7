/- Contracts of light curves: when points are one, in the program and in the reference. -/
import Derived.Test.YthlolfhjnfkcfaaC1
namespace Go.Proofs.Ythlolfhjnfkcfaa
open Go.RowKit
set_option linter.unusedVariables false
/-- A point behind another one (or none) is in order. -/
def ptOk (prev : Option Pt) (p : Pt) : Bool :=
  inB p.t 0 10000000 && (inB p.m (-2000) 20000 && (match prev with | none => true | some q => decide (q.t < p.t)))
def ptGo : Option Pt → List Pt → Bool
  | _, [] => true
  | prev, p :: r => ptOk prev p && ptGo (some p) r
def cvB (xs : List Pt) : Bool := decide (xs.length ≤ 100) && ptGo none xs
theorem ptGo_at : ∀ (xs : List Pt) (prev : Option Pt), ptGo prev xs = true → ∀ (k : Nat) (p : Pt), xs[k]? = some p → 0 ≤ p.t ∧ p.t ≤ 10000000 ∧ -2000 ≤ p.m ∧ p.m ≤ 20000
  | [], _, _, k, p, h => by simp at h
  | a :: r, prev, hg, 0, p, h => by
    simp at h
    subst h
    simp only [ptGo, ptOk, Bool.and_eq_true, inB_true] at hg
    omega
  | a :: r, prev, hg, k + 1, p, h => by
    simp only [ptGo, Bool.and_eq_true] at hg
    exact ptGo_at r (some a) hg.2 k p (by simpa using h)
theorem cvB_at {xs : List Pt} (h : cvB xs = true) : ∀ (k : Nat) (p : Pt), xs[k]? = some p → 0 ≤ p.t ∧ p.t ≤ 10000000 ∧ -2000 ≤ p.m ∧ p.m ≤ 20000 := by
  simp only [cvB, Bool.and_eq_true] at h
  exact ptGo_at xs none h.2
theorem cvB_len {xs : List Pt} (h : cvB xs = true) : xs.length ≤ 100 := by
  simp only [cvB, Bool.and_eq_true, decide_eq_true_eq] at h
  exact h.1
set_option maxHeartbeats 2000000 in
theorem l08Ok_any (A : Option Addr) (c : Nat) (xs : List Pt) (w : World) (h : Rd encPt 2 w w.heap.size A xs) (hn : xs.length ≤ 1048576) :
    Calls Try.prog 29 #[.slice A xs.length c] w fun e w' => e = .returned (.bool (cvB xs)) ∧ Below w.heap.size w w' := by
  go_enter Try.func29, Try.ntmps29
  go_wp2
  go_loopw [3] (fun i wr => ∃ (k : Nat) (prev : Option Pt), k ≤ xs.length ∧ i = .int .i64 k ∧ Below w.heap.size w wr ∧ Hid (ptGo none xs = ptGo prev (xs.drop k)) ∧ Hid (prev = if k = 0 then none else xs[k-1]?)) (fun i _ => xs.length - (intOf i).toNat)
  case atStart => exact ⟨0, none, Nat.zero_le _, rfl, (by repeat (first | assumption | exact Below.refl _ _ | apply Below.al | apply Below.drewN' | apply Below.drew | (apply Below.tr; assumption))), hid rfl, hid rfl⟩
  case round =>
    obtain ⟨k, prev, hk, rfl, hb, H, HQ⟩ := hrel
    by_cases hlt : k < xs.length
    · obtain ⟨p, hp⟩ := getx hlt
      obtain ⟨b, o, rfl, hbB, c0, c1⟩ := (h.below hb (Nat.le_refl _)).at2 hp rfl
      have hsz := hb.size
      have HS : Hid (ptGo prev (xs.drop k) = (ptOk prev p && ptGo (some p) (xs.drop (k+1)))) := by rw [dropx hp]; rfl
      have b0 : b < wr.heap.size := by omega
      have b1 : b < wr.heap.size + 1 := by omega
      have HP := hid hp
      clear hp
      by_cases hk0 : 0 < k
      · obtain ⟨q, hq⟩ : ∃ q, xs[k-1]? = some q := getx (by omega)
        obtain ⟨b', o', e1, _, d0, d1⟩ := (h.below hb (Nat.le_refl _)).at2 hq rfl
        simp at e1; obtain ⟨rfl, rfl⟩ := e1
        have e0 : prev = some q := by have := HQ.out; rw [if_neg (by omega), hq] at this; exact this
        subst e0
        have hd : decide (0 < (k : Int)) = true := by simp; omega
        clear hq
        have HE : Hid (ptOk (some q) p = (inB p.t 0 10000000 && (inB p.m (-2000) 20000 && decide (q.t < p.t)))) := rfl
        cases v0 : inB p.t 0 10000000
        · go_wp2
          all_goals first
            | (refine wp_region_ext (by kernel_rfl) (by kernel_rfl) ?_
               repeat (go_big_quiet_step ((first | (go_at_call 36; exact ext_same (l06Time_any _ _)) | (go_at_call 41; exact ext_same (l02Mag_any _ _)))))
               refine wpQuiet_nil ?_
               intro w3 hb3
               obtain ⟨hc_w3, hf_w3⟩ := bcell hb3
               have hz_w3 := hb3.size
               skip
               all_goals go_wp2)
            | skip
          all_goals first
            | (go_ret
               exact ⟨ret_bool (by simp [cvB, H.out, HS.out, HE.out, *] <;> omega), (by repeat (first | assumption | exact Below.refl _ _ | apply Below.al | apply Below.drewN' | apply Below.drew | (apply Below.tr; assumption)))⟩)
            | (go_roundw
               case rel => exact ⟨k + 1, some p, by omega, by go_num, (by repeat (first | assumption | exact Below.refl _ _ | apply Below.al | apply Below.drewN' | apply Below.drew | (apply Below.tr; assumption))), hid (by rw [H.out, HS.out, HE.out]; simp [*] <;> omega), hid (by simp [HP.out])⟩
               case measure => simp [intOf]; omega)
        · cases v1 : inB p.m (-2000) 20000
          · go_wp2
            all_goals first
              | (refine wp_region_ext (by kernel_rfl) (by kernel_rfl) ?_
                 repeat (go_big_quiet_step ((first | (go_at_call 36; exact ext_same (l06Time_any _ _)) | (go_at_call 41; exact ext_same (l02Mag_any _ _)))))
                 refine wpQuiet_nil ?_
                 intro w3 hb3
                 obtain ⟨hc_w3, hf_w3⟩ := bcell hb3
                 have hz_w3 := hb3.size
                 skip
                 all_goals go_wp2)
              | skip
            all_goals first
              | (go_ret
                 exact ⟨ret_bool (by simp [cvB, H.out, HS.out, HE.out, *] <;> omega), (by repeat (first | assumption | exact Below.refl _ _ | apply Below.al | apply Below.drewN' | apply Below.drew | (apply Below.tr; assumption)))⟩)
              | (go_roundw
                 case rel => exact ⟨k + 1, some p, by omega, by go_num, (by repeat (first | assumption | exact Below.refl _ _ | apply Below.al | apply Below.drewN' | apply Below.drew | (apply Below.tr; assumption))), hid (by rw [H.out, HS.out, HE.out]; simp [*] <;> omega), hid (by simp [HP.out])⟩
                 case measure => simp [intOf]; omega)
          · by_cases g2 : p.t ≤ q.t
            · have g2' : decide (p.t ≤ q.t) = true := by simpa using g2
              go_wp2
              all_goals first
                | (refine wp_region_ext (by kernel_rfl) (by kernel_rfl) ?_
                   repeat (go_big_quiet_step ((first | (go_at_call 36; exact ext_same (l06Time_any _ _)) | (go_at_call 41; exact ext_same (l02Mag_any _ _)))))
                   refine wpQuiet_nil ?_
                   intro w3 hb3
                   obtain ⟨hc_w3, hf_w3⟩ := bcell hb3
                   have hz_w3 := hb3.size
                   skip
                   all_goals go_wp2)
                | skip
              all_goals first
                | (go_ret
                   exact ⟨ret_bool (by simp [cvB, H.out, HS.out, HE.out, *] <;> omega), (by repeat (first | assumption | exact Below.refl _ _ | apply Below.al | apply Below.drewN' | apply Below.drew | (apply Below.tr; assumption)))⟩)
                | (go_roundw
                   case rel => exact ⟨k + 1, some p, by omega, by go_num, (by repeat (first | assumption | exact Below.refl _ _ | apply Below.al | apply Below.drewN' | apply Below.drew | (apply Below.tr; assumption))), hid (by rw [H.out, HS.out, HE.out]; simp [*] <;> omega), hid (by simp [HP.out])⟩
                   case measure => simp [intOf]; omega)
            · have g2' : decide (p.t ≤ q.t) = false := by simpa using g2
              go_wp2
              all_goals first
                | (refine wp_region_ext (by kernel_rfl) (by kernel_rfl) ?_
                   repeat (go_big_quiet_step ((first | (go_at_call 36; exact ext_same (l06Time_any _ _)) | (go_at_call 41; exact ext_same (l02Mag_any _ _)))))
                   refine wpQuiet_nil ?_
                   intro w3 hb3
                   obtain ⟨hc_w3, hf_w3⟩ := bcell hb3
                   have hz_w3 := hb3.size
                   skip
                   all_goals go_wp2)
                | skip
              all_goals first
                | (go_ret
                   exact ⟨ret_bool (by simp [cvB, H.out, HS.out, HE.out, *] <;> omega), (by repeat (first | assumption | exact Below.refl _ _ | apply Below.al | apply Below.drewN' | apply Below.drew | (apply Below.tr; assumption)))⟩)
                | (go_roundw
                   case rel => exact ⟨k + 1, some p, by omega, by go_num, (by repeat (first | assumption | exact Below.refl _ _ | apply Below.al | apply Below.drewN' | apply Below.drew | (apply Below.tr; assumption))), hid (by rw [H.out, HS.out, HE.out]; simp [*] <;> omega), hid (by simp [HP.out])⟩
                   case measure => simp [intOf]; omega)
      · have e0 : prev = none := by have := HQ.out; rw [if_pos (by omega)] at this; exact this
        subst e0
        have hd : decide (0 < (k : Int)) = false := by simp; omega
        have HE : Hid (ptOk none p = (inB p.t 0 10000000 && (inB p.m (-2000) 20000 && true))) := rfl
        cases v0 : inB p.t 0 10000000
        · go_wp2
          all_goals first
            | (refine wp_region_ext (by kernel_rfl) (by kernel_rfl) ?_
               repeat (go_big_quiet_step ((first | (go_at_call 36; exact ext_same (l06Time_any _ _)) | (go_at_call 41; exact ext_same (l02Mag_any _ _)))))
               refine wpQuiet_nil ?_
               intro w3 hb3
               obtain ⟨hc_w3, hf_w3⟩ := bcell hb3
               have hz_w3 := hb3.size
               skip
               all_goals go_wp2)
            | skip
          all_goals first
            | (go_ret
               exact ⟨ret_bool (by simp [cvB, H.out, HS.out, HE.out, *] <;> omega), (by repeat (first | assumption | exact Below.refl _ _ | apply Below.al | apply Below.drewN' | apply Below.drew | (apply Below.tr; assumption)))⟩)
            | (go_roundw
               case rel => exact ⟨k + 1, some p, by omega, by go_num, (by repeat (first | assumption | exact Below.refl _ _ | apply Below.al | apply Below.drewN' | apply Below.drew | (apply Below.tr; assumption))), hid (by rw [H.out, HS.out, HE.out]; simp [*] <;> omega), hid (by simp [HP.out])⟩
               case measure => simp [intOf]; omega)
        · cases v1 : inB p.m (-2000) 20000
          · go_wp2
            all_goals first
              | (refine wp_region_ext (by kernel_rfl) (by kernel_rfl) ?_
                 repeat (go_big_quiet_step ((first | (go_at_call 36; exact ext_same (l06Time_any _ _)) | (go_at_call 41; exact ext_same (l02Mag_any _ _)))))
                 refine wpQuiet_nil ?_
                 intro w3 hb3
                 obtain ⟨hc_w3, hf_w3⟩ := bcell hb3
                 have hz_w3 := hb3.size
                 skip
                 all_goals go_wp2)
              | skip
            all_goals first
              | (go_ret
                 exact ⟨ret_bool (by simp [cvB, H.out, HS.out, HE.out, *] <;> omega), (by repeat (first | assumption | exact Below.refl _ _ | apply Below.al | apply Below.drewN' | apply Below.drew | (apply Below.tr; assumption)))⟩)
              | (go_roundw
                 case rel => exact ⟨k + 1, some p, by omega, by go_num, (by repeat (first | assumption | exact Below.refl _ _ | apply Below.al | apply Below.drewN' | apply Below.drew | (apply Below.tr; assumption))), hid (by rw [H.out, HS.out, HE.out]; simp [*] <;> omega), hid (by simp [HP.out])⟩
                 case measure => simp [intOf]; omega)
          · go_wp2
            all_goals first
              | (refine wp_region_ext (by kernel_rfl) (by kernel_rfl) ?_
                 repeat (go_big_quiet_step ((first | (go_at_call 36; exact ext_same (l06Time_any _ _)) | (go_at_call 41; exact ext_same (l02Mag_any _ _)))))
                 refine wpQuiet_nil ?_
                 intro w3 hb3
                 obtain ⟨hc_w3, hf_w3⟩ := bcell hb3
                 have hz_w3 := hb3.size
                 skip
                 all_goals go_wp2)
              | skip
            all_goals first
              | (go_ret
                 exact ⟨ret_bool (by simp [cvB, H.out, HS.out, HE.out, *] <;> omega), (by repeat (first | assumption | exact Below.refl _ _ | apply Below.al | apply Below.drewN' | apply Below.drew | (apply Below.tr; assumption)))⟩)
              | (go_roundw
                 case rel => exact ⟨k + 1, some p, by omega, by go_num, (by repeat (first | assumption | exact Below.refl _ _ | apply Below.al | apply Below.drewN' | apply Below.drew | (apply Below.tr; assumption))), hid (by rw [H.out, HS.out, HE.out]; simp [*] <;> omega), hid (by simp [HP.out])⟩
                 case measure => simp [intOf]; omega)
    · have HE : Hid (ptGo none xs = true) := hid (by rw [H.out, List.drop_eq_nil_of_le (by omega)]; cases prev <;> rfl)
      go_wp2
      go_ret
      exact ⟨ret_bool (by simp [cvB, HE.out] <;> omega), (by repeat (first | assumption | exact Below.refl _ _ | apply Below.al | apply Below.drewN' | apply Below.drew | (apply Below.tr; assumption)))⟩
set_option maxHeartbeats 2000000 in
theorem validCurve_any (A : Option Addr) (c : Nat) (xs : List Pt) (w : World) (h : Rd encPt 2 w w.heap.size A xs) (hn : xs.length ≤ 1048576) :
    Calls Try.prog 25 #[.slice A xs.length c] w fun e w' => e = .returned (.bool (cvB xs)) ∧ Below w.heap.size w w' := by
  rcases Nat.lt_or_ge 100 xs.length with hbig | hsm
  · have HB : Hid (cvB xs = false) := by unfold Hid cvB; simp; omega
    go_enter Try.func25, Try.ntmps25
    go_wp2
    go_ret
    exact ⟨ret_bool HB.out.symm, (by repeat (first | assumption | exact Below.refl _ _ | apply Below.al | apply Below.drewN' | apply Below.drew | (apply Below.tr; assumption)))⟩
  go_enter Try.func25, Try.ntmps25
  go_wp2
  go_loopw [10] (fun i wr => ∃ (k : Nat) (prev : Option Pt), k ≤ xs.length ∧ i = .int .i64 k ∧ Below w.heap.size w wr ∧ Hid (ptGo none xs = ptGo prev (xs.drop k)) ∧ Hid (prev = if k = 0 then none else xs[k-1]?)) (fun i _ => xs.length - (intOf i).toNat)
  case atStart => exact ⟨0, none, Nat.zero_le _, rfl, (by repeat (first | assumption | exact Below.refl _ _ | apply Below.al | apply Below.drewN' | apply Below.drew | (apply Below.tr; assumption))), hid rfl, hid rfl⟩
  case round =>
    obtain ⟨k, prev, hk, rfl, hb, H, HQ⟩ := hrel
    by_cases hlt : k < xs.length
    · obtain ⟨p, hp⟩ := getx hlt
      obtain ⟨b, o, rfl, hbB, c0, c1⟩ := (h.below hb (Nat.le_refl _)).at2 hp rfl
      have hsz := hb.size
      have HS : Hid (ptGo prev (xs.drop k) = (ptOk prev p && ptGo (some p) (xs.drop (k+1)))) := by rw [dropx hp]; rfl
      have b0 : b < wr.heap.size := by omega
      have b1 : b < wr.heap.size + 1 := by omega
      have HP := hid hp
      clear hp
      by_cases hk0 : 0 < k
      · obtain ⟨q, hq⟩ : ∃ q, xs[k-1]? = some q := getx (by omega)
        obtain ⟨b', o', e1, _, d0, d1⟩ := (h.below hb (Nat.le_refl _)).at2 hq rfl
        simp at e1; obtain ⟨rfl, rfl⟩ := e1
        have e0 : prev = some q := by have := HQ.out; rw [if_neg (by omega), hq] at this; exact this
        subst e0
        have hd : decide (0 < (k : Int)) = true := by simp; omega
        clear hq
        have HE : Hid (ptOk (some q) p = (inB p.t 0 10000000 && (inB p.m (-2000) 20000 && decide (q.t < p.t)))) := rfl
        cases v0 : inB p.t 0 10000000
        · go_wp2
          all_goals first
            | (refine wp_region_ext (by kernel_rfl) (by kernel_rfl) ?_
               repeat (go_big_quiet_step ((first | (go_at_call 23; exact ext_same (validTime_any _ _)) | (go_at_call 39; exact ext_same (validMag_any _ _)))))
               refine wpQuiet_nil ?_
               intro w3 hb3
               obtain ⟨hc_w3, hf_w3⟩ := bcell hb3
               have hz_w3 := hb3.size
               skip
               all_goals go_wp2)
            | skip
          all_goals first
            | (go_ret
               exact ⟨ret_bool (by simp [cvB, H.out, HS.out, HE.out, *] <;> omega), (by repeat (first | assumption | exact Below.refl _ _ | apply Below.al | apply Below.drewN' | apply Below.drew | (apply Below.tr; assumption)))⟩)
            | (go_roundw
               case rel => exact ⟨k + 1, some p, by omega, by go_num, (by repeat (first | assumption | exact Below.refl _ _ | apply Below.al | apply Below.drewN' | apply Below.drew | (apply Below.tr; assumption))), hid (by rw [H.out, HS.out, HE.out]; simp [*] <;> omega), hid (by simp [HP.out])⟩
               case measure => simp [intOf]; omega)
        · cases v1 : inB p.m (-2000) 20000
          · go_wp2
            all_goals first
              | (refine wp_region_ext (by kernel_rfl) (by kernel_rfl) ?_
                 repeat (go_big_quiet_step ((first | (go_at_call 23; exact ext_same (validTime_any _ _)) | (go_at_call 39; exact ext_same (validMag_any _ _)))))
                 refine wpQuiet_nil ?_
                 intro w3 hb3
                 obtain ⟨hc_w3, hf_w3⟩ := bcell hb3
                 have hz_w3 := hb3.size
                 skip
                 all_goals go_wp2)
              | skip
            all_goals first
              | (go_ret
                 exact ⟨ret_bool (by simp [cvB, H.out, HS.out, HE.out, *] <;> omega), (by repeat (first | assumption | exact Below.refl _ _ | apply Below.al | apply Below.drewN' | apply Below.drew | (apply Below.tr; assumption)))⟩)
              | (go_roundw
                 case rel => exact ⟨k + 1, some p, by omega, by go_num, (by repeat (first | assumption | exact Below.refl _ _ | apply Below.al | apply Below.drewN' | apply Below.drew | (apply Below.tr; assumption))), hid (by rw [H.out, HS.out, HE.out]; simp [*] <;> omega), hid (by simp [HP.out])⟩
                 case measure => simp [intOf]; omega)
          · by_cases g2 : p.t ≤ q.t
            · have g2' : decide (p.t ≤ q.t) = true := by simpa using g2
              go_wp2
              all_goals first
                | (refine wp_region_ext (by kernel_rfl) (by kernel_rfl) ?_
                   repeat (go_big_quiet_step ((first | (go_at_call 23; exact ext_same (validTime_any _ _)) | (go_at_call 39; exact ext_same (validMag_any _ _)))))
                   refine wpQuiet_nil ?_
                   intro w3 hb3
                   obtain ⟨hc_w3, hf_w3⟩ := bcell hb3
                   have hz_w3 := hb3.size
                   skip
                   all_goals go_wp2)
                | skip
              all_goals first
                | (go_ret
                   exact ⟨ret_bool (by simp [cvB, H.out, HS.out, HE.out, *] <;> omega), (by repeat (first | assumption | exact Below.refl _ _ | apply Below.al | apply Below.drewN' | apply Below.drew | (apply Below.tr; assumption)))⟩)
                | (go_roundw
                   case rel => exact ⟨k + 1, some p, by omega, by go_num, (by repeat (first | assumption | exact Below.refl _ _ | apply Below.al | apply Below.drewN' | apply Below.drew | (apply Below.tr; assumption))), hid (by rw [H.out, HS.out, HE.out]; simp [*] <;> omega), hid (by simp [HP.out])⟩
                   case measure => simp [intOf]; omega)
            · have g2' : decide (p.t ≤ q.t) = false := by simpa using g2
              go_wp2
              all_goals first
                | (refine wp_region_ext (by kernel_rfl) (by kernel_rfl) ?_
                   repeat (go_big_quiet_step ((first | (go_at_call 23; exact ext_same (validTime_any _ _)) | (go_at_call 39; exact ext_same (validMag_any _ _)))))
                   refine wpQuiet_nil ?_
                   intro w3 hb3
                   obtain ⟨hc_w3, hf_w3⟩ := bcell hb3
                   have hz_w3 := hb3.size
                   skip
                   all_goals go_wp2)
                | skip
              all_goals first
                | (go_ret
                   exact ⟨ret_bool (by simp [cvB, H.out, HS.out, HE.out, *] <;> omega), (by repeat (first | assumption | exact Below.refl _ _ | apply Below.al | apply Below.drewN' | apply Below.drew | (apply Below.tr; assumption)))⟩)
                | (go_roundw
                   case rel => exact ⟨k + 1, some p, by omega, by go_num, (by repeat (first | assumption | exact Below.refl _ _ | apply Below.al | apply Below.drewN' | apply Below.drew | (apply Below.tr; assumption))), hid (by rw [H.out, HS.out, HE.out]; simp [*] <;> omega), hid (by simp [HP.out])⟩
                   case measure => simp [intOf]; omega)
      · have e0 : prev = none := by have := HQ.out; rw [if_pos (by omega)] at this; exact this
        subst e0
        have hd : decide (0 < (k : Int)) = false := by simp; omega
        have HE : Hid (ptOk none p = (inB p.t 0 10000000 && (inB p.m (-2000) 20000 && true))) := rfl
        cases v0 : inB p.t 0 10000000
        · go_wp2
          all_goals first
            | (refine wp_region_ext (by kernel_rfl) (by kernel_rfl) ?_
               repeat (go_big_quiet_step ((first | (go_at_call 23; exact ext_same (validTime_any _ _)) | (go_at_call 39; exact ext_same (validMag_any _ _)))))
               refine wpQuiet_nil ?_
               intro w3 hb3
               obtain ⟨hc_w3, hf_w3⟩ := bcell hb3
               have hz_w3 := hb3.size
               skip
               all_goals go_wp2)
            | skip
          all_goals first
            | (go_ret
               exact ⟨ret_bool (by simp [cvB, H.out, HS.out, HE.out, *] <;> omega), (by repeat (first | assumption | exact Below.refl _ _ | apply Below.al | apply Below.drewN' | apply Below.drew | (apply Below.tr; assumption)))⟩)
            | (go_roundw
               case rel => exact ⟨k + 1, some p, by omega, by go_num, (by repeat (first | assumption | exact Below.refl _ _ | apply Below.al | apply Below.drewN' | apply Below.drew | (apply Below.tr; assumption))), hid (by rw [H.out, HS.out, HE.out]; simp [*] <;> omega), hid (by simp [HP.out])⟩
               case measure => simp [intOf]; omega)
        · cases v1 : inB p.m (-2000) 20000
          · go_wp2
            all_goals first
              | (refine wp_region_ext (by kernel_rfl) (by kernel_rfl) ?_
                 repeat (go_big_quiet_step ((first | (go_at_call 23; exact ext_same (validTime_any _ _)) | (go_at_call 39; exact ext_same (validMag_any _ _)))))
                 refine wpQuiet_nil ?_
                 intro w3 hb3
                 obtain ⟨hc_w3, hf_w3⟩ := bcell hb3
                 have hz_w3 := hb3.size
                 skip
                 all_goals go_wp2)
              | skip
            all_goals first
              | (go_ret
                 exact ⟨ret_bool (by simp [cvB, H.out, HS.out, HE.out, *] <;> omega), (by repeat (first | assumption | exact Below.refl _ _ | apply Below.al | apply Below.drewN' | apply Below.drew | (apply Below.tr; assumption)))⟩)
              | (go_roundw
                 case rel => exact ⟨k + 1, some p, by omega, by go_num, (by repeat (first | assumption | exact Below.refl _ _ | apply Below.al | apply Below.drewN' | apply Below.drew | (apply Below.tr; assumption))), hid (by rw [H.out, HS.out, HE.out]; simp [*] <;> omega), hid (by simp [HP.out])⟩
                 case measure => simp [intOf]; omega)
          · go_wp2
            all_goals first
              | (refine wp_region_ext (by kernel_rfl) (by kernel_rfl) ?_
                 repeat (go_big_quiet_step ((first | (go_at_call 23; exact ext_same (validTime_any _ _)) | (go_at_call 39; exact ext_same (validMag_any _ _)))))
                 refine wpQuiet_nil ?_
                 intro w3 hb3
                 obtain ⟨hc_w3, hf_w3⟩ := bcell hb3
                 have hz_w3 := hb3.size
                 skip
                 all_goals go_wp2)
              | skip
            all_goals first
              | (go_ret
                 exact ⟨ret_bool (by simp [cvB, H.out, HS.out, HE.out, *] <;> omega), (by repeat (first | assumption | exact Below.refl _ _ | apply Below.al | apply Below.drewN' | apply Below.drew | (apply Below.tr; assumption)))⟩)
              | (go_roundw
                 case rel => exact ⟨k + 1, some p, by omega, by go_num, (by repeat (first | assumption | exact Below.refl _ _ | apply Below.al | apply Below.drewN' | apply Below.drew | (apply Below.tr; assumption))), hid (by rw [H.out, HS.out, HE.out]; simp [*] <;> omega), hid (by simp [HP.out])⟩
                 case measure => simp [intOf]; omega)
    · have HE : Hid (ptGo none xs = true) := hid (by rw [H.out, List.drop_eq_nil_of_le (by omega)]; cases prev <;> rfl)
      go_wp2
      go_ret
      exact ⟨ret_bool (by simp [cvB, HE.out] <;> omega), (by repeat (first | assumption | exact Below.refl _ _ | apply Below.al | apply Below.drewN' | apply Below.drew | (apply Below.tr; assumption)))⟩
end Go.Proofs.Ythlolfhjnfkcfaa
