/- Contracts: alerts, in the program and in the reference. -/
import Derived.Test.YtiimohofnnphoaaDoorC1
namespace Go.Proofs.YtiimohofnnphoaaDoor
open Go.RowKit
set_option linter.unusedVariables false
theorem l03Time_any (m : Int) (w : World) :
    Calls Tryd.prog 34 #[.int .i64 m] w fun e w' => e = .returned (.bool (inB m 0 10000000)) ∧ w = w' := by
  go_enter Tryd.func34, Tryd.ntmps34
  go_wp2_with (go_at_call 31; refine (l00In_any _ _ _ _).mono ?_; rintro e w' ⟨rfl, rfl⟩)
  go_ret
  exact ⟨rfl, rfl⟩
/-- An alert behind another one (or none) is in order, as the reference says. -/
def alOk (prev : Option Al) (a : Al) : Bool :=
  inB a.b 0 10000000 && (inB a.p (-2000) 20000 && ((match prev with | none => true | some q => decide (0 ≤ q.e) && decide (q.e < a.b)) && (a.e == -1 || inB a.e (a.b + 1) 10000000)))
def alGo : Option Al → List Al → Bool
  | _, [] => true
  | prev, a :: r => alOk prev a && alGo (some a) r
def alB (xs : List Al) : Bool := decide (xs.length ≤ 50) && alGo none xs
set_option maxHeartbeats 2000000 in
theorem l19List_any (A : Option Addr) (c : Nat) (xs : List Al) (w : World) (h : Rd encAl 3 w w.heap.size A xs) (hn : xs.length ≤ 1048576) :
    Calls Tryd.prog 20 #[.slice A xs.length c] w fun e w' => e = .returned (.bool (alB xs)) ∧ Below w.heap.size w w' := by
  go_enter Tryd.func20, Tryd.ntmps20
  go_wp2
  go_loopw [3] (fun i wr => ∃ (k : Nat) (prev : Option Al), k ≤ xs.length ∧ i = .int .i64 k ∧ Below w.heap.size w wr ∧ Hid (alGo none xs = alGo prev (xs.drop k)) ∧ Hid (prev = if k = 0 then none else xs[k-1]?)) (fun i _ => xs.length - (intOf i).toNat)
  case atStart => exact ⟨0, none, Nat.zero_le _, rfl, (by repeat (first | assumption | exact Below.refl _ _ | apply Below.al | apply Below.drewN' | apply Below.drew | (apply Below.tr; assumption))), hid rfl, hid rfl⟩
  case round =>
    obtain ⟨k, prev, hk, rfl, hb, H, HQ⟩ := hrel
    by_cases hlt : k < xs.length
    · obtain ⟨p, hp⟩ := getx hlt
      obtain ⟨b, o, rfl, hbB, c0, c1, c2⟩ := (h.below hb (Nat.le_refl _)).at3 hp rfl
      have hsz := hb.size
      have HS : Hid (alGo prev (xs.drop k) = (alOk prev p && alGo (some p) (xs.drop (k+1)))) := by rw [dropx hp]; rfl
      have b0 : b < wr.heap.size := by omega
      have HP := hid hp
      clear hp
      by_cases hk0 : 0 < k
      · obtain ⟨q, hq⟩ : ∃ q, xs[k-1]? = some q := getx (by omega)
        obtain ⟨b', o', e1, _, d0, d1, d2⟩ := (h.below hb (Nat.le_refl _)).at3 hq rfl
        simp at e1; obtain ⟨rfl, rfl⟩ := e1
        have e0 : prev = some q := by have := HQ.out; rw [if_neg (by omega), hq] at this; exact this
        subst e0
        have hd : decide (0 < (k : Int)) = true := by simp; omega
        clear hq
        have HE : Hid (alOk (some q) p = (inB p.b 0 10000000 && (inB p.p (-2000) 20000 && (decide (0 ≤ q.e) && decide (q.e < p.b) && (p.e == -1 || inB p.e (p.b + 1) 10000000))))) := rfl
        cases v0 : inB p.b 0 10000000
        · go_wp2
          all_goals first
            | (refine wp_region_ext (by kernel_rfl) (by kernel_rfl) ?_
               repeat (go_big_quiet_step ((first | (go_at_call 34; exact ext_same (l03Time_any _ _)) | (go_at_call 35; exact ext_same (l02Mag_any _ _)) | (go_at_call 31; exact ext_same (l00In_any _ _ _ _)))))
               refine wpQuiet_nil ?_
               intro w3 hb3
               obtain ⟨hc_w3, hf_w3⟩ := bcell hb3
               have hz_w3 := hb3.size
               try have b0 : b < w3.heap.size := Nat.lt_of_lt_of_le b0 hz_w3
               all_goals go_wp2)
            | skip
          all_goals first
            | (refine wp_region_ext (by kernel_rfl) (by kernel_rfl) ?_
               repeat (go_big_quiet_step ((first | (go_at_call 34; exact ext_same (l03Time_any _ _)) | (go_at_call 35; exact ext_same (l02Mag_any _ _)) | (go_at_call 31; exact ext_same (l00In_any _ _ _ _)))))
               refine wpQuiet_nil ?_
               intro w3 hb3
               obtain ⟨hc_w3, hf_w3⟩ := bcell hb3
               have hz_w3 := hb3.size
               try have b0 : b < w3.heap.size := Nat.lt_of_lt_of_le b0 hz_w3
               all_goals go_wp2)
            | skip
          all_goals first
            | (go_ret
               exact ⟨ret_bool (by simp [alB, H.out, HS.out, HE.out, *] <;> omega), (by repeat (first | assumption | exact Below.refl _ _ | apply Below.al | apply Below.drewN' | apply Below.drew | (apply Below.tr; assumption)))⟩)
            | (go_roundw
               case rel => exact ⟨k + 1, some p, by omega, by go_num, (by repeat (first | assumption | exact Below.refl _ _ | apply Below.al | apply Below.drewN' | apply Below.drew | (apply Below.tr; assumption))), hid (by rw [H.out, HS.out, HE.out]; simp [*] <;> omega), hid (by simp [HP.out])⟩
               case measure => simp [intOf]; omega)
        · obtain ⟨t1, t2⟩ := inB_true.1 v0
          cases v1 : inB p.p (-2000) 20000
          · go_wp2
            all_goals first
              | (refine wp_region_ext (by kernel_rfl) (by kernel_rfl) ?_
                 repeat (go_big_quiet_step ((first | (go_at_call 34; exact ext_same (l03Time_any _ _)) | (go_at_call 35; exact ext_same (l02Mag_any _ _)) | (go_at_call 31; exact ext_same (l00In_any _ _ _ _)))))
                 refine wpQuiet_nil ?_
                 intro w3 hb3
                 obtain ⟨hc_w3, hf_w3⟩ := bcell hb3
                 have hz_w3 := hb3.size
                 try have b0 : b < w3.heap.size := Nat.lt_of_lt_of_le b0 hz_w3
                 all_goals go_wp2)
              | skip
            all_goals first
              | (refine wp_region_ext (by kernel_rfl) (by kernel_rfl) ?_
                 repeat (go_big_quiet_step ((first | (go_at_call 34; exact ext_same (l03Time_any _ _)) | (go_at_call 35; exact ext_same (l02Mag_any _ _)) | (go_at_call 31; exact ext_same (l00In_any _ _ _ _)))))
                 refine wpQuiet_nil ?_
                 intro w3 hb3
                 obtain ⟨hc_w3, hf_w3⟩ := bcell hb3
                 have hz_w3 := hb3.size
                 try have b0 : b < w3.heap.size := Nat.lt_of_lt_of_le b0 hz_w3
                 all_goals go_wp2)
              | skip
            all_goals first
              | (go_ret
                 exact ⟨ret_bool (by simp [alB, H.out, HS.out, HE.out, *] <;> omega), (by repeat (first | assumption | exact Below.refl _ _ | apply Below.al | apply Below.drewN' | apply Below.drew | (apply Below.tr; assumption)))⟩)
              | (go_roundw
                 case rel => exact ⟨k + 1, some p, by omega, by go_num, (by repeat (first | assumption | exact Below.refl _ _ | apply Below.al | apply Below.drewN' | apply Below.drew | (apply Below.tr; assumption))), hid (by rw [H.out, HS.out, HE.out]; simp [*] <;> omega), hid (by simp [HP.out])⟩
                 case measure => simp [intOf]; omega)
          · by_cases g2 : q.e < 0
            · have g2' : decide (q.e < 0) = true := by simpa using g2
              go_wp2
              all_goals first
                | (refine wp_region_ext (by kernel_rfl) (by kernel_rfl) ?_
                   repeat (go_big_quiet_step ((first | (go_at_call 34; exact ext_same (l03Time_any _ _)) | (go_at_call 35; exact ext_same (l02Mag_any _ _)) | (go_at_call 31; exact ext_same (l00In_any _ _ _ _)))))
                   refine wpQuiet_nil ?_
                   intro w3 hb3
                   obtain ⟨hc_w3, hf_w3⟩ := bcell hb3
                   have hz_w3 := hb3.size
                   try have b0 : b < w3.heap.size := Nat.lt_of_lt_of_le b0 hz_w3
                   all_goals go_wp2)
                | skip
              all_goals first
                | (refine wp_region_ext (by kernel_rfl) (by kernel_rfl) ?_
                   repeat (go_big_quiet_step ((first | (go_at_call 34; exact ext_same (l03Time_any _ _)) | (go_at_call 35; exact ext_same (l02Mag_any _ _)) | (go_at_call 31; exact ext_same (l00In_any _ _ _ _)))))
                   refine wpQuiet_nil ?_
                   intro w3 hb3
                   obtain ⟨hc_w3, hf_w3⟩ := bcell hb3
                   have hz_w3 := hb3.size
                   try have b0 : b < w3.heap.size := Nat.lt_of_lt_of_le b0 hz_w3
                   all_goals go_wp2)
                | skip
              all_goals first
                | (go_ret
                   exact ⟨ret_bool (by simp [alB, H.out, HS.out, HE.out, *] <;> omega), (by repeat (first | assumption | exact Below.refl _ _ | apply Below.al | apply Below.drewN' | apply Below.drew | (apply Below.tr; assumption)))⟩)
                | (go_roundw
                   case rel => exact ⟨k + 1, some p, by omega, by go_num, (by repeat (first | assumption | exact Below.refl _ _ | apply Below.al | apply Below.drewN' | apply Below.drew | (apply Below.tr; assumption))), hid (by rw [H.out, HS.out, HE.out]; simp [*] <;> omega), hid (by simp [HP.out])⟩
                   case measure => simp [intOf]; omega)
            · have g2' : decide (q.e < 0) = false := by simpa using g2
              by_cases g3 : p.b ≤ q.e
              · have g3' : decide (p.b ≤ q.e) = true := by simpa using g3
                go_wp2
                all_goals first
                  | (refine wp_region_ext (by kernel_rfl) (by kernel_rfl) ?_
                     repeat (go_big_quiet_step ((first | (go_at_call 34; exact ext_same (l03Time_any _ _)) | (go_at_call 35; exact ext_same (l02Mag_any _ _)) | (go_at_call 31; exact ext_same (l00In_any _ _ _ _)))))
                     refine wpQuiet_nil ?_
                     intro w3 hb3
                     obtain ⟨hc_w3, hf_w3⟩ := bcell hb3
                     have hz_w3 := hb3.size
                     try have b0 : b < w3.heap.size := Nat.lt_of_lt_of_le b0 hz_w3
                     all_goals go_wp2)
                  | skip
                all_goals first
                  | (refine wp_region_ext (by kernel_rfl) (by kernel_rfl) ?_
                     repeat (go_big_quiet_step ((first | (go_at_call 34; exact ext_same (l03Time_any _ _)) | (go_at_call 35; exact ext_same (l02Mag_any _ _)) | (go_at_call 31; exact ext_same (l00In_any _ _ _ _)))))
                     refine wpQuiet_nil ?_
                     intro w3 hb3
                     obtain ⟨hc_w3, hf_w3⟩ := bcell hb3
                     have hz_w3 := hb3.size
                     try have b0 : b < w3.heap.size := Nat.lt_of_lt_of_le b0 hz_w3
                     all_goals go_wp2)
                  | skip
                all_goals first
                  | (go_ret
                     exact ⟨ret_bool (by simp [alB, H.out, HS.out, HE.out, *] <;> omega), (by repeat (first | assumption | exact Below.refl _ _ | apply Below.al | apply Below.drewN' | apply Below.drew | (apply Below.tr; assumption)))⟩)
                  | (go_roundw
                     case rel => exact ⟨k + 1, some p, by omega, by go_num, (by repeat (first | assumption | exact Below.refl _ _ | apply Below.al | apply Below.drewN' | apply Below.drew | (apply Below.tr; assumption))), hid (by rw [H.out, HS.out, HE.out]; simp [*] <;> omega), hid (by simp [HP.out])⟩
                     case measure => simp [intOf]; omega)
              · have g3' : decide (p.b ≤ q.e) = false := by simpa using g3
                by_cases g4 : p.e = -1
                · have g4' : (p.e != -1) = false := by simpa using g4
                  go_wp2
                  all_goals first
                    | (refine wp_region_ext (by kernel_rfl) (by kernel_rfl) ?_
                       repeat (go_big_quiet_step ((first | (go_at_call 34; exact ext_same (l03Time_any _ _)) | (go_at_call 35; exact ext_same (l02Mag_any _ _)) | (go_at_call 31; exact ext_same (l00In_any _ _ _ _)))))
                       refine wpQuiet_nil ?_
                       intro w3 hb3
                       obtain ⟨hc_w3, hf_w3⟩ := bcell hb3
                       have hz_w3 := hb3.size
                       try have b0 : b < w3.heap.size := Nat.lt_of_lt_of_le b0 hz_w3
                       all_goals go_wp2)
                    | skip
                  all_goals first
                    | (refine wp_region_ext (by kernel_rfl) (by kernel_rfl) ?_
                       repeat (go_big_quiet_step ((first | (go_at_call 34; exact ext_same (l03Time_any _ _)) | (go_at_call 35; exact ext_same (l02Mag_any _ _)) | (go_at_call 31; exact ext_same (l00In_any _ _ _ _)))))
                       refine wpQuiet_nil ?_
                       intro w3 hb3
                       obtain ⟨hc_w3, hf_w3⟩ := bcell hb3
                       have hz_w3 := hb3.size
                       try have b0 : b < w3.heap.size := Nat.lt_of_lt_of_le b0 hz_w3
                       all_goals go_wp2)
                    | skip
                  all_goals first
                    | (go_ret
                       exact ⟨ret_bool (by simp [alB, H.out, HS.out, HE.out, *] <;> omega), (by repeat (first | assumption | exact Below.refl _ _ | apply Below.al | apply Below.drewN' | apply Below.drew | (apply Below.tr; assumption)))⟩)
                    | (go_roundw
                       case rel => exact ⟨k + 1, some p, by omega, by go_num, (by repeat (first | assumption | exact Below.refl _ _ | apply Below.al | apply Below.drewN' | apply Below.drew | (apply Below.tr; assumption))), hid (by rw [H.out, HS.out, HE.out]; simp [*] <;> omega), hid (by simp [HP.out])⟩
                       case measure => simp [intOf]; omega)
                · have g4' : (p.e != -1) = true := by simpa using g4
                  cases v5 : inB p.e (p.b + 1) 10000000
                  · go_wp2
                    all_goals first
                      | (refine wp_region_ext (by kernel_rfl) (by kernel_rfl) ?_
                         repeat (go_big_quiet_step ((first | (go_at_call 34; exact ext_same (l03Time_any _ _)) | (go_at_call 35; exact ext_same (l02Mag_any _ _)) | (go_at_call 31; exact ext_same (l00In_any _ _ _ _)))))
                         refine wpQuiet_nil ?_
                         intro w3 hb3
                         obtain ⟨hc_w3, hf_w3⟩ := bcell hb3
                         have hz_w3 := hb3.size
                         try have b0 : b < w3.heap.size := Nat.lt_of_lt_of_le b0 hz_w3
                         all_goals go_wp2)
                      | skip
                    all_goals first
                      | (refine wp_region_ext (by kernel_rfl) (by kernel_rfl) ?_
                         repeat (go_big_quiet_step ((first | (go_at_call 34; exact ext_same (l03Time_any _ _)) | (go_at_call 35; exact ext_same (l02Mag_any _ _)) | (go_at_call 31; exact ext_same (l00In_any _ _ _ _)))))
                         refine wpQuiet_nil ?_
                         intro w3 hb3
                         obtain ⟨hc_w3, hf_w3⟩ := bcell hb3
                         have hz_w3 := hb3.size
                         try have b0 : b < w3.heap.size := Nat.lt_of_lt_of_le b0 hz_w3
                         all_goals go_wp2)
                      | skip
                    all_goals first
                      | (go_ret
                         exact ⟨ret_bool (by simp [alB, H.out, HS.out, HE.out, *] <;> omega), (by repeat (first | assumption | exact Below.refl _ _ | apply Below.al | apply Below.drewN' | apply Below.drew | (apply Below.tr; assumption)))⟩)
                      | (go_roundw
                         case rel => exact ⟨k + 1, some p, by omega, by go_num, (by repeat (first | assumption | exact Below.refl _ _ | apply Below.al | apply Below.drewN' | apply Below.drew | (apply Below.tr; assumption))), hid (by rw [H.out, HS.out, HE.out]; simp [*] <;> omega), hid (by simp [HP.out])⟩
                         case measure => simp [intOf]; omega)
                  · go_wp2
                    all_goals first
                      | (refine wp_region_ext (by kernel_rfl) (by kernel_rfl) ?_
                         repeat (go_big_quiet_step ((first | (go_at_call 34; exact ext_same (l03Time_any _ _)) | (go_at_call 35; exact ext_same (l02Mag_any _ _)) | (go_at_call 31; exact ext_same (l00In_any _ _ _ _)))))
                         refine wpQuiet_nil ?_
                         intro w3 hb3
                         obtain ⟨hc_w3, hf_w3⟩ := bcell hb3
                         have hz_w3 := hb3.size
                         try have b0 : b < w3.heap.size := Nat.lt_of_lt_of_le b0 hz_w3
                         all_goals go_wp2)
                      | skip
                    all_goals first
                      | (refine wp_region_ext (by kernel_rfl) (by kernel_rfl) ?_
                         repeat (go_big_quiet_step ((first | (go_at_call 34; exact ext_same (l03Time_any _ _)) | (go_at_call 35; exact ext_same (l02Mag_any _ _)) | (go_at_call 31; exact ext_same (l00In_any _ _ _ _)))))
                         refine wpQuiet_nil ?_
                         intro w3 hb3
                         obtain ⟨hc_w3, hf_w3⟩ := bcell hb3
                         have hz_w3 := hb3.size
                         try have b0 : b < w3.heap.size := Nat.lt_of_lt_of_le b0 hz_w3
                         all_goals go_wp2)
                      | skip
                    all_goals first
                      | (go_ret
                         exact ⟨ret_bool (by simp [alB, H.out, HS.out, HE.out, *] <;> omega), (by repeat (first | assumption | exact Below.refl _ _ | apply Below.al | apply Below.drewN' | apply Below.drew | (apply Below.tr; assumption)))⟩)
                      | (go_roundw
                         case rel => exact ⟨k + 1, some p, by omega, by go_num, (by repeat (first | assumption | exact Below.refl _ _ | apply Below.al | apply Below.drewN' | apply Below.drew | (apply Below.tr; assumption))), hid (by rw [H.out, HS.out, HE.out]; simp [*] <;> omega), hid (by simp [HP.out])⟩
                         case measure => simp [intOf]; omega)
      · have e0 : prev = none := by have := HQ.out; rw [if_pos (by omega)] at this; exact this
        subst e0
        have hd : decide (0 < (k : Int)) = false := by simp; omega
        have HE : Hid (alOk none p = (inB p.b 0 10000000 && (inB p.p (-2000) 20000 && (true && (p.e == -1 || inB p.e (p.b + 1) 10000000))))) := rfl
        cases v0 : inB p.b 0 10000000
        · go_wp2
          all_goals first
            | (refine wp_region_ext (by kernel_rfl) (by kernel_rfl) ?_
               repeat (go_big_quiet_step ((first | (go_at_call 34; exact ext_same (l03Time_any _ _)) | (go_at_call 35; exact ext_same (l02Mag_any _ _)) | (go_at_call 31; exact ext_same (l00In_any _ _ _ _)))))
               refine wpQuiet_nil ?_
               intro w3 hb3
               obtain ⟨hc_w3, hf_w3⟩ := bcell hb3
               have hz_w3 := hb3.size
               try have b0 : b < w3.heap.size := Nat.lt_of_lt_of_le b0 hz_w3
               all_goals go_wp2)
            | skip
          all_goals first
            | (refine wp_region_ext (by kernel_rfl) (by kernel_rfl) ?_
               repeat (go_big_quiet_step ((first | (go_at_call 34; exact ext_same (l03Time_any _ _)) | (go_at_call 35; exact ext_same (l02Mag_any _ _)) | (go_at_call 31; exact ext_same (l00In_any _ _ _ _)))))
               refine wpQuiet_nil ?_
               intro w3 hb3
               obtain ⟨hc_w3, hf_w3⟩ := bcell hb3
               have hz_w3 := hb3.size
               try have b0 : b < w3.heap.size := Nat.lt_of_lt_of_le b0 hz_w3
               all_goals go_wp2)
            | skip
          all_goals first
            | (go_ret
               exact ⟨ret_bool (by simp [alB, H.out, HS.out, HE.out, *] <;> omega), (by repeat (first | assumption | exact Below.refl _ _ | apply Below.al | apply Below.drewN' | apply Below.drew | (apply Below.tr; assumption)))⟩)
            | (go_roundw
               case rel => exact ⟨k + 1, some p, by omega, by go_num, (by repeat (first | assumption | exact Below.refl _ _ | apply Below.al | apply Below.drewN' | apply Below.drew | (apply Below.tr; assumption))), hid (by rw [H.out, HS.out, HE.out]; simp [*] <;> omega), hid (by simp [HP.out])⟩
               case measure => simp [intOf]; omega)
        · obtain ⟨t1, t2⟩ := inB_true.1 v0
          cases v1 : inB p.p (-2000) 20000
          · go_wp2
            all_goals first
              | (refine wp_region_ext (by kernel_rfl) (by kernel_rfl) ?_
                 repeat (go_big_quiet_step ((first | (go_at_call 34; exact ext_same (l03Time_any _ _)) | (go_at_call 35; exact ext_same (l02Mag_any _ _)) | (go_at_call 31; exact ext_same (l00In_any _ _ _ _)))))
                 refine wpQuiet_nil ?_
                 intro w3 hb3
                 obtain ⟨hc_w3, hf_w3⟩ := bcell hb3
                 have hz_w3 := hb3.size
                 try have b0 : b < w3.heap.size := Nat.lt_of_lt_of_le b0 hz_w3
                 all_goals go_wp2)
              | skip
            all_goals first
              | (refine wp_region_ext (by kernel_rfl) (by kernel_rfl) ?_
                 repeat (go_big_quiet_step ((first | (go_at_call 34; exact ext_same (l03Time_any _ _)) | (go_at_call 35; exact ext_same (l02Mag_any _ _)) | (go_at_call 31; exact ext_same (l00In_any _ _ _ _)))))
                 refine wpQuiet_nil ?_
                 intro w3 hb3
                 obtain ⟨hc_w3, hf_w3⟩ := bcell hb3
                 have hz_w3 := hb3.size
                 try have b0 : b < w3.heap.size := Nat.lt_of_lt_of_le b0 hz_w3
                 all_goals go_wp2)
              | skip
            all_goals first
              | (go_ret
                 exact ⟨ret_bool (by simp [alB, H.out, HS.out, HE.out, *] <;> omega), (by repeat (first | assumption | exact Below.refl _ _ | apply Below.al | apply Below.drewN' | apply Below.drew | (apply Below.tr; assumption)))⟩)
              | (go_roundw
                 case rel => exact ⟨k + 1, some p, by omega, by go_num, (by repeat (first | assumption | exact Below.refl _ _ | apply Below.al | apply Below.drewN' | apply Below.drew | (apply Below.tr; assumption))), hid (by rw [H.out, HS.out, HE.out]; simp [*] <;> omega), hid (by simp [HP.out])⟩
                 case measure => simp [intOf]; omega)
          · by_cases g2 : p.e = -1
            · have g2' : (p.e != -1) = false := by simpa using g2
              go_wp2
              all_goals first
                | (refine wp_region_ext (by kernel_rfl) (by kernel_rfl) ?_
                   repeat (go_big_quiet_step ((first | (go_at_call 34; exact ext_same (l03Time_any _ _)) | (go_at_call 35; exact ext_same (l02Mag_any _ _)) | (go_at_call 31; exact ext_same (l00In_any _ _ _ _)))))
                   refine wpQuiet_nil ?_
                   intro w3 hb3
                   obtain ⟨hc_w3, hf_w3⟩ := bcell hb3
                   have hz_w3 := hb3.size
                   try have b0 : b < w3.heap.size := Nat.lt_of_lt_of_le b0 hz_w3
                   all_goals go_wp2)
                | skip
              all_goals first
                | (refine wp_region_ext (by kernel_rfl) (by kernel_rfl) ?_
                   repeat (go_big_quiet_step ((first | (go_at_call 34; exact ext_same (l03Time_any _ _)) | (go_at_call 35; exact ext_same (l02Mag_any _ _)) | (go_at_call 31; exact ext_same (l00In_any _ _ _ _)))))
                   refine wpQuiet_nil ?_
                   intro w3 hb3
                   obtain ⟨hc_w3, hf_w3⟩ := bcell hb3
                   have hz_w3 := hb3.size
                   try have b0 : b < w3.heap.size := Nat.lt_of_lt_of_le b0 hz_w3
                   all_goals go_wp2)
                | skip
              all_goals first
                | (go_ret
                   exact ⟨ret_bool (by simp [alB, H.out, HS.out, HE.out, *] <;> omega), (by repeat (first | assumption | exact Below.refl _ _ | apply Below.al | apply Below.drewN' | apply Below.drew | (apply Below.tr; assumption)))⟩)
                | (go_roundw
                   case rel => exact ⟨k + 1, some p, by omega, by go_num, (by repeat (first | assumption | exact Below.refl _ _ | apply Below.al | apply Below.drewN' | apply Below.drew | (apply Below.tr; assumption))), hid (by rw [H.out, HS.out, HE.out]; simp [*] <;> omega), hid (by simp [HP.out])⟩
                   case measure => simp [intOf]; omega)
            · have g2' : (p.e != -1) = true := by simpa using g2
              cases v3 : inB p.e (p.b + 1) 10000000
              · go_wp2
                all_goals first
                  | (refine wp_region_ext (by kernel_rfl) (by kernel_rfl) ?_
                     repeat (go_big_quiet_step ((first | (go_at_call 34; exact ext_same (l03Time_any _ _)) | (go_at_call 35; exact ext_same (l02Mag_any _ _)) | (go_at_call 31; exact ext_same (l00In_any _ _ _ _)))))
                     refine wpQuiet_nil ?_
                     intro w3 hb3
                     obtain ⟨hc_w3, hf_w3⟩ := bcell hb3
                     have hz_w3 := hb3.size
                     try have b0 : b < w3.heap.size := Nat.lt_of_lt_of_le b0 hz_w3
                     all_goals go_wp2)
                  | skip
                all_goals first
                  | (refine wp_region_ext (by kernel_rfl) (by kernel_rfl) ?_
                     repeat (go_big_quiet_step ((first | (go_at_call 34; exact ext_same (l03Time_any _ _)) | (go_at_call 35; exact ext_same (l02Mag_any _ _)) | (go_at_call 31; exact ext_same (l00In_any _ _ _ _)))))
                     refine wpQuiet_nil ?_
                     intro w3 hb3
                     obtain ⟨hc_w3, hf_w3⟩ := bcell hb3
                     have hz_w3 := hb3.size
                     try have b0 : b < w3.heap.size := Nat.lt_of_lt_of_le b0 hz_w3
                     all_goals go_wp2)
                  | skip
                all_goals first
                  | (go_ret
                     exact ⟨ret_bool (by simp [alB, H.out, HS.out, HE.out, *] <;> omega), (by repeat (first | assumption | exact Below.refl _ _ | apply Below.al | apply Below.drewN' | apply Below.drew | (apply Below.tr; assumption)))⟩)
                  | (go_roundw
                     case rel => exact ⟨k + 1, some p, by omega, by go_num, (by repeat (first | assumption | exact Below.refl _ _ | apply Below.al | apply Below.drewN' | apply Below.drew | (apply Below.tr; assumption))), hid (by rw [H.out, HS.out, HE.out]; simp [*] <;> omega), hid (by simp [HP.out])⟩
                     case measure => simp [intOf]; omega)
              · go_wp2
                all_goals first
                  | (refine wp_region_ext (by kernel_rfl) (by kernel_rfl) ?_
                     repeat (go_big_quiet_step ((first | (go_at_call 34; exact ext_same (l03Time_any _ _)) | (go_at_call 35; exact ext_same (l02Mag_any _ _)) | (go_at_call 31; exact ext_same (l00In_any _ _ _ _)))))
                     refine wpQuiet_nil ?_
                     intro w3 hb3
                     obtain ⟨hc_w3, hf_w3⟩ := bcell hb3
                     have hz_w3 := hb3.size
                     try have b0 : b < w3.heap.size := Nat.lt_of_lt_of_le b0 hz_w3
                     all_goals go_wp2)
                  | skip
                all_goals first
                  | (refine wp_region_ext (by kernel_rfl) (by kernel_rfl) ?_
                     repeat (go_big_quiet_step ((first | (go_at_call 34; exact ext_same (l03Time_any _ _)) | (go_at_call 35; exact ext_same (l02Mag_any _ _)) | (go_at_call 31; exact ext_same (l00In_any _ _ _ _)))))
                     refine wpQuiet_nil ?_
                     intro w3 hb3
                     obtain ⟨hc_w3, hf_w3⟩ := bcell hb3
                     have hz_w3 := hb3.size
                     try have b0 : b < w3.heap.size := Nat.lt_of_lt_of_le b0 hz_w3
                     all_goals go_wp2)
                  | skip
                all_goals first
                  | (go_ret
                     exact ⟨ret_bool (by simp [alB, H.out, HS.out, HE.out, *] <;> omega), (by repeat (first | assumption | exact Below.refl _ _ | apply Below.al | apply Below.drewN' | apply Below.drew | (apply Below.tr; assumption)))⟩)
                  | (go_roundw
                     case rel => exact ⟨k + 1, some p, by omega, by go_num, (by repeat (first | assumption | exact Below.refl _ _ | apply Below.al | apply Below.drewN' | apply Below.drew | (apply Below.tr; assumption))), hid (by rw [H.out, HS.out, HE.out]; simp [*] <;> omega), hid (by simp [HP.out])⟩
                     case measure => simp [intOf]; omega)
    · have HE : Hid (alGo none xs = true) := hid (by rw [H.out, List.drop_eq_nil_of_le (by omega)]; cases prev <;> rfl)
      go_wp2
      go_ret
      exact ⟨ret_bool (by simp [alB, HE.out] <;> omega), (by repeat (first | assumption | exact Below.refl _ _ | apply Below.al | apply Below.drewN' | apply Below.drew | (apply Below.tr; assumption)))⟩
/-- The same, as the program says it: each alert against the next one. -/
def linkOk (a : Al) : Option Al → Bool
  | none => true
  | some n => decide (0 ≤ a.e) && decide (a.e < n.b)
def endOk (a : Al) : Option Al → Bool
  | none => inB a.e (a.b + 1) 10000000 || a.e == -1
  | some n => inB a.e (a.b + 1) 10000000 && decide (a.e < n.b)
def alGo2 : List Al → Bool
  | [] => true
  | a :: r => (inB a.b 0 10000000 && inB a.p (-2000) 20000 && endOk a r.head?) && alGo2 r
theorem alGo_some (q : Al) : ∀ r : List Al, alGo (some q) r = (linkOk q r.head? && alGo none r)
  | [] => rfl
  | a :: r => by
    simp only [alGo, alOk, linkOk, List.head?_cons, Bool.true_and]
    cases inB a.b 0 10000000 <;> cases inB a.p (-2000) 20000 <;> cases decide (0 ≤ q.e) <;> cases decide (q.e < a.b) <;> cases (a.e == -1) <;> cases inB a.e (a.b + 1) 10000000 <;> simp
theorem alGo_eq : ∀ r : List Al, alGo none r = alGo2 r
  | [] => rfl
  | a :: r => by
    simp only [alGo, alGo2, alGo_some, alGo_eq r]
    cases h1 : inB a.b 0 10000000
    · simp [alOk, h1]
    · obtain ⟨t1, t2⟩ := inB_true.1 h1
      cases hr : r.head? with
      | none =>
        simp only [alOk, linkOk, endOk, h1, Bool.true_and]
        cases inB a.p (-2000) 20000 <;> cases (a.e == -1) <;> cases inB a.e (a.b + 1) 10000000 <;> simp
      | some n =>
        simp only [alOk, linkOk, endOk, h1, Bool.true_and]
        cases h2 : inB a.e (a.b + 1) 10000000
        · have : (a.e == -1 && decide (0 ≤ a.e)) = false := by
            by_cases h : a.e = -1
            · simp [h]
            · simp [h]
          cases inB a.p (-2000) 20000 <;> cases h3 : (a.e == -1) <;> cases h4 : decide (0 ≤ a.e) <;> simp_all
        · obtain ⟨t3, t4⟩ := inB_true.1 h2
          have : decide (0 ≤ a.e) = true := by simp; omega
          cases inB a.p (-2000) 20000 <;> cases (a.e == -1) <;> simp [this]
set_option maxHeartbeats 2000000 in
theorem areAlerts_any (A : Option Addr) (c : Nat) (xs : List Al) (w : World) (h : Rd encAl 3 w w.heap.size A xs) (hn : xs.length ≤ 1048576) :
    Calls Tryd.prog 23 #[.slice A xs.length c] w fun e w' => e = .returned (.bool (alB xs)) ∧ Below w.heap.size w w' := by
  by_cases h50 : xs.length ≤ 50
  · have HB : Hid (alB xs = alGo2 xs) := by unfold Hid alB; rw [alGo_eq]; simp [h50]
    go_enter Tryd.func23, Tryd.ntmps23
    go_wp2
    go_loopw [12] (fun i wr => ∃ k : Nat, k ≤ xs.length ∧ i = .int .i64 k ∧ Below w.heap.size w wr ∧ Hid (alGo2 xs = alGo2 (xs.drop k))) (fun i _ => xs.length - (intOf i).toNat)
    case atStart => exact ⟨0, Nat.zero_le _, rfl, (by repeat (first | assumption | exact Below.refl _ _ | apply Below.al | apply Below.drewN' | apply Below.drew | (apply Below.tr; assumption))), hid rfl⟩
    case round =>
      obtain ⟨k, hk, rfl, hb, H⟩ := hrel
      by_cases hlt : k < xs.length
      · obtain ⟨p, hp⟩ := getx hlt
        obtain ⟨b, o, rfl, hbB, c0, c1, c2⟩ := (h.below hb (Nat.le_refl _)).at3 hp rfl
        have hsz := hb.size
        have HS : Hid (alGo2 (xs.drop k) = ((inB p.b 0 10000000 && inB p.p (-2000) 20000 && endOk p (xs.drop (k+1)).head?) && alGo2 (xs.drop (k+1)))) := by rw [dropx hp]; rfl
        have b0 : b < wr.heap.size := by omega
        have b1 : b < wr.heap.size + 1 := by omega
        clear hp
        by_cases hlast : k + 1 = xs.length
        · have hl : ((k : Int) == (xs.length : Int) - 1) = true := by simp; omega
          have HE : Hid (endOk p (xs.drop (k+1)).head? = (inB p.e (p.b + 1) 10000000 || p.e == -1)) := by unfold Hid; rw [List.drop_eq_nil_of_le (by omega)]; rfl
          clear hlast
          cases v0 : inB p.b 0 10000000
          · go_wp2_with (first | (go_at_call 38; refine (validTime_any _ _).mono ?_; rintro e w' ⟨rfl, rfl⟩) | (go_at_call 39; refine (validMag_any _ _).mono ?_; rintro e w' ⟨rfl, rfl⟩))
            all_goals first
              | (refine wp_region_ext (by kernel_rfl) (by kernel_rfl) ?_
                 repeat (go_big_quiet_step ((first | (go_at_call 32; exact ext_same (in_eq (by assumption) _)))))
                 refine wpQuiet_nil ?_
                 intro w3 hb3
                 obtain ⟨hc_w3, hf_w3⟩ := bcell hb3
                 have hz_w3 := hb3.size
                 try have b0 : b < w3.heap.size := Nat.lt_of_lt_of_le b0 hz_w3
                 all_goals go_wp2)
              | skip
            all_goals first
              | (go_ret
                 exact ⟨ret_bool (by rw [HB.out, H.out, HS.out, HE.out]; simp [*] <;> omega), (by repeat (first | assumption | exact Below.refl _ _ | apply Below.al | apply Below.drewN' | apply Below.drew | (apply Below.tr; assumption)))⟩)
              | (go_roundw
                 case rel => exact ⟨k + 1, by omega, by go_num, (by repeat (first | assumption | exact Below.refl _ _ | apply Below.al | apply Below.drewN' | apply Below.drew | (apply Below.tr; assumption))), hid (by rw [H.out, HS.out, HE.out]; simp [*] <;> omega)⟩
                 case measure => simp [intOf]; omega)
          · obtain ⟨t1, t2⟩ := inB_true.1 v0
            cases v1 : inB p.p (-2000) 20000
            · go_wp2_with (first | (go_at_call 38; refine (validTime_any _ _).mono ?_; rintro e w' ⟨rfl, rfl⟩) | (go_at_call 39; refine (validMag_any _ _).mono ?_; rintro e w' ⟨rfl, rfl⟩))
              all_goals first
                | (refine wp_region_ext (by kernel_rfl) (by kernel_rfl) ?_
                   repeat (go_big_quiet_step ((first | (go_at_call 32; exact ext_same (in_eq (by assumption) _)))))
                   refine wpQuiet_nil ?_
                   intro w3 hb3
                   obtain ⟨hc_w3, hf_w3⟩ := bcell hb3
                   have hz_w3 := hb3.size
                   try have b0 : b < w3.heap.size := Nat.lt_of_lt_of_le b0 hz_w3
                   all_goals go_wp2)
                | skip
              all_goals first
                | (go_ret
                   exact ⟨ret_bool (by rw [HB.out, H.out, HS.out, HE.out]; simp [*] <;> omega), (by repeat (first | assumption | exact Below.refl _ _ | apply Below.al | apply Below.drewN' | apply Below.drew | (apply Below.tr; assumption)))⟩)
                | (go_roundw
                   case rel => exact ⟨k + 1, by omega, by go_num, (by repeat (first | assumption | exact Below.refl _ _ | apply Below.al | apply Below.drewN' | apply Below.drew | (apply Below.tr; assumption))), hid (by rw [H.out, HS.out, HE.out]; simp [*] <;> omega)⟩
                   case measure => simp [intOf]; omega)
            · by_cases g2 : p.e = -1
              · have g2' : (p.e != -1) = false := by simpa using g2
                have v9 : inB (-1) (p.b + 1) 10000000 = false := by rw [inB_false]; omega
                go_wp2_with (first | (go_at_call 38; refine (validTime_any _ _).mono ?_; rintro e w' ⟨rfl, rfl⟩) | (go_at_call 39; refine (validMag_any _ _).mono ?_; rintro e w' ⟨rfl, rfl⟩))
                all_goals first
                  | (refine wp_region_ext (by kernel_rfl) (by kernel_rfl) ?_
                     repeat (go_big_quiet_step ((first | (go_at_call 32; exact ext_same (in_eq (by assumption) _)))))
                     refine wpQuiet_nil ?_
                     intro w3 hb3
                     obtain ⟨hc_w3, hf_w3⟩ := bcell hb3
                     have hz_w3 := hb3.size
                     try have b0 : b < w3.heap.size := Nat.lt_of_lt_of_le b0 hz_w3
                     all_goals go_wp2)
                  | skip
                all_goals first
                  | (go_ret
                     exact ⟨ret_bool (by rw [HB.out, H.out, HS.out, HE.out]; simp [*] <;> omega), (by repeat (first | assumption | exact Below.refl _ _ | apply Below.al | apply Below.drewN' | apply Below.drew | (apply Below.tr; assumption)))⟩)
                  | (go_roundw
                     case rel => exact ⟨k + 1, by omega, by go_num, (by repeat (first | assumption | exact Below.refl _ _ | apply Below.al | apply Below.drewN' | apply Below.drew | (apply Below.tr; assumption))), hid (by rw [H.out, HS.out, HE.out]; simp [*] <;> omega)⟩
                     case measure => simp [intOf]; omega)
              · have g2' : (p.e != -1) = true := by simpa using g2
                cases v3 : inB p.e (p.b + 1) 10000000
                · go_wp2_with (first | (go_at_call 38; refine (validTime_any _ _).mono ?_; rintro e w' ⟨rfl, rfl⟩) | (go_at_call 39; refine (validMag_any _ _).mono ?_; rintro e w' ⟨rfl, rfl⟩))
                  all_goals first
                    | (refine wp_region_ext (by kernel_rfl) (by kernel_rfl) ?_
                       repeat (go_big_quiet_step ((first | (go_at_call 32; exact ext_same (in_eq (by assumption) _)))))
                       refine wpQuiet_nil ?_
                       intro w3 hb3
                       obtain ⟨hc_w3, hf_w3⟩ := bcell hb3
                       have hz_w3 := hb3.size
                       try have b0 : b < w3.heap.size := Nat.lt_of_lt_of_le b0 hz_w3
                       all_goals go_wp2)
                    | skip
                  all_goals first
                    | (go_ret
                       exact ⟨ret_bool (by rw [HB.out, H.out, HS.out, HE.out]; simp [*] <;> omega), (by repeat (first | assumption | exact Below.refl _ _ | apply Below.al | apply Below.drewN' | apply Below.drew | (apply Below.tr; assumption)))⟩)
                    | (go_roundw
                       case rel => exact ⟨k + 1, by omega, by go_num, (by repeat (first | assumption | exact Below.refl _ _ | apply Below.al | apply Below.drewN' | apply Below.drew | (apply Below.tr; assumption))), hid (by rw [H.out, HS.out, HE.out]; simp [*] <;> omega)⟩
                       case measure => simp [intOf]; omega)
                · go_wp2_with (first | (go_at_call 38; refine (validTime_any _ _).mono ?_; rintro e w' ⟨rfl, rfl⟩) | (go_at_call 39; refine (validMag_any _ _).mono ?_; rintro e w' ⟨rfl, rfl⟩))
                  all_goals first
                    | (refine wp_region_ext (by kernel_rfl) (by kernel_rfl) ?_
                       repeat (go_big_quiet_step ((first | (go_at_call 32; exact ext_same (in_eq (by assumption) _)))))
                       refine wpQuiet_nil ?_
                       intro w3 hb3
                       obtain ⟨hc_w3, hf_w3⟩ := bcell hb3
                       have hz_w3 := hb3.size
                       try have b0 : b < w3.heap.size := Nat.lt_of_lt_of_le b0 hz_w3
                       all_goals go_wp2)
                    | skip
                  all_goals first
                    | (go_ret
                       exact ⟨ret_bool (by rw [HB.out, H.out, HS.out, HE.out]; simp [*] <;> omega), (by repeat (first | assumption | exact Below.refl _ _ | apply Below.al | apply Below.drewN' | apply Below.drew | (apply Below.tr; assumption)))⟩)
                    | (go_roundw
                       case rel => exact ⟨k + 1, by omega, by go_num, (by repeat (first | assumption | exact Below.refl _ _ | apply Below.al | apply Below.drewN' | apply Below.drew | (apply Below.tr; assumption))), hid (by rw [H.out, HS.out, HE.out]; simp [*] <;> omega)⟩
                       case measure => simp [intOf]; omega)
        · have hl : ((k : Int) == (xs.length : Int) - 1) = false := by simp; omega
          obtain ⟨nx, hx⟩ : ∃ nx, xs[k+1]? = some nx := getx (by omega)
          obtain ⟨b', o', e1, _, d0, d1, d2⟩ := (h.below hb (Nat.le_refl _)).at3 hx rfl
          simp at e1; obtain ⟨rfl, rfl⟩ := e1
          have HE : Hid (endOk p (xs.drop (k+1)).head? = (inB p.e (p.b + 1) 10000000 && decide (p.e < nx.b))) := by unfold Hid; rw [dropx hx]; rfl
          clear hx
          cases v0 : inB p.b 0 10000000
          · go_wp2_with (first | (go_at_call 38; refine (validTime_any _ _).mono ?_; rintro e w' ⟨rfl, rfl⟩) | (go_at_call 39; refine (validMag_any _ _).mono ?_; rintro e w' ⟨rfl, rfl⟩))
            all_goals first
              | (refine wp_region_ext (by kernel_rfl) (by kernel_rfl) ?_
                 repeat (go_big_quiet_step ((first | (go_at_call 32; exact ext_same (in_eq (by assumption) _)))))
                 refine wpQuiet_nil ?_
                 intro w3 hb3
                 obtain ⟨hc_w3, hf_w3⟩ := bcell hb3
                 have hz_w3 := hb3.size
                 try have b0 : b < w3.heap.size := Nat.lt_of_lt_of_le b0 hz_w3
                 all_goals go_wp2)
              | skip
            all_goals first
              | (go_ret
                 exact ⟨ret_bool (by rw [HB.out, H.out, HS.out, HE.out]; simp [*] <;> omega), (by repeat (first | assumption | exact Below.refl _ _ | apply Below.al | apply Below.drewN' | apply Below.drew | (apply Below.tr; assumption)))⟩)
              | (go_roundw
                 case rel => exact ⟨k + 1, by omega, by go_num, (by repeat (first | assumption | exact Below.refl _ _ | apply Below.al | apply Below.drewN' | apply Below.drew | (apply Below.tr; assumption))), hid (by rw [H.out, HS.out, HE.out]; simp [*] <;> omega)⟩
                 case measure => simp [intOf]; omega)
          · obtain ⟨t1, t2⟩ := inB_true.1 v0
            cases v1 : inB p.p (-2000) 20000
            · go_wp2_with (first | (go_at_call 38; refine (validTime_any _ _).mono ?_; rintro e w' ⟨rfl, rfl⟩) | (go_at_call 39; refine (validMag_any _ _).mono ?_; rintro e w' ⟨rfl, rfl⟩))
              all_goals first
                | (refine wp_region_ext (by kernel_rfl) (by kernel_rfl) ?_
                   repeat (go_big_quiet_step ((first | (go_at_call 32; exact ext_same (in_eq (by assumption) _)))))
                   refine wpQuiet_nil ?_
                   intro w3 hb3
                   obtain ⟨hc_w3, hf_w3⟩ := bcell hb3
                   have hz_w3 := hb3.size
                   try have b0 : b < w3.heap.size := Nat.lt_of_lt_of_le b0 hz_w3
                   all_goals go_wp2)
                | skip
              all_goals first
                | (go_ret
                   exact ⟨ret_bool (by rw [HB.out, H.out, HS.out, HE.out]; simp [*] <;> omega), (by repeat (first | assumption | exact Below.refl _ _ | apply Below.al | apply Below.drewN' | apply Below.drew | (apply Below.tr; assumption)))⟩)
                | (go_roundw
                   case rel => exact ⟨k + 1, by omega, by go_num, (by repeat (first | assumption | exact Below.refl _ _ | apply Below.al | apply Below.drewN' | apply Below.drew | (apply Below.tr; assumption))), hid (by rw [H.out, HS.out, HE.out]; simp [*] <;> omega)⟩
                   case measure => simp [intOf]; omega)
            · cases v2 : inB p.e (p.b + 1) 10000000
              · go_wp2_with (first | (go_at_call 38; refine (validTime_any _ _).mono ?_; rintro e w' ⟨rfl, rfl⟩) | (go_at_call 39; refine (validMag_any _ _).mono ?_; rintro e w' ⟨rfl, rfl⟩))
                all_goals first
                  | (refine wp_region_ext (by kernel_rfl) (by kernel_rfl) ?_
                     repeat (go_big_quiet_step ((first | (go_at_call 32; exact ext_same (in_eq (by assumption) _)))))
                     refine wpQuiet_nil ?_
                     intro w3 hb3
                     obtain ⟨hc_w3, hf_w3⟩ := bcell hb3
                     have hz_w3 := hb3.size
                     try have b0 : b < w3.heap.size := Nat.lt_of_lt_of_le b0 hz_w3
                     all_goals go_wp2)
                  | skip
                all_goals first
                  | (go_ret
                     exact ⟨ret_bool (by rw [HB.out, H.out, HS.out, HE.out]; simp [*] <;> omega), (by repeat (first | assumption | exact Below.refl _ _ | apply Below.al | apply Below.drewN' | apply Below.drew | (apply Below.tr; assumption)))⟩)
                  | (go_roundw
                     case rel => exact ⟨k + 1, by omega, by go_num, (by repeat (first | assumption | exact Below.refl _ _ | apply Below.al | apply Below.drewN' | apply Below.drew | (apply Below.tr; assumption))), hid (by rw [H.out, HS.out, HE.out]; simp [*] <;> omega)⟩
                     case measure => simp [intOf]; omega)
              · by_cases g3 : p.e < nx.b
                · have g3' : decide (p.e < nx.b) = true := by simpa using g3
                  go_wp2_with (first | (go_at_call 38; refine (validTime_any _ _).mono ?_; rintro e w' ⟨rfl, rfl⟩) | (go_at_call 39; refine (validMag_any _ _).mono ?_; rintro e w' ⟨rfl, rfl⟩))
                  all_goals first
                    | (refine wp_region_ext (by kernel_rfl) (by kernel_rfl) ?_
                       repeat (go_big_quiet_step ((first | (go_at_call 32; exact ext_same (in_eq (by assumption) _)))))
                       refine wpQuiet_nil ?_
                       intro w3 hb3
                       obtain ⟨hc_w3, hf_w3⟩ := bcell hb3
                       have hz_w3 := hb3.size
                       try have b0 : b < w3.heap.size := Nat.lt_of_lt_of_le b0 hz_w3
                       all_goals go_wp2)
                    | skip
                  all_goals first
                    | (go_ret
                       exact ⟨ret_bool (by rw [HB.out, H.out, HS.out, HE.out]; simp [*] <;> omega), (by repeat (first | assumption | exact Below.refl _ _ | apply Below.al | apply Below.drewN' | apply Below.drew | (apply Below.tr; assumption)))⟩)
                    | (go_roundw
                       case rel => exact ⟨k + 1, by omega, by go_num, (by repeat (first | assumption | exact Below.refl _ _ | apply Below.al | apply Below.drewN' | apply Below.drew | (apply Below.tr; assumption))), hid (by rw [H.out, HS.out, HE.out]; simp [*] <;> omega)⟩
                       case measure => simp [intOf]; omega)
                · have g3' : decide (p.e < nx.b) = false := by simpa using g3
                  go_wp2_with (first | (go_at_call 38; refine (validTime_any _ _).mono ?_; rintro e w' ⟨rfl, rfl⟩) | (go_at_call 39; refine (validMag_any _ _).mono ?_; rintro e w' ⟨rfl, rfl⟩))
                  all_goals first
                    | (refine wp_region_ext (by kernel_rfl) (by kernel_rfl) ?_
                       repeat (go_big_quiet_step ((first | (go_at_call 32; exact ext_same (in_eq (by assumption) _)))))
                       refine wpQuiet_nil ?_
                       intro w3 hb3
                       obtain ⟨hc_w3, hf_w3⟩ := bcell hb3
                       have hz_w3 := hb3.size
                       try have b0 : b < w3.heap.size := Nat.lt_of_lt_of_le b0 hz_w3
                       all_goals go_wp2)
                    | skip
                  all_goals first
                    | (go_ret
                       exact ⟨ret_bool (by rw [HB.out, H.out, HS.out, HE.out]; simp [*] <;> omega), (by repeat (first | assumption | exact Below.refl _ _ | apply Below.al | apply Below.drewN' | apply Below.drew | (apply Below.tr; assumption)))⟩)
                    | (go_roundw
                       case rel => exact ⟨k + 1, by omega, by go_num, (by repeat (first | assumption | exact Below.refl _ _ | apply Below.al | apply Below.drewN' | apply Below.drew | (apply Below.tr; assumption))), hid (by rw [H.out, HS.out, HE.out]; simp [*] <;> omega)⟩
                       case measure => simp [intOf]; omega)
      · have HE : Hid (alGo2 xs = true) := hid (by rw [H.out, List.drop_eq_nil_of_le (by omega)]; rfl)
        go_wp2
        go_ret
        exact ⟨ret_bool (by rw [HB.out, HE.out]), (by repeat (first | assumption | exact Below.refl _ _ | apply Below.al | apply Below.drewN' | apply Below.drew | (apply Below.tr; assumption)))⟩
  · have HB : Hid (alB xs = false) := by unfold Hid alB; simp [h50]
    go_enter Tryd.func23, Tryd.ntmps23
    go_wp2
    go_ret
    exact ⟨ret_bool HB.out.symm, (by repeat (first | assumption | exact Below.refl _ _ | apply Below.al | apply Below.drewN' | apply Below.drew | (apply Below.tr; assumption)))⟩
end Go.Proofs.YtiimohofnnphoaaDoor
