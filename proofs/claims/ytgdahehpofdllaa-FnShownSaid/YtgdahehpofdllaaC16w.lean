/- Windows and ephemerides: the plain laws, and the contracts of the small functions. -/
import Derived.Test.YtgdahehpofdllaaC1
namespace Go.Proofs.Ytgdahehpofdllaa
open Go.RowKit
set_option linter.unusedVariables false
/-- How many extrema there are from t on, up to to. -/
def cntT (p to t : Int) : Int := if to < t then 0 else (to - t) / p + 1
theorem cntT_step {p to t : Int} (hp : 0 < p) (h : t ≤ to) : cntT p to t = 1 + cntT p to (t + p) := by
  unfold cntT
  rw [if_neg (by omega)]
  split
  · rw [Int.ediv_eq_zero_of_lt (by omega) (by omega)]; omega
  · have e : to - t = (to - (t + p)) + 1 * p := by omega
    rw [e, Int.add_mul_ediv_right _ _ (by omega)]; omega
theorem cntT_zero {p to t : Int} (h : to < t) : cntT p to t = 0 := if_pos h
theorem cntT_nn {p to t : Int} (hp : 0 < p) : 0 ≤ cntT p to t := by
  unfold cntT
  split
  · omega
  · have := Int.ediv_nonneg (a := to - t) (b := p) (by omega) (by omega); omega
theorem cntT_le {p to t : Int} (hp : 0 < p) (h0 : 0 ≤ t) (h1 : to ≤ 10000000) : cntT p to t ≤ 10000001 := by
  unfold cntT
  split
  · omega
  · have := Int.ediv_le_self p (a := to - t) (by omega); omega
/-- n numbers from t on, p apart. -/
def seqL (p t : Int) : Nat → List Int
  | 0 => []
  | n + 1 => t :: seqL p (t + p) n
theorem seqL_len (p : Int) : ∀ (n : Nat) (t : Int), (seqL p t n).length = n
  | 0, _ => rfl
  | n + 1, t => by simp [seqL, seqL_len p n]
def nextN (e p t : Int) : Int := t + (e - t) % p
theorem nextN_bd {e p t : Int} (hp : 0 < p) : t ≤ nextN e p t ∧ nextN e p t < t + p := by
  have := emod_bd (e - t) p hp; unfold nextN; omega
def extI (e p f t : Int) : Int := cntT p t (nextN e p f)
theorem extI_nn {e p f t : Int} (hp : 0 < p) : 0 ≤ extI e p f t := cntT_nn hp
theorem extI_le {e p f t : Int} (hp : 0 < p) (h0 : 0 ≤ f) (h1 : t ≤ 10000000) : extI e p f t ≤ 10000001 := cntT_le hp (by have := nextN_bd (e := e) (t := f) hp; omega) h1
/-- A window behind another one (or none) is in order. -/
def wiOk (prev : Option Wi) (x : Wi) : Bool :=
  inB x.f 0 10000000 && (inB x.t 0 10000000 && (decide (x.f ≤ x.t) && (match prev with | none => true | some q => decide (q.t < x.f))))
def wiGo : Option Wi → List Wi → Bool
  | _, [] => true
  | prev, x :: r => wiOk prev x && wiGo (some x) r
def wsB (xs : List Wi) : Bool := decide (xs.length ≤ 30) && wiGo none xs
theorem wiGo_at : ∀ (xs : List Wi) (prev : Option Wi), wiGo prev xs = true → ∀ (k : Nat) (x : Wi), xs[k]? = some x → 0 ≤ x.f ∧ x.f ≤ 10000000 ∧ 0 ≤ x.t ∧ x.t ≤ 10000000 ∧ x.f ≤ x.t
  | [], _, _, k, p, h => by simp at h
  | a :: r, prev, hg, 0, p, h => by
    simp at h
    subst h
    simp only [wiGo, wiOk, Bool.and_eq_true, inB_true, decide_eq_true_eq] at hg
    omega
  | a :: r, prev, hg, k + 1, p, h => by
    simp only [wiGo, Bool.and_eq_true] at hg
    exact wiGo_at r (some a) hg.2 k p (by simpa using h)
theorem wsB_at {xs : List Wi} (h : wsB xs = true) : ∀ (k : Nat) (x : Wi), xs[k]? = some x → 0 ≤ x.f ∧ x.f ≤ 10000000 ∧ 0 ≤ x.t ∧ x.t ≤ 10000000 ∧ x.f ≤ x.t := by
  simp only [wsB, Bool.and_eq_true] at h
  exact wiGo_at xs none h.2
theorem wsB_len {xs : List Wi} (h : wsB xs = true) : xs.length ≤ 30 := by
  simp only [wsB, Bool.and_eq_true, decide_eq_true_eq] at h
  exact h.1
def maxI (a b : Int) : Int := if b < a then a else b
theorem l00Max_any' (a b : Int) (w : World) :
    Calls Try.prog 46 #[.int .i64 a, .int .i64 b] w fun e w' => e = .returned (.int .i64 (maxI a b)) ∧ w = w' := by
  go_enter Try.func46, Try.ntmps46
  go_wp2
  all_goals (go_ret; exact ⟨ret_int (by simp [maxI, *] <;> omega), rfl⟩)
set_option maxHeartbeats 4000000 in
theorem validWindows_any (A : Option Addr) (c : Nat) (xs : List Wi) (w : World) (h : Rd encWi 2 w w.heap.size A xs) (hn : xs.length ≤ 1048576) :
    Calls Try.prog 51 #[.slice A xs.length c] w fun e w' => e = .returned (.bool (wsB xs)) ∧ Below w.heap.size w w' := by
  rcases Nat.lt_or_ge 30 xs.length with hbig | hsm
  · have HB : Hid (wsB xs = false) := by unfold Hid wsB; simp; omega
    go_enter Try.func51, Try.ntmps51
    go_wp2
    go_ret
    exact ⟨ret_bool HB.out.symm, (by repeat (first | assumption | exact Below.refl _ _ | apply Below.al | apply Below.drewN' | apply Below.drew | (apply Below.tr; assumption)))⟩
  go_enter Try.func51, Try.ntmps51
  go_wp2
  go_loopw [10] (fun i wr => ∃ (k : Nat) (prev : Option Wi), k ≤ xs.length ∧ i = .int .i64 k ∧ Below w.heap.size w wr ∧ Hid (wiGo none xs = wiGo prev (xs.drop k)) ∧ Hid (prev = if k = 0 then none else xs[k-1]?)) (fun i _ => xs.length - (intOf i).toNat)
  case atStart => exact ⟨0, none, Nat.zero_le _, rfl, (by repeat (first | assumption | exact Below.refl _ _ | apply Below.al | apply Below.drewN' | apply Below.drew | (apply Below.tr; assumption))), hid rfl, hid rfl⟩
  case round =>
    obtain ⟨k, prev, hk, rfl, hb, H, HQ⟩ := hrel
    by_cases hlt : k < xs.length
    · obtain ⟨p, hp⟩ := getx hlt
      obtain ⟨b, o, rfl, hbB, c0, c1⟩ := (h.below hb (Nat.le_refl _)).at2 hp rfl
      have hsz := hb.size
      have HS : Hid (wiGo prev (xs.drop k) = (wiOk prev p && wiGo (some p) (xs.drop (k+1)))) := by rw [dropx hp]; rfl
      have b0 : b < wr.heap.size := by omega
      have b1 : b < wr.heap.size + 1 := by omega
      have HP := hid hp
      clear hp
      by_cases hk0 : 0 < k
      · obtain ⟨q, hq⟩ : ∃ q, xs[k-1]? = some q := getx (by omega)
        obtain ⟨b', o', e1, _, d0, d1⟩ := (h.below hb (Nat.le_refl _)).at2 hq rfl
        simp at e1; obtain ⟨rfl, rfl⟩ := e1
        have e0 : prev = some q := by have := HQ.out; rw [if_neg (by omega), hq] at this; exact this
        subst e0
        have hd : decide (0 < (k : Int)) = true := by simp; omega
        clear hq
        have HE : Hid (wiOk (some q) p = (inB p.f 0 10000000 && (inB p.t 0 10000000 && (decide (p.f ≤ p.t) && decide (q.t < p.f))))) := rfl
        cases v0 : inB p.f 0 10000000
        · go_wp2
          all_goals first
            | (refine wp_region_ext (by kernel_rfl) (by kernel_rfl) ?_
               repeat (go_big_quiet_step ((first | (go_at_call 58; exact ext_same (validTime_any _ _)))))
               refine wpQuiet_nil ?_
               intro w3 hb3
               obtain ⟨hc_w3, hf_w3⟩ := bcell hb3
               have hz_w3 := hb3.size
               skip
               all_goals go_wp2)
            | skip
          all_goals first
            | (go_ret
               exact ⟨ret_bool (by simp [wsB, H.out, HS.out, HE.out, *] <;> omega), (by repeat (first | assumption | exact Below.refl _ _ | apply Below.al | apply Below.drewN' | apply Below.drew | (apply Below.tr; assumption)))⟩)
            | (go_roundw
               case rel => exact ⟨k + 1, some p, by omega, by go_num, (by repeat (first | assumption | exact Below.refl _ _ | apply Below.al | apply Below.drewN' | apply Below.drew | (apply Below.tr; assumption))), hid (by rw [H.out, HS.out, HE.out]; simp [*] <;> omega), hid (by simp [HP.out])⟩
               case measure => simp [intOf]; omega)
        · cases v1 : inB p.t 0 10000000
          · go_wp2
            all_goals first
              | (refine wp_region_ext (by kernel_rfl) (by kernel_rfl) ?_
                 repeat (go_big_quiet_step ((first | (go_at_call 58; exact ext_same (validTime_any _ _)))))
                 refine wpQuiet_nil ?_
                 intro w3 hb3
                 obtain ⟨hc_w3, hf_w3⟩ := bcell hb3
                 have hz_w3 := hb3.size
                 skip
                 all_goals go_wp2)
              | skip
            all_goals first
              | (go_ret
                 exact ⟨ret_bool (by simp [wsB, H.out, HS.out, HE.out, *] <;> omega), (by repeat (first | assumption | exact Below.refl _ _ | apply Below.al | apply Below.drewN' | apply Below.drew | (apply Below.tr; assumption)))⟩)
              | (go_roundw
                 case rel => exact ⟨k + 1, some p, by omega, by go_num, (by repeat (first | assumption | exact Below.refl _ _ | apply Below.al | apply Below.drewN' | apply Below.drew | (apply Below.tr; assumption))), hid (by rw [H.out, HS.out, HE.out]; simp [*] <;> omega), hid (by simp [HP.out])⟩
                 case measure => simp [intOf]; omega)
          · by_cases g2 : p.t < p.f
            · have g2' : decide (p.t < p.f) = true := by simpa using g2
              go_wp2
              all_goals first
                | (refine wp_region_ext (by kernel_rfl) (by kernel_rfl) ?_
                   repeat (go_big_quiet_step ((first | (go_at_call 58; exact ext_same (validTime_any _ _)))))
                   refine wpQuiet_nil ?_
                   intro w3 hb3
                   obtain ⟨hc_w3, hf_w3⟩ := bcell hb3
                   have hz_w3 := hb3.size
                   skip
                   all_goals go_wp2)
                | skip
              all_goals first
                | (go_ret
                   exact ⟨ret_bool (by simp [wsB, H.out, HS.out, HE.out, *] <;> omega), (by repeat (first | assumption | exact Below.refl _ _ | apply Below.al | apply Below.drewN' | apply Below.drew | (apply Below.tr; assumption)))⟩)
                | (go_roundw
                   case rel => exact ⟨k + 1, some p, by omega, by go_num, (by repeat (first | assumption | exact Below.refl _ _ | apply Below.al | apply Below.drewN' | apply Below.drew | (apply Below.tr; assumption))), hid (by rw [H.out, HS.out, HE.out]; simp [*] <;> omega), hid (by simp [HP.out])⟩
                   case measure => simp [intOf]; omega)
            · have g2' : decide (p.t < p.f) = false := by simpa using g2
              by_cases g3 : p.f ≤ q.t
              · have g3' : decide (p.f ≤ q.t) = true := by simpa using g3
                go_wp2
                all_goals first
                  | (refine wp_region_ext (by kernel_rfl) (by kernel_rfl) ?_
                     repeat (go_big_quiet_step ((first | (go_at_call 58; exact ext_same (validTime_any _ _)))))
                     refine wpQuiet_nil ?_
                     intro w3 hb3
                     obtain ⟨hc_w3, hf_w3⟩ := bcell hb3
                     have hz_w3 := hb3.size
                     skip
                     all_goals go_wp2)
                  | skip
                all_goals first
                  | (go_ret
                     exact ⟨ret_bool (by simp [wsB, H.out, HS.out, HE.out, *] <;> omega), (by repeat (first | assumption | exact Below.refl _ _ | apply Below.al | apply Below.drewN' | apply Below.drew | (apply Below.tr; assumption)))⟩)
                  | (go_roundw
                     case rel => exact ⟨k + 1, some p, by omega, by go_num, (by repeat (first | assumption | exact Below.refl _ _ | apply Below.al | apply Below.drewN' | apply Below.drew | (apply Below.tr; assumption))), hid (by rw [H.out, HS.out, HE.out]; simp [*] <;> omega), hid (by simp [HP.out])⟩
                     case measure => simp [intOf]; omega)
              · have g3' : decide (p.f ≤ q.t) = false := by simpa using g3
                go_wp2
                all_goals first
                  | (refine wp_region_ext (by kernel_rfl) (by kernel_rfl) ?_
                     repeat (go_big_quiet_step ((first | (go_at_call 58; exact ext_same (validTime_any _ _)))))
                     refine wpQuiet_nil ?_
                     intro w3 hb3
                     obtain ⟨hc_w3, hf_w3⟩ := bcell hb3
                     have hz_w3 := hb3.size
                     skip
                     all_goals go_wp2)
                  | skip
                all_goals first
                  | (go_ret
                     exact ⟨ret_bool (by simp [wsB, H.out, HS.out, HE.out, *] <;> omega), (by repeat (first | assumption | exact Below.refl _ _ | apply Below.al | apply Below.drewN' | apply Below.drew | (apply Below.tr; assumption)))⟩)
                  | (go_roundw
                     case rel => exact ⟨k + 1, some p, by omega, by go_num, (by repeat (first | assumption | exact Below.refl _ _ | apply Below.al | apply Below.drewN' | apply Below.drew | (apply Below.tr; assumption))), hid (by rw [H.out, HS.out, HE.out]; simp [*] <;> omega), hid (by simp [HP.out])⟩
                     case measure => simp [intOf]; omega)
      · have e0 : prev = none := by have := HQ.out; rw [if_pos (by omega)] at this; exact this
        subst e0
        have hd : decide (0 < (k : Int)) = false := by simp; omega
        have HE : Hid (wiOk none p = (inB p.f 0 10000000 && (inB p.t 0 10000000 && (decide (p.f ≤ p.t) && true)))) := rfl
        cases v0 : inB p.f 0 10000000
        · go_wp2
          all_goals first
            | (refine wp_region_ext (by kernel_rfl) (by kernel_rfl) ?_
               repeat (go_big_quiet_step ((first | (go_at_call 58; exact ext_same (validTime_any _ _)))))
               refine wpQuiet_nil ?_
               intro w3 hb3
               obtain ⟨hc_w3, hf_w3⟩ := bcell hb3
               have hz_w3 := hb3.size
               skip
               all_goals go_wp2)
            | skip
          all_goals first
            | (go_ret
               exact ⟨ret_bool (by simp [wsB, H.out, HS.out, HE.out, *] <;> omega), (by repeat (first | assumption | exact Below.refl _ _ | apply Below.al | apply Below.drewN' | apply Below.drew | (apply Below.tr; assumption)))⟩)
            | (go_roundw
               case rel => exact ⟨k + 1, some p, by omega, by go_num, (by repeat (first | assumption | exact Below.refl _ _ | apply Below.al | apply Below.drewN' | apply Below.drew | (apply Below.tr; assumption))), hid (by rw [H.out, HS.out, HE.out]; simp [*] <;> omega), hid (by simp [HP.out])⟩
               case measure => simp [intOf]; omega)
        · cases v1 : inB p.t 0 10000000
          · go_wp2
            all_goals first
              | (refine wp_region_ext (by kernel_rfl) (by kernel_rfl) ?_
                 repeat (go_big_quiet_step ((first | (go_at_call 58; exact ext_same (validTime_any _ _)))))
                 refine wpQuiet_nil ?_
                 intro w3 hb3
                 obtain ⟨hc_w3, hf_w3⟩ := bcell hb3
                 have hz_w3 := hb3.size
                 skip
                 all_goals go_wp2)
              | skip
            all_goals first
              | (go_ret
                 exact ⟨ret_bool (by simp [wsB, H.out, HS.out, HE.out, *] <;> omega), (by repeat (first | assumption | exact Below.refl _ _ | apply Below.al | apply Below.drewN' | apply Below.drew | (apply Below.tr; assumption)))⟩)
              | (go_roundw
                 case rel => exact ⟨k + 1, some p, by omega, by go_num, (by repeat (first | assumption | exact Below.refl _ _ | apply Below.al | apply Below.drewN' | apply Below.drew | (apply Below.tr; assumption))), hid (by rw [H.out, HS.out, HE.out]; simp [*] <;> omega), hid (by simp [HP.out])⟩
                 case measure => simp [intOf]; omega)
          · by_cases g2 : p.t < p.f
            · have g2' : decide (p.t < p.f) = true := by simpa using g2
              go_wp2
              all_goals first
                | (refine wp_region_ext (by kernel_rfl) (by kernel_rfl) ?_
                   repeat (go_big_quiet_step ((first | (go_at_call 58; exact ext_same (validTime_any _ _)))))
                   refine wpQuiet_nil ?_
                   intro w3 hb3
                   obtain ⟨hc_w3, hf_w3⟩ := bcell hb3
                   have hz_w3 := hb3.size
                   skip
                   all_goals go_wp2)
                | skip
              all_goals first
                | (go_ret
                   exact ⟨ret_bool (by simp [wsB, H.out, HS.out, HE.out, *] <;> omega), (by repeat (first | assumption | exact Below.refl _ _ | apply Below.al | apply Below.drewN' | apply Below.drew | (apply Below.tr; assumption)))⟩)
                | (go_roundw
                   case rel => exact ⟨k + 1, some p, by omega, by go_num, (by repeat (first | assumption | exact Below.refl _ _ | apply Below.al | apply Below.drewN' | apply Below.drew | (apply Below.tr; assumption))), hid (by rw [H.out, HS.out, HE.out]; simp [*] <;> omega), hid (by simp [HP.out])⟩
                   case measure => simp [intOf]; omega)
            · have g2' : decide (p.t < p.f) = false := by simpa using g2
              go_wp2
              all_goals first
                | (refine wp_region_ext (by kernel_rfl) (by kernel_rfl) ?_
                   repeat (go_big_quiet_step ((first | (go_at_call 58; exact ext_same (validTime_any _ _)))))
                   refine wpQuiet_nil ?_
                   intro w3 hb3
                   obtain ⟨hc_w3, hf_w3⟩ := bcell hb3
                   have hz_w3 := hb3.size
                   skip
                   all_goals go_wp2)
                | skip
              all_goals first
                | (go_ret
                   exact ⟨ret_bool (by simp [wsB, H.out, HS.out, HE.out, *] <;> omega), (by repeat (first | assumption | exact Below.refl _ _ | apply Below.al | apply Below.drewN' | apply Below.drew | (apply Below.tr; assumption)))⟩)
                | (go_roundw
                   case rel => exact ⟨k + 1, some p, by omega, by go_num, (by repeat (first | assumption | exact Below.refl _ _ | apply Below.al | apply Below.drewN' | apply Below.drew | (apply Below.tr; assumption))), hid (by rw [H.out, HS.out, HE.out]; simp [*] <;> omega), hid (by simp [HP.out])⟩
                   case measure => simp [intOf]; omega)
    · have HE : Hid (wiGo none xs = true) := hid (by rw [H.out, List.drop_eq_nil_of_le (by omega)]; cases prev <;> rfl)
      go_wp2
      go_ret
      exact ⟨ret_bool (by simp [wsB, HE.out] <;> omega), (by repeat (first | assumption | exact Below.refl _ _ | apply Below.al | apply Below.drewN' | apply Below.drew | (apply Below.tr; assumption)))⟩
end Go.Proofs.Ytgdahehpofdllaa
