/- Contracts of TimesIn, in the program and in the reference. -/
import Derived.Test.YtpfdfbebeckohaaC16w
import Derived.Test.YtpfdfbebeckohaaCGrow
namespace Go.Proofs.Ytpfdfbebeckohaa
open Go.RowKit
set_option linter.unusedVariables false
theorem ephB_true {a b : Int} (h : ephB a b = true) : 0 ≤ a ∧ a ≤ 10000000 ∧ 1 ≤ b ∧ b ≤ 1000000 := by
  simp only [ephB, Bool.and_eq_true, inB_true] at h
  omega
theorem seqL_step {p to t : Int} (hp : 0 < p) (h : t ≤ to) : seqL p t (cntT p to t).toNat = t :: seqL p (t + p) (cntT p to (t + p)).toNat := by
  rw [cntT_step hp h]
  have := cntT_nn (p := p) (to := to) (t := t + p) hp
  have e : (1 + cntT p to (t + p)).toNat = (cntT p to (t + p)).toNat + 1 := by omega
  rw [e]; rfl
def tiC (a b f t : Int) : Int := if ephB a b = true then (if inB f 0 10000000 = true ∧ inB t 0 10000000 = true then (if 200 < extI a b f t then 5 else 0) else 2) else 1
def tiV (a b f t : Int) : List Int := if tiC a b f t = 0 then seqL b (nextI a b f) (extI a b f t).toNat else []
theorem tiV_len (a b f t : Int) : (tiV a b f t).length ≤ 200 := by
  unfold tiV
  split
  · rename_i h
    rw [seqL_len]
    unfold tiC at h
    repeat' split at h
    all_goals first | omega | simp at h
  · simp
set_option maxRecDepth 20000 in
set_option maxHeartbeats 2000000 in
theorem specTimesIn_any (a b f t : Int) (w : World) :
    Calls Try.prog 47 #[.agg #[.int .i64 a, .int .i64 b], .int .i64 f, .int .i64 t] w (OwnTup 2 1 encI (tiV a b f t) (tiC a b f t) w) := by
  cases hv : ephB a b
  · have HV : Hid (tiV a b f t = []) := by simp [Hid, tiV, tiC, *]
    have HC : Hid (tiC a b f t = 1) := by simp [Hid, tiC, *]
    have HCE := hid (show codeET a b f = 1 by simp [codeET, *])
    have HCN : (codeET a b f == 0) = false := by rw [HCE.out]; rfl
    have HCM : (codeET a b f != 0) = true := by rw [HCE.out]; rfl
    go_enter Try.func47, Try.ntmps47
    go_wp2_with (first | (go_at_call 84; refine (l09Code_any _ _ _ _).mono ?_; rintro e w1 ⟨rfl, hb1⟩; obtain ⟨hc_w1, hf_w1⟩ := bcell hb1; have hz_w1 := hb1.size; (try simp at hz_w1); (try have g_w1 : w.heap.size < w1.heap.size := (by omega))) | (go_at_call 85; refine (l06Time_any _ _).mono ?_; rintro e w' ⟨rfl, rfl⟩))
    go_ret2
    exact ⟨none, 0, by rw [HV.out, HC.out, HCE.out]; rfl, by rw [HV.out]; exact World.ownsRow_nil _ _ _ _, (by repeat (first | assumption | exact Below.refl _ _ | apply Below.al | apply Below.drewN' | apply Below.drew | (apply Below.tr; assumption)))⟩
  cases hf : inB f 0 10000000
  · have HV : Hid (tiV a b f t = []) := by simp [Hid, tiV, tiC, *]
    have HC : Hid (tiC a b f t = 2) := by simp [Hid, tiC, *]
    have HCE := hid (show codeET a b f = 2 by simp [codeET, *])
    have HCN : (codeET a b f == 0) = false := by rw [HCE.out]; rfl
    have HCM : (codeET a b f != 0) = true := by rw [HCE.out]; rfl
    go_enter Try.func47, Try.ntmps47
    go_wp2_with (first | (go_at_call 84; refine (l09Code_any _ _ _ _).mono ?_; rintro e w1 ⟨rfl, hb1⟩; obtain ⟨hc_w1, hf_w1⟩ := bcell hb1; have hz_w1 := hb1.size; (try simp at hz_w1); (try have g_w1 : w.heap.size < w1.heap.size := (by omega))) | (go_at_call 85; refine (l06Time_any _ _).mono ?_; rintro e w' ⟨rfl, rfl⟩))
    go_ret2
    exact ⟨none, 0, by rw [HV.out, HC.out, HCE.out]; rfl, by rw [HV.out]; exact World.ownsRow_nil _ _ _ _, (by repeat (first | assumption | exact Below.refl _ _ | apply Below.al | apply Below.drewN' | apply Below.drew | (apply Below.tr; assumption)))⟩
  cases ht : inB t 0 10000000
  · have HV : Hid (tiV a b f t = []) := by simp [Hid, tiV, tiC, *]
    have HC : Hid (tiC a b f t = 2) := by simp [Hid, tiC, *]
    have HCE := hid (show codeET a b f = 0 by simp [codeET, *])
    have HCN : (codeET a b f == 0) = true := by rw [HCE.out]; rfl
    have HCM : (codeET a b f != 0) = false := by rw [HCE.out]; rfl
    go_enter Try.func47, Try.ntmps47
    go_wp2_with (first | (go_at_call 84; refine (l09Code_any _ _ _ _).mono ?_; rintro e w1 ⟨rfl, hb1⟩; obtain ⟨hc_w1, hf_w1⟩ := bcell hb1; have hz_w1 := hb1.size; (try simp at hz_w1); (try have g_w1 : w.heap.size < w1.heap.size := (by omega))) | (go_at_call 85; refine (l06Time_any _ _).mono ?_; rintro e w' ⟨rfl, rfl⟩))
    go_ret2
    exact ⟨none, 0, by rw [HV.out, HC.out]; rfl, by rw [HV.out]; exact World.ownsRow_nil _ _ _ _, (by repeat (first | assumption | exact Below.refl _ _ | apply Below.al | apply Below.drewN' | apply Below.drew | (apply Below.tr; assumption)))⟩
  obtain ⟨h1, h2, h3, h4⟩ := ephB_true hv
  obtain ⟨h5, h6⟩ := inB_true.1 hf
  obtain ⟨h7, h8⟩ := inB_true.1 ht
  have nx := nextN_bd (e := a) (p := b) (t := f) (by omega)
  have nx1 : f ≤ nextI a b f := nx.1
  have nx2 : nextI a b f < f + b := nx.2
  have HCE := hid (show codeET a b f = 0 by simp [codeET, *])
  have HCN : (codeET a b f == 0) = true := by rw [HCE.out]; rfl
  have HCM : (codeET a b f != 0) = false := by rw [HCE.out]; rfl
  have HS := hid (And.intro hv (And.intro hf ht))
  obtain ⟨i0, hi0, iz0, iz1, iz2⟩ := info_parts (P := Try.prog) (e := 2) (z := .int .i64 0) (size := 1) (bytes := 8) (by kernel_rfl)
  go_enter Try.func47, Try.ntmps47
  go_wp2_with (first | (go_at_call 84; refine (l09Code_any _ _ _ _).mono ?_; rintro e w1 ⟨rfl, hb1⟩; obtain ⟨hc_w1, hf_w1⟩ := bcell hb1; have hz_w1 := hb1.size; (try simp at hz_w1); (try have g_w1 : w.heap.size < w1.heap.size := (by omega))) | (go_at_call 85; refine (l06Time_any _ _).mono ?_; rintro e w' ⟨rfl, rfl⟩) | (go_at_call 86; refine (l09Next_any _ _ _ _ h1 h2 h3 h4 h5 h6).mono ?_; rintro e w9 ⟨rfl, hb9⟩; obtain ⟨hc_w9, hf_w9⟩ := bcell hb9; have hz_w9 := hb9.size; (try simp at hz_w9); (try have g_w9 : w.heap.size < w9.heap.size := (by omega))))
  clear hv hf ht
  have HB1 : Hid ((w.alloc (.cells #[.int .i64 a, .int .i64 b] 63)).cell? ⟨w.heap.size, 1, none⟩ = some (.int .i64 b)) := hid (by simp [go_sem])
  go_loopw [9, 10] (fun v tv wr => ∃ (tt : Int) (ys : List Int), tv = .int .i64 tt ∧ 0 ≤ tt ∧ tt ≤ 11000000 ∧ Below (World.heap (w.alloc (.cells #[.int .i64 a, .int .i64 b] 63))).size (w.alloc (.cells #[.int .i64 a, .int .i64 b] 63)) wr ∧ wr.ownsRow (w.heap.size + 1) 2 1 v ys.length (ys.flatMap encI) ∧ Hid (seqL b (nextI a b f) (extI a b f t).toNat = ys ++ seqL b tt (cntT b (t) tt).toNat) ∧ ys.length ≤ 200) (fun _ tv _ => (t + 1 - intOf tv).toNat)
  case atStart => exact ⟨nextI a b f, [], rfl, by omega, by omega, (by repeat (first | assumption | exact Below.refl _ _ | apply Below.al | apply Below.drewN' | apply Below.drew | (apply Below.tr; assumption))), own_below (own_lit0 _ _ _ (by omega)) hb9 (Nat.le_refl _), hid rfl, by simp⟩
  case round =>
    obtain ⟨tt, ys, rfl, ht0, ht1, hb, hown, H, hl2⟩ := hrel
    obtain ⟨Ar, cr, rfl⟩ := own_shape hown
    have hl : ys.length ≤ 200 := by exact hl2
    have hsz := hb.size
    simp at hsz
    have e1 : wr.cell? ⟨w.heap.size, 1, none⟩ = some (.int .i64 b) := by rw [(bcell hb).1 (w.heap.size) 1 (by first | (simp; done) | (simp; omega))]; simp [go_sem]
    
    by_cases hlt : tt ≤ t
    · by_cases h200 : ys.length < 200
      · have hn2 : decide (200 ≤ (ys.length : Int)) = false := by simp; omega
        have HX := hid (seqL_step (p := b) (by omega) hlt)
        have H0 := hid hown
        
        clear hown
        go_wp2_with (at_builtin; go_must (refine wpList_append_own_at _ rfl _ _ 32 rfl (w.heap.size + 1) 2 i0 _ 1 8 Try.underlying32 hi0 iz0 iz1 iz2 rfl (by decide) _ _ _ rfl (H0.out.alloc _) ⟨(wr).heap.size, 0, none⟩ 1 1 [.int .i64 tt] rfl rfl (news_at wr [.int .i64 tt] 2) (by simp [Value.oneCell']) (by unfold maxLen; omega) (by omega) (by first | omega | (simp; done) | (simp; omega)) ?_); intro v2 w4 own_w4 grow_w4 _ at_w4; have hb8 : Below (World.heap (w.alloc (.cells #[.int .i64 a, .int .i64 b] 63))).size (w.alloc (.cells #[.int .i64 a, .int .i64 b] 63)) w4 := Below.ap hb hb.size H0.out (by first | (simp; done) | (simp; omega)) grow_w4; have hz8 : wr.heap.size ≤ w4.heap.size := (by have := grow_w4.size; first | omega | (simp at this; omega)); have e4 : w4.cell? ⟨w.heap.size, 1, none⟩ = some (.int .i64 b) := below_box hb8 HB1.out)
        go_roundw
        case rel => exact ⟨tt + b, ys ++ [tt], by go_num, by omega, by omega, hb8, by simpa [encI] using own_w4, hid (by rw [H.out, HX.out]; simp), by simp; omega⟩
        case measure => simp [intOf]; omega
      · have hn2 : decide (200 ≤ (ys.length : Int)) = true := by simp; omega
        have HN : 200 < extI a b f t := by
          have h9 := congrArg List.length H.out
          rw [seqL_len, List.length_append, seqL_len, cntT_step (by omega) hlt] at h9
          have := cntT_nn (p := b) (to := t) (t := tt + b) (by omega)
          omega
        have HV : Hid (tiV a b f t = []) := by simp [Hid, tiV, tiC, HS.out]; omega
        have HC : Hid (tiC a b f t = 5) := by simp [Hid, tiC, HS.out]; omega
        clear hown
        go_wp2
        go_ret2
        exact ⟨none, 0, by rw [HV.out, HC.out]; rfl, by rw [HV.out]; exact World.ownsRow_nil _ _ _ _, Below.tr hb (by repeat (first | assumption | exact Below.refl _ _ | apply Below.al | apply Below.drewN' | apply Below.drew | (apply Below.tr; assumption)))⟩
    · have HE : Hid (seqL b (nextI a b f) (extI a b f t).toNat = ys) := hid (by have := H.out; rw [cntT_zero (by omega)] at this; simpa [seqL] using this)
      have HM : ¬ 200 < extI a b f t := by
        have h9 := congrArg List.length HE.out
        rw [seqL_len] at h9
        omega
      have HV : Hid (tiV a b f t = seqL b (nextI a b f) (extI a b f t).toNat) := by simp [Hid, tiV, tiC, HS.out]; omega
      have HC : Hid (tiC a b f t = 0) := by simp [Hid, tiC, HS.out]; omega
      have H0 := hid hown
      clear hown
      go_wp2
      go_ret2
      exact ⟨Ar, cr, by rw [HV.out, HC.out, HE.out]; simp, by rw [HV.out, HE.out]; exact own_lo H0.out (Nat.le_succ _), Below.tr hb (by repeat (first | assumption | exact Below.refl _ _ | apply Below.al | apply Below.drewN' | apply Below.drew | (apply Below.tr; assumption)))⟩
set_option maxRecDepth 20000 in
set_option maxHeartbeats 2000000 in
theorem implTimesIn_any (a b f t : Int) (w : World) :
    Calls Try.prog 49 #[.agg #[.int .i64 a, .int .i64 b], .int .i64 f, .int .i64 t] w (OwnTup 2 1 encI (tiV a b f t) (tiC a b f t) w) := by
  cases hv : ephB a b
  · have HV : Hid (tiV a b f t = []) := by simp [Hid, tiV, tiC, *]
    have HC : Hid (tiC a b f t = 1) := by simp [Hid, tiC, *]
    go_enter Try.func49, Try.ntmps49
    go_wp2_with (first | (go_at_call 87; refine (validEphemeris_any _ _ _).mono ?_; rintro e w1 ⟨rfl, hb1⟩; obtain ⟨hc_w1, hf_w1⟩ := bcell hb1; have hz_w1 := hb1.size; (try simp at hz_w1); (try have g_w1 : w.heap.size < w1.heap.size := (by omega))) | (go_at_call 88; refine (validTime_any _ _).mono ?_; rintro e w' ⟨rfl, rfl⟩))
    go_ret2
    exact ⟨none, 0, by rw [HV.out, HC.out]; rfl, by rw [HV.out]; exact World.ownsRow_nil _ _ _ _, (by repeat (first | assumption | exact Below.refl _ _ | apply Below.al | apply Below.drewN' | apply Below.drew | (apply Below.tr; assumption)))⟩
  cases hf : inB f 0 10000000
  · have HV : Hid (tiV a b f t = []) := by simp [Hid, tiV, tiC, *]
    have HC : Hid (tiC a b f t = 2) := by simp [Hid, tiC, *]
    go_enter Try.func49, Try.ntmps49
    go_wp2_with (first | (go_at_call 87; refine (validEphemeris_any _ _ _).mono ?_; rintro e w1 ⟨rfl, hb1⟩; obtain ⟨hc_w1, hf_w1⟩ := bcell hb1; have hz_w1 := hb1.size; (try simp at hz_w1); (try have g_w1 : w.heap.size < w1.heap.size := (by omega))) | (go_at_call 88; refine (validTime_any _ _).mono ?_; rintro e w' ⟨rfl, rfl⟩))
    go_ret2
    exact ⟨none, 0, by rw [HV.out, HC.out]; rfl, by rw [HV.out]; exact World.ownsRow_nil _ _ _ _, (by repeat (first | assumption | exact Below.refl _ _ | apply Below.al | apply Below.drewN' | apply Below.drew | (apply Below.tr; assumption)))⟩
  cases ht : inB t 0 10000000
  · have HV : Hid (tiV a b f t = []) := by simp [Hid, tiV, tiC, *]
    have HC : Hid (tiC a b f t = 2) := by simp [Hid, tiC, *]
    go_enter Try.func49, Try.ntmps49
    go_wp2_with (first | (go_at_call 87; refine (validEphemeris_any _ _ _).mono ?_; rintro e w1 ⟨rfl, hb1⟩; obtain ⟨hc_w1, hf_w1⟩ := bcell hb1; have hz_w1 := hb1.size; (try simp at hz_w1); (try have g_w1 : w.heap.size < w1.heap.size := (by omega))) | (go_at_call 88; refine (validTime_any _ _).mono ?_; rintro e w' ⟨rfl, rfl⟩))
    go_ret2
    exact ⟨none, 0, by rw [HV.out, HC.out]; rfl, by rw [HV.out]; exact World.ownsRow_nil _ _ _ _, (by repeat (first | assumption | exact Below.refl _ _ | apply Below.al | apply Below.drewN' | apply Below.drew | (apply Below.tr; assumption)))⟩
  obtain ⟨h1, h2, h3, h4⟩ := ephB_true hv
  obtain ⟨h5, h6⟩ := inB_true.1 hf
  obtain ⟨h7, h8⟩ := inB_true.1 ht
  have nx := nextN_bd (e := a) (p := b) (t := f) (by omega)
  have nx1 : f ≤ nextI a b f := nx.1
  have nx2 : nextI a b f < f + b := nx.2
  by_cases hm : 200 < extI a b f t
  · have HV : Hid (tiV a b f t = []) := by simp [Hid, tiV, tiC, hv, hf, ht]; omega
    have HC : Hid (tiC a b f t = 5) := by simp [Hid, tiC, hv, hf, ht]; omega
    go_enter Try.func49, Try.ntmps49
    go_wp2_with (first | (go_at_call 87; refine (validEphemeris_any _ _ _).mono ?_; rintro e w1 ⟨rfl, hb1⟩; obtain ⟨hc_w1, hf_w1⟩ := bcell hb1; have hz_w1 := hb1.size; (try simp at hz_w1); (try have g_w1 : w.heap.size < w1.heap.size := (by omega))) | (go_at_call 88; refine (validTime_any _ _).mono ?_; rintro e w' ⟨rfl, rfl⟩) | (go_at_call 89; refine (extremaIn_any _ _ _ _ _ h1 h2 h3 h4 h5 h6 h7 h8).mono ?_; rintro e w2 ⟨rfl, hb2⟩; obtain ⟨hc_w2, hf_w2⟩ := bcell hb2; have hz_w2 := hb2.size; (try simp at hz_w2); (try have g_w2 : w.heap.size < w2.heap.size := (by omega))))
    go_ret2
    exact ⟨none, 0, by rw [HV.out, HC.out]; rfl, by rw [HV.out]; exact World.ownsRow_nil _ _ _ _, (by repeat (first | assumption | exact Below.refl _ _ | apply Below.al | apply Below.drewN' | apply Below.drew | (apply Below.tr; assumption)))⟩
  have HV : Hid (tiV a b f t = seqL b (nextI a b f) (extI a b f t).toNat) := by simp [Hid, tiV, tiC, hv, hf, ht]; omega
  have HC : Hid (tiC a b f t = 0) := by simp [Hid, tiC, hv, hf, ht]; omega
  obtain ⟨i0, hi0, iz0, iz1, iz2⟩ := info_parts (P := Try.prog) (e := 2) (z := .int .i64 0) (size := 1) (bytes := 8) (by kernel_rfl)
  go_enter Try.func49, Try.ntmps49
  go_wp2_with (first | (go_at_call 87; refine (validEphemeris_any _ _ _).mono ?_; rintro e w1 ⟨rfl, hb1⟩; obtain ⟨hc_w1, hf_w1⟩ := bcell hb1; have hz_w1 := hb1.size; (try simp at hz_w1); (try have g_w1 : w.heap.size < w1.heap.size := (by omega))) | (go_at_call 88; refine (validTime_any _ _).mono ?_; rintro e w' ⟨rfl, rfl⟩) | (go_at_call 89; refine (extremaIn_any _ _ _ _ _ h1 h2 h3 h4 h5 h6 h7 h8).mono ?_; rintro e w2 ⟨rfl, hb2⟩; obtain ⟨hc_w2, hf_w2⟩ := bcell hb2; have hz_w2 := hb2.size; (try simp at hz_w2); (try have g_w2 : w.heap.size < w2.heap.size := (by omega))) | (go_at_call 90; refine (next_any _ _ _ _ h1 h2 h3 h4 h5 h6).mono ?_; rintro e w9 ⟨rfl, hb9⟩; obtain ⟨hc_w9, hf_w9⟩ := bcell hb9; have hz_w9 := hb9.size; (try simp at hz_w9); (try have g_w9 : w.heap.size < w9.heap.size := (by omega))))
  have HB1 : Hid ((w.alloc (.cells #[.int .i64 a, .int .i64 b] 63)).cell? ⟨w.heap.size, 1, none⟩ = some (.int .i64 b)) := hid (by simp [go_sem])
  go_loopw [8, 9] (fun v tv wr => ∃ (tt : Int) (ys : List Int), tv = .int .i64 tt ∧ 0 ≤ tt ∧ tt ≤ 11000000 ∧ Below (World.heap (w.alloc (.cells #[.int .i64 a, .int .i64 b] 63))).size (w.alloc (.cells #[.int .i64 a, .int .i64 b] 63)) wr ∧ wr.ownsRow (w.heap.size + 1) 2 1 v ys.length (ys.flatMap encI) ∧ Hid (seqL b (nextI a b f) (extI a b f t).toNat = ys ++ seqL b tt (cntT b (t) tt).toNat)) (fun _ tv _ => (t + 1 - intOf tv).toNat)
  case atStart => exact ⟨nextI a b f, [], rfl, by omega, by omega, (by repeat (first | assumption | exact Below.refl _ _ | apply Below.al | apply Below.drewN' | apply Below.drew | (apply Below.tr; assumption))), own_below (own_lit0 _ _ _ (by omega)) hb9 (Nat.le_refl _), hid rfl⟩
  case round =>
    obtain ⟨tt, ys, rfl, ht0, ht1, hb, hown, H⟩ := hrel
    obtain ⟨Ar, cr, rfl⟩ := own_shape hown
    have hl : ys.length ≤ 200 := by have h9 := congrArg List.length H.out; rw [seqL_len, List.length_append] at h9; omega
    have hsz := hb.size
    simp at hsz
    have e1 : wr.cell? ⟨w.heap.size, 1, none⟩ = some (.int .i64 b) := by rw [(bcell hb).1 (w.heap.size) 1 (by first | (simp; done) | (simp; omega))]; simp [go_sem]
    
    by_cases hlt : tt ≤ t
    · have HX := hid (seqL_step (p := b) (by omega) hlt)
      have H0 := hid hown
      
      clear hown
      go_wp2_with (at_builtin; go_must (refine wpList_append_own_at _ rfl _ _ 32 rfl (w.heap.size + 1) 2 i0 _ 1 8 Try.underlying32 hi0 iz0 iz1 iz2 rfl (by decide) _ _ _ rfl (H0.out.alloc _) ⟨(wr).heap.size, 0, none⟩ 1 1 [.int .i64 tt] rfl rfl (news_at wr [.int .i64 tt] 2) (by simp [Value.oneCell']) (by unfold maxLen; omega) (by omega) (by first | omega | (simp; done) | (simp; omega)) ?_); intro v2 w4 own_w4 grow_w4 _ at_w4; have hb8 : Below (World.heap (w.alloc (.cells #[.int .i64 a, .int .i64 b] 63))).size (w.alloc (.cells #[.int .i64 a, .int .i64 b] 63)) w4 := Below.ap hb hb.size H0.out (by first | (simp; done) | (simp; omega)) grow_w4; have hz8 : wr.heap.size ≤ w4.heap.size := (by have := grow_w4.size; first | omega | (simp at this; omega)); have e4 : w4.cell? ⟨w.heap.size, 1, none⟩ = some (.int .i64 b) := below_box hb8 HB1.out)
      go_roundw
      case rel => exact ⟨tt + b, ys ++ [tt], by go_num, by omega, by omega, hb8, by simpa [encI] using own_w4, hid (by rw [H.out, HX.out]; simp)⟩
      case measure => simp [intOf]; omega
    · have HE : Hid (seqL b (nextI a b f) (extI a b f t).toNat = ys) := hid (by have := H.out; rw [cntT_zero (by omega)] at this; simpa [seqL] using this)
      have H0 := hid hown
      clear hown
      go_wp2
      go_ret2
      exact ⟨Ar, cr, by rw [HV.out, HC.out, HE.out]; simp, by rw [HV.out, HE.out]; exact own_lo H0.out (Nat.le_succ _), Below.tr hb (by repeat (first | assumption | exact Below.refl _ _ | apply Below.al | apply Below.drewN' | apply Below.drew | (apply Below.tr; assumption)))⟩
end Go.Proofs.Ytpfdfbebeckohaa
