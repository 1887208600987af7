/- Contracts of VisibleTimes and NextVisible, in the program and in the reference. -/
import Derived.Test.YthlolfhjnfkcfaaC16t
namespace Go.Proofs.Ythlolfhjnfkcfaa
open Go.RowKit
set_option linter.unusedVariables false
def wkC (a b : Int) (xs : List Wi) : Int := if ephB a b = true ∧ wsB xs = true then 0 else 1
def ftC (a b : Int) (xs : List Wi) (r : Bool) : Int := if ephB a b = true ∧ wsB xs = true then (if r = true then 0 else 2) else 1
theorem ftC_wk (a b : Int) (xs : List Wi) : ftC a b xs true = wkC a b xs := by simp [ftC, wkC]
theorem wkC_one {a b : Int} {xs : List Wi} (h : ¬ wkC a b xs = 0) : wkC a b xs = 1 := by
  unfold wkC at h ⊢; split <;> simp_all
theorem wkC_zero {a b : Int} {xs : List Wi} (h : wkC a b xs = 0) : ephB a b = true ∧ wsB xs = true := by
  unfold wkC at h; split at h
  · assumption
  · simp at h
theorem ftC_zero {a b : Int} {xs : List Wi} {r : Bool} (h : ftC a b xs r = 0) : ephB a b = true ∧ wsB xs = true ∧ r = true := by
  unfold ftC at h
  split at h
  · rename_i h1
    split at h
    · exact ⟨h1.1, h1.2, by assumption⟩
    · simp at h
  · simp at h
def vtS (a b : Int) : List Wi → Int
  | [] => 0
  | x :: r => extI a b x.f x.t + vtS a b r
def vtL (a b : Int) : List Wi → List Int
  | [] => []
  | x :: r => seqL b (nextI a b x.f) (extI a b x.f x.t).toNat ++ vtL a b r
theorem vtS_nn {a b : Int} (hb : 1 ≤ b) : ∀ xs : List Wi, 0 ≤ vtS a b xs
  | [] => by simp [vtS]
  | x :: r => by
    have h1 := vtS_nn (a := a) hb r
    have h2 := extI_nn (e := a) (f := x.f) (t := x.t) (p := b) (by omega)
    simp only [vtS]; omega
theorem vtL_len {a b : Int} {xs : List Wi} (hb : 1 ≤ b) : (vtL a b xs).length = (vtS a b xs).toNat := by
  induction xs with
  | nil => rfl
  | cons x r ih =>
    have h1 := vtS_nn (a := a) hb r
    have h2 := extI_nn (e := a) (f := x.f) (t := x.t) (p := b) (by omega)
    simp only [vtL, vtS, List.length_append, seqL_len, ih]
    omega
def vtC (a b : Int) (xs : List Wi) : Int := if wkC a b xs = 0 then (if 200 < vtS a b xs then 5 else 0) else 1
def vtV (a b : Int) (xs : List Wi) : List Int := if vtC a b xs = 0 then vtL a b xs else []
theorem vtV_len (a b : Int) (xs : List Wi) : (vtV a b xs).length ≤ 200 := by
  unfold vtV
  split
  · rename_i h
    unfold vtC at h
    split at h
    · rename_i h0
      obtain ⟨hv, _⟩ := wkC_zero h0
      obtain ⟨_, _, h3, _⟩ := ephB_true hv
      split at h
      · simp at h
      · rw [vtL_len h3]; omega
    · simp at h
  · simp
def nvGo (a b tm : Int) : List Wi → Option Int
  | [] => none
  | x :: r => if nextI a b (maxI tm x.f) ≤ x.t then some (nextI a b (maxI tm x.f)) else nvGo a b tm r
def nvV (a b : Int) (xs : List Wi) (tm : Int) : Int := if ftC a b xs (inB tm 0 10000000) = 0 then (nvGo a b tm xs).getD 0 else 0
def nvC (a b : Int) (xs : List Wi) (tm : Int) : Int := if ftC a b xs (inB tm 0 10000000) = 0 then (if nvGo a b tm xs = none then 3 else 0) else ftC a b xs (inB tm 0 10000000)
theorem validTime_eq {m : Int} {v : Bool} (h : inB m 0 10000000 = v) (w : World) :
    Calls Try.prog 23 #[.int .i64 m] w fun e w' => e = .returned (.bool v) ∧ w = w' := by
  subst h; exact validTime_any m w
theorem fits_any (A : Option Addr) (c : Nat) (xs : List Wi) (a b : Int) (r : Bool) (w : World) (h : Rd encWi 2 w w.heap.size A xs) (hn : xs.length ≤ 1048576) :
    Calls Try.prog 18 #[.agg #[.int .i64 a, .int .i64 b], .slice A xs.length c, .bool r] w fun e w' => e = .returned (.int .i64 (ftC a b xs r)) ∧ Below w.heap.size w w' := by
  cases h1 : ephB a b <;> cases h2 : wsB xs <;> cases r
  all_goals
    go_enter Try.func18, Try.ntmps18
    go_wp2_with (first | (go_at_call 32; refine (validEphemeris_any _ _ _).mono ?_; rintro e w1 ⟨rfl, hb1⟩; obtain ⟨hc_w1, hf_w1⟩ := bcell hb1; have hz_w1 := hb1.size; (try simp at hz_w1); (try have g_w1 : w.heap.size < w1.heap.size := (by omega)); have rd1 : Rd encWi 2 w1 w1.heap.size A xs := ((h.below (B' := w.heap.size) (by repeat (first | assumption | exact Below.refl _ _ | apply Below.al | apply Below.drewN' | apply Below.drew | (apply Below.tr; assumption))) (Nat.le_refl _)).more (by omega))) | (go_at_call 33; refine (validWindows_any A c xs _ rd1 hn).mono ?_; rintro e w2 ⟨rfl, hb2⟩; obtain ⟨hc_w2, hf_w2⟩ := bcell hb2; have hz_w2 := hb2.size))
    go_ret
    exact ⟨ret_int (by simp [ftC, h1, h2]), (by repeat (first | assumption | exact Below.refl _ _ | apply Below.al | apply Below.drewN' | apply Below.drew | (apply Below.tr; assumption)))⟩
set_option maxRecDepth 20000 in
set_option maxHeartbeats 4000000 in
theorem implVisibleTimes_any (a b : Int) (A : Option Addr) (c : Nat) (xs : List Wi) (w : World) (h : Rd encWi 2 w w.heap.size A xs) (hn : xs.length ≤ 1048576) :
    Calls Try.prog 8 #[.agg #[.int .i64 a, .int .i64 b], .slice A xs.length c] w (OwnTup 2 1 encI (vtV a b xs) (vtC a b xs) w) := by
  by_cases hc : wkC a b xs = 0
  rotate_left
  · have hc1 : wkC a b xs = 1 := wkC_one hc
    have HV : Hid (vtV a b xs = []) := by simp [Hid, vtV, vtC, hc]
    have HC : Hid (vtC a b xs = 1) := by simp [Hid, vtC, hc]
    have HW := hid hc1
    have HF : Hid (ftC a b xs true = 1) := hid (by rw [ftC_wk]; exact hc1)
    go_enter Try.func8, Try.ntmps8
    go_wp2_with (first | (go_at_call 18; refine (fits_any A c xs _ _ _ _ ((h.below (B' := w.heap.size) (by repeat (first | assumption | exact Below.refl _ _ | apply Below.al | apply Below.drewN' | apply Below.drew | (apply Below.tr; assumption))) (Nat.le_refl _)).more (by first | (simp; done) | (simp; omega))) hn).mono ?_; rw [HF.out]; rintro e w1 ⟨rfl, hb1⟩; obtain ⟨hc_w1, hf_w1⟩ := bcell hb1; have hz_w1 := hb1.size; (try simp at hz_w1); (try have g_w1 : w.heap.size < w1.heap.size := (by omega))))
    go_ret2
    exact ⟨none, 0, by rw [HV.out, HC.out]; rfl, by rw [HV.out]; exact World.ownsRow_nil _ _ _ _, (by repeat (first | assumption | exact Below.refl _ _ | apply Below.al | apply Below.drewN' | apply Below.drew | (apply Below.tr; assumption)))⟩
  obtain ⟨hv, hw⟩ := wkC_zero hc
  obtain ⟨h1, h2, h3, h4⟩ := ephB_true hv
  have V := hid (wsB_at hw)
  have hlen := wsB_len hw
  have HF : Hid (ftC a b xs true = 0) := hid (by rw [ftC_wk]; exact hc)
  skip
  have HVL := hid (vtL_len (a := a) (xs := xs) h3)
  have HCV := hid (show vtC a b xs = if 200 < vtS a b xs then 5 else 0 by unfold vtC; rw [if_pos hc])
  have HVV := hid (show vtV a b xs = if vtC a b xs = 0 then vtL a b xs else [] from rfl)
  have HW := hid hc
  clear hc hv hw
  obtain ⟨i0, hi0, iz0, iz1, iz2⟩ := info_parts (P := Try.prog) (e := 2) (z := .int .i64 0) (size := 1) (bytes := 8) (by kernel_rfl)
  go_enter Try.func8, Try.ntmps8
  go_wp2_with (go_at_call 18; refine (fits_any A c xs _ _ _ _ ((h.below (B' := w.heap.size) (by repeat (first | assumption | exact Below.refl _ _ | apply Below.al | apply Below.drewN' | apply Below.drew | (apply Below.tr; assumption))) (Nat.le_refl _)).more (by first | (simp; done) | (simp; omega))) hn).mono ?_; rw [HF.out]; rintro e w1 ⟨rfl, hb1⟩; obtain ⟨hc_w1, hf_w1⟩ := bcell hb1; have hz_w1 := hb1.size; (try simp at hz_w1); (try have g_w1 : w.heap.size < w1.heap.size := (by omega)))
  go_loopw [7, 22] (fun tot i wr => ∃ (k : Nat) (m : Int), k ≤ xs.length ∧ i = .int .i64 k ∧ tot = .int .i64 m ∧ 0 ≤ m ∧ m ≤ k * 10000001 ∧ Below (World.heap (w.alloc (.cells #[.int .i64 a, .int .i64 b] 25))).size (w.alloc (.cells #[.int .i64 a, .int .i64 b] 25)) wr ∧ Hid (vtS a b xs = m + vtS a b (xs.drop k))) (fun _ i _ => xs.length - (intOf i).toNat)
  case atStart => exact ⟨0, 0, Nat.zero_le _, rfl, rfl, by omega, by omega, (by repeat (first | assumption | exact Below.refl _ _ | apply Below.al | apply Below.drewN' | apply Below.drew | (apply Below.tr; assumption))), hid (by simp)⟩
  case round =>
  obtain ⟨k, m, hk, rfl, rfl, hm0, hm1, hb, H⟩ := hrel
  have hbw : Below w.heap.size w wr := Below.tr hb (by repeat (first | assumption | exact Below.refl _ _ | apply Below.al | apply Below.drewN' | apply Below.drew | (apply Below.tr; assumption)))
  have hsz := hb.size
  simp at hsz
  have g0 : w.heap.size < wr.heap.size := by omega
  have e0 : wr.cell? ⟨w.heap.size, 0, none⟩ = some (.int .i64 a) := by rw [(bcell hb).1 (w.heap.size) 0 (by first | (simp; done) | (simp; omega))]; simp [go_sem]
  have e1 : wr.cell? ⟨w.heap.size, 1, none⟩ = some (.int .i64 b) := by rw [(bcell hb).1 (w.heap.size) 1 (by first | (simp; done) | (simp; omega))]; simp [go_sem]
  by_cases hlt : k < xs.length
  · obtain ⟨p, hp⟩ := getx hlt
    obtain ⟨bb, o, rfl, hbB, c0, c1⟩ := (h.below hbw (Nat.le_refl _)).at2 hp rfl
    have HC1 : Hid (w.cell? ⟨bb, o + k * 2 + 1, none⟩ = some (.int .i64 p.t)) := by
      obtain ⟨b9, o9, e9, _, _, d9⟩ := h.at2 hp rfl
      simp at e9; obtain ⟨rfl, rfl⟩ := e9
      exact hid d9
    obtain ⟨p1, p2, p3, p4, p5⟩ := V.out k p hp
    have b0 : bb < wr.heap.size := by omega
    have HS : Hid (vtS a b (xs.drop k) = extI a b p.f p.t + vtS a b (xs.drop (k+1))) := by rw [dropx hp]; rfl
    have q0 := extI_nn (e := a) (f := p.f) (t := p.t) h3
    have q1 := extI_le (e := a) (t := p.t) h3 p1 p4
    clear hp
    go_wp2_with (go_at_call 19; refine (extremaIn_any _ _ _ _ _ h1 h2 h3 h4 p1 p2 p3 p4).mono ?_; rintro e w9 ⟨rfl, hb9⟩; obtain ⟨hc_w9, hf_w9⟩ := bcell hb9; have hz_w9 := hb9.size; (try simp at hz_w9); (try have g_w9 : w.heap.size < w9.heap.size := (by omega)))
    go_roundw
    case rel => exact ⟨k + 1, m + extI a b p.f p.t, by omega, by go_num, rfl, by omega, by push_cast; omega, (by repeat (first | assumption | exact Below.refl _ _ | apply Below.al | apply Below.drewN' | apply Below.drew | (apply Below.tr; assumption))), hid (by rw [H.out, HS.out]; omega)⟩
    case measure => simp [intOf]; omega
  have HE : Hid (vtS a b xs = m) := hid (by rw [H.out, List.drop_eq_nil_of_le (by omega)]; simp [vtS])
  by_cases h200 : 200 < m
  · have HC : Hid (vtC a b xs = 5) := hid (by rw [HCV.out, HE.out, if_pos h200])
    have HV : Hid (vtV a b xs = []) := hid (by rw [HVV.out, HC.out]; rfl)
    go_wp2
    go_ret2
    exact ⟨none, 0, by rw [HV.out, HC.out]; rfl, by rw [HV.out]; exact World.ownsRow_nil _ _ _ _, (by repeat (first | assumption | exact Below.refl _ _ | apply Below.al | apply Below.drewN' | apply Below.drew | (apply Below.tr; assumption)))⟩
  have HC : Hid (vtC a b xs = 0) := hid (by rw [HCV.out, HE.out, if_neg h200])
  have HV : Hid (vtV a b xs = vtL a b xs) := hid (by rw [HVV.out, HC.out]; rfl)
  have HLn : Hid ((vtL a b xs).length ≤ 200) := hid (by rw [HVL.out, HE.out]; omega)
  go_wp2
  clear hlt hk hm1
  go_loopw [10, 40] (fun v i wr => ∃ (k : Nat) (zs : List Int), k ≤ xs.length ∧ i = .int .i64 k ∧ Below (World.heap (w.alloc (.cells #[.int .i64 a, .int .i64 b] 25))).size (w.alloc (.cells #[.int .i64 a, .int .i64 b] 25)) wr ∧ wr.ownsRow (w.heap.size + 1) 2 1 v zs.length (zs.flatMap encI) ∧ Hid (vtL a b xs = zs ++ vtL a b (xs.drop k))) (fun _ i _ => xs.length - (intOf i).toNat)
  case atStart => exact ⟨0, [], Nat.zero_le _, rfl, (by repeat (first | assumption | exact Below.refl _ _ | apply Below.al | apply Below.drewN' | apply Below.drew | (apply Below.tr; assumption))), own_lit0 _ _ _ (by omega), hid rfl⟩
  case round =>
  clear HE H hm0 h200
  obtain ⟨k, zs, hk, rfl, hb, hown, HV9⟩ := hrel
  obtain ⟨Ar, cr, rfl⟩ := own_shape hown
  have hbw : Below w.heap.size w wr := Below.tr hb (by repeat (first | assumption | exact Below.refl _ _ | apply Below.al | apply Below.drewN' | apply Below.drew | (apply Below.tr; assumption)))
  have hsz := hb.size
  simp at hsz
  have g0 : w.heap.size < wr.heap.size := by omega
  have e0 : wr.cell? ⟨w.heap.size, 0, none⟩ = some (.int .i64 a) := by rw [(bcell hb).1 (w.heap.size) 0 (by first | (simp; done) | (simp; omega))]; simp [go_sem]
  have e1 : wr.cell? ⟨w.heap.size, 1, none⟩ = some (.int .i64 b) := by rw [(bcell hb).1 (w.heap.size) 1 (by first | (simp; done) | (simp; omega))]; simp [go_sem]
  by_cases hlt : k < xs.length
  · obtain ⟨p, hp⟩ := getx hlt
    obtain ⟨bb, o, rfl, hbB, c0, c1⟩ := (h.below hbw (Nat.le_refl _)).at2 hp rfl
    have HC1 : Hid (w.cell? ⟨bb, o + k * 2 + 1, none⟩ = some (.int .i64 p.t)) := by
      obtain ⟨b9, o9, e9, _, _, d9⟩ := h.at2 hp rfl
      simp at e9; obtain ⟨rfl, rfl⟩ := e9
      exact hid d9
    obtain ⟨p1, p2, p3, p4, p5⟩ := V.out k p hp
    have b0 : bb < wr.heap.size := by omega
    have HS9 : Hid (vtL a b (xs.drop k) = seqL b (nextI a b p.f) (extI a b p.f p.t).toNat ++ vtL a b (xs.drop (k+1))) := by rw [dropx hp]; rfl
    have nx := nextN_bd (e := a) (p := b) (t := p.f) (by omega)
    have nx1 : p.f ≤ nextI a b p.f := nx.1
    have nx2 : nextI a b p.f < p.f + b := nx.2
    obtain ⟨w0, rfl⟩ : ∃ w0, w0 = wr := ⟨_, rfl⟩
    have H0 := hid hown
    clear hp hown
    go_wp2_with (go_at_call 20; refine (next_any _ _ _ _ h1 h2 h3 h4 p1 p2).mono ?_; rintro e w9 ⟨rfl, hb9⟩; obtain ⟨hc_w9, hf_w9⟩ := bcell hb9; have hz_w9 := hb9.size; (try simp at hz_w9); (try have g_w9 : w.heap.size < w9.heap.size := (by omega)))
    have hX : Below w0.heap.size w0 w9 := (by repeat (first | assumption | exact Below.refl _ _ | apply Below.al | apply Below.drewN' | apply Below.drew | (apply Below.tr; assumption)))
    have H1 := hid (own_below H0.out hX (Nat.le_refl _))
    have x1 : w9.cell? ⟨w0.heap.size, 1, none⟩ = some (.int .i64 p.t) := (hc_w9 (w0.heap.size) 1 (by first | (simp; done) | (simp; omega))).trans (by simp [go_sem])
    have gz : w0.heap.size < w9.heap.size := by omega
    have hbW9 : Below (World.heap (w.alloc (.cells #[.int .i64 a, .int .i64 b] 25))).size (w.alloc (.cells #[.int .i64 a, .int .i64 b] 25)) w9 := (by repeat (first | assumption | exact Below.refl _ _ | apply Below.al | apply Below.drewN' | apply Below.drew | (apply Below.tr; assumption)))
    have HB1 : Hid ((w.alloc (.cells #[.int .i64 a, .int .i64 b] 25)).cell? ⟨w.heap.size, 1, none⟩ = some (.int .i64 b)) := hid (by simp [go_sem])
    go_loopw [10, 13] (fun v tv wr => ∃ (tt : Int) (ys : List Int), tv = .int .i64 tt ∧ 0 ≤ tt ∧ tt ≤ 11000000 ∧ Below (World.heap (w.alloc (.cells #[.int .i64 a, .int .i64 b] 25))).size (w.alloc (.cells #[.int .i64 a, .int .i64 b] 25)) wr ∧ wr.ownsRow (w.heap.size + 1) 2 1 v ys.length (ys.flatMap encI) ∧ Hid (vtL a b xs = ys ++ seqL b tt (cntT b (p.t) tt).toNat ++ vtL a b (xs.drop (k+1))) ∧ wr.cell? ⟨w0.heap.size, 1, none⟩ = some (.int .i64 (p.t)) ∧ v.ownBlock ≠ some (w0.heap.size) ∧ w0.heap.size < wr.heap.size) (fun _ tv _ => (p.t + 1 - intOf tv).toNat)
    case atStart => exact ⟨nextI a b p.f, zs, rfl, by omega, by omega, hbW9, H1.out, hid (by rw [HV9.out, HS9.out, List.append_assoc]; rfl), x1, own_lt H0.out (Nat.le_refl _), gz⟩
    case round =>
      obtain ⟨tt, ys, rfl, ht0, ht1, hb, hown, H, x1, ag, gz⟩ := hrel
      obtain ⟨Ar, cr, rfl⟩ := own_shape hown
      have hl : ys.length ≤ 200 := by have h9 := congrArg List.length H.out; rw [List.length_append, List.length_append] at h9; have h8 := HLn.out; omega
      have hsz := hb.size
      simp at hsz
      have e1 : wr.cell? ⟨w.heap.size, 1, none⟩ = some (.int .i64 b) := by rw [(bcell hb).1 (w.heap.size) 1 (by first | (simp; done) | (simp; omega))]; simp [go_sem]
      
      by_cases hlt : tt ≤ p.t
      · have HX := hid (seqL_step (p := b) (by omega) hlt)
        have H0 := hid hown
        
        clear hown
        go_wp2_with (at_builtin; go_must (refine wpList_append_own_at _ rfl _ _ 29 rfl (w.heap.size + 1) 2 i0 _ 1 8 Try.underlying29 hi0 iz0 iz1 iz2 rfl (by decide) _ _ _ rfl (H0.out.alloc _) ⟨(wr).heap.size, 0, none⟩ 1 1 [.int .i64 tt] rfl rfl (news_at wr [.int .i64 tt] 2) (by simp [Value.oneCell']) (by unfold maxLen; omega) (by omega) (by first | omega | (simp; done) | (simp; omega)) ?_); intro v2 w4 own_w4 grow_w4 _ at_w4; have hb8 : Below (World.heap (w.alloc (.cells #[.int .i64 a, .int .i64 b] 25))).size (w.alloc (.cells #[.int .i64 a, .int .i64 b] 25)) w4 := Below.ap hb hb.size H0.out (by first | (simp; done) | (simp; omega)) grow_w4; have hz8 : wr.heap.size ≤ w4.heap.size := (by have := grow_w4.size; first | omega | (simp at this; omega)); have e4 : w4.cell? ⟨w.heap.size, 1, none⟩ = some (.int .i64 b) := below_box hb8 HB1.out)
        go_roundw
        case rel => exact ⟨tt + b, ys ++ [tt], by go_num, by omega, by omega, hb8, by simpa [encI] using own_w4, hid (by rw [H.out, HX.out]; simp), grow_box grow_w4 ag gz x1, grow_ne at_w4 ag gz, Nat.lt_of_lt_of_le gz hz8⟩
        case measure => simp [intOf]; omega
      · have HE : Hid (vtL a b xs = ys ++ vtL a b (xs.drop (k+1))) := hid (by have := H.out; rw [cntT_zero (by omega)] at this; simpa [seqL] using this)
        have H0 := hid hown
        clear hown
        go_wp2
        go_roundw
        case rel => exact ⟨k + 1, ys, by omega, by go_num, hb, H0.out, HE⟩
        case measure => simp [intOf]; omega
  · have HE : Hid (vtL a b xs = zs) := hid (by rw [HV9.out, List.drop_eq_nil_of_le (by omega)]; simp [vtL])
    have H0 := hid hown
    clear hown
    go_wp2
    go_ret2
    exact ⟨Ar, cr, by rw [HV.out, HC.out, HE.out]; simp, by rw [HV.out, HE.out]; exact own_lo H0.out (Nat.le_succ _), hbw⟩
set_option maxRecDepth 20000 in
set_option maxHeartbeats 4000000 in
theorem implNextVisible_any (a b : Int) (A : Option Addr) (c : Nat) (xs : List Wi) (tm : Int) (w : World) (h : Rd encWi 2 w w.heap.size A xs) (hn : xs.length ≤ 1048576) :
    Calls Try.prog 11 #[.agg #[.int .i64 a, .int .i64 b], .slice A xs.length c, .int .i64 tm] w fun e w' => e = .returned (.tuple #[.int .i64 (nvV a b xs tm), .int .i64 (nvC a b xs tm)]) ∧ Below w.heap.size w w' := by
  by_cases hc : ftC a b xs (inB tm 0 10000000) = 0
  rotate_left
  · have HV : Hid (nvV a b xs tm = 0) := by simp [Hid, nvV, hc]
    have HC : Hid (nvC a b xs tm = ftC a b xs (inB tm 0 10000000)) := by simp [Hid, nvC, hc]
    have HN : (ftC a b xs (inB tm 0 10000000) != 0) = true := by simp [hc]
    clear hc
    have rd0 : Rd encWi 2 (w.alloc (.cells #[.int .i64 a, .int .i64 b] 25)) (World.heap (w.alloc (.cells #[.int .i64 a, .int .i64 b] 25))).size A xs := ((h.below (B' := w.heap.size) (by repeat (first | assumption | exact Below.refl _ _ | apply Below.al | apply Below.drewN' | apply Below.drew | (apply Below.tr; assumption))) (Nat.le_refl _)).more (by first | (simp; done) | (simp; omega)))
    go_enter Try.func11, Try.ntmps11
    go_wp2
    refine wp_region_ext (by kernel_rfl) (by kernel_rfl) ?_
    repeat (go_big_quiet_step ((first | (go_at_call 23; exact ext_same (validTime_any _ _)) | (go_at_call 18; exact ext_below (fits_any A c xs _ _ _ _ (rd0.bmx (Ext.h _) (Below.size (Ext.h _))) hn)))))
    refine wpQuiet_nil ?_
    intro w3 hb3
    obtain ⟨hc_w3, hf_w3⟩ := bcell hb3
    have hz_w3 := hb3.size
    go_wp2
    go_ret2
    exact ⟨by rw [HV.out, HC.out]; rfl, (by repeat (first | assumption | exact Below.refl _ _ | apply Below.al | apply Below.drewN' | apply Below.drew | (apply Below.tr; assumption)))⟩
  obtain ⟨hv, hw, ht⟩ := ftC_zero hc
  obtain ⟨h1, h2, h3, h4⟩ := ephB_true hv
  obtain ⟨t1, t2⟩ := inB_true.1 ht
  have V := hid (wsB_at hw)
  have hk0 : wkC a b xs = 0 := by unfold wkC; rw [hv, hw]; rfl
  have HF0 := hid hc
  have HT := hid ht
  have HN : (ftC a b xs true != 0) = false := by have := HF0.out; rw [ht] at this; rw [this]; rfl
  have HVV := hid (show nvV a b xs tm = (nvGo a b tm xs).getD 0 by unfold nvV; rw [if_pos hc])
  have HCC := hid (show nvC a b xs tm = if nvGo a b tm xs = none then 3 else 0 by unfold nvC; rw [if_pos hc])
  clear hc hv hw hk0 ht
  have rd0 : Rd encWi 2 (w.alloc (.cells #[.int .i64 a, .int .i64 b] 25)) (World.heap (w.alloc (.cells #[.int .i64 a, .int .i64 b] 25))).size A xs := ((h.below (B' := w.heap.size) (by repeat (first | assumption | exact Below.refl _ _ | apply Below.al | apply Below.drewN' | apply Below.drew | (apply Below.tr; assumption))) (Nat.le_refl _)).more (by first | (simp; done) | (simp; omega)))
  go_enter Try.func11, Try.ntmps11
  go_wp2
  refine wp_region_ext (by kernel_rfl) (by kernel_rfl) ?_
  repeat (go_big_quiet_step ((first | (go_at_call 23; exact ext_same (validTime_eq HT.out _)) | (go_at_call 18; exact ext_below (fits_any A c xs _ _ _ _ (rd0.bmx (Ext.h _) (Below.size (Ext.h _))) hn)))))
  refine wpQuiet_nil ?_
  intro w3 hb3
  obtain ⟨hc_w3, hf_w3⟩ := bcell hb3
  have hz_w3 := hb3.size
  go_wp2
  go_loopw [22] (fun i wr => ∃ (k : Nat), k ≤ xs.length ∧ i = .int .i64 k ∧ Below (World.heap (w.alloc (.cells #[.int .i64 a, .int .i64 b] 25))).size (w.alloc (.cells #[.int .i64 a, .int .i64 b] 25)) wr ∧ Hid (nvGo a b tm xs = nvGo a b tm (xs.drop k))) (fun i _ => xs.length - (intOf i).toNat)
  case atStart => exact ⟨0, Nat.zero_le _, rfl, (by repeat (first | assumption | exact Below.refl _ _ | apply Below.al | apply Below.drewN' | apply Below.drew | (apply Below.tr; assumption))), hid rfl⟩
  case round =>
  obtain ⟨k, hk, rfl, hb, H⟩ := hrel
  have hbw : Below w.heap.size w wr := Below.tr hb (by repeat (first | assumption | exact Below.refl _ _ | apply Below.al | apply Below.drewN' | apply Below.drew | (apply Below.tr; assumption)))
  have hsz := hb.size
  simp at hsz
  have g0 : w.heap.size < wr.heap.size := by omega
  have e0 : wr.cell? ⟨w.heap.size, 0, none⟩ = some (.int .i64 a) := by rw [(bcell hb).1 (w.heap.size) 0 (by first | (simp; done) | (simp; omega))]; simp [go_sem]
  have e1 : wr.cell? ⟨w.heap.size, 1, none⟩ = some (.int .i64 b) := by rw [(bcell hb).1 (w.heap.size) 1 (by first | (simp; done) | (simp; omega))]; simp [go_sem]
  by_cases hlt : k < xs.length
  · obtain ⟨p, hp⟩ := getx hlt
    obtain ⟨bb, o, rfl, hbB, c0, c1⟩ := (h.below hbw (Nat.le_refl _)).at2 hp rfl
    have HC1 : Hid (w.cell? ⟨bb, o + k * 2 + 1, none⟩ = some (.int .i64 p.t)) := by
      obtain ⟨b9, o9, e9, _, _, d9⟩ := h.at2 hp rfl
      simp at e9; obtain ⟨rfl, rfl⟩ := e9
      exact hid d9
    obtain ⟨p1, p2, p3, p4, p5⟩ := V.out k p hp
    have b0 : bb < wr.heap.size := by omega
    have HS : Hid (nvGo a b tm (xs.drop k) = if nextI a b (maxI tm p.f) ≤ p.t then some (nextI a b (maxI tm p.f)) else nvGo a b tm (xs.drop (k+1))) := by rw [dropx hp]; rfl
    clear hp
    have hx0 : maxI tm p.f = tm ∨ maxI tm p.f = p.f := by unfold maxI; omega
    have hx1 : 0 ≤ maxI tm p.f := by rcases hx0 with e | e <;> rw [e] <;> assumption
    have hx2 : maxI tm p.f ≤ 10000000 := by rcases hx0 with e | e <;> rw [e] <;> assumption
    have nx := nextN_bd (e := a) (p := b) (t := maxI tm p.f) (by omega)
    have nx1 : maxI tm p.f ≤ nextI a b (maxI tm p.f) := nx.1
    have nx2 : nextI a b (maxI tm p.f) < maxI tm p.f + b := nx.2
    clear hx0
    by_cases hm : tm ≤ p.f
    · have hmx : maxI tm p.f = p.f := by unfold maxI; omega
      rw [hmx] at hx1 hx2 nx nx1 nx2 HS
      clear hmx
      by_cases hle : nextI a b p.f ≤ p.t
      all_goals
        go_wp2_with (go_at_call 20; refine (next_any _ _ _ _ h1 h2 h3 h4 hx1 hx2).mono ?_; rintro e w9 ⟨rfl, hb9⟩; obtain ⟨hc_w9, hf_w9⟩ := bcell hb9; have hz_w9 := hb9.size; (try simp at hz_w9); (try have g_w9 : w.heap.size < w9.heap.size := (by omega)))
        first
          | (have HE : Hid (nvGo a b tm xs = some (nextI a b p.f)) := hid (by rw [H.out, HS.out, if_pos (by omega)])
             have HV : Hid (nvV a b xs tm = nextI a b p.f) := hid (by rw [HVV.out, HE.out]; rfl)
             have HC : Hid (nvC a b xs tm = 0) := hid (by rw [HCC.out, HE.out]; simp)
             go_ret2
             exact ⟨by rw [HV.out, HC.out]; rfl, (by repeat (first | assumption | exact Below.refl _ _ | apply Below.al | apply Below.drewN' | apply Below.drew | (apply Below.tr; assumption)))⟩)
          | (go_roundw
             case rel => exact ⟨k + 1, by omega, by go_num, (by repeat (first | assumption | exact Below.refl _ _ | apply Below.al | apply Below.drewN' | apply Below.drew | (apply Below.tr; assumption))), hid (by rw [H.out, HS.out, if_neg (by omega)])⟩
             case measure => simp [intOf]; omega)
    · have hmx : maxI tm p.f = tm := by unfold maxI; omega
      rw [hmx] at hx1 hx2 nx nx1 nx2 HS
      clear hmx
      by_cases hle : nextI a b tm ≤ p.t
      all_goals
        go_wp2_with (go_at_call 20; refine (next_any _ _ _ _ h1 h2 h3 h4 hx1 hx2).mono ?_; rintro e w9 ⟨rfl, hb9⟩; obtain ⟨hc_w9, hf_w9⟩ := bcell hb9; have hz_w9 := hb9.size; (try simp at hz_w9); (try have g_w9 : w.heap.size < w9.heap.size := (by omega)))
        first
          | (have HE : Hid (nvGo a b tm xs = some (nextI a b tm)) := hid (by rw [H.out, HS.out, if_pos (by omega)])
             have HV : Hid (nvV a b xs tm = nextI a b tm) := hid (by rw [HVV.out, HE.out]; rfl)
             have HC : Hid (nvC a b xs tm = 0) := hid (by rw [HCC.out, HE.out]; simp)
             go_ret2
             exact ⟨by rw [HV.out, HC.out]; rfl, (by repeat (first | assumption | exact Below.refl _ _ | apply Below.al | apply Below.drewN' | apply Below.drew | (apply Below.tr; assumption)))⟩)
          | (go_roundw
             case rel => exact ⟨k + 1, by omega, by go_num, (by repeat (first | assumption | exact Below.refl _ _ | apply Below.al | apply Below.drewN' | apply Below.drew | (apply Below.tr; assumption))), hid (by rw [H.out, HS.out, if_neg (by omega)])⟩
             case measure => simp [intOf]; omega)
  · have HE : Hid (nvGo a b tm xs = none) := hid (by rw [H.out, List.drop_eq_nil_of_le (by omega)]; rfl)
    have HV : Hid (nvV a b xs tm = 0) := hid (by rw [HVV.out, HE.out]; rfl)
    have HC : Hid (nvC a b xs tm = 3) := hid (by rw [HCC.out, HE.out]; simp)
    go_wp2
    go_ret2
    exact ⟨by rw [HV.out, HC.out]; rfl, (by repeat (first | assumption | exact Below.refl _ _ | apply Below.al | apply Below.drewN' | apply Below.drew | (apply Below.tr; assumption)))⟩
end Go.Proofs.Ythlolfhjnfkcfaa
