/- Contracts: the magnitudes that are kept, in the program and in the reference. -/
import Derived.Test.YtfohoidbiiipgaaC21d
namespace Go.Proofs.Ytfohoidbiiipgaa
open Go.RowKit
set_option linter.unusedVariables false
def wfC (xs : List Int) (t : Int) : Int := if magsB xs = true ∧ inB t 1 100 = true then (if xs.length = 0 then 3 else 0) else 2
theorem wfC_zero {xs : List Int} {t : Int} (h : wfC xs t = 0) : magsB xs = true ∧ 0 < xs.length ∧ 1 ≤ t ∧ t ≤ 100 := by
  unfold wfC at h
  split at h
  · rename_i h1
    split at h
    · simp at h
    · have := inB_true.1 h1.2
      exact ⟨h1.1, by omega, this.1, this.2⟩
  · simp at h
def kpV (xs : List Int) (t : Int) : List Int := if wfC xs t = 0 then kpL t xs else []
set_option maxRecDepth 20000 in
set_option maxHeartbeats 1000000 in
theorem chosen_any (F : FuncId) (caps : Array Value) (fb : Int → Bool) (A : Option Addr) (c : Nat) (xs : List Int) (w : World) (h : Rd encI 1 w w.heap.size A xs) (hn : xs.length ≤ 1048576)
    (hF : ∀ (args : Array Value) (w : World), (callFunc F args).run Try.prog w = .ok (.enter F args) w)
    (hcl : ∀ (x : Int) (w1 : World), x ∈ xs → Below w.heap.size w w1 → Calls Try.prog F (#[.int .i64 x] ++ caps) w1 fun e w2 => e = .returned (.bool (fb x)) ∧ Below w1.heap.size w1 w2) :
    Calls Try.prog 44 #[.slice A xs.length c, .func (.func F) #[] caps] w (OwnRes 2 1 encI (xs.filter fb) w) := by
  obtain ⟨i0, hi0, iz0, iz1, iz2⟩ := info_parts (P := Try.prog) (e := 2) (z := .int .i64 0) (size := 1) (bytes := 8) (by kernel_rfl)
  have HC := hid hcl
  clear hcl
  go_enter Try.func44, Try.ntmps44
  go_wp2
  go_loopw [5, 11] (fun v i wr => ∃ k : Nat, k ≤ xs.length ∧ i = .int .i64 k ∧ Below w.heap.size w wr ∧ wr.ownsRow w.heap.size 2 1 v ((xs.take k).filter fb).length (((xs.take k).filter fb).flatMap encI)) (fun _ i _ => xs.length - (intOf i).toNat)
  case atStart => exact ⟨0, Nat.zero_le _, rfl, (by repeat (first | assumption | exact Below.refl _ _ | apply Below.al | apply Below.drewN' | apply Below.drew | (apply Below.tr; assumption))), own_lit0 _ _ _ (Nat.le_refl _)⟩
  case round =>
    obtain ⟨k, hk, rfl, hb, hown⟩ := hrel
    by_cases hlt : k < xs.length
    · obtain ⟨p, hp⟩ := getx hlt
      obtain ⟨b, o, rfl, hbB, c0⟩ := (h.below hb (Nat.le_refl _)).at1 hp rfl
      have hsz := hb.size
      have H0 := hid hown
      have hl : ((xs.take k).filter fb).length ≤ k := Nat.le_trans (List.length_filter_le _ _) (by rw [List.length_take]; omega)
      have HC1 := HC.out p _ (List.mem_of_getElem? hp) hb
      have HP := hid hp
      clear hown hp
      cases h1 : fb p
      · have HE : Hid ((xs.take (k+1)).filter fb = (xs.take k).filter fb) := hid (by rw [List.take_add_one, HP.out, List.filter_append]; simp [h1])
        rw [h1] at HC1
        go_wp2_with fail
        refine HC1.mono ?_
        rintro e w1 ⟨rfl, hb1⟩
        have hb' := Below.tr hb1 hb
        have H1 := hid (own_below H0.out hb1 (Nat.le_refl _))
        clear HC1
        go_wp2
        go_roundw
        case rel => exact ⟨k + 1, by omega, by go_num, hb', by rw [HE.out]; exact H1.out⟩
        case measure => simp [intOf]; omega
      · have HE : Hid ((xs.take (k+1)).filter fb = (xs.take k).filter fb ++ [p]) := hid (by rw [List.take_add_one, HP.out, List.filter_append]; simp [h1])
        rw [h1] at HC1
        go_wp2_with fail
        refine HC1.mono ?_
        rintro e w1 ⟨rfl, hb1⟩
        have hb' := Below.tr hb1 hb
        have H1 := hid (own_below H0.out hb1 (Nat.le_refl _))
        have hz' := hb'.size
        clear HC1
        go_wp2_with (at_builtin; go_must (refine wpList_append_own _ rfl _ _ 22 rfl (w.heap.size) 2 i0 _ 1 8 Try.underlying22 hi0 iz0 iz1 iz2 rfl (by decide) _ _ _ rfl (H1.out.alloc _) ⟨(w1).heap.size, 0, none⟩ 1 1 [.int .i64 p] rfl rfl (news_at w1 [.int .i64 p] 2) (by simp [Value.oneCell']) (by unfold maxLen; omega) (by omega) (by first | omega | (simp; done) | (simp; omega)) ?_); intro v2 w2 own_w2 grow_w2 _)
        go_roundw
        case rel => exact ⟨k + 1, by omega, by go_num, Below.ap hb' hb'.size H1.out (Nat.le_refl _) grow_w2, by rw [HE.out]; simpa [encI] using own_w2⟩
        case measure => simp [intOf]; omega
    · obtain rfl : k = xs.length := by omega
      have H0 := hid hown
      obtain ⟨Ar, cr, rfl⟩ := own_shape hown
      clear hown
      go_wp2
      go_ret
      exact ⟨Ar, cr, by rw [List.take_length]; rfl, by have := H0.out; rwa [List.take_length] at this, hb⟩
theorem kept1_any (x M Q : Int) (bm bq : Nat) (w : World) (c0 : w.cell? ⟨bm, 0, none⟩ = some (.int .i64 M)) (c1 : w.cell? ⟨bq, 0, none⟩ = some (.int .i64 Q)) (z0 : bm < w.heap.size) (z1 : bq < w.heap.size) (h1 : -100000 ≤ x) (h2 : x ≤ 100000) (h3 : -100000 ≤ M) (h4 : M ≤ 100000) :
    Calls Try.prog 45 #[.int .i64 x, .pointer (some ⟨bm, 0, none⟩), .pointer (some ⟨bq, 0, none⟩)] w fun e w' => e = .returned (.bool (decide (absI (x - M) ≤ Q))) ∧ Below w.heap.size w w' := by
  go_enter Try.func45, Try.ntmps45
  go_wp2
  refine wp_region_ext (by kernel_rfl) (by kernel_rfl) ?_
  repeat (go_big_quiet_step ((first | (go_at_call 38; exact ext_same (abs_any _ _ (by omega) (by omega))))))
  refine wpQuiet_nil ?_
  intro w3 hb3
  obtain ⟨hc_w3, hf_w3⟩ := bcell hb3
  have hz_w3 := hb3.size
  go_wp2
  go_ret
  exact ⟨rfl, hb3⟩
set_option maxRecDepth 20000 in
set_option maxHeartbeats 2000000 in
theorem kept_any (A : Option Addr) (c : Nat) (xs : List Int) (t : Int) (w : World) (h : Rd encI 1 w w.heap.size A xs) (hne : 0 < xs.length) (hl : xs.length ≤ 100) (hr : ∀ x ∈ xs, -2000 ≤ x ∧ x ≤ 20000) (t0 : 1 ≤ t) (t1 : t ≤ 100) :
    Calls Try.prog 30 #[.slice A xs.length c, .int .i64 t] w (OwnRes 2 1 encI (kpL t xs) w) := by
  have hm := medI_in hne hr
  have hd := madI_in hne hr
  have mt := mul_bd (a := t) (b := madI xs) (A := 100) (B := 22000) (by omega) (by omega) (by omega) (by omega)
  have C1 : ∀ W, Below w.heap.size w W → Calls Try.prog 26 #[.slice A xs.length c] W fun e w' => e = .returned (.int .i64 (medI xs)) ∧ Below W.heap.size W w' := fun W hW => median_any A c xs W ((h.below hW (Nat.le_refl _)).more hW.size) hne (by omega) (fun x hx => by have := hr x hx; omega)
  have C2 : ∀ W, Below w.heap.size w W → Calls Try.prog 22 #[.slice A xs.length c] W fun e w' => e = .returned (.int .i64 (madI xs)) ∧ Below W.heap.size W w' := fun W hW => medianDeviation_any A c xs W ((h.below hW (Nat.le_refl _)).more hW.size) hne hl hr
  have HK : Hid (kpL t xs = xs.filter fun x => decide (absI (x - medI xs) ≤ t * madI xs)) := hid rfl
  generalize medI xs = M at *
  generalize madI xs = D at *
  have HR := hid hr
  clear hr
  go_enter Try.func30, Try.ntmps30
  go_wp2_with fail
  refine (C1 _ (Below.refl _ _)).mono ?_
  rintro e w1 ⟨rfl, hb1⟩
  go_wp2_with fail
  refine (C2 _ hb1).mono ?_
  rintro e w2 ⟨rfl, hb2⟩
  have hb2' := Below.tr hb2 hb1
  have hbW : Below w.heap.size w ((w2.alloc (.cells #[.int .i64 M] 2)).alloc (.cells #[.int .i64 (t * D)] 2)) := (by repeat (first | assumption | exact Below.refl _ _ | apply Below.al | apply Below.drewN' | apply Below.drew | (refine Below.sc ?_ (by first | omega | (simp; done) | (simp; omega)) _) | (apply Below.tr; assumption)))
  have x0 : ((w2.alloc (.cells #[.int .i64 M] 2)).alloc (.cells #[.int .i64 (t * D)] 2)).cell? ⟨w2.heap.size, 0, none⟩ = some (.int .i64 M) := by simp [go_sem]
  have x1 : ((w2.alloc (.cells #[.int .i64 M] 2)).alloc (.cells #[.int .i64 (t * D)] 2)).cell? ⟨w2.heap.size + 1, 0, none⟩ = some (.int .i64 (t * D)) := by simp [go_sem]
  have z0 : w2.heap.size + 1 < (World.heap ((w2.alloc (.cells #[.int .i64 M] 2)).alloc (.cells #[.int .i64 (t * D)] 2))).size := by simp
  have rW : Rd encI 1 ((w2.alloc (.cells #[.int .i64 M] 2)).alloc (.cells #[.int .i64 (t * D)] 2)) (World.heap ((w2.alloc (.cells #[.int .i64 M] 2)).alloc (.cells #[.int .i64 (t * D)] 2))).size A xs := (h.below hbW (Nat.le_refl _)).more hbW.size
  clear C1 C2 hb1 hb2 hb2'
  go_wp2_with fail
  generalize ((w2.alloc (.cells #[.int .i64 M] 2)).alloc (.cells #[.int .i64 (t * D)] 2)) = wW at *
  generalize w2.heap.size = p at *
  refine (chosen_any 45 _ (fun x => decide (absI (x - M) ≤ t * D)) A c xs wW rW (by omega) (callFunc_enter Try.func45 (by kernel_rfl) (by kernel_rfl)) ?_).mono ?_
  · intro x w4 hx hb4
    have hx2 := HR.out x hx
    have hz4 := hb4.size
    exact kept1_any x M (t * D) p (p + 1) w4 (((bcell hb4).1 _ _ (by omega)).trans x0) (((bcell hb4).1 _ _ (by omega)).trans x1) (by omega) (by omega) (by omega) (by omega) (by omega) (by omega)
  · rw [← HK.out]
    rintro e w4 ⟨Ar, cr, rfl, own, hb4⟩
    have O := hid own
    clear own
    go_wp2
    go_ret
    exact ⟨Ar, cr, rfl, own_lo O.out hbW.size, Below.tr hb4 hbW⟩
set_option maxRecDepth 20000 in
set_option maxHeartbeats 2000000 in
theorem l21Kept_any (A : Option Addr) (c : Nat) (xs : List Int) (t : Int) (w : World) (h : Rd encI 1 w w.heap.size A xs) (hne : 0 < xs.length) (hl : xs.length ≤ 100) (hr : ∀ x ∈ xs, -2000 ≤ x ∧ x ≤ 20000) (t0 : 1 ≤ t) (t1 : t ≤ 100) :
    Calls Try.prog 28 #[.slice A xs.length c, .int .i64 t] w (OwnRes 2 1 encI (kpL t xs) w) := by
  have hm := medI_in hne hr
  have hd := madI_in hne hr
  have mt := mul_bd (a := t) (b := madI xs) (A := 100) (B := 22000) (by omega) (by omega) (by omega) (by omega)
  have C1 : ∀ W, Below w.heap.size w W → Calls Try.prog 23 #[.slice A xs.length c] W fun e w' => e = .returned (.int .i64 (medI xs)) ∧ Below W.heap.size W w' := fun W hW => l02Median_any A c xs W ((h.below hW (Nat.le_refl _)).more hW.size) hne (by omega) (fun x hx => by have := hr x hx; omega)
  have C2 : ∀ W, Below w.heap.size w W → Calls Try.prog 20 #[.slice A xs.length c] W fun e w' => e = .returned (.int .i64 (madI xs)) ∧ Below W.heap.size W w' := fun W hW => l21Median_any A c xs W ((h.below hW (Nat.le_refl _)).more hW.size) hne hl hr
  have HK : Hid (kpL t xs = xs.filter fun x => decide (absI (x - medI xs) ≤ t * madI xs)) := hid rfl
  generalize medI xs = M at *
  generalize madI xs = D at *
  have HR := hid hr
  clear hr
  obtain ⟨i0, hi0, iz0, iz1, iz2⟩ := info_parts (P := Try.prog) (e := 2) (z := .int .i64 0) (size := 1) (bytes := 8) (by kernel_rfl)
  have hb0 : Below w.heap.size w (w.alloc (.cells #[] 2)) := (by repeat (first | assumption | exact Below.refl _ _ | apply Below.al | apply Below.drewN' | apply Below.drew | (apply Below.tr; assumption)))
  go_enter Try.func28, Try.ntmps28
  go_wp2_with fail
  refine (C1 _ hb0).mono ?_
  rintro e w1 ⟨rfl, hb1⟩
  have hb1' := Below.tr hb1 hb0
  have o1 := own_below (own_lit0 w 2 1 (lo := w.heap.size) (Nat.le_refl _)) hb1 (Nat.le_refl _)
  go_wp2_with fail
  refine (C2 _ hb1').mono ?_
  rintro e w2 ⟨rfl, hb2⟩
  have hb2' := Below.tr hb2 hb1'
  have o2 := own_below o1 hb2 (Nat.le_refl _)
  clear C1 C2 hb1 hb2 hb1' o1 hb0
  go_wp2_with fail
  generalize Value.slice (some ⟨w.heap.size, 0, none⟩) 0 0 = v0 at *
  go_loopw [5, 8] (fun v i wr => ∃ k : Nat, k ≤ xs.length ∧ i = .int .i64 k ∧ Below w.heap.size w wr ∧ wr.ownsRow w.heap.size 2 1 v ((xs.take k).filter fun x => decide (absI (x - M) ≤ t * D)).length (((xs.take k).filter fun x => decide (absI (x - M) ≤ t * D)).flatMap encI)) (fun _ i _ => xs.length - (intOf i).toNat)
  case atStart => exact ⟨0, Nat.zero_le _, rfl, hb2', o2⟩
  case round =>
    clear hb2' o2
    obtain ⟨k, hk, rfl, hb, hown⟩ := hrel
    by_cases hlt : k < xs.length
    · obtain ⟨p, hp⟩ := getx hlt
      obtain ⟨b, o, rfl, hbB, c0⟩ := (h.below hb (Nat.le_refl _)).at1 hp rfl
      have hsz := hb.size
      have hpr := HR.out p (List.mem_of_getElem? hp)
      have H0 := hid hown
      have hl2 : ((xs.take k).filter fun x => decide (absI (x - M) ≤ t * D)).length ≤ k := Nat.le_trans (List.length_filter_le _ _) (by rw [List.length_take]; omega)
      have HP := hid hp
      clear hown hp
      by_cases h1 : absI (p - M) ≤ t * D
      · have HE : Hid (((xs.take (k+1)).filter fun x => decide (absI (x - M) ≤ t * D)) = ((xs.take k).filter fun x => decide (absI (x - M) ≤ t * D)) ++ [p]) := hid (by rw [List.take_add_one, HP.out, List.filter_append]; simp [h1])
        have h1' : decide (absI (p - M) ≤ t * D) = true := by simpa using h1
        go_wp2_with (first | (go_at_call 24; refine (l02Size_any _ _ (by omega) (by omega)).mono ?_; rintro e w' ⟨rfl, rfl⟩) | (at_builtin; go_must (refine wpList_append_own _ rfl _ _ 22 rfl (w.heap.size) 2 i0 _ 1 8 Try.underlying22 hi0 iz0 iz1 iz2 rfl (by decide) _ _ _ rfl (H0.out.alloc _) ⟨(wr).heap.size, 0, none⟩ 1 1 [.int .i64 p] rfl rfl (news_at wr [.int .i64 p] 2) (by simp [Value.oneCell']) (by unfold maxLen; omega) (by omega) (by first | omega | (simp; done) | (simp; omega)) ?_); intro v2 w2 own_w2 grow_w2 _))
        go_roundw
        case rel => exact ⟨k + 1, by omega, by go_num, Below.ap hb hb.size H0.out (Nat.le_refl _) grow_w2, by rw [HE.out]; simpa [encI] using own_w2⟩
        case measure => simp [intOf]; omega
      · have HE : Hid (((xs.take (k+1)).filter fun x => decide (absI (x - M) ≤ t * D)) = (xs.take k).filter fun x => decide (absI (x - M) ≤ t * D)) := hid (by rw [List.take_add_one, HP.out, List.filter_append]; simp [h1])
        have h1' : decide (absI (p - M) ≤ t * D) = false := by simpa using h1
        go_wp2_with (go_at_call 24; refine (l02Size_any _ _ (by omega) (by omega)).mono ?_; rintro e w' ⟨rfl, rfl⟩)
        go_roundw
        case rel => exact ⟨k + 1, by omega, by go_num, hb, by rw [HE.out]; exact H0.out⟩
        case measure => simp [intOf]; omega
    · obtain rfl : k = xs.length := by omega
      have H0 := hid hown
      obtain ⟨Ar, cr, rfl⟩ := own_shape hown
      clear hown
      go_wp2
      go_ret
      exact ⟨Ar, cr, by rw [HK.out, List.take_length]; rfl, by rw [HK.out]; have := H0.out; rwa [List.take_length] at this, hb⟩
theorem withFactor_any (A : Option Addr) (c : Nat) (xs : List Int) (t : Int) (w : World) (h : Rd encI 1 w w.heap.size A xs) (hn : xs.length ≤ 1048576) :
    Calls Try.prog 29 #[.slice A xs.length c, .int .i64 t] w fun e w' => e = .returned (.int .i64 (wfC xs t)) ∧ Below w.heap.size w w' := by
  cases h1 : magsB xs <;> cases h3 : inB t 1 100 <;> by_cases h2 : xs.length = 0
  all_goals
    have HV := hid (show wfC xs t = _ by unfold wfC; rw [h1, h3])
    have HV2 := hid (HV.out.trans (by simp [h2]; rfl))
    
    first
      | (have e0 : ((xs.length : Int) == 0) = true := by simpa using h2)
      | (have e0 : ((xs.length : Int) == 0) = false := by simpa using h2)
    clear h2
    go_enter Try.func29, Try.ntmps29
    go_wp2_with (first | (go_at_call 35; refine (areMags_any A c xs _ h hn).mono ?_; rintro e w1 ⟨rfl, hb1⟩; obtain ⟨hc_w1, hf_w1⟩ := bcell hb1; have hz_w1 := hb1.size) | (go_at_call 43; refine (in_any _ _ _ _).mono ?_; rintro e w' ⟨rfl, rfl⟩))
    go_ret
    exact ⟨ret_int HV2.out.symm, (by repeat (first | assumption | exact Below.refl _ _ | apply Below.al | apply Below.drewN' | apply Below.drew | (apply Below.tr; assumption)))⟩
theorem l21Times_any (A : Option Addr) (c : Nat) (xs : List Int) (t : Int) (w : World) (h : Rd encI 1 w w.heap.size A xs) (hn : xs.length ≤ 1048576) :
    Calls Try.prog 27 #[.slice A xs.length c, .int .i64 t] w fun e w' => e = .returned (.int .i64 (wfC xs t)) ∧ Below w.heap.size w w' := by
  cases h1 : magsB xs <;> cases h3 : inB t 1 100 <;> by_cases h2 : xs.length = 0
  all_goals
    have HV := hid (show wfC xs t = _ by unfold wfC; rw [h1, h3])
    have HV2 := hid (HV.out.trans (by simp [h2]; rfl))
    have HC := hid (show codeMags xs = _ by unfold codeMags; rw [h1])
    first
      | (have e0 : ((xs.length : Int) == 0) = true := by simpa using h2)
      | (have e0 : ((xs.length : Int) == 0) = false := by simpa using h2)
    clear h2
    go_enter Try.func27, Try.ntmps27
    go_wp2_with fail
    refine (l02List_any A c xs _ h hn).mono ?_
    rw [HC.out]
    rintro e w1 ⟨rfl, hb1⟩
    go_wp2_with (go_at_call 42; refine (l00In_any _ _ _ _).mono ?_; rintro e w' ⟨rfl, rfl⟩)
    go_ret
    exact ⟨ret_int HV2.out.symm, (by repeat (first | assumption | exact Below.refl _ _ | apply Below.al | apply Below.drewN' | apply Below.drew | (apply Below.tr; assumption)))⟩
theorem kpV_len (xs : List Int) (t : Int) : (kpV xs t).length ≤ xs.length := by
  unfold kpV; split
  · exact kpL_len t xs
  · simp
theorem specKeptMags_any (A : Option Addr) (c : Nat) (xs : List Int) (t : Int) (w : World) (h : Rd encI 1 w w.heap.size A xs) (hn : xs.length ≤ 1048576) :
    Calls Try.prog 15 #[.slice A xs.length c, .int .i64 t] w (OwnTup 2 1 encI (kpV xs t) (wfC xs t) w) := by
  by_cases hc : wfC xs t = 0
  · obtain ⟨hm, hne, t0, t1⟩ := wfC_zero hc
    obtain ⟨hl, hx⟩ := magsB_true hm
    have HV : Hid (kpV xs t = kpL t xs) := hid (if_pos hc)
    have HC := hid hc
    clear hc hm
    go_enter Try.func15, Try.ntmps15
    go_wp2_with fail
    refine (l21Times_any A c xs t _ h hn).mono ?_
    rw [HC.out]
    rintro e w1 ⟨rfl, hb1⟩
    go_wp2_with fail
    refine (l21Kept_any A c xs t _ ((h.below hb1 (Nat.le_refl _)).more hb1.size) hne hl (fun x hxm => by obtain ⟨k, hk⟩ := List.mem_iff_getElem?.1 hxm; exact hx k x hk) t0 t1).mono ?_
    rintro e w2 ⟨Ar, cr, rfl, own, hb2⟩
    have O := hid own
    clear own
    go_wp2
    go_ret2
    exact ⟨Ar, cr, by rw [HV.out, HC.out]; rfl, by rw [HV.out]; exact own_lo O.out hb1.size, Below.tr hb2 hb1⟩
  · have HN : (wfC xs t != 0) = true := by simp [hc]
    have HV : Hid (kpV xs t = []) := hid (if_neg hc)
    clear hc
    go_enter Try.func15, Try.ntmps15
    go_wp2_with fail
    refine (l21Times_any A c xs t _ h hn).mono ?_
    rintro e w1 ⟨rfl, hb1⟩
    go_wp2
    go_ret2
    exact ⟨none, 0, by rw [HV.out]; rfl, by rw [HV.out]; exact World.ownsRow_nil _ _ _ _, hb1⟩
theorem implKeptMags_any (A : Option Addr) (c : Nat) (xs : List Int) (t : Int) (w : World) (h : Rd encI 1 w w.heap.size A xs) (hn : xs.length ≤ 1048576) :
    Calls Try.prog 16 #[.slice A xs.length c, .int .i64 t] w (OwnTup 2 1 encI (kpV xs t) (wfC xs t) w) := by
  by_cases hc : wfC xs t = 0
  · obtain ⟨hm, hne, t0, t1⟩ := wfC_zero hc
    obtain ⟨hl, hx⟩ := magsB_true hm
    have HV : Hid (kpV xs t = kpL t xs) := hid (if_pos hc)
    have HC := hid hc
    clear hc hm
    go_enter Try.func16, Try.ntmps16
    go_wp2_with fail
    refine (withFactor_any A c xs t _ h hn).mono ?_
    rw [HC.out]
    rintro e w1 ⟨rfl, hb1⟩
    go_wp2_with fail
    refine (kept_any A c xs t _ ((h.below hb1 (Nat.le_refl _)).more hb1.size) hne hl (fun x hxm => by obtain ⟨k, hk⟩ := List.mem_iff_getElem?.1 hxm; exact hx k x hk) t0 t1).mono ?_
    rintro e w2 ⟨Ar, cr, rfl, own, hb2⟩
    have O := hid own
    clear own
    go_wp2
    go_ret2
    exact ⟨Ar, cr, by rw [HV.out, HC.out]; rfl, by rw [HV.out]; exact own_lo O.out hb1.size, Below.tr hb2 hb1⟩
  · have HN : (wfC xs t != 0) = true := by simp [hc]
    have HV : Hid (kpV xs t = []) := hid (if_neg hc)
    clear hc
    go_enter Try.func16, Try.ntmps16
    go_wp2_with fail
    refine (withFactor_any A c xs t _ h hn).mono ?_
    rintro e w1 ⟨rfl, hb1⟩
    go_wp2
    go_ret2
    exact ⟨none, 0, by rw [HV.out]; rfl, by rw [HV.out]; exact World.ownsRow_nil _ _ _ _, hb1⟩
end Go.Proofs.Ytfohoidbiiipgaa
