/- Contracts of the states of outbursts, in the program and in the reference. -/
import Derived.Test.YtpfdfbebeckohaaC8a
namespace Go.Proofs.Ytpfdfbebeckohaa
open Go.RowKit
set_option linter.unusedVariables false
/-- The states of the points, one after another. -/
def scanB (f : Bool → Int → Bool) : Bool → List Pt → List Bool
  | _, [] => []
  | on, p :: r => f on p.m :: scanB f (f on p.m) r
theorem scanB_len (f : Bool → Int → Bool) : ∀ (on : Bool) (xs : List Pt), (scanB f on xs).length = xs.length
  | _, [] => rfl
  | on, p :: r => by simp [scanB, scanB_len f _ r]
def obF (a b : Int) (on : Bool) (m : Int) : Bool := if on = true then decide (m ≤ b) else decide (m ≤ a)
def obC (xs : List Pt) (a b : Int) : Int := if cvB xs = true ∧ thrB a b = true then 0 else 1
def obV (xs : List Pt) (a b : Int) : List Bool := if obC xs a b = 0 then scanB (obF a b) false xs else []
theorem obV_len (xs : List Pt) (a b : Int) : (obV xs a b).length ≤ xs.length := by
  unfold obV
  split
  · rw [scanB_len]; exact Nat.le_refl _
  · simp
theorem l19Code_any (A : Option Addr) (c : Nat) (xs : List Pt) (a b : Int) (w : World) (h : Rd encPt 2 w w.heap.size A xs) (hn : xs.length ≤ 1048576) :
    Calls Try.prog 72 #[.slice A xs.length c, .agg #[.int .i64 a, .int .i64 b]] w fun e w' => e = .returned (.int .i64 (obC xs a b)) ∧ Below w.heap.size w w' := by
  cases h1 : cvB xs <;> cases h2 : thrB a b
  all_goals
    have HC := hid (show obC xs a b = _ by unfold obC; rw [h1, h2])
    go_enter Try.func72, Try.ntmps72
    go_wp2_with (first | (go_at_call 63; refine (l08Ok_any A c xs _ ((h.below (B' := w.heap.size) (by repeat (first | assumption | exact Below.refl _ _ | apply Below.al | apply Below.drewN' | apply Below.drew | (apply Below.tr; assumption))) (Nat.le_refl _)).more (by first | (simp; done) | (simp; omega))) hn).mono ?_; rintro e w1 ⟨rfl, hb1⟩; obtain ⟨hc_w1, hf_w1⟩ := bcell hb1; have hz_w1 := hb1.size; (try simp at hz_w1); (try have g_w1 : w.heap.size < w1.heap.size := (by omega))) | (go_at_call 99; refine (l19Ok_any _ _ _).mono ?_; rintro e w2 ⟨rfl, hb2⟩; obtain ⟨hc_w2, hf_w2⟩ := bcell hb2; have hz_w2 := hb2.size))
    go_ret
    exact ⟨ret_int (by rw [HC.out]; rfl), (by repeat (first | assumption | exact Below.refl _ _ | apply Below.al | apply Below.drewN' | apply Below.drew | (apply Below.tr; assumption)))⟩
set_option maxHeartbeats 2000000 in
theorem l19States_any (A : Option Addr) (c : Nat) (xs : List Pt) (a b : Int) (w : World) (h : Rd encPt 2 w w.heap.size A xs) (hn : xs.length ≤ 1048576) :
    Calls Try.prog 73 #[.slice A xs.length c, .agg #[.int .i64 a, .int .i64 b]] w (OwnRes 4 1 encBo (scanB (obF a b) false xs) w) := by
  obtain ⟨i0, hi0, iz0, iz1, iz2⟩ := info_parts (P := Try.prog) (e := 4) (z := .bool false) (size := 1) (bytes := 1) (by kernel_rfl)
  go_enter Try.func73, Try.ntmps73
  go_wp2
  go_loopw [5, 6, 7] (fun v on i wr => ∃ (k : Nat) (o : Bool) (ys : List Bool), k ≤ xs.length ∧ i = .int .i64 k ∧ on = .bool o ∧ ys.length = k ∧ Below (World.heap (w.alloc (.cells #[.int .i64 a, .int .i64 b] 51))).size (w.alloc (.cells #[.int .i64 a, .int .i64 b] 51)) wr ∧ wr.ownsRow (w.heap.size + 1) 4 1 v k (ys.flatMap encBo) ∧ Hid (scanB (obF a b) false xs = ys ++ scanB (obF a b) o (xs.drop k))) (fun _ _ i _ => xs.length - (intOf i).toNat)
  case atStart => exact ⟨0, false, [], Nat.zero_le _, rfl, rfl, rfl, (by repeat (first | assumption | exact Below.refl _ _ | apply Below.al | apply Below.drewN' | apply Below.drew | (apply Below.tr; assumption))), (own_lit1 _ _ _ (by simp) (by omega)), hid rfl⟩
  case round =>
    obtain ⟨k, o, ys, hk, rfl, rfl, hys, hb, hown, H⟩ := hrel
    have hbw : Below w.heap.size w wr := Below.tr hb (by repeat (first | assumption | exact Below.refl _ _ | apply Below.al | apply Below.drewN' | apply Below.drew | (apply Below.tr; assumption)))
    by_cases hlt : k < xs.length
    · obtain ⟨p, hp⟩ := getx hlt
      obtain ⟨b', o', rfl, hbB, c0, c1⟩ := (h.below hbw (Nat.le_refl _)).at2 hp rfl
      have hsz := hb.size
      simp at hsz
      have b0 : b' < wr.heap.size := by omega
      have b1 : w.heap.size < wr.heap.size := by omega
      have e0 : wr.cell? ⟨w.heap.size, 0, none⟩ = some (.int .i64 a) := by rw [(bcell hb).1 (w.heap.size) 0 (by first | (simp; done) | (simp; omega))]; simp [go_sem]
      have e1 : wr.cell? ⟨w.heap.size, 1, none⟩ = some (.int .i64 b) := by rw [(bcell hb).1 (w.heap.size) 1 (by first | (simp; done) | (simp; omega))]; simp [go_sem]
      have HS : Hid (scanB (obF a b) o (xs.drop k) = obF a b o p.m :: scanB (obF a b) (obF a b o p.m) (xs.drop (k+1))) := by rw [dropx hp]; rfl
      have H0 := hid hown
      clear hp hown
      cases o
      · by_cases g : p.m ≤ a
        · have g' : decide (p.m ≤ a) = true := by simpa using g
          go_wp2
          refine wp_region_ext (by kernel_rfl) (by kernel_rfl) ?_
          repeat (go_big_quiet_step ((first | fail)))
          refine wpQuiet_nil ?_
          intro w3 hb3
          obtain ⟨hc_w3, hf_w3⟩ := bcell hb3
          have hz_w3 := hb3.size
          have H3 := hid (own_below H0.out hb3 (Nat.le_refl _))
          have hb9 := Below.tr hb3 hb
          have hz9 := hb9.size
          simp at hz9
          go_wp2_with (at_builtin; go_must (refine wpList_append_own _ rfl _ _ 48 rfl (w.heap.size + 1) 4 i0 _ 1 1 Try.underlying48 hi0 iz0 iz1 iz2 rfl (by decide) _ _ _ rfl (H3.out.alloc _) ⟨(w3).heap.size, 0, none⟩ 1 1 [.bool true] rfl rfl (news_at w3 [.bool true] 4) (by simp [Value.oneCell']) (by unfold maxLen; omega) (by omega) (by first | omega | (simp; done) | (simp; omega)) ?_); intro v2 w2 own_w2 grow_w2 _)
          go_roundw
          case rel => exact ⟨k + 1, true, ys ++ [true], by omega, by go_num, rfl, by simp [hys], Below.ap hb9 hb9.size H3.out (by first | (simp; done) | (simp; omega)) grow_w2, by simpa [encBo] using own_w2, hid (by rw [H.out, HS.out]; simp [obF, g'])⟩
          case measure => simp [intOf]; omega
        · have g' : decide (p.m ≤ a) = false := by simpa using g
          go_wp2
          refine wp_region_ext (by kernel_rfl) (by kernel_rfl) ?_
          repeat (go_big_quiet_step ((first | fail)))
          refine wpQuiet_nil ?_
          intro w3 hb3
          obtain ⟨hc_w3, hf_w3⟩ := bcell hb3
          have hz_w3 := hb3.size
          have H3 := hid (own_below H0.out hb3 (Nat.le_refl _))
          have hb9 := Below.tr hb3 hb
          have hz9 := hb9.size
          simp at hz9
          go_wp2_with (at_builtin; go_must (refine wpList_append_own _ rfl _ _ 48 rfl (w.heap.size + 1) 4 i0 _ 1 1 Try.underlying48 hi0 iz0 iz1 iz2 rfl (by decide) _ _ _ rfl (H3.out.alloc _) ⟨(w3).heap.size, 0, none⟩ 1 1 [.bool false] rfl rfl (news_at w3 [.bool false] 4) (by simp [Value.oneCell']) (by unfold maxLen; omega) (by omega) (by first | omega | (simp; done) | (simp; omega)) ?_); intro v2 w2 own_w2 grow_w2 _)
          go_roundw
          case rel => exact ⟨k + 1, false, ys ++ [false], by omega, by go_num, rfl, by simp [hys], Below.ap hb9 hb9.size H3.out (by first | (simp; done) | (simp; omega)) grow_w2, by simpa [encBo] using own_w2, hid (by rw [H.out, HS.out]; simp [obF, g'])⟩
          case measure => simp [intOf]; omega
      · by_cases g : p.m ≤ b
        · have g' : decide (p.m ≤ b) = true := by simpa using g
          go_wp2
          refine wp_region_ext (by kernel_rfl) (by kernel_rfl) ?_
          repeat (go_big_quiet_step ((first | fail)))
          refine wpQuiet_nil ?_
          intro w3 hb3
          obtain ⟨hc_w3, hf_w3⟩ := bcell hb3
          have hz_w3 := hb3.size
          have H3 := hid (own_below H0.out hb3 (Nat.le_refl _))
          have hb9 := Below.tr hb3 hb
          have hz9 := hb9.size
          simp at hz9
          go_wp2_with (at_builtin; go_must (refine wpList_append_own _ rfl _ _ 48 rfl (w.heap.size + 1) 4 i0 _ 1 1 Try.underlying48 hi0 iz0 iz1 iz2 rfl (by decide) _ _ _ rfl (H3.out.alloc _) ⟨(w3).heap.size, 0, none⟩ 1 1 [.bool true] rfl rfl (news_at w3 [.bool true] 4) (by simp [Value.oneCell']) (by unfold maxLen; omega) (by omega) (by first | omega | (simp; done) | (simp; omega)) ?_); intro v2 w2 own_w2 grow_w2 _)
          go_roundw
          case rel => exact ⟨k + 1, true, ys ++ [true], by omega, by go_num, rfl, by simp [hys], Below.ap hb9 hb9.size H3.out (by first | (simp; done) | (simp; omega)) grow_w2, by simpa [encBo] using own_w2, hid (by rw [H.out, HS.out]; simp [obF, g'])⟩
          case measure => simp [intOf]; omega
        · have g' : decide (p.m ≤ b) = false := by simpa using g
          go_wp2
          refine wp_region_ext (by kernel_rfl) (by kernel_rfl) ?_
          repeat (go_big_quiet_step ((first | fail)))
          refine wpQuiet_nil ?_
          intro w3 hb3
          obtain ⟨hc_w3, hf_w3⟩ := bcell hb3
          have hz_w3 := hb3.size
          have H3 := hid (own_below H0.out hb3 (Nat.le_refl _))
          have hb9 := Below.tr hb3 hb
          have hz9 := hb9.size
          simp at hz9
          go_wp2_with (at_builtin; go_must (refine wpList_append_own _ rfl _ _ 48 rfl (w.heap.size + 1) 4 i0 _ 1 1 Try.underlying48 hi0 iz0 iz1 iz2 rfl (by decide) _ _ _ rfl (H3.out.alloc _) ⟨(w3).heap.size, 0, none⟩ 1 1 [.bool false] rfl rfl (news_at w3 [.bool false] 4) (by simp [Value.oneCell']) (by unfold maxLen; omega) (by omega) (by first | omega | (simp; done) | (simp; omega)) ?_); intro v2 w2 own_w2 grow_w2 _)
          go_roundw
          case rel => exact ⟨k + 1, false, ys ++ [false], by omega, by go_num, rfl, by simp [hys], Below.ap hb9 hb9.size H3.out (by first | (simp; done) | (simp; omega)) grow_w2, by simpa [encBo] using own_w2, hid (by rw [H.out, HS.out]; simp [obF, g'])⟩
          case measure => simp [intOf]; omega
    · obtain rfl : k = xs.length := by omega
      have HE : Hid (scanB (obF a b) false xs = ys) := hid (by have := H.out; rw [List.drop_eq_nil_of_le (by omega)] at this; simpa [scanB] using this)
      have H0 := hid hown
      obtain ⟨Ar, cr, rfl⟩ := own_shape hown
      clear hown
      go_wp2
      go_ret
      exact ⟨Ar, cr, by rw [HE.out]; simp [hys], by rw [HE.out]; have := own_lo H0.out (Nat.le_succ _); rw [hys]; exact this, hbw⟩
set_option maxRecDepth 20000 in
set_option maxHeartbeats 2000000 in
theorem states_any (Fb Fe : FuncId) (cb ce : Array Value) (fb fe : Int → Bool) (A : Option Addr) (c : Nat) (xs : List Pt) (w : World) (h : Rd encPt 2 w w.heap.size A xs) (hn : xs.length ≤ 1048576)
    (hFb : ∀ (args : Array Value) (w : World), (callFunc Fb args).run Try.prog w = .ok (.enter Fb args) w)
    (hFe : ∀ (args : Array Value) (w : World), (callFunc Fe args).run Try.prog w = .ok (.enter Fe args) w)
    (hcb : ∀ (m : Int) (w1 : World), Below w.heap.size w w1 → Calls Try.prog Fb (#[.int .i64 m] ++ cb) w1 fun e w2 => e = .returned (.bool (fb m)) ∧ Below w1.heap.size w1 w2)
    (hce : ∀ (m : Int) (w1 : World), Below w.heap.size w w1 → Calls Try.prog Fe (#[.int .i64 m] ++ ce) w1 fun e w2 => e = .returned (.bool (fe m)) ∧ Below w1.heap.size w1 w2) :
    Calls Try.prog 79 #[.slice A xs.length c, .func (.func Fb) #[] cb, .func (.func Fe) #[] ce] w (OwnRes 4 1 encBo (scanB (fun on m => if on = true then !fe m else fb m) false xs) w) := by
  obtain ⟨i0, hi0, iz0, iz1, iz2⟩ := info_parts (P := Try.prog) (e := 4) (z := .bool false) (size := 1) (bytes := 1) (by kernel_rfl)
  have HC := hid hcb
  have HE := hid hce
  clear hcb hce
  go_enter Try.func79, Try.ntmps79
  go_wp2
  go_loopw [7, 8, 14] (fun v on i wr => ∃ (k : Nat) (o : Bool) (ys : List Bool), k ≤ xs.length ∧ i = .int .i64 k ∧ on = .bool o ∧ ys.length = k ∧ Below w.heap.size w wr ∧ wr.ownsRow w.heap.size 4 1 v k (ys.flatMap encBo) ∧ Hid (scanB (fun on m => if on = true then !fe m else fb m) false xs = ys ++ scanB (fun on m => if on = true then !fe m else fb m) o (xs.drop k))) (fun _ _ i _ => xs.length - (intOf i).toNat)
  case atStart => exact ⟨0, false, [], Nat.zero_le _, rfl, rfl, rfl, (by repeat (first | assumption | exact Below.refl _ _ | apply Below.al | apply Below.drewN' | apply Below.drew | (apply Below.tr; assumption))), own_lit0 _ _ _ (Nat.le_refl _), hid rfl⟩
  case round =>
    obtain ⟨k, o, ys, hk, rfl, rfl, hys, hb, hown, H⟩ := hrel
    by_cases hlt : k < xs.length
    · obtain ⟨p, hp⟩ := getx hlt
      obtain ⟨b', o', rfl, hbB, c0, c1⟩ := (h.below hb (Nat.le_refl _)).at2 hp rfl
      have hsz := hb.size
      have b0 : b' < wr.heap.size := by omega
      have HS : Hid (scanB (fun on m => if on = true then !fe m else fb m) o (xs.drop k) = (fun on m => if on = true then !fe m else fb m) o p.m :: scanB (fun on m => if on = true then !fe m else fb m) ((fun on m => if on = true then !fe m else fb m) o p.m) (xs.drop (k+1))) := by rw [dropx hp]; rfl
      have H0 := hid hown
      clear hp hown
      cases o
      · cases g : fb p.m
        · go_wp2_with fail
          refine (HC.out p.m _ (by repeat (first | assumption | exact Below.refl _ _ | apply Below.al | apply Below.drewN' | apply Below.drew | (apply Below.tr; assumption)))).mono ?_
          rw [g]
          rintro e w1 ⟨rfl, hb1⟩
          have hz1 := hb1.size
          have hb2 : Below wr.heap.size wr w1 := (by repeat (first | assumption | exact Below.refl _ _ | apply Below.al | apply Below.drewN' | apply Below.drew | (apply Below.tr; assumption)))
          have hb9 := Below.tr hb2 hb
          have hz9 := hb9.size
          have H3 := hid (own_below H0.out hb2 (Nat.le_refl _))
          go_wp2_with (at_builtin; go_must (refine wpList_append_own _ rfl _ _ 48 rfl (w.heap.size) 4 i0 _ 1 1 Try.underlying48 hi0 iz0 iz1 iz2 rfl (by decide) _ _ _ rfl (H3.out.alloc _) ⟨(w1).heap.size, 0, none⟩ 1 1 [.bool false] rfl rfl (news_at w1 [.bool false] 4) (by simp [Value.oneCell']) (by unfold maxLen; omega) (by omega) (by first | omega | (simp; done) | (simp; omega)) ?_); intro v2 w2 own_w2 grow_w2 _)
          go_roundw
          case rel => exact ⟨k + 1, false, ys ++ [false], by omega, by go_num, rfl, by simp [hys], Below.ap hb9 hb9.size H3.out (Nat.le_refl _) grow_w2, by simpa [encBo] using own_w2, hid (by rw [H.out, HS.out]; simp [g])⟩
          case measure => simp [intOf]; omega
        · go_wp2_with fail
          refine (HC.out p.m _ (by repeat (first | assumption | exact Below.refl _ _ | apply Below.al | apply Below.drewN' | apply Below.drew | (apply Below.tr; assumption)))).mono ?_
          rw [g]
          rintro e w1 ⟨rfl, hb1⟩
          have hz1 := hb1.size
          have hb2 : Below wr.heap.size wr w1 := (by repeat (first | assumption | exact Below.refl _ _ | apply Below.al | apply Below.drewN' | apply Below.drew | (apply Below.tr; assumption)))
          have hb9 := Below.tr hb2 hb
          have hz9 := hb9.size
          have H3 := hid (own_below H0.out hb2 (Nat.le_refl _))
          go_wp2_with (at_builtin; go_must (refine wpList_append_own _ rfl _ _ 48 rfl (w.heap.size) 4 i0 _ 1 1 Try.underlying48 hi0 iz0 iz1 iz2 rfl (by decide) _ _ _ rfl (H3.out.alloc _) ⟨(w1).heap.size, 0, none⟩ 1 1 [.bool true] rfl rfl (news_at w1 [.bool true] 4) (by simp [Value.oneCell']) (by unfold maxLen; omega) (by omega) (by first | omega | (simp; done) | (simp; omega)) ?_); intro v2 w2 own_w2 grow_w2 _)
          go_roundw
          case rel => exact ⟨k + 1, true, ys ++ [true], by omega, by go_num, rfl, by simp [hys], Below.ap hb9 hb9.size H3.out (Nat.le_refl _) grow_w2, by simpa [encBo] using own_w2, hid (by rw [H.out, HS.out]; simp [g])⟩
          case measure => simp [intOf]; omega
      · cases g : fe p.m
        · go_wp2_with fail
          refine (HE.out p.m _ (by repeat (first | assumption | exact Below.refl _ _ | apply Below.al | apply Below.drewN' | apply Below.drew | (apply Below.tr; assumption)))).mono ?_
          rw [g]
          rintro e w1 ⟨rfl, hb1⟩
          have hz1 := hb1.size
          have hb2 : Below wr.heap.size wr w1 := (by repeat (first | assumption | exact Below.refl _ _ | apply Below.al | apply Below.drewN' | apply Below.drew | (apply Below.tr; assumption)))
          have hb9 := Below.tr hb2 hb
          have hz9 := hb9.size
          have H3 := hid (own_below H0.out hb2 (Nat.le_refl _))
          go_wp2_with (at_builtin; go_must (refine wpList_append_own _ rfl _ _ 48 rfl (w.heap.size) 4 i0 _ 1 1 Try.underlying48 hi0 iz0 iz1 iz2 rfl (by decide) _ _ _ rfl (H3.out.alloc _) ⟨(w1).heap.size, 0, none⟩ 1 1 [.bool true] rfl rfl (news_at w1 [.bool true] 4) (by simp [Value.oneCell']) (by unfold maxLen; omega) (by omega) (by first | omega | (simp; done) | (simp; omega)) ?_); intro v2 w2 own_w2 grow_w2 _)
          go_roundw
          case rel => exact ⟨k + 1, true, ys ++ [true], by omega, by go_num, rfl, by simp [hys], Below.ap hb9 hb9.size H3.out (Nat.le_refl _) grow_w2, by simpa [encBo] using own_w2, hid (by rw [H.out, HS.out]; simp [g])⟩
          case measure => simp [intOf]; omega
        · go_wp2_with fail
          refine (HE.out p.m _ (by repeat (first | assumption | exact Below.refl _ _ | apply Below.al | apply Below.drewN' | apply Below.drew | (apply Below.tr; assumption)))).mono ?_
          rw [g]
          rintro e w1 ⟨rfl, hb1⟩
          have hz1 := hb1.size
          have hb2 : Below wr.heap.size wr w1 := (by repeat (first | assumption | exact Below.refl _ _ | apply Below.al | apply Below.drewN' | apply Below.drew | (apply Below.tr; assumption)))
          have hb9 := Below.tr hb2 hb
          have hz9 := hb9.size
          have H3 := hid (own_below H0.out hb2 (Nat.le_refl _))
          go_wp2_with (at_builtin; go_must (refine wpList_append_own _ rfl _ _ 48 rfl (w.heap.size) 4 i0 _ 1 1 Try.underlying48 hi0 iz0 iz1 iz2 rfl (by decide) _ _ _ rfl (H3.out.alloc _) ⟨(w1).heap.size, 0, none⟩ 1 1 [.bool false] rfl rfl (news_at w1 [.bool false] 4) (by simp [Value.oneCell']) (by unfold maxLen; omega) (by omega) (by first | omega | (simp; done) | (simp; omega)) ?_); intro v2 w2 own_w2 grow_w2 _)
          go_roundw
          case rel => exact ⟨k + 1, false, ys ++ [false], by omega, by go_num, rfl, by simp [hys], Below.ap hb9 hb9.size H3.out (Nat.le_refl _) grow_w2, by simpa [encBo] using own_w2, hid (by rw [H.out, HS.out]; simp [g])⟩
          case measure => simp [intOf]; omega
    · obtain rfl : k = xs.length := by omega
      have HE : Hid (scanB (fun on m => if on = true then !fe m else fb m) false xs = ys) := hid (by have := H.out; rw [List.drop_eq_nil_of_le (by omega)] at this; simpa [scanB] using this)
      have H0 := hid hown
      obtain ⟨Ar, cr, rfl⟩ := own_shape hown
      clear hown
      go_wp2
      go_ret
      exact ⟨Ar, cr, by rw [HE.out]; simp [hys], by rw [HE.out]; have := H0.out; rw [hys]; exact this, hb⟩
theorem ob1_any (m v : Int) (g : Nat) (w : World) (h0 : w.cell? ⟨g, 0, none⟩ = some (.int .i64 v)) :
    Calls Try.prog 100 #[.int .i64 m, .pointer (some ⟨g, 0, none⟩)] w fun e w' => e = .returned (.bool (decide (m ≤ v))) ∧ Below w.heap.size w w' := by
  go_enter Try.func100, Try.ntmps100
  go_wp2
  all_goals
    go_ret
    exact ⟨ret_bool (by simp), (by repeat (first | assumption | exact Below.refl _ _ | apply Below.al | apply Below.drewN' | apply Below.drew | (apply Below.tr; assumption)))⟩
theorem ob2_any (m v : Int) (g : Nat) (w : World) (h0 : w.cell? ⟨g, 1, none⟩ = some (.int .i64 v)) :
    Calls Try.prog 101 #[.int .i64 m, .pointer (some ⟨g, 0, none⟩)] w fun e w' => e = .returned (.bool (decide (v < m))) ∧ Below w.heap.size w w' := by
  go_enter Try.func101, Try.ntmps101
  go_wp2
  all_goals
    go_ret
    exact ⟨ret_bool (by simp), (by repeat (first | assumption | exact Below.refl _ _ | apply Below.al | apply Below.drewN' | apply Below.drew | (apply Below.tr; assumption)))⟩
theorem outburstStates_any (A : Option Addr) (c : Nat) (xs : List Pt) (a b : Int) (w : World) (h : Rd encPt 2 w w.heap.size A xs) (hn : xs.length ≤ 1048576) :
    Calls Try.prog 75 #[.slice A xs.length c, .agg #[.int .i64 a, .int .i64 b]] w (OwnRes 4 1 encBo (scanB (obF a b) false xs) w) := by
  have HF : Hid (scanB (fun on m => if on = true then !decide (b < m) else decide (m ≤ a)) false xs = scanB (obF a b) false xs) := by
    unfold Hid; congr 1; funext on m
    cases on
    · rfl
    · show (!decide (b < m)) = decide (m ≤ b)
      by_cases h : b < m
      · rw [decide_eq_true h, decide_eq_false (by omega)]; rfl
      · rw [decide_eq_false h, decide_eq_true (by omega)]; rfl
  go_enter Try.func75, Try.ntmps75
  go_wp2_with fail
  refine (states_any 100 101 _ _ (fun m => decide (m ≤ a)) (fun m => decide (b < m)) A c xs _ ((h.below (B' := w.heap.size) (by repeat (first | assumption | exact Below.refl _ _ | apply Below.al | apply Below.drewN' | apply Below.drew | (apply Below.tr; assumption))) (Nat.le_refl _)).more (by first | (simp; done) | (simp; omega))) hn (callFunc_enter Try.func100 (by kernel_rfl) (by kernel_rfl)) (callFunc_enter Try.func101 (by kernel_rfl) (by kernel_rfl)) ?_ ?_).mono ?_
  · intro m w1 hb1
    refine (ob1_any m _ w.heap.size w1 ?_).mono fun e w2 he => he
    rw [(bcell hb1).1 (w.heap.size) 0 (by first | (simp; done) | (simp; omega))]; simp [go_sem]
  · intro m w1 hb1
    refine (ob2_any m _ w.heap.size w1 ?_).mono fun e w2 he => he
    rw [(bcell hb1).1 (w.heap.size) 1 (by first | (simp; done) | (simp; omega))]; simp [go_sem]
  · rw [HF.out]
    rintro e w2 ⟨Ar, cr, rfl, o2, hb2⟩
    go_wp2
    go_ret
    exact ⟨Ar, cr, rfl, own_lo o2 (by first | (simp; done) | (simp; omega)), (by repeat (first | assumption | exact Below.refl _ _ | apply Below.al | apply Below.drewN' | apply Below.drew | (apply Below.tr; assumption)))⟩
set_option maxHeartbeats 2000000 in
theorem specStatesOf_any (A : Option Addr) (c : Nat) (xs : List Pt) (a b : Int) (w : World) (h : Rd encPt 2 w w.heap.size A xs) (hn : xs.length ≤ 1048576) :
    Calls Try.prog 34 #[.slice A xs.length c, .agg #[.int .i64 a, .int .i64 b]] w (OwnTup 4 1 encBo (obV xs a b) (obC xs a b) w) := by
  by_cases hc : obC xs a b = 0
  rotate_left
  · have HV : Hid (obV xs a b = []) := by simp [Hid, obV, hc]
    have HC : Hid (obC xs a b = 1) := by unfold Hid; unfold obC at hc ⊢; cases h1 : cvB xs <;> cases h2 : thrB a b <;> simp_all
    have HN : (obC xs a b != 0) = true := by simp [hc]
    go_enter Try.func34, Try.ntmps34
    go_wp2_with (first | (go_at_call 72; refine (l19Code_any A c xs a b _ ((h.below (B' := w.heap.size) (by repeat (first | assumption | exact Below.refl _ _ | apply Below.al | apply Below.drewN' | apply Below.drew | (apply Below.tr; assumption))) (Nat.le_refl _)).more (by first | (simp; done) | (simp; omega))) hn).mono ?_; rintro e w1 ⟨rfl, hb1⟩; obtain ⟨hc_w1, hf_w1⟩ := bcell hb1; have hz_w1 := hb1.size; (try simp at hz_w1); (try have g_w1 : w.heap.size < w1.heap.size := (by omega))))
    go_ret2
    exact ⟨none, 0, by rw [HV.out]; rfl, by rw [HV.out]; exact World.ownsRow_nil _ _ _ _, (by repeat (first | assumption | exact Below.refl _ _ | apply Below.al | apply Below.drewN' | apply Below.drew | (apply Below.tr; assumption)))⟩
  have HV : Hid (obV xs a b = scanB (obF a b) false xs) := by simp [Hid, obV, hc]
  have HC := hid hc
  have HN : (obC xs a b != 0) = false := by simp [hc]
  clear hc
  go_enter Try.func34, Try.ntmps34
  go_wp2_with (first | (go_at_call 72; refine (l19Code_any A c xs a b _ ((h.below (B' := w.heap.size) (by repeat (first | assumption | exact Below.refl _ _ | apply Below.al | apply Below.drewN' | apply Below.drew | (apply Below.tr; assumption))) (Nat.le_refl _)).more (by first | (simp; done) | (simp; omega))) hn).mono ?_; rintro e w1 ⟨rfl, hb1⟩; obtain ⟨hc_w1, hf_w1⟩ := bcell hb1; have hz_w1 := hb1.size; (try simp at hz_w1); (try have g_w1 : w.heap.size < w1.heap.size := (by omega))))
  have hw : Below w.heap.size w w1 := (by repeat (first | assumption | exact Below.refl _ _ | apply Below.al | apply Below.drewN' | apply Below.drew | (apply Below.tr; assumption)))
  refine (l19States_any A c xs a b _ ((h.below hw (Nat.le_refl _)).more hw.size) hn).mono ?_
  rintro e w5 ⟨Ar, cr, rfl, o5, hb5⟩
  go_wp2
  go_ret2
  exact ⟨Ar, cr, by rw [HV.out, HC.out]; simp, by rw [HV.out]; exact own_lo o5 hw.size, (by repeat (first | assumption | exact Below.refl _ _ | apply Below.al | apply Below.drewN' | apply Below.drew | (apply Below.tr; assumption)))⟩
set_option maxHeartbeats 2000000 in
theorem implStatesOf_any (A : Option Addr) (c : Nat) (xs : List Pt) (a b : Int) (w : World) (h : Rd encPt 2 w w.heap.size A xs) (hn : xs.length ≤ 1048576) :
    Calls Try.prog 36 #[.slice A xs.length c, .agg #[.int .i64 a, .int .i64 b]] w (OwnTup 4 1 encBo (obV xs a b) (obC xs a b) w) := by
  by_cases hc : obC xs a b = 0
  rotate_left
  · have HV : Hid (obV xs a b = []) := by simp [Hid, obV, hc]
    have HC : Hid (obC xs a b = 1) := by unfold Hid; unfold obC at hc ⊢; cases h1 : cvB xs <;> cases h2 : thrB a b <;> simp_all
    cases h1 : cvB xs <;> cases h2 : thrB a b
    all_goals
      first
        | (exfalso; apply hc; unfold obC; rw [h1, h2]; rfl)
        | (go_enter Try.func36, Try.ntmps36
           go_wp2_with (first | (go_at_call 66; refine (validCurve_any A c xs _ ((h.below (B' := w.heap.size) (by repeat (first | assumption | exact Below.refl _ _ | apply Below.al | apply Below.drewN' | apply Below.drew | (apply Below.tr; assumption))) (Nat.le_refl _)).more (by first | (simp; done) | (simp; omega))) hn).mono ?_; rintro e w1 ⟨rfl, hb1⟩; obtain ⟨hc_w1, hf_w1⟩ := bcell hb1; have hz_w1 := hb1.size; (try simp at hz_w1); (try have g_w1 : w.heap.size < w1.heap.size := (by omega)); have g_w1 : w.heap.size < w1.heap.size := by omega) | (go_at_call 74; refine (validThreshold_any _ _ _).mono ?_; rintro e w2 ⟨rfl, hb2⟩; obtain ⟨hc_w2, hf_w2⟩ := bcell hb2; have hz_w2 := hb2.size))
           go_ret2
           exact ⟨none, 0, by rw [HV.out, HC.out]; rfl, by rw [HV.out]; exact World.ownsRow_nil _ _ _ _, (by repeat (first | assumption | exact Below.refl _ _ | apply Below.al | apply Below.drewN' | apply Below.drew | (apply Below.tr; assumption)))⟩)
  have HV : Hid (obV xs a b = scanB (obF a b) false xs) := by simp [Hid, obV, hc]
  have HC := hid hc
  have h1 : cvB xs = true := by unfold obC at hc; cases h1 : cvB xs <;> simp_all
  have h2 : thrB a b = true := by unfold obC at hc; cases h2 : thrB a b <;> simp_all
  clear hc
  go_enter Try.func36, Try.ntmps36
  go_wp2_with (first | (go_at_call 66; refine (validCurve_any A c xs _ ((h.below (B' := w.heap.size) (by repeat (first | assumption | exact Below.refl _ _ | apply Below.al | apply Below.drewN' | apply Below.drew | (apply Below.tr; assumption))) (Nat.le_refl _)).more (by first | (simp; done) | (simp; omega))) hn).mono ?_; rintro e w1 ⟨rfl, hb1⟩; obtain ⟨hc_w1, hf_w1⟩ := bcell hb1; have hz_w1 := hb1.size; (try simp at hz_w1); (try have g_w1 : w.heap.size < w1.heap.size := (by omega)); have g_w1 : w.heap.size < w1.heap.size := by omega) | (go_at_call 74; refine (validThreshold_any _ _ _).mono ?_; rintro e w2 ⟨rfl, hb2⟩; obtain ⟨hc_w2, hf_w2⟩ := bcell hb2; have hz_w2 := hb2.size))
  have hw : Below w.heap.size w w2 := (by repeat (first | assumption | exact Below.refl _ _ | apply Below.al | apply Below.drewN' | apply Below.drew | (apply Below.tr; assumption)))
  refine (outburstStates_any A c xs a b _ ((h.below hw (Nat.le_refl _)).more hw.size) hn).mono ?_
  rintro e w5 ⟨Ar, cr, rfl, o5, hb5⟩
  go_wp2
  go_ret2
  exact ⟨Ar, cr, by rw [HV.out, HC.out]; simp, by rw [HV.out]; exact own_lo o5 hw.size, (by repeat (first | assumption | exact Below.refl _ _ | apply Below.al | apply Below.drewN' | apply Below.drew | (apply Below.tr; assumption)))⟩
end Go.Proofs.Ytpfdfbebeckohaa
