/- Contracts of OutburstsOf and FadingsOf, in the program and in the reference. -/
import Derived.Test.YtpfdfbebeckohaaC19i
namespace Go.Proofs.Ytpfdfbebeckohaa
open Go.RowKit
set_option linter.unusedVariables false
theorem alStep_len (wo : Int → Int → Int) (done : List Al) (cur : Option Al) (p : Pt) (s : Bool) : (alStep wo done cur p s).1.length + (alStep wo done cur p s).2.toList.length ≤ done.length + cur.toList.length + 1 := by
  cases cur <;> cases s <;> simp [alStep]
theorem alRun_len (wo : Int → Int → Int) : ∀ (xs : List Pt) (ss : List Bool) (done : List Al) (cur : Option Al), (alRun wo done cur xs ss).length ≤ done.length + cur.toList.length + xs.length
  | [], _, done, cur => by simp [alRun]
  | _ :: _, [], done, cur => by simp [alRun]
  | p :: r, s :: t, done, cur => by
    have h1 := alRun_len wo r t (alStep wo done cur p s).1 (alStep wo done cur p s).2
    have h2 := alStep_len wo done cur p s
    simp only [alRun, List.length_cons]
    omega
def faF (a b : Int) (on : Bool) (m : Int) : Bool := if on = true then decide (a ≤ m) else decide (b ≤ m)
theorem faF_eq (a b : Int) (xs : List Pt) : scanB (fun on m => if on = true then !decide (m < a) else decide (b ≤ m)) false xs = scanB (faF a b) false xs := by
  congr 1; funext on m
  cases on
  · rfl
  · show (!decide (m < a)) = decide (a ≤ m)
    by_cases h : m < a
    · rw [decide_eq_true h, decide_eq_false (by omega)]; rfl
    · rw [decide_eq_false h, decide_eq_true (by omega)]; rfl
def oaV (xs : List Pt) (a b : Int) : List Al := if obC xs a b = 0 then alRun wl [] none xs (scanB (obF a b) false xs) else []
def faV (xs : List Pt) (a b : Int) : List Al := if obC xs a b = 0 then alRun wg [] none xs (scanB (faF a b) false xs) else []
theorem oaV_len (xs : List Pt) (a b : Int) : (oaV xs a b).length ≤ xs.length := by
  unfold oaV
  split
  · have := alRun_len wl xs (scanB (obF a b) false xs) [] none; simpa using this
  · simp
theorem faV_len (xs : List Pt) (a b : Int) : (faV xs a b).length ≤ xs.length := by
  unfold faV
  split
  · have := alRun_len wg xs (scanB (faF a b) false xs) [] none; simpa using this
  · simp
theorem outbursts_any (A : Option Addr) (c : Nat) (xs : List Pt) (a b : Int) (w : World) (h : Rd encPt 2 w w.heap.size A xs) (hn : xs.length ≤ 1048576)
    (V : Hid (∀ (k : Nat) (p : Pt), xs[k]? = some p → 0 ≤ p.t ∧ p.t ≤ 10000000 ∧ -2000 ≤ p.m ∧ p.m ≤ 20000)) :
    Calls Try.prog 78 #[.slice A xs.length c, .agg #[.int .i64 a, .int .i64 b]] w (OwnRes 78 3 encAl (alRun wl [] none xs (scanB (obF a b) false xs)) w) := by
  have HL : Hid ((scanB (obF a b) false xs).length = xs.length) := hid (scanB_len _ _ _)
  go_enter Try.func78, Try.ntmps78
  go_wp2_with fail
  refine (outburstStates_any A c xs a b _ ((h.below (B' := w.heap.size) (by repeat (first | assumption | exact Below.refl _ _ | apply Below.al | apply Below.drewN' | apply Below.drew | (apply Below.tr; assumption))) (Nat.le_refl _)).more (by first | (simp; done) | (simp; omega))) hn).mono ?_
  rintro e w1 ⟨A1, c1, rfl, o1, hb1⟩
  have hw : Below w.heap.size w w1 := (by repeat (first | assumption | exact Below.refl _ _ | apply Below.al | apply Below.drewN' | apply Below.drew | (apply Below.tr; assumption)))
  have hd := hid (rd_of_own (enc := encBo) (k := 1) (fun _ => rfl) o1)
  go_wp2_with fail
  refine (alerts_any 102 wl A c xs A1 c1 (scanB (obF a b) false xs) _ ((h.below hw (Nat.le_refl _)).more hw.size) hn hd.out HL.out V (callFunc_enter Try.func102 (by kernel_rfl) (by kernel_rfl)) (fun a m w1 => lesser_any a m w1) (fun m => by unfold wl; split <;> omega) (fun a m => by unfold wl; split <;> simp)).mono ?_
  rintro e w2 ⟨Ar, cr, rfl, o2, hb2⟩
  go_wp2
  go_ret
  exact ⟨Ar, cr, rfl, own_lo o2 hw.size, (by repeat (first | assumption | exact Below.refl _ _ | apply Below.al | apply Below.drewN' | apply Below.drew | (apply Below.tr; assumption)))⟩
set_option maxRecDepth 20000 in
set_option maxHeartbeats 2000000 in
theorem specOutburstsOf_any (A : Option Addr) (c : Nat) (xs : List Pt) (a b : Int) (w : World) (h : Rd encPt 2 w w.heap.size A xs) (hn : xs.length ≤ 1048576) :
    Calls Try.prog 45 #[.slice A xs.length c, .agg #[.int .i64 a, .int .i64 b]] w (OwnTup 78 3 encAl (oaV xs a b) (obC xs a b) w) := by
  by_cases hc : obC xs a b = 0
  rotate_left
  · have HV : Hid (oaV xs a b = []) := by simp [Hid, oaV, hc]
    have HN : (obC xs a b != 0) = true := by simp [hc]
    go_enter Try.func45, Try.ntmps45
    go_wp2_with (first | (go_at_call 72; refine (l19Code_any A c xs a b _ ((h.below (B' := w.heap.size) (by repeat (first | assumption | exact Below.refl _ _ | apply Below.al | apply Below.drewN' | apply Below.drew | (apply Below.tr; assumption))) (Nat.le_refl _)).more (by first | (simp; done) | (simp; omega))) hn).mono ?_; rintro e w1 ⟨rfl, hb1⟩; obtain ⟨hc_w1, hf_w1⟩ := bcell hb1; have hz_w1 := hb1.size; (try simp at hz_w1); (try have g_w1 : w.heap.size < w1.heap.size := (by omega))))
    go_ret2
    exact ⟨none, 0, by rw [HV.out]; rfl, by rw [HV.out]; exact World.ownsRow_nil _ _ _ _, (by repeat (first | assumption | exact Below.refl _ _ | apply Below.al | apply Below.drewN' | apply Below.drew | (apply Below.tr; assumption)))⟩
  have HV : Hid (oaV xs a b = alRun wl [] none xs (scanB (obF a b) false xs)) := by simp [Hid, oaV, hc]
  have HC := hid hc
  have h1 : cvB xs = true := by unfold obC at hc; cases h1 : cvB xs <;> simp_all
  have h2 : thrB a b = true := by unfold obC at hc; cases h2 : thrB a b <;> simp_all
  have HL : Hid ((scanB (obF a b) false xs).length = xs.length) := hid (scanB_len _ _ _)
  have V := hid (cvB_at h1)
  have hn9 : True := trivial
  have HN : (obC xs a b != 0) = false := by simp [hc]
  skip
  clear hc
  skip
  go_enter Try.func45, Try.ntmps45
  go_wp2_with (first | (go_at_call 72; refine (l19Code_any A c xs a b _ ((h.below (B' := w.heap.size) (by repeat (first | assumption | exact Below.refl _ _ | apply Below.al | apply Below.drewN' | apply Below.drew | (apply Below.tr; assumption))) (Nat.le_refl _)).more (by first | (simp; done) | (simp; omega))) hn).mono ?_; rintro e w1 ⟨rfl, hb1⟩; obtain ⟨hc_w1, hf_w1⟩ := bcell hb1; have hz_w1 := hb1.size; (try simp at hz_w1); (try have g_w1 : w.heap.size < w1.heap.size := (by omega))))
  have hw : Below w.heap.size w w1 := (by repeat (first | assumption | exact Below.refl _ _ | apply Below.al | apply Below.drewN' | apply Below.drew | (apply Below.tr; assumption)))
  refine (l19States_any A c xs a b _ ((h.below hw (Nat.le_refl _)).more hw.size) hn).mono ?_
  rintro e w2 ⟨A1, c1, rfl, o1, hb2⟩
  have hw2 : Below w.heap.size w w2 := (by repeat (first | assumption | exact Below.refl _ _ | apply Below.al | apply Below.drewN' | apply Below.drew | (apply Below.tr; assumption)))
  have hd := hid (rd_of_own (enc := encBo) (k := 1) (fun _ => rfl) o1)
  go_wp2_with fail
  refine (l19AlertsL_any A c xs A1 c1 (scanB (obF a b) false xs) _ ((h.below hw2 (Nat.le_refl _)).more hw2.size) hn hd.out HL.out V).mono ?_
  rintro e w5 ⟨Ar, cr, rfl, o5, hb5⟩
  go_wp2
  go_ret2
  exact ⟨Ar, cr, by rw [HV.out, HC.out]; simp, by rw [HV.out]; exact own_lo o5 hw2.size, (by repeat (first | assumption | exact Below.refl _ _ | apply Below.al | apply Below.drewN' | apply Below.drew | (apply Below.tr; assumption)))⟩
set_option maxRecDepth 20000 in
set_option maxHeartbeats 2000000 in
theorem implOutburstsOf_any (A : Option Addr) (c : Nat) (xs : List Pt) (a b : Int) (w : World) (h : Rd encPt 2 w w.heap.size A xs) (hn : xs.length ≤ 1048576) :
    Calls Try.prog 46 #[.slice A xs.length c, .agg #[.int .i64 a, .int .i64 b]] w (OwnTup 78 3 encAl (oaV xs a b) (obC xs a b) w) := by
  by_cases hc : obC xs a b = 0
  rotate_left
  · have HV : Hid (oaV xs a b = []) := by simp [Hid, oaV, hc]
    have HC : Hid (obC xs a b = 1) := by unfold Hid; unfold obC at hc ⊢; cases h1 : cvB xs <;> cases h2 : thrB a b <;> simp_all
    cases h1 : cvB xs <;> cases h2 : thrB a b
    all_goals
      first
        | (exfalso; apply hc; unfold obC; rw [h1, h2]; rfl)
        | (go_enter Try.func46, Try.ntmps46
           go_wp2_with (first | (go_at_call 66; refine (validCurve_any A c xs _ ((h.below (B' := w.heap.size) (by repeat (first | assumption | exact Below.refl _ _ | apply Below.al | apply Below.drewN' | apply Below.drew | (apply Below.tr; assumption))) (Nat.le_refl _)).more (by first | (simp; done) | (simp; omega))) hn).mono ?_; rintro e w1 ⟨rfl, hb1⟩; obtain ⟨hc_w1, hf_w1⟩ := bcell hb1; have hz_w1 := hb1.size; (try simp at hz_w1); (try have g_w1 : w.heap.size < w1.heap.size := (by omega)); have g_w1 : w.heap.size < w1.heap.size := by omega) | (go_at_call 74; refine (validThreshold_any _ _ _).mono ?_; rintro e w2 ⟨rfl, hb2⟩; obtain ⟨hc_w2, hf_w2⟩ := bcell hb2; have hz_w2 := hb2.size))
           go_ret2
           exact ⟨none, 0, by rw [HV.out, HC.out]; rfl, by rw [HV.out]; exact World.ownsRow_nil _ _ _ _, (by repeat (first | assumption | exact Below.refl _ _ | apply Below.al | apply Below.drewN' | apply Below.drew | (apply Below.tr; assumption)))⟩)
  have HV : Hid (oaV xs a b = alRun wl [] none xs (scanB (obF a b) false xs)) := by simp [Hid, oaV, hc]
  have HC := hid hc
  have h1 : cvB xs = true := by unfold obC at hc; cases h1 : cvB xs <;> simp_all
  have h2 : thrB a b = true := by unfold obC at hc; cases h2 : thrB a b <;> simp_all
  have HL : Hid ((scanB (obF a b) false xs).length = xs.length) := hid (scanB_len _ _ _)
  have V := hid (cvB_at h1)
  have hn9 : True := trivial
  have HN : True := trivial
  skip
  clear hc
  skip
  go_enter Try.func46, Try.ntmps46
  go_wp2_with (first | (go_at_call 66; refine (validCurve_any A c xs _ ((h.below (B' := w.heap.size) (by repeat (first | assumption | exact Below.refl _ _ | apply Below.al | apply Below.drewN' | apply Below.drew | (apply Below.tr; assumption))) (Nat.le_refl _)).more (by first | (simp; done) | (simp; omega))) hn).mono ?_; rintro e w1 ⟨rfl, hb1⟩; obtain ⟨hc_w1, hf_w1⟩ := bcell hb1; have hz_w1 := hb1.size; (try simp at hz_w1); (try have g_w1 : w.heap.size < w1.heap.size := (by omega)); have g_w1 : w.heap.size < w1.heap.size := by omega) | (go_at_call 74; refine (validThreshold_any _ _ _).mono ?_; rintro e w2 ⟨rfl, hb2⟩; obtain ⟨hc_w2, hf_w2⟩ := bcell hb2; have hz_w2 := hb2.size))
  have hw : Below w.heap.size w w2 := (by repeat (first | assumption | exact Below.refl _ _ | apply Below.al | apply Below.drewN' | apply Below.drew | (apply Below.tr; assumption)))
  refine (outbursts_any A c xs a b _ ((h.below hw (Nat.le_refl _)).more hw.size) hn V).mono ?_
  rintro e w5 ⟨Ar, cr, rfl, o5, hb5⟩
  go_wp2
  go_ret2
  exact ⟨Ar, cr, by rw [HV.out, HC.out]; simp, by rw [HV.out]; exact own_lo o5 hw.size, (by repeat (first | assumption | exact Below.refl _ _ | apply Below.al | apply Below.drewN' | apply Below.drew | (apply Below.tr; assumption)))⟩
set_option maxRecDepth 20000 in
set_option maxHeartbeats 2000000 in
theorem specFadingsOf_any (A : Option Addr) (c : Nat) (xs : List Pt) (a b : Int) (w : World) (h : Rd encPt 2 w w.heap.size A xs) (hn : xs.length ≤ 1048576) :
    Calls Try.prog 43 #[.slice A xs.length c, .agg #[.int .i64 a, .int .i64 b]] w (OwnTup 78 3 encAl (faV xs a b) (obC xs a b) w) := by
  by_cases hc : obC xs a b = 0
  rotate_left
  · have HV : Hid (faV xs a b = []) := by simp [Hid, faV, hc]
    have HN : (obC xs a b != 0) = true := by simp [hc]
    go_enter Try.func43, Try.ntmps43
    go_wp2_with (first | (go_at_call 72; refine (l19Code_any A c xs a b _ ((h.below (B' := w.heap.size) (by repeat (first | assumption | exact Below.refl _ _ | apply Below.al | apply Below.drewN' | apply Below.drew | (apply Below.tr; assumption))) (Nat.le_refl _)).more (by first | (simp; done) | (simp; omega))) hn).mono ?_; rintro e w1 ⟨rfl, hb1⟩; obtain ⟨hc_w1, hf_w1⟩ := bcell hb1; have hz_w1 := hb1.size; (try simp at hz_w1); (try have g_w1 : w.heap.size < w1.heap.size := (by omega))))
    go_ret2
    exact ⟨none, 0, by rw [HV.out]; rfl, by rw [HV.out]; exact World.ownsRow_nil _ _ _ _, (by repeat (first | assumption | exact Below.refl _ _ | apply Below.al | apply Below.drewN' | apply Below.drew | (apply Below.tr; assumption)))⟩
  have HV : Hid (faV xs a b = alRun wg [] none xs (scanB (faF a b) false xs)) := by simp [Hid, faV, hc]
  have HC := hid hc
  have h1 : cvB xs = true := by unfold obC at hc; cases h1 : cvB xs <;> simp_all
  have h2 : thrB a b = true := by unfold obC at hc; cases h2 : thrB a b <;> simp_all
  have HL : Hid ((scanB (faF a b) false xs).length = xs.length) := hid (scanB_len _ _ _)
  have V := hid (cvB_at h1)
  have hn9 : True := trivial
  have HN : (obC xs a b != 0) = false := by simp [hc]
  skip
  clear hc
  obtain ⟨i0, hi0, iz0, iz1, iz2⟩ := info_parts (P := Try.prog) (e := 4) (z := .bool false) (size := 1) (bytes := 1) (by kernel_rfl)
  go_enter Try.func43, Try.ntmps43
  go_wp2_with (first | (go_at_call 72; refine (l19Code_any A c xs a b _ ((h.below (B' := w.heap.size) (by repeat (first | assumption | exact Below.refl _ _ | apply Below.al | apply Below.drewN' | apply Below.drew | (apply Below.tr; assumption))) (Nat.le_refl _)).more (by first | (simp; done) | (simp; omega))) hn).mono ?_; rintro e w1 ⟨rfl, hb1⟩; obtain ⟨hc_w1, hf_w1⟩ := bcell hb1; have hz_w1 := hb1.size; (try simp at hz_w1); (try have g_w1 : w.heap.size < w1.heap.size := (by omega))))
  clear hn9
  go_loopw [7, 8, 9] (fun v on i wr => ∃ (k : Nat) (o : Bool) (ys : List Bool), k ≤ xs.length ∧ i = .int .i64 k ∧ on = .bool o ∧ ys.length = k ∧ Below (World.heap (w.alloc (.cells #[.int .i64 a, .int .i64 b] 51))).size (w.alloc (.cells #[.int .i64 a, .int .i64 b] 51)) wr ∧ wr.ownsRow (w.heap.size + 1) 4 1 v k (ys.flatMap encBo) ∧ Hid (scanB (faF a b) false xs = ys ++ scanB (faF a b) o (xs.drop k))) (fun _ _ i _ => xs.length - (intOf i).toNat)
  case atStart => exact ⟨0, false, [], Nat.zero_le _, rfl, rfl, rfl, (by repeat (first | assumption | exact Below.refl _ _ | apply Below.al | apply Below.drewN' | apply Below.drew | (apply Below.tr; assumption))), (own_lit1 _ _ _ (by simp) (by omega)), hid rfl⟩
  case round =>
    obtain ⟨k, o, ys, hk, rfl, rfl, hys, hb, hown, H⟩ := hrel
    have hbw : Below w.heap.size w wr := Below.tr hb (by repeat (first | assumption | exact Below.refl _ _ | apply Below.al | apply Below.drewN' | apply Below.drew | (apply Below.tr; assumption)))
    by_cases hlt : k < xs.length
    · obtain ⟨p, hp⟩ := getx hlt
      obtain ⟨b', o', rfl, hbB, c0, c1⟩ := (h.below hbw (Nat.le_refl _)).at2 hp rfl
      have hsz := hb.size
      simp at hsz
      have b0 : b' < wr.heap.size := by omega
      have b1 : w.heap.size < wr.heap.size := by omega
      have e0 : wr.cell? ⟨w.heap.size, 0, none⟩ = some (.int .i64 a) := by rw [(bcell hb).1 (w.heap.size) 0 (by first | (simp; done) | (simp; omega))]; simp [go_sem]
      have e1 : wr.cell? ⟨w.heap.size, 1, none⟩ = some (.int .i64 b) := by rw [(bcell hb).1 (w.heap.size) 1 (by first | (simp; done) | (simp; omega))]; simp [go_sem]
      have HS : Hid (scanB (faF a b) o (xs.drop k) = faF a b o p.m :: scanB (faF a b) (faF a b o p.m) (xs.drop (k+1))) := by rw [dropx hp]; rfl
      have H0 := hid hown
      clear hp hown
      cases o
      · by_cases g : b ≤ p.m
        · have g' : decide (b ≤ p.m) = true := by simpa using g
          go_wp2
          refine wp_region_ext (by kernel_rfl) (by kernel_rfl) ?_
          repeat (go_big_quiet_step ((first | fail)))
          refine wpQuiet_nil ?_
          intro w3 hb3
          obtain ⟨hc_w3, hf_w3⟩ := bcell hb3
          have hz_w3 := hb3.size
          have H3 := hid (own_below H0.out hb3 (Nat.le_refl _))
          have hb9 := Below.tr hb3 hb
          have hz9 := hb9.size
          simp at hz9
          go_wp2_with (at_builtin; go_must (refine wpList_append_own _ rfl _ _ 48 rfl (w.heap.size + 1) 4 i0 _ 1 1 Try.underlying48 hi0 iz0 iz1 iz2 rfl (by decide) _ _ _ rfl (H3.out.alloc _) ⟨(w3).heap.size, 0, none⟩ 1 1 [.bool true] rfl rfl (news_at w3 [.bool true] 4) (by simp [Value.oneCell']) (by unfold maxLen; omega) (by omega) (by first | omega | (simp; done) | (simp; omega)) ?_); intro v2 w2 own_w2 grow_w2 _)
          go_roundw
          case rel => exact ⟨k + 1, true, ys ++ [true], by omega, by go_num, rfl, by simp [hys], Below.ap hb9 hb9.size H3.out (by first | (simp; done) | (simp; omega)) grow_w2, by simpa [encBo] using own_w2, hid (by rw [H.out, HS.out]; simp [faF, g'])⟩
          case measure => simp [intOf]; omega
        · have g' : decide (b ≤ p.m) = false := by simpa using g
          go_wp2
          refine wp_region_ext (by kernel_rfl) (by kernel_rfl) ?_
          repeat (go_big_quiet_step ((first | fail)))
          refine wpQuiet_nil ?_
          intro w3 hb3
          obtain ⟨hc_w3, hf_w3⟩ := bcell hb3
          have hz_w3 := hb3.size
          have H3 := hid (own_below H0.out hb3 (Nat.le_refl _))
          have hb9 := Below.tr hb3 hb
          have hz9 := hb9.size
          simp at hz9
          go_wp2_with (at_builtin; go_must (refine wpList_append_own _ rfl _ _ 48 rfl (w.heap.size + 1) 4 i0 _ 1 1 Try.underlying48 hi0 iz0 iz1 iz2 rfl (by decide) _ _ _ rfl (H3.out.alloc _) ⟨(w3).heap.size, 0, none⟩ 1 1 [.bool false] rfl rfl (news_at w3 [.bool false] 4) (by simp [Value.oneCell']) (by unfold maxLen; omega) (by omega) (by first | omega | (simp; done) | (simp; omega)) ?_); intro v2 w2 own_w2 grow_w2 _)
          go_roundw
          case rel => exact ⟨k + 1, false, ys ++ [false], by omega, by go_num, rfl, by simp [hys], Below.ap hb9 hb9.size H3.out (by first | (simp; done) | (simp; omega)) grow_w2, by simpa [encBo] using own_w2, hid (by rw [H.out, HS.out]; simp [faF, g'])⟩
          case measure => simp [intOf]; omega
      · by_cases g : a ≤ p.m
        · have g' : decide (a ≤ p.m) = true := by simpa using g
          go_wp2
          refine wp_region_ext (by kernel_rfl) (by kernel_rfl) ?_
          repeat (go_big_quiet_step ((first | fail)))
          refine wpQuiet_nil ?_
          intro w3 hb3
          obtain ⟨hc_w3, hf_w3⟩ := bcell hb3
          have hz_w3 := hb3.size
          have H3 := hid (own_below H0.out hb3 (Nat.le_refl _))
          have hb9 := Below.tr hb3 hb
          have hz9 := hb9.size
          simp at hz9
          go_wp2_with (at_builtin; go_must (refine wpList_append_own _ rfl _ _ 48 rfl (w.heap.size + 1) 4 i0 _ 1 1 Try.underlying48 hi0 iz0 iz1 iz2 rfl (by decide) _ _ _ rfl (H3.out.alloc _) ⟨(w3).heap.size, 0, none⟩ 1 1 [.bool true] rfl rfl (news_at w3 [.bool true] 4) (by simp [Value.oneCell']) (by unfold maxLen; omega) (by omega) (by first | omega | (simp; done) | (simp; omega)) ?_); intro v2 w2 own_w2 grow_w2 _)
          go_roundw
          case rel => exact ⟨k + 1, true, ys ++ [true], by omega, by go_num, rfl, by simp [hys], Below.ap hb9 hb9.size H3.out (by first | (simp; done) | (simp; omega)) grow_w2, by simpa [encBo] using own_w2, hid (by rw [H.out, HS.out]; simp [faF, g'])⟩
          case measure => simp [intOf]; omega
        · have g' : decide (a ≤ p.m) = false := by simpa using g
          go_wp2
          refine wp_region_ext (by kernel_rfl) (by kernel_rfl) ?_
          repeat (go_big_quiet_step ((first | fail)))
          refine wpQuiet_nil ?_
          intro w3 hb3
          obtain ⟨hc_w3, hf_w3⟩ := bcell hb3
          have hz_w3 := hb3.size
          have H3 := hid (own_below H0.out hb3 (Nat.le_refl _))
          have hb9 := Below.tr hb3 hb
          have hz9 := hb9.size
          simp at hz9
          go_wp2_with (at_builtin; go_must (refine wpList_append_own _ rfl _ _ 48 rfl (w.heap.size + 1) 4 i0 _ 1 1 Try.underlying48 hi0 iz0 iz1 iz2 rfl (by decide) _ _ _ rfl (H3.out.alloc _) ⟨(w3).heap.size, 0, none⟩ 1 1 [.bool false] rfl rfl (news_at w3 [.bool false] 4) (by simp [Value.oneCell']) (by unfold maxLen; omega) (by omega) (by first | omega | (simp; done) | (simp; omega)) ?_); intro v2 w2 own_w2 grow_w2 _)
          go_roundw
          case rel => exact ⟨k + 1, false, ys ++ [false], by omega, by go_num, rfl, by simp [hys], Below.ap hb9 hb9.size H3.out (by first | (simp; done) | (simp; omega)) grow_w2, by simpa [encBo] using own_w2, hid (by rw [H.out, HS.out]; simp [faF, g'])⟩
          case measure => simp [intOf]; omega
    · obtain rfl : k = xs.length := by omega
      have HE : Hid (scanB (faF a b) false xs = ys) := hid (by have := H.out; rw [List.drop_eq_nil_of_le (by omega)] at this; simpa [scanB] using this)
      have H0 := hid hown
      obtain ⟨A1, c1, rfl⟩ := own_shape hown
      clear hown
      have HLy : Hid (ys.length = xs.length) := hid hys
      have hd : Hid (Rd encBo 1 wr wr.heap.size A1 ys) := hid (rd_of_own (enc := encBo) (k := 1) (fun _ => rfl) (by rw [hys]; exact H0.out))
      have H9 := hid hys
      have hcall : ∀ w0 (q1 : Rd encPt 2 w0 w0.heap.size A xs) (q2 : Rd encBo 1 w0 w0.heap.size A1 ys), Calls Try.prog 76 #[.slice A xs.length c, .slice A1 xs.length c1, .int .i64 (-1)] w0 (OwnRes 78 3 encAl (alRun wg [] none xs ys) w0) := fun w0 q1 q2 => by
        have hh := l19AlertsG_any A c xs A1 c1 ys w0 q1 hn q2 H9.out V
        rw [H9.out] at hh; exact hh
      go_wp2_with fail
      refine (hcall _ ((h.below hbw (Nat.le_refl _)).more hbw.size) hd.out).mono ?_
      rw [← HE.out]
      rintro e w5 ⟨Ar, cr, rfl, o5, hb5⟩
      go_wp2
      go_ret2
      exact ⟨Ar, cr, by rw [HV.out, HC.out]; simp, by rw [HV.out]; exact own_lo o5 hbw.size, (by repeat (first | assumption | exact Below.refl _ _ | apply Below.al | apply Below.drewN' | apply Below.drew | (apply Below.tr; assumption)))⟩
theorem fa1_any (m v : Int) (g : Nat) (w : World) (h0 : w.cell? ⟨g, 1, none⟩ = some (.int .i64 v)) :
    Calls Try.prog 80 #[.int .i64 m, .pointer (some ⟨g, 0, none⟩)] w fun e w' => e = .returned (.bool (decide (v ≤ m))) ∧ Below w.heap.size w w' := by
  go_enter Try.func80, Try.ntmps80
  go_wp2
  all_goals
    go_ret
    exact ⟨ret_bool (by simp), (by repeat (first | assumption | exact Below.refl _ _ | apply Below.al | apply Below.drewN' | apply Below.drew | (apply Below.tr; assumption)))⟩
theorem fa2_any (m v : Int) (g : Nat) (w : World) (h0 : w.cell? ⟨g, 0, none⟩ = some (.int .i64 v)) :
    Calls Try.prog 81 #[.int .i64 m, .pointer (some ⟨g, 0, none⟩)] w fun e w' => e = .returned (.bool (decide (m < v))) ∧ Below w.heap.size w w' := by
  go_enter Try.func81, Try.ntmps81
  go_wp2
  all_goals
    go_ret
    exact ⟨ret_bool (by simp), (by repeat (first | assumption | exact Below.refl _ _ | apply Below.al | apply Below.drewN' | apply Below.drew | (apply Below.tr; assumption)))⟩
set_option maxRecDepth 20000 in
set_option maxHeartbeats 2000000 in
theorem implFadingsOf_any (A : Option Addr) (c : Nat) (xs : List Pt) (a b : Int) (w : World) (h : Rd encPt 2 w w.heap.size A xs) (hn : xs.length ≤ 1048576) :
    Calls Try.prog 44 #[.slice A xs.length c, .agg #[.int .i64 a, .int .i64 b]] w (OwnTup 78 3 encAl (faV xs a b) (obC xs a b) w) := by
  by_cases hc : obC xs a b = 0
  rotate_left
  · have HV : Hid (faV xs a b = []) := by simp [Hid, faV, hc]
    have HC : Hid (obC xs a b = 1) := by unfold Hid; unfold obC at hc ⊢; cases h1 : cvB xs <;> cases h2 : thrB a b <;> simp_all
    cases h1 : cvB xs <;> cases h2 : thrB a b
    all_goals
      first
        | (exfalso; apply hc; unfold obC; rw [h1, h2]; rfl)
        | (go_enter Try.func44, Try.ntmps44
           go_wp2_with (first | (go_at_call 66; refine (validCurve_any A c xs _ ((h.below (B' := w.heap.size) (by repeat (first | assumption | exact Below.refl _ _ | apply Below.al | apply Below.drewN' | apply Below.drew | (apply Below.tr; assumption))) (Nat.le_refl _)).more (by first | (simp; done) | (simp; omega))) hn).mono ?_; rintro e w1 ⟨rfl, hb1⟩; obtain ⟨hc_w1, hf_w1⟩ := bcell hb1; have hz_w1 := hb1.size; (try simp at hz_w1); (try have g_w1 : w.heap.size < w1.heap.size := (by omega)); have g_w1 : w.heap.size < w1.heap.size := by omega) | (go_at_call 74; refine (validThreshold_any _ _ _).mono ?_; rintro e w2 ⟨rfl, hb2⟩; obtain ⟨hc_w2, hf_w2⟩ := bcell hb2; have hz_w2 := hb2.size))
           go_ret2
           exact ⟨none, 0, by rw [HV.out, HC.out]; rfl, by rw [HV.out]; exact World.ownsRow_nil _ _ _ _, (by repeat (first | assumption | exact Below.refl _ _ | apply Below.al | apply Below.drewN' | apply Below.drew | (apply Below.tr; assumption)))⟩)
  have HV : Hid (faV xs a b = alRun wg [] none xs (scanB (faF a b) false xs)) := by simp [Hid, faV, hc]
  have HC := hid hc
  have h1 : cvB xs = true := by unfold obC at hc; cases h1 : cvB xs <;> simp_all
  have h2 : thrB a b = true := by unfold obC at hc; cases h2 : thrB a b <;> simp_all
  have HL : Hid ((scanB (faF a b) false xs).length = xs.length) := hid (scanB_len _ _ _)
  have V := hid (cvB_at h1)
  have hn9 : True := trivial
  have HN : True := trivial
  have HF : Hid (scanB (fun on m => if on = true then !decide (m < a) else decide (b ≤ m)) false xs = scanB (faF a b) false xs) := faF_eq a b xs
  clear hc
  skip
  go_enter Try.func44, Try.ntmps44
  go_wp2_with (first | (go_at_call 66; refine (validCurve_any A c xs _ ((h.below (B' := w.heap.size) (by repeat (first | assumption | exact Below.refl _ _ | apply Below.al | apply Below.drewN' | apply Below.drew | (apply Below.tr; assumption))) (Nat.le_refl _)).more (by first | (simp; done) | (simp; omega))) hn).mono ?_; rintro e w1 ⟨rfl, hb1⟩; obtain ⟨hc_w1, hf_w1⟩ := bcell hb1; have hz_w1 := hb1.size; (try simp at hz_w1); (try have g_w1 : w.heap.size < w1.heap.size := (by omega)); have g_w1 : w.heap.size < w1.heap.size := by omega) | (go_at_call 74; refine (validThreshold_any _ _ _).mono ?_; rintro e w2 ⟨rfl, hb2⟩; obtain ⟨hc_w2, hf_w2⟩ := bcell hb2; have hz_w2 := hb2.size))
  have hw : Below w.heap.size w w2 := (by repeat (first | assumption | exact Below.refl _ _ | apply Below.al | apply Below.drewN' | apply Below.drew | (apply Below.tr; assumption)))
  refine (states_any 80 81 _ _ (fun m => decide (b ≤ m)) (fun m => decide (m < a)) A c xs _ ((h.below hw (Nat.le_refl _)).more hw.size) hn (callFunc_enter Try.func80 (by kernel_rfl) (by kernel_rfl)) (callFunc_enter Try.func81 (by kernel_rfl) (by kernel_rfl)) ?_ ?_).mono ?_
  · intro m w3 hb3
    refine (fa1_any m _ w.heap.size w3 ?_).mono fun e w4 he => he
    rw [(bcell hb3).1 (w.heap.size) 1 (by have := hb2.size; omega), hc_w2 (w.heap.size) 1 (by omega), hc_w1 (w.heap.size) 1 (by first | (simp; done) | (simp; omega))]; simp [go_sem]
  · intro m w3 hb3
    refine (fa2_any m _ w.heap.size w3 ?_).mono fun e w4 he => he
    rw [(bcell hb3).1 (w.heap.size) 0 (by have := hb2.size; omega), hc_w2 (w.heap.size) 0 (by omega), hc_w1 (w.heap.size) 0 (by first | (simp; done) | (simp; omega))]; simp [go_sem]
  rw [HF.out]
  rintro e w3 ⟨A1, c1, rfl, o1, hb3⟩
  have hw3 : Below w.heap.size w w3 := (by repeat (first | assumption | exact Below.refl _ _ | apply Below.al | apply Below.drewN' | apply Below.drew | (apply Below.tr; assumption)))
  have hd := hid (rd_of_own (enc := encBo) (k := 1) (fun _ => rfl) o1)
  go_wp2_with fail
  refine (alerts_any 83 wg A c xs A1 c1 (scanB (faF a b) false xs) _ ((h.below hw3 (Nat.le_refl _)).more hw3.size) hn hd.out HL.out V (callFunc_enter Try.func83 (by kernel_rfl) (by kernel_rfl)) (fun a m w1 => greater_any a m w1) (fun m => by unfold wg; split <;> omega) (fun a m => by unfold wg; split <;> simp)).mono ?_
  rintro e w5 ⟨Ar, cr, rfl, o5, hb5⟩
  go_wp2
  go_ret2
  exact ⟨Ar, cr, by rw [HV.out, HC.out]; simp, by rw [HV.out]; exact own_lo o5 hw3.size, (by repeat (first | assumption | exact Below.refl _ _ | apply Below.al | apply Below.drewN' | apply Below.drew | (apply Below.tr; assumption)))⟩
end Go.Proofs.Ytpfdfbebeckohaa
