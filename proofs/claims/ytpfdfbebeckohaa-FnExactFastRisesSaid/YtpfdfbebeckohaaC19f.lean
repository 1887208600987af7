/- Contracts of FastRises, in the program and in the reference. -/
import Derived.Test.YtpfdfbebeckohaaC8a
import Derived.Test.YtpfdfbebeckohaaCIdx
namespace Go.Proofs.Ytpfdfbebeckohaa
open Go.RowKit
set_option linter.unusedVariables false
def fast (p q : Pt) (b w : Int) : Bool := decide (p.t - q.t ≤ w) && decide (b ≤ q.m - p.m)
def frB (xs : List Pt) (b w : Int) (i : Nat) : Bool := match xs[i]? with | none => false | some p => (xs.take i).any fun q => fast p q b w
def frC (xs : List Pt) (b w : Int) : Int := if cvB xs = true then (if inB b 1 20000 = true ∧ inB w 1 10000000 = true then 0 else 2) else 1
def frV (xs : List Pt) (b w : Int) : List Int := if frC xs b w = 0 then idxW (frB xs b w) xs.length else []
theorem frV_len (xs : List Pt) (b w : Int) : (frV xs b w).length ≤ xs.length := by
  unfold frV
  split
  · exact idxW_len _ _
  · simp
set_option maxRecDepth 20000 in
set_option maxHeartbeats 4000000 in
theorem specFastRises_any (A : Option Addr) (c : Nat) (xs : List Pt) (by' wi : Int) (w : World) (h : Rd encPt 2 w w.heap.size A xs) (hn : xs.length ≤ 1048576) (hc : xs.length ≤ c) :
    Calls Try.prog 22 #[.slice A xs.length c, .int .i64 by', .int .i64 wi] w (OwnTup 2 1 encI (frV xs by' wi) (frC xs by' wi) w) := by
  cases hv : cvB xs
  · have HV : Hid (frV xs by' wi = []) := by simp [Hid, frV, frC, hv]
    have HC : Hid (frC xs by' wi = 1) := by simp [Hid, frC, hv]
    go_enter Try.func22, Try.ntmps22
    go_wp2_with (first | (go_at_call 63; refine (l08Ok_any A c xs _ h hn).mono ?_; rintro e w1 ⟨rfl, hb1⟩; obtain ⟨hc_w1, hf_w1⟩ := bcell hb1; have hz_w1 := hb1.size) | (go_at_call 64; refine (l00In_any _ _ _ _).mono ?_; rintro e w' ⟨rfl, rfl⟩))
    go_ret2
    exact ⟨none, 0, by rw [HV.out, HC.out]; rfl, by rw [HV.out]; exact World.ownsRow_nil _ _ _ _, (by repeat (first | assumption | exact Below.refl _ _ | apply Below.al | apply Below.drewN' | apply Below.drew | (apply Below.tr; assumption)))⟩
  cases h1 : inB by' 1 20000
  · have HV : Hid (frV xs by' wi = []) := by simp [Hid, frV, frC, hv, h1]
    have HC : Hid (frC xs by' wi = 2) := by simp [Hid, frC, hv, h1]
    go_enter Try.func22, Try.ntmps22
    go_wp2_with (first | (go_at_call 63; refine (l08Ok_any A c xs _ h hn).mono ?_; rintro e w1 ⟨rfl, hb1⟩; obtain ⟨hc_w1, hf_w1⟩ := bcell hb1; have hz_w1 := hb1.size) | (go_at_call 64; refine (l00In_any _ _ _ _).mono ?_; rintro e w' ⟨rfl, rfl⟩))
    go_ret2
    exact ⟨none, 0, by rw [HV.out, HC.out]; rfl, by rw [HV.out]; exact World.ownsRow_nil _ _ _ _, (by repeat (first | assumption | exact Below.refl _ _ | apply Below.al | apply Below.drewN' | apply Below.drew | (apply Below.tr; assumption)))⟩
  cases h2 : inB wi 1 10000000
  · have HV : Hid (frV xs by' wi = []) := by simp [Hid, frV, frC, hv, h1, h2]
    have HC : Hid (frC xs by' wi = 2) := by simp [Hid, frC, hv, h1, h2]
    go_enter Try.func22, Try.ntmps22
    go_wp2_with (first | (go_at_call 63; refine (l08Ok_any A c xs _ h hn).mono ?_; rintro e w1 ⟨rfl, hb1⟩; obtain ⟨hc_w1, hf_w1⟩ := bcell hb1; have hz_w1 := hb1.size) | (go_at_call 64; refine (l00In_any _ _ _ _).mono ?_; rintro e w' ⟨rfl, rfl⟩))
    go_ret2
    exact ⟨none, 0, by rw [HV.out, HC.out]; rfl, by rw [HV.out]; exact World.ownsRow_nil _ _ _ _, (by repeat (first | assumption | exact Below.refl _ _ | apply Below.al | apply Below.drewN' | apply Below.drew | (apply Below.tr; assumption)))⟩
  have HV : Hid (frV xs by' wi = idxW (frB xs by' wi) xs.length) := by simp [Hid, frV, frC, hv, h1, h2]
  have HC : Hid (frC xs by' wi = 0) := by simp [Hid, frC, hv, h1, h2]
  have V := hid (cvB_at hv)
  obtain ⟨i0, hi0, hz0, hz1, hz2⟩ := info_parts (P := Try.prog) (e := 2) (z := .int .i64 0) (size := 1) (bytes := 8) (by kernel_rfl)
  go_enter Try.func22, Try.ntmps22
  go_wp2_with (first | (go_at_call 63; refine (l08Ok_any A c xs _ h hn).mono ?_; rintro e w1 ⟨rfl, hb1⟩; obtain ⟨hc_w1, hf_w1⟩ := bcell hb1; have hz_w1 := hb1.size) | (go_at_call 64; refine (l00In_any _ _ _ _).mono ?_; rintro e w' ⟨rfl, rfl⟩))
  have HV0 := hid hv
  have HV1 := hid h1
  have HV2 := hid h2
  clear hv h1 h2
  go_loopw [8, 9] (fun v i wr => ∃ k : Nat, k ≤ xs.length ∧ i = .int .i64 k ∧ Below w.heap.size w wr ∧ wr.ownsRow w.heap.size 2 1 v (idxW (frB xs by' wi) k).length ((idxW (frB xs by' wi) k).flatMap encI)) (fun _ i _ => xs.length - (intOf i).toNat)
  case atStart => exact ⟨0, Nat.zero_le _, rfl, (by repeat (first | assumption | exact Below.refl _ _ | apply Below.al | apply Below.drewN' | apply Below.drew | (apply Below.tr; assumption))), own_lit0 _ _ _ hb1.size⟩
  case round =>
    obtain ⟨k, hk, rfl, hb, hown⟩ := hrel
    by_cases hlt : k < xs.length
    · obtain ⟨p, hp⟩ := getx hlt
      obtain ⟨b, o, rfl, hbB, c0, c1⟩ := (h.below hb (Nat.le_refl _)).at2 hp rfl
      have hsz := hb.size
      have b0 : b < wr.heap.size := by omega
      obtain ⟨p1, p2, p3, p4⟩ := V.out k p hp
      have HF : Hid (frB xs by' wi k = ((xs.take k).any (fun q => fast p q by' wi))) := by unfold Hid frB; rw [hp]
      have HP := hid hp
      have H0 := hid hown
      have hl := idxW_len (frB xs by' wi) k
      clear hp hown
      obtain ⟨w0, rfl⟩ : ∃ w0, w0 = wr := ⟨_, rfl⟩
      go_wp2
      go_loopw [10, 11] (fun fa kk wr => ∃ j : Nat, j ≤ k ∧ kk = .int .i64 j ∧ fa = .bool ((xs.take j).any (fun q => fast p q by' wi)) ∧ Below w0.heap.size w0 wr) (fun _ kk _ => k - (intOf kk).toNat)
      case atStart => exact ⟨0, Nat.zero_le _, rfl, rfl, Below.refl _ _⟩
      case round =>
        obtain ⟨j, hj, rfl, rfl, hb2⟩ := hrel
        obtain ⟨hc2, hf2⟩ := bcell hb2
        have hzz2 := hb2.size
        have b2 : b < wr.heap.size := by omega
        by_cases hlj : j < k
        · obtain ⟨q, hq⟩ : ∃ q, xs[j]? = some q := getx (by omega)
          obtain ⟨b', o', e1, _, d0, d1⟩ := (h.below hb (Nat.le_refl _)).at2 hq rfl
          simp at e1; obtain ⟨rfl, rfl⟩ := e1
          obtain ⟨q1, q2, q3, q4⟩ := V.out j q hq
          have HS : Hid ((xs.take (j+1)).any (fun q => fast p q by' wi) = ((xs.take j).any (fun q => fast p q by' wi) || (decide (p.t - q.t ≤ wi) && decide (by' ≤ q.m - p.m)))) := by unfold Hid; rw [List.take_add_one, hq, List.any_append]; simp [fast]
          clear hq
          cases hfa : (xs.take j).any (fun q => fast p q by' wi)
          · by_cases g1 : p.t - q.t ≤ wi
            · have g1' : decide (p.t - q.t ≤ wi) = true := by simpa using g1
              by_cases g2 : by' ≤ q.m - p.m
              all_goals
                first
                  | (have g2' : decide (by' ≤ q.m - p.m) = true := by simpa using g2)
                  | (have g2' : decide (by' ≤ q.m - p.m) = false := by simpa using g2)
                go_wp2
                refine wp_region_ext (by kernel_rfl) (by kernel_rfl) ?_
                repeat (go_big_quiet_step ((first | fail)))
                refine wpQuiet_nil ?_
                intro w3 hb3
                obtain ⟨hc_w3, hf_w3⟩ := bcell hb3
                have hz_w3 := hb3.size
                go_wp2
                go_roundw
                case rel => exact ⟨j + 1, by omega, by go_num, by rw [HS.out, hfa, g1', g2']; rfl, (by repeat (first | assumption | exact Below.refl _ _ | apply Below.al | apply Below.drewN' | apply Below.drew | (apply Below.tr; assumption)))⟩
                case measure => simp [intOf]; omega
            · have g1' : decide (p.t - q.t ≤ wi) = false := by simpa using g1
              go_wp2
              refine wp_region_ext (by kernel_rfl) (by kernel_rfl) ?_
              repeat (go_big_quiet_step ((first | fail)))
              refine wpQuiet_nil ?_
              intro w3 hb3
              obtain ⟨hc_w3, hf_w3⟩ := bcell hb3
              have hz_w3 := hb3.size
              go_wp2
              go_roundw
              case rel => exact ⟨j + 1, by omega, by go_num, by rw [HS.out, hfa, g1']; rfl, (by repeat (first | assumption | exact Below.refl _ _ | apply Below.al | apply Below.drewN' | apply Below.drew | (apply Below.tr; assumption)))⟩
              case measure => simp [intOf]; omega
          · go_wp2
            refine wp_region_ext (by kernel_rfl) (by kernel_rfl) ?_
            repeat (go_big_quiet_step ((first | fail)))
            refine wpQuiet_nil ?_
            intro w3 hb3
            obtain ⟨hc_w3, hf_w3⟩ := bcell hb3
            have hz_w3 := hb3.size
            go_wp2
            go_roundw
            case rel => exact ⟨j + 1, by omega, by go_num, by rw [HS.out, hfa]; rfl, (by repeat (first | assumption | exact Below.refl _ _ | apply Below.al | apply Below.drewN' | apply Below.drew | (apply Below.tr; assumption)))⟩
            case measure => simp [intOf]; omega
        · obtain rfl : j = k := by omega
          cases hfa : (xs.take j).any (fun q => fast p q by' wi)
          · have hF : frB xs by' wi j = false := by rw [HF.out, hfa]
            have H2 := hid (own_below H0.out hb2 (Nat.le_refl _))
            go_wp2
            go_roundw
            case rel => exact ⟨j + 1, by omega, by go_num, Below.tr hb2 hb, by rw [idxW_no hF]; exact H2.out⟩
            case measure => simp [intOf]; omega
          · have hF : frB xs by' wi j = true := by rw [HF.out, hfa]
            have H2 := hid (own_below H0.out hb2 (Nat.le_refl _))
            have hb9 := Below.tr hb2 hb
            have hz9 := hb9.size
            go_wp2_with (at_builtin; refine wpList_append_own _ rfl _ _ 32 rfl (w.heap.size) 2 i0 _ 1 8 Try.underlying32 hi0 hz0 hz1 hz2 rfl (by decide) _ _ _ rfl (H2.out.alloc _) ⟨(wr).heap.size, 0, none⟩ 1 1 [.int .i64 (j : Nat)] rfl rfl (news_at wr [.int .i64 (j : Nat)] 2) (by simp [Value.oneCell']) (by unfold maxLen; omega) (by omega) (by simp; omega) ?_; intro v2 w4 own_w4 grow_w4 _)
            go_roundw
            case rel => exact ⟨j + 1, by omega, by go_num, Below.ap hb9 hb9.size H2.out (Nat.le_refl _) grow_w4, by rw [idxW_yes hF]; simpa [encI] using own_w4⟩
            case measure => simp [intOf]; omega
    · obtain rfl : k = xs.length := by omega
      have H0 := hid hown
      obtain ⟨Ar, cr, rfl⟩ := own_shape hown
      clear hown
      go_wp2
      go_ret2
      exact ⟨Ar, cr, by rw [HV.out, HC.out]; simp, by rw [HV.out]; exact H0.out, hb⟩
set_option maxHeartbeats 2000000 in
theorem fastRises1_any (A : Option Addr) (c : Nat) (xs : List Pt) (by' wi : Int) (i : Nat) (ga gb gc : Nat) (w : World) (h : Rd encPt 2 w w.heap.size A xs) (hn : xs.length ≤ 1048576) (hc : xs.length ≤ c) (hi : i < xs.length)
    (V : Hid (∀ (k : Nat) (p : Pt), xs[k]? = some p → 0 ≤ p.t ∧ p.t ≤ 10000000 ∧ -2000 ≤ p.m ∧ p.m ≤ 20000))
    (z0 : ga < w.heap.size) (z1 : gb < w.heap.size) (z2 : gc < w.heap.size)
    (e0 : w.cell? ⟨ga, 0, none⟩ = some (.slice A xs.length c)) (e1 : w.cell? ⟨gb, 0, none⟩ = some (.int .i64 wi)) (e2 : w.cell? ⟨gc, 0, none⟩ = some (.int .i64 by')) :
    Calls Try.prog 69 #[.int .i64 i, .pointer (some ⟨ga, 0, none⟩), .pointer (some ⟨gb, 0, none⟩), .pointer (some ⟨gc, 0, none⟩)] w fun e w' => e = .returned (.bool (frB xs by' wi i)) ∧ Below w.heap.size w w' := by
  obtain ⟨p, hp⟩ := getx hi
  obtain ⟨b, o, rfl, hbB, c0, c1⟩ := h.at2 hp rfl
  obtain ⟨p1, p2, p3, p4⟩ := V.out i p hp
  have HF : Hid (frB xs by' wi i = ((xs.take i).any (fun q => fast p q by' wi))) := by unfold Hid frB; rw [hp]
  have HX := hid hp
  clear hp
  go_enter Try.func69, Try.ntmps69
  go_wp2
  go_loopw [12] (fun kk wr => ∃ j : Nat, j ≤ i ∧ kk = .int .i64 j ∧ Hid ((xs.take j).any (fun q => fast p q by' wi) = false) ∧ Below w.heap.size w wr) (fun kk _ => i - (intOf kk).toNat)
  case atStart => exact ⟨0, Nat.zero_le _, rfl, hid rfl, (by repeat (first | assumption | exact Below.refl _ _ | apply Below.al | apply Below.drewN' | apply Below.drew | (apply Below.tr; assumption)))⟩
  case round =>
    obtain ⟨j, hj, rfl, hfa, hb2⟩ := hrel
    obtain ⟨hc2, hf2⟩ := bcell hb2
    have hzz2 := hb2.size
    by_cases hlj : j < i
    · obtain ⟨q, hq⟩ : ∃ q, xs[j]? = some q := getx (by omega)
      obtain ⟨b', o', e9, _, d0, d1⟩ := h.at2 hq rfl
      simp at e9; obtain ⟨rfl, rfl⟩ := e9
      obtain ⟨q1, q2, q3, q4⟩ := V.out j q hq
      have HS : Hid ((xs.take (j+1)).any (fun q => fast p q by' wi) = ((xs.take j).any (fun q => fast p q by' wi) || (decide (p.t - q.t ≤ wi) && decide (by' ≤ q.m - p.m)))) := by unfold Hid; rw [List.take_add_one, hq, List.any_append]; simp [fast]
      have HT : Hid ((xs.take (j+1)).any (fun q => fast p q by' wi) = true → frB xs by' wi i = true) := by
        intro ht
        rw [HF.out, List.any_eq_true]
        rw [List.any_eq_true] at ht
        obtain ⟨x, hx, hx2⟩ := ht
        exact ⟨x, List.mem_of_mem_take (i := j + 1) (by rw [List.take_take, Nat.min_eq_left (by omega)]; exact hx), hx2⟩
      clear hq
      have b2 : b < wr.heap.size := by omega
      have z3 : ga < wr.heap.size := by omega
      have z4 : gb < wr.heap.size := by omega
      have z5 : gc < wr.heap.size := by omega
      have y2 : b < wr.heap.size + 1 := by omega
      have y3 : ga < wr.heap.size + 1 := by omega
      have y4 : gb < wr.heap.size + 1 := by omega
      have y5 : gc < wr.heap.size + 1 := by omega
      by_cases g1 : p.t - q.t ≤ wi
      · have g1' : decide (p.t - q.t ≤ wi) = true := by simpa using g1
        by_cases g2 : by' ≤ q.m - p.m
        all_goals
          first
            | (have g2' : decide (by' ≤ q.m - p.m) = true := by simpa using g2)
            | (have g2' : decide (by' ≤ q.m - p.m) = false := by simpa using g2)
          go_wp2
          refine wp_region_ext (by kernel_rfl) (by kernel_rfl) ?_
          repeat (go_big_quiet_step ((first | fail)))
          refine wpQuiet_nil ?_
          intro w3 hb3
          obtain ⟨hc_w3, hf_w3⟩ := bcell hb3
          have hz_w3 := hb3.size
          go_wp2
          first
            | (go_ret
               exact ⟨ret_bool (HT.out (by rw [HS.out, g1', g2']; simp)).symm, (by repeat (first | assumption | exact Below.refl _ _ | apply Below.al | apply Below.drewN' | apply Below.drew | (apply Below.tr; assumption)))⟩)
            | (go_roundw
               case rel => exact ⟨j + 1, by omega, by go_num, hid (by rw [HS.out, hfa.out, g1', g2']; rfl), (by repeat (first | assumption | exact Below.refl _ _ | apply Below.al | apply Below.drewN' | apply Below.drew | (apply Below.tr; assumption)))⟩
               case measure => simp [intOf]; omega)
      · have g1' : decide (p.t - q.t ≤ wi) = false := by simpa using g1
        go_wp2
        refine wp_region_ext (by kernel_rfl) (by kernel_rfl) ?_
        repeat (go_big_quiet_step ((first | fail)))
        refine wpQuiet_nil ?_
        intro w3 hb3
        obtain ⟨hc_w3, hf_w3⟩ := bcell hb3
        have hz_w3 := hb3.size
        go_wp2
        go_roundw
        case rel => exact ⟨j + 1, by omega, by go_num, hid (by rw [HS.out, hfa.out, g1']; rfl), (by repeat (first | assumption | exact Below.refl _ _ | apply Below.al | apply Below.drewN' | apply Below.drew | (apply Below.tr; assumption)))⟩
        case measure => simp [intOf]; omega
    · obtain rfl : j = i := by omega
      go_wp2
      go_ret
      exact ⟨ret_bool (by rw [HF.out, hfa.out]), (by repeat (first | assumption | exact Below.refl _ _ | apply Below.al | apply Below.drewN' | apply Below.drew | (apply Below.tr; assumption)))⟩
set_option maxHeartbeats 2000000 in
theorem implFastRises_any (A : Option Addr) (c : Nat) (xs : List Pt) (by' wi : Int) (w : World) (h : Rd encPt 2 w w.heap.size A xs) (hn : xs.length ≤ 1048576) (hc : xs.length ≤ c) :
    Calls Try.prog 24 #[.slice A xs.length c, .int .i64 by', .int .i64 wi] w (OwnTup 2 1 encI (frV xs by' wi) (frC xs by' wi) w) := by
  cases hv : cvB xs
  · have HV : Hid (frV xs by' wi = []) := by simp [Hid, frV, frC, hv]
    have HC : Hid (frC xs by' wi = 1) := by simp [Hid, frC, hv]
    go_enter Try.func24, Try.ntmps24
    go_wp2_with fail
    refine (validCurve_any A c xs _ ((h.below (B' := w.heap.size) (by repeat (first | assumption | exact Below.refl _ _ | apply Below.al | apply Below.drewN' | apply Below.drew | (apply Below.tr; assumption))) (Nat.le_refl _)).more (by simp; omega)) hn).mono ?_
    rw [hv]
    rintro e w1 ⟨rfl, hb1⟩
    obtain ⟨hc1, hf1⟩ := bcell hb1
    go_wp2
    go_ret2
    exact ⟨none, 0, by rw [HV.out, HC.out]; rfl, by rw [HV.out]; exact World.ownsRow_nil _ _ _ _, (by repeat (first | assumption | exact Below.refl _ _ | apply Below.al | apply Below.drewN' | apply Below.drew | (apply Below.tr; assumption)))⟩
  cases h1 : inB by' 1 20000
  · have HV : Hid (frV xs by' wi = []) := by simp [Hid, frV, frC, hv, h1]
    have HC : Hid (frC xs by' wi = 2) := by simp [Hid, frC, hv, h1]
    go_enter Try.func24, Try.ntmps24
    go_wp2_with fail
    refine (validCurve_any A c xs _ ((h.below (B' := w.heap.size) (by repeat (first | assumption | exact Below.refl _ _ | apply Below.al | apply Below.drewN' | apply Below.drew | (apply Below.tr; assumption))) (Nat.le_refl _)).more (by simp; omega)) hn).mono ?_
    rw [hv]
    rintro e w1 ⟨rfl, hb1⟩
    obtain ⟨hc1, hf1⟩ := bcell hb1
    go_wp2_with (go_at_call 67; refine (in_any _ _ _ _).mono ?_; rintro e w' ⟨rfl, rfl⟩)
    go_ret2
    exact ⟨none, 0, by rw [HV.out, HC.out]; rfl, by rw [HV.out]; exact World.ownsRow_nil _ _ _ _, (by repeat (first | assumption | exact Below.refl _ _ | apply Below.al | apply Below.drewN' | apply Below.drew | (apply Below.tr; assumption)))⟩
  cases h2 : inB wi 1 10000000
  · have HV : Hid (frV xs by' wi = []) := by simp [Hid, frV, frC, hv, h1, h2]
    have HC : Hid (frC xs by' wi = 2) := by simp [Hid, frC, hv, h1, h2]
    go_enter Try.func24, Try.ntmps24
    go_wp2_with fail
    refine (validCurve_any A c xs _ ((h.below (B' := w.heap.size) (by repeat (first | assumption | exact Below.refl _ _ | apply Below.al | apply Below.drewN' | apply Below.drew | (apply Below.tr; assumption))) (Nat.le_refl _)).more (by simp; omega)) hn).mono ?_
    rw [hv]
    rintro e w1 ⟨rfl, hb1⟩
    obtain ⟨hc1, hf1⟩ := bcell hb1
    go_wp2_with (go_at_call 67; refine (in_any _ _ _ _).mono ?_; rintro e w' ⟨rfl, rfl⟩)
    go_ret2
    exact ⟨none, 0, by rw [HV.out, HC.out]; rfl, by rw [HV.out]; exact World.ownsRow_nil _ _ _ _, (by repeat (first | assumption | exact Below.refl _ _ | apply Below.al | apply Below.drewN' | apply Below.drew | (apply Below.tr; assumption)))⟩
  have HV : Hid (frV xs by' wi = idxW (frB xs by' wi) xs.length) := by simp [Hid, frV, frC, hv, h1, h2]
  have HC : Hid (frC xs by' wi = 0) := by simp [Hid, frC, hv, h1, h2]
  have V := hid (cvB_at hv)
  go_enter Try.func24, Try.ntmps24
  go_wp2_with fail
  refine (validCurve_any A c xs _ ((h.below (B' := w.heap.size) (by repeat (first | assumption | exact Below.refl _ _ | apply Below.al | apply Below.drewN' | apply Below.drew | (apply Below.tr; assumption))) (Nat.le_refl _)).more (by simp; omega)) hn).mono ?_
  rw [hv]
  rintro e w1 ⟨rfl, hb1⟩
  obtain ⟨hc1, hf1⟩ := bcell hb1
  go_wp2_with (go_at_call 67; refine (in_any _ _ _ _).mono ?_; rintro e w' ⟨rfl, rfl⟩)
  have tt : Below w.heap.size w w1 := (by repeat (first | assumption | exact Below.refl _ _ | apply Below.al | apply Below.drewN' | apply Below.drew | (apply Below.tr; assumption)))
  have hz1 := hb1.size
  simp at hz1
  refine (indicesWhere_any 69 _ (frB xs by' wi) xs.length _ hn (callFunc_enter Try.func69 (by kernel_rfl) (by kernel_rfl)) ?_).mono ?_
  · intro i w3 hi hb3
    refine (fastRises1_any A c xs by' wi i w.heap.size (w.heap.size + 2) (w.heap.size + 1) w3 ((h.below (Below.tr hb3 tt) (Nat.le_refl _)).more (by have := hb3.size; omega)) hn hc hi V (by have := hb3.size; omega) (by have := hb3.size; omega) (by have := hb3.size; omega) ?_ ?_ ?_)
    · rw [(bcell hb3).1 _ _ (by omega), hc1 (w.heap.size) 0 (by first | (simp; done) | (simp; omega))]; simp [go_sem]
    · rw [(bcell hb3).1 _ _ (by omega), hc1 (w.heap.size + 2) 0 (by first | (simp; done) | (simp; omega))]; simp [go_sem]
    · rw [(bcell hb3).1 _ _ (by omega), hc1 (w.heap.size + 1) 0 (by first | (simp; done) | (simp; omega))]; simp [go_sem]
  · rintro e w2 ⟨Ar, cr, rfl, o2, hb2⟩
    go_wp2
    go_ret2
    exact ⟨Ar, cr, by rw [HV.out, HC.out]; simp, by rw [HV.out]; exact own_lo o2 tt.size, (by repeat (first | assumption | exact Below.refl _ _ | apply Below.al | apply Below.drewN' | apply Below.drew | (apply Below.tr; assumption)))⟩
end Go.Proofs.Ytpfdfbebeckohaa
