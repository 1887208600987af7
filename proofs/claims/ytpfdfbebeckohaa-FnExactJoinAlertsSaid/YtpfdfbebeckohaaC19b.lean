/- Contracts of LongestAlert and QuietTime, in the program and in the reference. -/
import Derived.Test.YtpfdfbebeckohaaC19a
namespace Go.Proofs.Ytpfdfbebeckohaa
open Go.RowKit
set_option linter.unusedVariables false
theorem alGo_at : ∀ (xs : List Al) (prev : Option Al), alGo prev xs = true → ∀ (k : Nat) (p : Al), xs[k]? = some p → 0 ≤ p.b ∧ p.b ≤ 10000000 ∧ -1 ≤ p.e ∧ p.e ≤ 10000000 ∧ -2000 ≤ p.p ∧ p.p ≤ 20000
  | [], _, _, k, p, h => by simp at h
  | a :: r, prev, hg, 0, p, h => by
    simp at h
    subst h
    simp only [alGo, alOk, Bool.and_eq_true, Bool.or_eq_true, inB_true, beq_iff_eq] at hg
    omega
  | a :: r, prev, hg, k + 1, p, h => by
    simp only [alGo, Bool.and_eq_true] at hg
    exact alGo_at r (some a) hg.2 k p (by simpa using h)
theorem alB_at {xs : List Al} (h : alB xs = true) : ∀ (k : Nat) (p : Al), xs[k]? = some p → 0 ≤ p.b ∧ p.b ≤ 10000000 ∧ -1 ≤ p.e ∧ p.e ≤ 10000000 ∧ -2000 ≤ p.p ∧ p.p ≤ 20000 := by
  simp only [alB, Bool.and_eq_true] at h
  exact alGo_at xs none h.2
def lgStep (best : Option (Nat × Al)) (i : Nat) (a : Al) : Option (Nat × Al) :=
  match best with
  | none => if 0 ≤ a.e then some (i, a) else none
  | some (j, q) => if 0 ≤ a.e ∧ q.e - q.b < a.e - a.b then some (i, a) else some (j, q)
def lgEnd : Option (Nat × Al) → Int
  | none => -1
  | some (j, _) => (j : Int)
def lgGo : Option (Nat × Al) → Nat → List Al → Int
  | best, _, [] => lgEnd best
  | best, i, a :: r => lgGo (lgStep best i a) (i + 1) r
def lgV (xs : List Al) : Int := if alB xs = true then (if lgGo none 0 xs < 0 then 0 else lgGo none 0 xs) else 0
def lgC (xs : List Al) : Int := if alB xs = true then (if lgGo none 0 xs < 0 then 3 else 0) else 1
set_option maxHeartbeats 2000000 in
theorem specLongestAlert_any (A : Option Addr) (c : Nat) (xs : List Al) (w : World) (h : Rd encAl 3 w w.heap.size A xs) (hn : xs.length ≤ 1048576) :
    Calls Try.prog 15 #[.slice A xs.length c] w fun e w' => e = .returned (.tuple #[.int .i64 (lgV xs), .int .i64 (lgC xs)]) ∧ Below w.heap.size w w' := by
  cases hv : alB xs
  · have HV : Hid (lgV xs = 0) := by simp [Hid, lgV, hv]
    have HC : Hid (lgC xs = 1) := by simp [Hid, lgC, hv]
    go_enter Try.func15, Try.ntmps15
    go_wp2_with fail
    refine (l19List_any A c xs _ h hn).mono ?_
    rw [hv]
    rintro e w1 ⟨rfl, hb1⟩
    go_wp2
    go_ret2
    exact ⟨by rw [HV.out, HC.out]; rfl, (by repeat (first | assumption | exact Below.refl _ _ | apply Below.al | apply Below.drewN' | apply Below.drew | (apply Below.tr; assumption)))⟩
  · have V := hid (alB_at hv)
    go_enter Try.func15, Try.ntmps15
    go_wp2_with fail
    refine (l19List_any A c xs _ h hn).mono ?_
    rw [hv]
    rintro e w1 ⟨rfl, hb1⟩
    have EV : Hid (alB xs = true) := hv
    clear hv
    go_wp2
    go_loopw [4, 5] (fun bb i wr => ∃ (k : Nat) (best : Option (Nat × Al)), k ≤ xs.length ∧ i = .int .i64 k ∧ (True ∧ ((best = none ∧ bb = .int .i64 (-1)) ∨ ∃ j q, best = some (j, q) ∧ xs[j]? = some q ∧ bb = .int .i64 (j : Nat))) ∧ Below w.heap.size w wr ∧ Hid (lgGo none 0 xs = lgGo best k (xs.drop k))) (fun _ i _ => xs.length - (intOf i).toNat)
    case atStart => exact ⟨0, none, Nat.zero_le _, rfl, ⟨trivial, .inl ⟨rfl, rfl⟩⟩, (by repeat (first | assumption | exact Below.refl _ _ | apply Below.al | apply Below.drewN' | apply Below.drew | (apply Below.tr; assumption))), hid rfl⟩
    case round =>
      obtain ⟨k, best, hk, rfl, ⟨_, hbest⟩, hb, H⟩ := hrel
      by_cases hlt : k < xs.length
      · obtain ⟨p, hp⟩ := getx hlt
        obtain ⟨b, o, rfl, hbB, c0, c1, c2⟩ := (h.below hb (Nat.le_refl _)).at3 hp rfl
        have hsz := hb.size
        have HS : Hid (lgGo best k (xs.drop k) = lgGo (lgStep best k p) (k+1) (xs.drop (k+1))) := by rw [dropx hp]; rfl
        have b0 : b < wr.heap.size := by omega
        obtain ⟨p1, p2, p3, p4, _, _⟩ := V.out k p hp
        have HP := hid hp
        clear hp
        rcases hbest with ⟨rfl, rfl⟩ | ⟨j, q, rfl, hq, rfl⟩
        · by_cases g1 : 0 ≤ p.e
          all_goals
            first | (have g1' : decide (0 ≤ p.e) = true := by simpa using g1) | (have g1' : decide (0 ≤ p.e) = false := by simpa using g1)
            go_wp2
            refine wp_region_ext (by kernel_rfl) (by kernel_rfl) ?_
            repeat (go_big_quiet_step ((first | fail)))
            refine wpQuiet_nil ?_
            intro w3 hb3
            obtain ⟨hc_w3, hf_w3⟩ := bcell hb3
            have hz_w3 := hb3.size
            go_wp2
            go_roundw
            case rel => exact ⟨k + 1, _, by omega, by go_num, ⟨trivial, by first | exact .inr ⟨k, p, rfl, HP.out, rfl⟩ | exact .inl ⟨rfl, rfl⟩⟩, (by repeat (first | assumption | exact Below.refl _ _ | apply Below.al | apply Below.drewN' | apply Below.drew | (apply Below.tr; assumption))), hid (by rw [H.out, HS.out]; congr 1; simp only [lgStep]; (repeat' split) <;> first | rfl | omega)⟩
            case measure => simp [intOf]; omega
        · obtain ⟨q1, q2, q3, q4, _, _⟩ := V.out j q hq
          obtain ⟨b', o', e1, _, d0, d1, _⟩ := (h.below hb (Nat.le_refl _)).at3 hq rfl
          simp at e1; obtain ⟨rfl, rfl⟩ := e1
          have hj : j < xs.length := (List.getElem?_eq_some_iff.1 hq).1
          have hd : decide ((j : Int) < 0) = false := by simp
          have HQ := hid hq
          clear hq
          by_cases g1 : 0 ≤ p.e
          · by_cases g2 : q.e - q.b < p.e - p.b
            all_goals
              first | (have g1' : decide (0 ≤ p.e) = true := by simpa using g1) | (have g1' : decide (0 ≤ p.e) = false := by simpa using g1)
              first | (have g2' : decide (q.e - q.b < p.e - p.b) = true := by simpa using g2) | (have g2' : decide (q.e - q.b < p.e - p.b) = false := by simpa using g2)
              go_wp2
              refine wp_region_ext (by kernel_rfl) (by kernel_rfl) ?_
              repeat (go_big_quiet_step ((first | fail)))
              refine wpQuiet_nil ?_
              intro w3 hb3
              obtain ⟨hc_w3, hf_w3⟩ := bcell hb3
              have hz_w3 := hb3.size
              go_wp2
              go_roundw
              case rel => exact ⟨k + 1, _, by omega, by go_num, ⟨trivial, by first | exact .inr ⟨k, p, rfl, HP.out, rfl⟩ | exact .inr ⟨j, q, rfl, HQ.out, rfl⟩⟩, (by repeat (first | assumption | exact Below.refl _ _ | apply Below.al | apply Below.drewN' | apply Below.drew | (apply Below.tr; assumption))), hid (by rw [H.out, HS.out]; congr 1; simp only [lgStep]; (repeat' split) <;> first | rfl | omega)⟩
              case measure => simp [intOf]; omega
          · first | (have g1' : decide (0 ≤ p.e) = true := by simpa using g1) | (have g1' : decide (0 ≤ p.e) = false := by simpa using g1)
            go_wp2
            refine wp_region_ext (by kernel_rfl) (by kernel_rfl) ?_
            repeat (go_big_quiet_step ((first | fail)))
            refine wpQuiet_nil ?_
            intro w3 hb3
            obtain ⟨hc_w3, hf_w3⟩ := bcell hb3
            have hz_w3 := hb3.size
            go_wp2
            go_roundw
            case rel => exact ⟨k + 1, _, by omega, by go_num, ⟨trivial, .inr ⟨j, q, rfl, HQ.out, rfl⟩⟩, (by repeat (first | assumption | exact Below.refl _ _ | apply Below.al | apply Below.drewN' | apply Below.drew | (apply Below.tr; assumption))), hid (by rw [H.out, HS.out]; congr 1; simp only [lgStep]; (repeat' split) <;> first | rfl | omega)⟩
            case measure => simp [intOf]; omega
      · have HE : Hid (lgGo none 0 xs = lgGo best k []) := hid (by rw [H.out, List.drop_eq_nil_of_le (by omega)])
        rcases hbest with ⟨rfl, rfl⟩ | ⟨j, q, rfl, hq, rfl⟩
        · have HV : Hid (lgV xs = 0) := by simp [Hid, lgV, EV.out, HE.out, lgGo, lgEnd] <;> omega
          have HC : Hid (lgC xs = 3) := by simp [Hid, lgC, EV.out, HE.out, lgGo, lgEnd] <;> omega
          go_wp2
          go_ret2
          exact ⟨by rw [HV.out, HC.out]; rfl, (by repeat (first | assumption | exact Below.refl _ _ | apply Below.al | apply Below.drewN' | apply Below.drew | (apply Below.tr; assumption)))⟩
        · have HV : Hid (lgV xs = j) := by simp [Hid, lgV, EV.out, HE.out, lgGo, lgEnd] <;> omega
          have HC : Hid (lgC xs = 0) := by simp [Hid, lgC, EV.out, HE.out, lgGo, lgEnd] <;> omega
          have hj : j < xs.length := (List.getElem?_eq_some_iff.1 hq).1
          have hd : decide ((j : Int) < 0) = false := by simp
          clear hq
          go_wp2
          go_ret2
          exact ⟨by rw [HV.out, HC.out]; rfl, (by repeat (first | assumption | exact Below.refl _ _ | apply Below.al | apply Below.drewN' | apply Below.drew | (apply Below.tr; assumption)))⟩
set_option maxHeartbeats 2000000 in
theorem implLongestAlert_any (A : Option Addr) (c : Nat) (xs : List Al) (w : World) (h : Rd encAl 3 w w.heap.size A xs) (hn : xs.length ≤ 1048576) :
    Calls Try.prog 17 #[.slice A xs.length c] w fun e w' => e = .returned (.tuple #[.int .i64 (lgV xs), .int .i64 (lgC xs)]) ∧ Below w.heap.size w w' := by
  cases hv : alB xs
  · have HV : Hid (lgV xs = 0) := by simp [Hid, lgV, hv]
    have HC : Hid (lgC xs = 1) := by simp [Hid, lgC, hv]
    go_enter Try.func17, Try.ntmps17
    go_wp2_with fail
    refine (areAlerts_any A c xs _ h hn).mono ?_
    rw [hv]
    rintro e w1 ⟨rfl, hb1⟩
    go_wp2
    go_ret2
    exact ⟨by rw [HV.out, HC.out]; rfl, (by repeat (first | assumption | exact Below.refl _ _ | apply Below.al | apply Below.drewN' | apply Below.drew | (apply Below.tr; assumption)))⟩
  · have V := hid (alB_at hv)
    go_enter Try.func17, Try.ntmps17
    go_wp2_with fail
    refine (areAlerts_any A c xs _ h hn).mono ?_
    rw [hv]
    rintro e w1 ⟨rfl, hb1⟩
    have EV : Hid (alB xs = true) := hv
    clear hv
    go_wp2
    go_loopw [4, 12] (fun bb i wr => ∃ (k : Nat) (best : Option (Nat × Al)), k ≤ xs.length ∧ i = .int .i64 k ∧ (True ∧ ((best = none ∧ bb = .int .i64 (-1)) ∨ ∃ j q, best = some (j, q) ∧ xs[j]? = some q ∧ bb = .int .i64 (j : Nat))) ∧ Below w.heap.size w wr ∧ Hid (lgGo none 0 xs = lgGo best k (xs.drop k))) (fun _ i _ => xs.length - (intOf i).toNat)
    case atStart => exact ⟨0, none, Nat.zero_le _, rfl, ⟨trivial, .inl ⟨rfl, rfl⟩⟩, (by repeat (first | assumption | exact Below.refl _ _ | apply Below.al | apply Below.drewN' | apply Below.drew | (apply Below.tr; assumption))), hid rfl⟩
    case round =>
      obtain ⟨k, best, hk, rfl, ⟨_, hbest⟩, hb, H⟩ := hrel
      by_cases hlt : k < xs.length
      · obtain ⟨p, hp⟩ := getx hlt
        obtain ⟨b, o, rfl, hbB, c0, c1, c2⟩ := (h.below hb (Nat.le_refl _)).at3 hp rfl
        have hsz := hb.size
        have HS : Hid (lgGo best k (xs.drop k) = lgGo (lgStep best k p) (k+1) (xs.drop (k+1))) := by rw [dropx hp]; rfl
        have b0 : b < wr.heap.size := by omega
        obtain ⟨p1, p2, p3, p4, _, _⟩ := V.out k p hp
        have HP := hid hp
        clear hp
        rcases hbest with ⟨rfl, rfl⟩ | ⟨j, q, rfl, hq, rfl⟩
        · by_cases g1 : 0 ≤ p.e
          all_goals
            first | (have g1' : decide (0 ≤ p.e) = true := by simpa using g1) | (have g1' : decide (0 ≤ p.e) = false := by simpa using g1)
            go_wp2
            refine wp_region_ext (by kernel_rfl) (by kernel_rfl) ?_
            repeat (go_big_quiet_step ((first | fail)))
            refine wpQuiet_nil ?_
            intro w3 hb3
            obtain ⟨hc_w3, hf_w3⟩ := bcell hb3
            have hz_w3 := hb3.size
            go_wp2
            go_roundw
            case rel => exact ⟨k + 1, _, by omega, by go_num, ⟨trivial, by first | exact .inr ⟨k, p, rfl, HP.out, rfl⟩ | exact .inl ⟨rfl, rfl⟩⟩, (by repeat (first | assumption | exact Below.refl _ _ | apply Below.al | apply Below.drewN' | apply Below.drew | (apply Below.tr; assumption))), hid (by rw [H.out, HS.out]; congr 1; simp only [lgStep]; (repeat' split) <;> first | rfl | omega)⟩
            case measure => simp [intOf]; omega
        · obtain ⟨q1, q2, q3, q4, _, _⟩ := V.out j q hq
          obtain ⟨b', o', e1, _, d0, d1, _⟩ := (h.below hb (Nat.le_refl _)).at3 hq rfl
          simp at e1; obtain ⟨rfl, rfl⟩ := e1
          have hj : j < xs.length := (List.getElem?_eq_some_iff.1 hq).1
          have hd : decide ((j : Int) < 0) = false := by simp
          have HQ := hid hq
          clear hq
          by_cases g1 : 0 ≤ p.e
          · by_cases g2 : q.e - q.b < p.e - p.b
            all_goals
              first | (have g1' : decide (0 ≤ p.e) = true := by simpa using g1) | (have g1' : decide (0 ≤ p.e) = false := by simpa using g1)
              first | (have g2' : decide (q.e - q.b < p.e - p.b) = true := by simpa using g2) | (have g2' : decide (q.e - q.b < p.e - p.b) = false := by simpa using g2)
              go_wp2
              refine wp_region_ext (by kernel_rfl) (by kernel_rfl) ?_
              repeat (go_big_quiet_step ((first | fail)))
              refine wpQuiet_nil ?_
              intro w3 hb3
              obtain ⟨hc_w3, hf_w3⟩ := bcell hb3
              have hz_w3 := hb3.size
              go_wp2
              go_roundw
              case rel => exact ⟨k + 1, _, by omega, by go_num, ⟨trivial, by first | exact .inr ⟨k, p, rfl, HP.out, rfl⟩ | exact .inr ⟨j, q, rfl, HQ.out, rfl⟩⟩, (by repeat (first | assumption | exact Below.refl _ _ | apply Below.al | apply Below.drewN' | apply Below.drew | (apply Below.tr; assumption))), hid (by rw [H.out, HS.out]; congr 1; simp only [lgStep]; (repeat' split) <;> first | rfl | omega)⟩
              case measure => simp [intOf]; omega
          · first | (have g1' : decide (0 ≤ p.e) = true := by simpa using g1) | (have g1' : decide (0 ≤ p.e) = false := by simpa using g1)
            go_wp2
            refine wp_region_ext (by kernel_rfl) (by kernel_rfl) ?_
            repeat (go_big_quiet_step ((first | fail)))
            refine wpQuiet_nil ?_
            intro w3 hb3
            obtain ⟨hc_w3, hf_w3⟩ := bcell hb3
            have hz_w3 := hb3.size
            go_wp2
            go_roundw
            case rel => exact ⟨k + 1, _, by omega, by go_num, ⟨trivial, .inr ⟨j, q, rfl, HQ.out, rfl⟩⟩, (by repeat (first | assumption | exact Below.refl _ _ | apply Below.al | apply Below.drewN' | apply Below.drew | (apply Below.tr; assumption))), hid (by rw [H.out, HS.out]; congr 1; simp only [lgStep]; (repeat' split) <;> first | rfl | omega)⟩
            case measure => simp [intOf]; omega
      · have HE : Hid (lgGo none 0 xs = lgGo best k []) := hid (by rw [H.out, List.drop_eq_nil_of_le (by omega)])
        rcases hbest with ⟨rfl, rfl⟩ | ⟨j, q, rfl, hq, rfl⟩
        · have HV : Hid (lgV xs = 0) := by simp [Hid, lgV, EV.out, HE.out, lgGo, lgEnd] <;> omega
          have HC : Hid (lgC xs = 3) := by simp [Hid, lgC, EV.out, HE.out, lgGo, lgEnd] <;> omega
          go_wp2
          go_ret2
          exact ⟨by rw [HV.out, HC.out]; rfl, (by repeat (first | assumption | exact Below.refl _ _ | apply Below.al | apply Below.drewN' | apply Below.drew | (apply Below.tr; assumption)))⟩
        · have HV : Hid (lgV xs = j) := by simp [Hid, lgV, EV.out, HE.out, lgGo, lgEnd] <;> omega
          have HC : Hid (lgC xs = 0) := by simp [Hid, lgC, EV.out, HE.out, lgGo, lgEnd] <;> omega
          have hj : j < xs.length := (List.getElem?_eq_some_iff.1 hq).1
          have hd : decide ((j : Int) < 0) = false := by simp
          clear hq
          go_wp2
          go_ret2
          exact ⟨by rw [HV.out, HC.out]; rfl, (by repeat (first | assumption | exact Below.refl _ _ | apply Below.al | apply Below.drewN' | apply Below.drew | (apply Below.tr; assumption)))⟩
def mxI (a b : Int) : Int := if b < a then a else b
theorem mxI_max (a b : Int) : mxI a b = max a b := by unfold mxI; omega
def qtGo : Int → Al → List Al → Int
  | m, _, [] => m
  | m, q, a :: r => qtGo (mxI m (a.b - q.e)) a r
def qtV (xs : List Al) : Int := if alB xs = true ∧ ¬ xs.length < 2 then (match xs with | [] => 0 | a :: r => qtGo 0 a r) else 0
def qtC (xs : List Al) : Int := if alB xs = true then (if xs.length < 2 then 3 else 0) else 1
theorem l00Max_any (a b : Int) (w : World) :
    Calls Try.prog 62 #[.int .i64 a, .int .i64 b] w fun e w' => e = .returned (.int .i64 (mxI a b)) ∧ w = w' := by
  go_enter Try.func62, Try.ntmps62
  go_wp2
  all_goals (go_ret; exact ⟨ret_int (by simp [mxI, *] <;> omega), rfl⟩)
set_option maxHeartbeats 2000000 in
theorem specQuietTime_any (A : Option Addr) (c : Nat) (xs : List Al) (w : World) (h : Rd encAl 3 w w.heap.size A xs) (hn : xs.length ≤ 1048576) :
    Calls Try.prog 19 #[.slice A xs.length c] w fun e w' => e = .returned (.tuple #[.int .i64 (qtV xs), .int .i64 (qtC xs)]) ∧ Below w.heap.size w w' := by
  cases hv : alB xs
  · have HV : Hid (qtV xs = 0) := by simp [Hid, qtV, hv]
    have HC : Hid (qtC xs = 1) := by simp [Hid, qtC, hv]
    go_enter Try.func19, Try.ntmps19
    go_wp2_with fail
    refine (l19List_any A c xs _ h hn).mono ?_
    rw [hv]
    rintro e w1 ⟨rfl, hb1⟩
    go_wp2
    go_ret2
    exact ⟨by rw [HV.out, HC.out]; rfl, (by repeat (first | assumption | exact Below.refl _ _ | apply Below.al | apply Below.drewN' | apply Below.drew | (apply Below.tr; assumption)))⟩
  · have V := hid (alB_at hv)
    by_cases h2 : xs.length < 2
    · have HV : Hid (qtV xs = 0) := by simp [Hid, qtV, hv, h2]
      have HC : Hid (qtC xs = 3) := by simp [Hid, qtC, hv, h2]
      go_enter Try.func19, Try.ntmps19
      go_wp2_with fail
      refine (l19List_any A c xs _ h hn).mono ?_
      rw [hv]
      rintro e w1 ⟨rfl, hb1⟩
      go_wp2
      go_ret2
      exact ⟨by rw [HV.out, HC.out]; rfl, (by repeat (first | assumption | exact Below.refl _ _ | apply Below.al | apply Below.drewN' | apply Below.drew | (apply Below.tr; assumption)))⟩
    obtain ⟨x0, hx0⟩ : ∃ x, xs[0]? = some x := getx (by omega)
    have HV : Hid (qtV xs = qtGo 0 x0 (xs.drop 1)) := by
      have h3 : xs = x0 :: xs.drop 1 := by have := dropx hx0; simpa using this
      unfold Hid qtV; rw [if_pos ⟨hv, h2⟩]; rw [h3]; rfl
    have HC : Hid (qtC xs = 0) := by simp [Hid, qtC, hv, h2]
    have HX := hid hx0
    clear hx0
    go_enter Try.func19, Try.ntmps19
    go_wp2_with fail
    refine (l19List_any A c xs _ h hn).mono ?_
    rw [hv]
    rintro e w1 ⟨rfl, hb1⟩
    go_wp2
    go_loopw [4, 5] (fun mm i wr => ∃ (k : Nat) (m : Int) (q : Al), 1 ≤ k ∧ k ≤ xs.length ∧ i = .int .i64 k ∧ mm = .int .i64 m ∧ xs[k-1]? = some q ∧ Below w.heap.size w wr ∧ Hid (qtGo 0 x0 (xs.drop 1) = qtGo m q (xs.drop k))) (fun _ i _ => xs.length - (intOf i).toNat)
    case atStart => exact ⟨1, 0, x0, Nat.le_refl _, by omega, by go_num, rfl, by simpa using HX.out, (by repeat (first | assumption | exact Below.refl _ _ | apply Below.al | apply Below.drewN' | apply Below.drew | (apply Below.tr; assumption))), hid rfl⟩
    case round =>
      obtain ⟨k, m, q, hk1, hk, rfl, rfl, hq, hb, H⟩ := hrel
      by_cases hlt : k < xs.length
      · obtain ⟨p, hp⟩ := getx hlt
        obtain ⟨b, o, rfl, hbB, c0, c1, c2⟩ := (h.below hb (Nat.le_refl _)).at3 hp rfl
        have hsz := hb.size
        have HS : Hid (qtGo m q (xs.drop k) = qtGo (mxI m (p.b - q.e)) p (xs.drop (k+1))) := by rw [dropx hp]; rfl
        have b0 : b < wr.heap.size := by omega
        obtain ⟨p1, p2, p3, p4, _, _⟩ := V.out k p hp
        obtain ⟨q1, q2, q3, q4, _, _⟩ := V.out (k-1) q hq
        obtain ⟨b', o', e1, _, d0, d1, _⟩ := (h.below hb (Nat.le_refl _)).at3 hq rfl
        simp at e1; obtain ⟨rfl, rfl⟩ := e1
        have HP := hid hp
        clear hp hq
        go_wp2
        refine wp_region_ext (by kernel_rfl) (by kernel_rfl) ?_
        repeat (go_big_quiet_step ((first | (go_at_call 62; exact ext_same (l00Max_any _ _ _)))))
        refine wpQuiet_nil ?_
        intro w3 hb3
        obtain ⟨hc_w3, hf_w3⟩ := bcell hb3
        have hz_w3 := hb3.size
        go_wp2
        go_roundw
        case rel => exact ⟨k + 1, mxI m (p.b - q.e), p, by omega, by omega, by go_num, by first | rfl | (congr 1; unfold mxI; (repeat' split) <;> omega), by simpa using HP.out, (by repeat (first | assumption | exact Below.refl _ _ | apply Below.al | apply Below.drewN' | apply Below.drew | (apply Below.tr; assumption))), hid (by rw [H.out, HS.out])⟩
        case measure => simp [intOf]; omega
      · have HE : Hid (qtGo 0 x0 (xs.drop 1) = m) := hid (by rw [H.out, List.drop_eq_nil_of_le (by omega)]; rfl)
        go_wp2
        go_ret2
        exact ⟨by rw [HV.out, HC.out, HE.out]; rfl, (by repeat (first | assumption | exact Below.refl _ _ | apply Below.al | apply Below.drewN' | apply Below.drew | (apply Below.tr; assumption)))⟩
set_option maxHeartbeats 2000000 in
theorem implQuietTime_any (A : Option Addr) (c : Nat) (xs : List Al) (w : World) (h : Rd encAl 3 w w.heap.size A xs) (hn : xs.length ≤ 1048576) :
    Calls Try.prog 20 #[.slice A xs.length c] w fun e w' => e = .returned (.tuple #[.int .i64 (qtV xs), .int .i64 (qtC xs)]) ∧ Below w.heap.size w w' := by
  cases hv : alB xs
  · have HV : Hid (qtV xs = 0) := by simp [Hid, qtV, hv]
    have HC : Hid (qtC xs = 1) := by simp [Hid, qtC, hv]
    go_enter Try.func20, Try.ntmps20
    go_wp2_with fail
    refine (areAlerts_any A c xs _ h hn).mono ?_
    rw [hv]
    rintro e w1 ⟨rfl, hb1⟩
    go_wp2
    go_ret2
    exact ⟨by rw [HV.out, HC.out]; rfl, (by repeat (first | assumption | exact Below.refl _ _ | apply Below.al | apply Below.drewN' | apply Below.drew | (apply Below.tr; assumption)))⟩
  · have V := hid (alB_at hv)
    by_cases h2 : xs.length < 2
    · have HV : Hid (qtV xs = 0) := by simp [Hid, qtV, hv, h2]
      have HC : Hid (qtC xs = 3) := by simp [Hid, qtC, hv, h2]
      go_enter Try.func20, Try.ntmps20
      go_wp2_with fail
      refine (areAlerts_any A c xs _ h hn).mono ?_
      rw [hv]
      rintro e w1 ⟨rfl, hb1⟩
      go_wp2
      go_ret2
      exact ⟨by rw [HV.out, HC.out]; rfl, (by repeat (first | assumption | exact Below.refl _ _ | apply Below.al | apply Below.drewN' | apply Below.drew | (apply Below.tr; assumption)))⟩
    obtain ⟨x0, hx0⟩ : ∃ x, xs[0]? = some x := getx (by omega)
    have HV : Hid (qtV xs = qtGo 0 x0 (xs.drop 1)) := by
      have h3 : xs = x0 :: xs.drop 1 := by have := dropx hx0; simpa using this
      unfold Hid qtV; rw [if_pos ⟨hv, h2⟩]; rw [h3]; rfl
    have HC : Hid (qtC xs = 0) := by simp [Hid, qtC, hv, h2]
    have HX := hid hx0
    clear hx0
    go_enter Try.func20, Try.ntmps20
    go_wp2_with fail
    refine (areAlerts_any A c xs _ h hn).mono ?_
    rw [hv]
    rintro e w1 ⟨rfl, hb1⟩
    go_wp2
    go_loopw [4, 5] (fun mm i wr => ∃ (k : Nat) (m : Int) (q : Al), 1 ≤ k ∧ k ≤ xs.length ∧ i = .int .i64 k ∧ mm = .int .i64 m ∧ xs[k-1]? = some q ∧ Below w.heap.size w wr ∧ Hid (qtGo 0 x0 (xs.drop 1) = qtGo m q (xs.drop k))) (fun _ i _ => xs.length - (intOf i).toNat)
    case atStart => exact ⟨1, 0, x0, Nat.le_refl _, by omega, by go_num, rfl, by simpa using HX.out, (by repeat (first | assumption | exact Below.refl _ _ | apply Below.al | apply Below.drewN' | apply Below.drew | (apply Below.tr; assumption))), hid rfl⟩
    case round =>
      obtain ⟨k, m, q, hk1, hk, rfl, rfl, hq, hb, H⟩ := hrel
      by_cases hlt : k < xs.length
      · obtain ⟨p, hp⟩ := getx hlt
        obtain ⟨b, o, rfl, hbB, c0, c1, c2⟩ := (h.below hb (Nat.le_refl _)).at3 hp rfl
        have hsz := hb.size
        have HS : Hid (qtGo m q (xs.drop k) = qtGo (mxI m (p.b - q.e)) p (xs.drop (k+1))) := by rw [dropx hp]; rfl
        have b0 : b < wr.heap.size := by omega
        obtain ⟨p1, p2, p3, p4, _, _⟩ := V.out k p hp
        obtain ⟨q1, q2, q3, q4, _, _⟩ := V.out (k-1) q hq
        obtain ⟨b', o', e1, _, d0, d1, _⟩ := (h.below hb (Nat.le_refl _)).at3 hq rfl
        simp at e1; obtain ⟨rfl, rfl⟩ := e1
        have HP := hid hp
        clear hp hq
        go_wp2
        refine wp_region_ext (by kernel_rfl) (by kernel_rfl) ?_
        repeat (go_big_quiet_step ((first | fail)))
        refine wpQuiet_nil ?_
        intro w3 hb3
        obtain ⟨hc_w3, hf_w3⟩ := bcell hb3
        have hz_w3 := hb3.size
        go_wp2
        go_roundw
        case rel => exact ⟨k + 1, mxI m (p.b - q.e), p, by omega, by omega, by go_num, by first | rfl | (congr 1; unfold mxI; (repeat' split) <;> omega), by simpa using HP.out, (by repeat (first | assumption | exact Below.refl _ _ | apply Below.al | apply Below.drewN' | apply Below.drew | (apply Below.tr; assumption))), hid (by rw [H.out, HS.out])⟩
        case measure => simp [intOf]; omega
      · have HE : Hid (qtGo 0 x0 (xs.drop 1) = m) := hid (by rw [H.out, List.drop_eq_nil_of_le (by omega)]; rfl)
        go_wp2
        go_ret2
        exact ⟨by rw [HV.out, HC.out, HE.out]; rfl, (by repeat (first | assumption | exact Below.refl _ _ | apply Below.al | apply Below.drewN' | apply Below.drew | (apply Below.tr; assumption)))⟩
end Go.Proofs.Ytpfdfbebeckohaa
