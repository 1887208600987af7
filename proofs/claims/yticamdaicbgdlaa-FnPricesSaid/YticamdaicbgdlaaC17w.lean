/- Contracts: what prices prove, in the program and in the reference. -/
import Derived.Test.YticamdaicbgdlaaC17q
namespace Go.Proofs.Yticamdaicbgdlaa
open Go.RowKit
set_option linter.unusedVariables false
/-- Prices that lie in memory, each from 0 to 100, and at each place as much together as the worth. -/
structure PrOk (n : Nat) (Ls : List (List Int)) (O P : List Int) : Prop where
  lo : O.length = Ls.length
  lp : P.length = n
  o : ∀ (k : Nat) (p : Int), O[k]? = some p → 0 ≤ p ∧ p ≤ 100
  p : ∀ (k : Nat) (p : Int), P[k]? = some p → 0 ≤ p ∧ p ≤ 100
  le : ∀ (i k : Nat) (L : List Int) (x a b : Int), Ls[i]? = some L → L[k]? = some x → O[i]? = some a → P[k]? = some b → x ≤ a + b
theorem prOk {n : Nat} {Ls : List (List Int)} (h : WOk n Ls) : PrOk n Ls (obsL n Ls) (prcL n Ls) := by
  have eo : ∀ (k : Nat) (p : Int), (obsL n Ls)[k]? = some p → obs n Ls k = p := fun k p hk => by
    obtain ⟨h1, h2⟩ := List.getElem?_eq_some_iff.1 hk
    simpa [obsL] using h2
  have ep : ∀ (k : Nat) (p : Int), (prcL n Ls)[k]? = some p → k < n ∧ prc n Ls k = p := fun k p hk => by
    obtain ⟨h1, h2⟩ := List.getElem?_eq_some_iff.1 hk
    exact ⟨by simpa [prcL] using h1, by simpa [prcL] using h2⟩
  refine ⟨obsL_len n Ls, prcL_len n Ls, fun k p hk => ?_, fun k p hk => ?_, fun i k L x a b hL hx ha hb => ?_⟩
  · rw [← eo k p hk]
    have := h.mx_in k n
    unfold obs; omega
  · obtain ⟨_, rfl⟩ := ep k p hk
    have := h.prc_in k; omega
  · obtain ⟨hk, rfl⟩ := ep k b hb
    rw [← eo i a ha]
    have := obs_proves n Ls i hk
    unfold wnum at this
    rw [List.getD_eq_getElem?_getD, List.getD_eq_getElem?_getD, hL, Option.getD_some, hx] at this
    exact this
theorem sumZ_in : ∀ (xs : List Int) (n : Nat), xs.length ≤ n → (∀ (k : Nat) (p : Int), xs[k]? = some p → 0 ≤ p ∧ p ≤ 100) → 0 ≤ sumZ xs ∧ sumZ xs ≤ n * 100
  | [], n, _, _ => by simp [sumZ]; omega
  | x :: r, 0, h, _ => by simp at h
  | x :: r, n + 1, h, hx => by
    have h1 := sumZ_in r n (by simpa using h) (fun k p hp => hx (k + 1) p (by simpa using hp))
    have h2 := hx 0 x rfl
    simp only [sumZ]
    push_cast
    omega
theorem l17Prices_any (A : Option Addr) (c : Nat) (xs : List Int) (w : World) (h : Rd encI 1 w w.heap.size A xs) (hn : xs.length ≤ 100) (X : Hid (∀ (k : Nat) (p : Int), xs[k]? = some p → 0 ≤ p ∧ p ≤ 100)) :
    Calls Try.prog 25 #[.slice A xs.length c] w fun e w' => e = .returned (.bool true) ∧ Below w.heap.size w w' := by
  go_enter Try.func25, Try.ntmps25
  go_wp2
  go_loopw [3] (fun i wr => ∃ k : Nat, k ≤ xs.length ∧ i = .int .i64 k ∧ Below w.heap.size w wr) (fun i _ => xs.length - (intOf i).toNat)
  case atStart => exact ⟨0, Nat.zero_le _, rfl, (by repeat (first | assumption | exact Below.refl _ _ | apply Below.al | apply Below.drewN' | apply Below.drew | (apply Below.tr; assumption)))⟩
  case round =>
    obtain ⟨k, hk, rfl, hb⟩ := hrel
    by_cases hlt : k < xs.length
    · obtain ⟨p, hp⟩ := getx hlt
      obtain ⟨p1, p2⟩ := X.out k p hp
      obtain ⟨b, o, rfl, hbB, c0⟩ := (h.below hb (Nat.le_refl _)).at1 hp rfl
      have hX : inB p 0 1000000 = true := inB_true.2 (by omega)
      clear hp
      go_wp2_with (go_at_call 26; refine (l00In_eq' hX _).mono ?_; rintro e w' ⟨rfl, rfl⟩)
      go_roundw
      case rel => exact ⟨k + 1, by omega, by go_num, hb⟩
      case measure => simp [intOf]; omega
    · go_wp2
      go_ret
      exact ⟨rfl, hb⟩
set_option maxRecDepth 20000 in
set_option maxHeartbeats 2000000 in
theorem specProves_any (n : Nat) (A Ao As : Option Addr) (c co cs : Nat) (Ls : List (List Int)) (O P : List Int) (v : Int) (w : World) (h : RL w w.heap.size A Ls) (OK : WOk n Ls) (hO : Rd encI 1 w w.heap.size Ao O) (hP : Rd encI 1 w w.heap.size As P) (PK : PrOk n Ls O P) (v0 : 0 ≤ v) (v1 : v ≤ 1000000) :
    Calls Try.prog 10 #[.slice A Ls.length c, .slice Ao O.length co, .slice As P.length cs, .int .i64 v] w fun e w' => e = .returned (.tuple #[.bool (decide (sumZ O + sumZ P ≤ v)), .int .i64 0]) ∧ Below w.heap.size w w' := by
  have m1 := OK.m1; have m2 := OK.m2; have n1 := OK.n1; have n2 := OK.n2
  have C1 := fun (W : World) (hW : Below w.heap.size w W) => l17Ok_any n A c Ls W ((h.below hW (Nat.le_refl _)).more hW.size) OK
  have HO := hid PK.o
  have HP := hid PK.p
  have lo := PK.lo
  have lp := PK.lp
  have CO := fun (W : World) (hW : Below w.heap.size w W) => l17Prices_any Ao co O W ((hO.below hW (Nat.le_refl _)).more hW.size) (by omega) HO
  have CP := fun (W : World) (hW : Below w.heap.size w W) => l17Prices_any As cs P W ((hP.below hW (Nat.le_refl _)).more hW.size) (by omega) HP
  have SO := fun (W : World) (hW : Below w.heap.size w W) => l02SumZ_any Ao co O W ((hO.below hW (Nat.le_refl _)).more hW.size) (by omega) (hid (fun k p hk => by have := HO.out k p hk; omega))
  have SP := fun (W : World) (hW : Below w.heap.size w W) => l02SumZ_any As cs P W ((hP.below hW (Nat.le_refl _)).more hW.size) (by omega) (hid (fun k p hk => by have := HP.out k p hk; omega))
  obtain ⟨s0, s1⟩ := sumZ_in O 4 (by omega) HO.out
  obtain ⟨s2, s3⟩ := sumZ_in P 4 (by omega) HP.out
  have PLE := hid PK.le
  obtain ⟨so, hso⟩ : ∃ so, sumZ O = so := ⟨_, rfl⟩
  obtain ⟨sp, hsp⟩ : ∃ sp, sumZ P = sp := ⟨_, rfl⟩
  rw [hso] at SO s0 s1 ⊢
  rw [hsp] at SP s2 s3 ⊢
  rw [lo] at CO SO ⊢
  rw [lp] at CP SP ⊢
  have C1 := hid C1
  have CO := hid CO
  have CP := hid CP
  have SO := hid SO
  have SP := hid SP
  have lo := hid lo
  have lp := hid lp
  obtain ⟨L0, hL0, lL0, xL0⟩ := OK.at (i := 0) (by omega)
  obtain ⟨b, rfl, hbB, hr⟩ := h
  obtain ⟨A2, c2, e2, _⟩ := hr 0 L0 hL0
  rw [lL0] at e2
  have hr := hid hr
  have hX : inB v 0 1000000 = true := inB_true.2 (by omega)
  clear hL0 xL0 hso hsp
  go_enter Try.func10, Try.ntmps10
  go_wp2_with fail
  refine (C1.out w (Below.refl _ _)).mono ?_
  rintro e w1 ⟨rfl, b1⟩
  have e3 := ((bcell b1).1 b 0 hbB).trans e2
  go_wp2_with fail
  refine (CO.out w1 b1).mono ?_
  rintro e w2 ⟨rfl, b2⟩
  have b3 := Below.tr b2 b1
  go_wp2_with fail
  refine (CP.out w2 b3).mono ?_
  rintro e w4 ⟨rfl, b4⟩
  have b5 := Below.tr b4 b3
  go_wp2_with fail
  refine (l00In_eq' hX w4).mono ?_
  rintro e w5 ⟨rfl, rfl⟩
  go_wp2_with fail
  refine (SO.out w4 b5).mono ?_
  rintro e w6 ⟨rfl, b6⟩
  have b7 := Below.tr b6 b5
  go_wp2_with fail
  refine (SP.out w6 b7).mono ?_
  rintro e w8 ⟨rfl, b8⟩
  have b9 := Below.tr b8 b7
  clear C1 CO CP SO SP b1 b2 b3 b4 b5 b6 b7 b8 e3
  go_wp2
  go_loopw [11] (fun iv wr => ∃ i : Nat, i ≤ Ls.length ∧ iv = .int .i64 i ∧ Below w.heap.size w wr) (fun iv _ => Ls.length - (intOf iv).toNat)
  case atStart => exact ⟨0, Nat.zero_le _, rfl, b9⟩
  case round =>
    obtain ⟨i, hi, rfl, hb⟩ := hrel
    by_cases hlt : i < Ls.length
    · obtain ⟨L, hL, lL, xL⟩ := OK.at hlt
      obtain ⟨A1, c1', e3, rL⟩ := hr.out i L hL
      have e3 := ((bcell hb).1 b i hbB).trans e3
      rw [lL] at e3
      obtain ⟨a, ha⟩ := getx (xs := O) (k := i) (by have := lo.out; omega)
      obtain ⟨a0, a1⟩ := HO.out i a ha
      have ha := hid ha
      have hL := hid hL
      have xL := hid xL
      have hsz := hb.size
      go_wp2
      obtain ⟨wm, rfl⟩ : ∃ wm, wm = wr := ⟨_, rfl⟩
      go_loopw [12] (fun iv wr => ∃ k : Nat, k ≤ n ∧ iv = .int .i64 k ∧ Below wm.heap.size wm wr) (fun iv _ => n - (intOf iv).toNat)
      case atStart => exact ⟨0, Nat.zero_le _, rfl, (by repeat (first | assumption | exact Below.refl _ _ | apply Below.al | apply Below.drewN' | apply Below.drew | (apply Below.tr; assumption)))⟩
      case round =>
        obtain ⟨k, hk, rfl, hb2⟩ := hrel
        have BW : Below w.heap.size w wr := Below.tr hb2 hb
        have hz2 := BW.size
        by_cases hk' : k < n
        · obtain ⟨x, hx⟩ := getx (xs := L) (k := k) (by omega)
          obtain ⟨x0, x1⟩ := xL.out k x hx
          obtain ⟨p, hp⟩ := getx (xs := P) (k := k) (by have := lp.out; omega)
          obtain ⟨p0, p1⟩ := HP.out k p hp
          have hle := PLE.out i k L x a p hL.out hx ha.out hp
          obtain ⟨ba, oa, rfl, zba, q0⟩ := (rL.below BW (Nat.le_refl _)).at1 hx rfl
          obtain ⟨bo, oo, hAo, zbo, q1⟩ := (hO.below BW (Nat.le_refl _)).at1 ha.out rfl
          obtain ⟨bp, op, hAp, zbp, q2⟩ := (hP.below BW (Nat.le_refl _)).at1 hp rfl
          subst hAo hAp
          have e4 := ((bcell hb2).1 b i (by omega)).trans e3
          have y0 : b < wr.heap.size := by omega
          have y1 : ba < wr.heap.size := by omega
          have y2 : bo < wr.heap.size := by omega
          have y3 : bp < wr.heap.size := by omega
          clear hx hp
          go_wp2
          refine wp_region_ext (by kernel_rfl) (by kernel_rfl) ?_
          repeat (go_big_quiet_step ((first | fail)))
          refine wpQuiet_nil ?_
          intro w11 hb11
          obtain ⟨hc_w11, hf_w11⟩ := bcell hb11
          have hz_w11 := hb11.size
          go_wp2
          go_roundw
          case rel => exact ⟨k + 1, by omega, by go_num, (by repeat (first | assumption | exact Below.refl _ _ | apply Below.al | apply Below.drewN' | apply Below.drew | (apply Below.tr; assumption)))⟩
          case measure => simp [intOf]; omega
        · go_wp2
          go_roundw
          case rel => exact ⟨i + 1, by omega, by go_num, BW⟩
          case measure => simp [intOf]; omega
    · go_wp2
      go_ret2
      exact ⟨rfl, hb⟩
set_option maxRecDepth 20000 in
set_option maxHeartbeats 2000000 in
theorem implProves_any (n : Nat) (A Ao As : Option Addr) (c co cs : Nat) (Ls : List (List Int)) (O P : List Int) (v : Int) (w : World) (h : RL w w.heap.size A Ls) (OK : WOk n Ls) (hO : Rd encI 1 w w.heap.size Ao O) (hP : Rd encI 1 w w.heap.size As P) (PK : PrOk n Ls O P) (v0 : 0 ≤ v) (v1 : v ≤ 1000000) :
    Calls Try.prog 11 #[.slice A Ls.length c, .slice Ao O.length co, .slice As P.length cs, .int .i64 v] w fun e w' => e = .returned (.tuple #[.bool (decide (sumZ O + sumZ P ≤ v)), .int .i64 0]) ∧ Below w.heap.size w w' := by
  have m1 := OK.m1; have m2 := OK.m2; have n1 := OK.n1; have n2 := OK.n2
  have C1 := fun (W : World) (hW : Below w.heap.size w W) => validWorths_any n A c Ls W ((h.below hW (Nat.le_refl _)).more hW.size) OK
  have HO := hid PK.o
  have HP := hid PK.p
  have lo := PK.lo
  have lp := PK.lp
  have CO := fun (W : World) (hW : Below w.heap.size w W) => allIn_any 0 1000000 Ao co O W ((hO.below hW (Nat.le_refl _)).more hW.size) (by omega)
  have CP := fun (W : World) (hW : Below w.heap.size w W) => allIn_any 0 1000000 As cs P W ((hP.below hW (Nat.le_refl _)).more hW.size) (by omega)
  rw [all_in (fun k x hx => by have := HO.out k x hx; omega)] at CO
  rw [all_in (fun k x hx => by have := HP.out k x hx; omega)] at CP
  have SO := fun (W : World) (hW : Below w.heap.size w W) => sumZ_any Ao co O W ((hO.below hW (Nat.le_refl _)).more hW.size) (by omega) (hid (fun k p hk => by have := HO.out k p hk; omega))
  have SP := fun (W : World) (hW : Below w.heap.size w W) => sumZ_any As cs P W ((hP.below hW (Nat.le_refl _)).more hW.size) (by omega) (hid (fun k p hk => by have := HP.out k p hk; omega))
  obtain ⟨s0, s1⟩ := sumZ_in O 4 (by omega) HO.out
  obtain ⟨s2, s3⟩ := sumZ_in P 4 (by omega) HP.out
  have PLE := hid PK.le
  obtain ⟨so, hso⟩ : ∃ so, sumZ O = so := ⟨_, rfl⟩
  obtain ⟨sp, hsp⟩ : ∃ sp, sumZ P = sp := ⟨_, rfl⟩
  rw [hso] at SO s0 s1 ⊢
  rw [hsp] at SP s2 s3 ⊢
  rw [lo] at CO SO ⊢
  rw [lp] at CP SP ⊢
  have C1 := hid C1
  have CO := hid CO
  have CP := hid CP
  have SO := hid SO
  have SP := hid SP
  have lo := hid lo
  have lp := hid lp
  obtain ⟨L0, hL0, lL0, xL0⟩ := OK.at (i := 0) (by omega)
  obtain ⟨b, rfl, hbB, hr⟩ := h
  obtain ⟨A2, c2, e2, _⟩ := hr 0 L0 hL0
  rw [lL0] at e2
  have hr := hid hr
  have hX : inB v 0 1000000 = true := inB_true.2 (by omega)
  clear hL0 xL0 hso hsp
  go_enter Try.func11, Try.ntmps11
  go_wp2_with fail
  refine (C1.out w (Below.refl _ _)).mono ?_
  rintro e w1 ⟨rfl, b1⟩
  have e3 := ((bcell b1).1 b 0 hbB).trans e2
  go_wp2_with fail
  refine (CO.out w1 b1).mono ?_
  rintro e w2 ⟨rfl, b2⟩
  have b3 := Below.tr b2 b1
  go_wp2_with fail
  refine (CP.out w2 b3).mono ?_
  rintro e w4 ⟨rfl, b4⟩
  have b5 := Below.tr b4 b3
  go_wp2_with fail
  refine (in_eq hX w4).mono ?_
  rintro e w5 ⟨rfl, rfl⟩
  clear C1 CO CP b1 b2 b3 b4 e3
  have e9 := ((bcell b5).1 b 0 hbB).trans e2
  go_wp2
  go_loopw [48] (fun iv wr => ∃ i : Nat, i ≤ Ls.length ∧ iv = .int .i64 i ∧ Below w.heap.size w wr) (fun iv _ => Ls.length - (intOf iv).toNat)
  case atStart => exact ⟨0, Nat.zero_le _, rfl, b5⟩
  case round =>
    obtain ⟨i, hi, rfl, hb⟩ := hrel
    by_cases hlt : i < Ls.length
    · obtain ⟨L, hL, lL, xL⟩ := OK.at hlt
      obtain ⟨A1, c1', e3, rL⟩ := hr.out i L hL
      have e3 := ((bcell hb).1 b i hbB).trans e3
      rw [lL] at e3
      obtain ⟨a, ha⟩ := getx (xs := O) (k := i) (by have := lo.out; omega)
      obtain ⟨a0, a1⟩ := HO.out i a ha
      have ha := hid ha
      have hL := hid hL
      have xL := hid xL
      have hsz := hb.size
      go_wp2
      obtain ⟨wm, rfl⟩ : ∃ wm, wm = wr := ⟨_, rfl⟩
      go_loopw [55] (fun iv wr => ∃ k : Nat, k ≤ n ∧ iv = .int .i64 k ∧ Below wm.heap.size wm wr) (fun iv _ => n - (intOf iv).toNat)
      case atStart => exact ⟨0, Nat.zero_le _, rfl, (by repeat (first | assumption | exact Below.refl _ _ | apply Below.al | apply Below.drewN' | apply Below.drew | (apply Below.tr; assumption)))⟩
      case round =>
        obtain ⟨k, hk, rfl, hb2⟩ := hrel
        have BW : Below w.heap.size w wr := Below.tr hb2 hb
        have hz2 := BW.size
        by_cases hk' : k < n
        · obtain ⟨x, hx⟩ := getx (xs := L) (k := k) (by omega)
          obtain ⟨x0, x1⟩ := xL.out k x hx
          obtain ⟨p, hp⟩ := getx (xs := P) (k := k) (by have := lp.out; omega)
          obtain ⟨p0, p1⟩ := HP.out k p hp
          have hle := PLE.out i k L x a p hL.out hx ha.out hp
          obtain ⟨ba, oa, rfl, zba, q0⟩ := (rL.below BW (Nat.le_refl _)).at1 hx rfl
          obtain ⟨bo, oo, hAo, zbo, q1⟩ := (hO.below BW (Nat.le_refl _)).at1 ha.out rfl
          obtain ⟨bp, op, hAp, zbp, q2⟩ := (hP.below BW (Nat.le_refl _)).at1 hp rfl
          subst hAo hAp
          have e4 := ((bcell hb2).1 b i (by omega)).trans e3
          have y0 : b < wr.heap.size := by omega
          have y1 : ba < wr.heap.size := by omega
          have y2 : bo < wr.heap.size := by omega
          have y3 : bp < wr.heap.size := by omega
          clear hx hp
          go_wp2
          refine wp_region_ext (by kernel_rfl) (by kernel_rfl) ?_
          repeat (go_big_quiet_step ((first | fail)))
          refine wpQuiet_nil ?_
          intro w11 hb11
          obtain ⟨hc_w11, hf_w11⟩ := bcell hb11
          have hz_w11 := hb11.size
          go_wp2
          go_roundw
          case rel => exact ⟨k + 1, by omega, by go_num, (by repeat (first | assumption | exact Below.refl _ _ | apply Below.al | apply Below.drewN' | apply Below.drew | (apply Below.tr; assumption)))⟩
          case measure => simp [intOf]; omega
        · go_wp2
          go_roundw
          case rel => exact ⟨i + 1, by omega, by go_num, BW⟩
          case measure => simp [intOf]; omega
    · go_wp2_with fail
      refine (SO.out wr hb).mono ?_
      rintro e w6 ⟨rfl, b6⟩
      have b7 := Below.tr b6 hb
      go_wp2_with fail
      refine (SP.out w6 b7).mono ?_
      rintro e w8 ⟨rfl, b8⟩
      have b9 := Below.tr b8 b7
      go_wp2
      go_ret2
      exact ⟨rfl, b9⟩
end Go.Proofs.Yticamdaicbgdlaa
