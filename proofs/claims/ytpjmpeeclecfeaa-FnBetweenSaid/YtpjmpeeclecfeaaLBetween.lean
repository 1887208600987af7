/- The magnitude at a time is between those of the points before and behind it, for every code: the law says yes. No condition. -/
import Derived.Test.YtpjmpeeclecfeaaRows
import Derived.Test.YtpjmpeeclecfeaaOpen
import Derived.Test.YtpjmpeeclecfeaaC08b
import Derived.Test.YtpjmpeeclecfeaaCLong
namespace Go.Proofs.Ytpjmpeeclecfeaa
open Go.RowKit
set_option maxRecDepth 20000 in
set_option maxHeartbeats 4000000 in
theorem between_law (w : World) (A0 : Option Addr) (c0 : Nat) (xs0 : List Int) (r0 : Rd encB 1 w w.heap.size A0 xs0) (wf0 : ∀ x ∈ xs0, 0 ≤ x ∧ x < 256) (m0 : xs0.length ≤ maxLen) :
    Calls Try.prog 5 #[.slice A0 xs0.length c0] w fun e w' => e = .returned (.bool true) ∧ Below w.heap.size w w' := by
  by_cases hL : 3000 < xs0.length
  · have e : (decide (3000 < xs0.length) || decide (3000 < 0)) = true := by simpa using hL
    go_enter Try.func5, Try.ntmps5
    go_wp2_with fail
    refine (a2Long_any _ _ _ none 0 0 _ m0 (by unfold maxLen; omega)).mono ?_
    rw [e]
    rintro e w1 ⟨rfl, rfl⟩
    go_wp2
    go_ret
    exact ⟨rfl, (by repeat (first | assumption | exact Below.refl _ _ | apply Below.al | apply Below.drewN' | apply Below.drew | (apply Below.tr; assumption)))⟩
  have e : (decide (3000 < xs0.length) || decide (3000 < 0)) = false := by simp; omega
  have l0 : xs0.length ≤ 3000 := by omega
  clear hL
  go_enter Try.func5, Try.ntmps5
  go_wp2_with fail
  refine (a2Long_any _ _ _ none 0 0 _ m0 (by unfold maxLen; omega)).mono ?_
  rw [e]
  rintro e w1 ⟨rfl, rfl⟩
  clear e
  go_wp2_with fail
  refine (a2Curve_any A0 c0 xs0 _ r0 wf0 l0).mono ?_
  rintro e w1 ⟨ys, Ay, cy, rfl, oy, hb1, l2, CV⟩
  have ry : Rd encPt 2 w1 w1.heap.size Ay ys := rd_of_own (enc := encPt) (k := 2) (c := cy) (fun _ => rfl) oy
  have CV := hid CV
  clear oy r0 wf0 m0 l0
  go_wp2_with fail
  go_loopw [4] (fun i wr => ∃ k : Nat, k ≤ ys.length ∧ i = .int .i64 k ∧ Below w1.heap.size w1 wr) (fun i _ => ys.length - (intOf i).toNat)
  case atStart => exact ⟨0, Nat.zero_le _, rfl, Below.refl _ _⟩
  case round =>
    obtain ⟨k, hk, rfl, hb⟩ := hrel
    have hsz := hb.size
    by_cases hlt : k < ys.length
    · obtain ⟨p, hp⟩ := getx hlt
      obtain ⟨b, o, rfl, hbB, d0, d1⟩ := (ry.below hb (Nat.le_refl _)).at2 hp rfl
      have vp := CV.out.rng hp
      have HP := hid hp
      have ht : inB p.t 0 10000000 = true := inB_true.2 (by omega)
      have HM := hid (maGo_at CV.out hp)
      clear hp
      go_wp2_with fail
      refine (magAt_any _ cy ys p.t p.m _ ((ry.below hb (Nat.le_refl _)).more hb.size) l2 CV.out ht HM.out).mono ?_
      rintro e w2 ⟨rfl, hb2⟩
      obtain ⟨hc2, _⟩ := bcell hb2
      have hz2 := hb2.size
      have zb : b < wr.heap.size := by omega
      have zb2 : b < w2.heap.size := by omega
      have e0 := (hc2 b _ zb).trans d0
      have e1 := (hc2 b _ zb).trans d1
      clear hc2
      by_cases hk0 : 0 < k
      · have hk1 : ((k : Int) == 0) = false := by simp; omega
        obtain ⟨q, hq⟩ : ∃ q, ys[k-1]? = some q := getx (by omega)
        obtain ⟨_, _, ee, _, f0, f1⟩ := (ry.below (Below.tr hb2 hb) (Nat.le_refl _)).at2 hq rfl
        simp at ee; obtain ⟨rfl, rfl⟩ := ee
        have vq := CV.out.rng hq
        have lq := CV.out.lt hq HP.out (by omega)
        have T1 : q.t ≤ (q.t + p.t) / 2 := by omega
        have T2 : (q.t + p.t) / 2 < p.t := by omega
        have HQ := hid hq
        have VV : ∃ v, maGo ((q.t + p.t) / 2) none ys = some v ∧ (q.m ≤ p.m → q.m ≤ v ∧ v ≤ p.m) ∧ (p.m ≤ q.m → p.m ≤ v ∧ v ≤ q.m) := by
          by_cases hT : q.t = (q.t + p.t) / 2
          · have t := maGo_at CV.out hq
            rw [hT] at t
            exact ⟨q.m, t, fun h => ⟨by omega, h⟩, fun h => ⟨h, by omega⟩⟩
          · have t := maGo_mid (k := k - 1) (T := (q.t + p.t) / 2) CV.out hq (by rw [show k - 1 + 1 = k by omega]; exact HP.out) (by omega) T2
            exact ⟨_, t, midM_bd T1 (by omega) lq⟩
        obtain ⟨v, hv, v1, v2⟩ := VV
        have HV := hid hv
        have htT : inB ((q.t + p.t) / 2) 0 10000000 = true := inB_true.2 (by omega)
        have hb12 := Below.tr hb2 hb
        have hz12 := hb12.size
        clear hq hv
        go_wp2_with fail
        refine wp_region_ext (by kernel_rfl) (by kernel_rfl) ?_
        repeat (go_big_quiet_step ((first | fail)))
        refine wpQuiet_nil ?_
        intro w3 hb3
        obtain ⟨hc_w3, hf_w3⟩ := bcell hb3
        have hz_w3 := hb3.size
        have zb3 : b < w3.heap.size := by omega
        have hb13 := Below.tr hb3 hb12
        have x0 := (hc_w3 b _ zb2).trans e1
        have x1 := (hc_w3 b _ zb2).trans f1
        clear hc_w3 hf_w3 e0 e1 f0 f1 d0 d1
        go_wp2_with fail
        refine (magAt_any _ cy ys ((q.t + p.t) / 2) v _ ((ry.below hb13 (Nat.le_refl _)).more hb13.size) l2 CV.out htT HV.out).mono ?_
        rintro e w4 ⟨rfl, hb4⟩
        obtain ⟨hc4, _⟩ := bcell hb4
        have hz4 := hb4.size
        have zb4 : b < w4.heap.size := by omega
        have x0 := (hc4 b _ zb3).trans x0
        have x1 := (hc4 b _ zb3).trans x1
        have hb14 := Below.tr hb4 hb13
        clear hc4
        by_cases hle : q.m ≤ p.m
        · have hv := v1 hle
          have t1 : decide (v < q.m) = false := by simp; omega
          have t2 : decide (p.m < v) = false := by simp; omega
          have n1 : ¬ p.m < q.m := by omega
          clear v1 v2
          go_wp2_with fail
          refine wp_region_ext (by kernel_rfl) (by kernel_rfl) ?_
          repeat (go_big_quiet_step ((first | fail)))
          refine wpQuiet_nil ?_
          intro w5 hb5
          obtain ⟨hc_w5, hf_w5⟩ := bcell hb5
          have hz_w5 := hb5.size
          go_wp2
          go_roundw
          case rel => exact ⟨k + 1, by omega, by go_num, Below.tr hb5 hb14⟩
          case measure => simp [intOf]; omega
        · have hv := v2 (by omega)
          have t1 : decide (v < p.m) = false := by simp; omega
          have t2 : decide (q.m < v) = false := by simp; omega
          have n1 : p.m < q.m := by omega
          have n2 : ¬ q.m < p.m := by omega
          clear v1 v2
          go_wp2_with fail
          refine wp_region_ext (by kernel_rfl) (by kernel_rfl) ?_
          repeat (go_big_quiet_step ((first | fail)))
          refine wpQuiet_nil ?_
          intro w5 hb5
          obtain ⟨hc_w5, hf_w5⟩ := bcell hb5
          have hz_w5 := hb5.size
          go_wp2
          go_roundw
          case rel => exact ⟨k + 1, by omega, by go_num, Below.tr hb5 hb14⟩
          case measure => simp [intOf]; omega
      · obtain rfl : k = 0 := by omega
        go_wp2
        go_roundw
        case rel => exact ⟨0 + 1, by omega, by go_num, Below.tr hb2 hb⟩
        case measure => simp [intOf]; omega
    · have ryr := (ry.below hb (Nat.le_refl _)).more hb.size
      have hbr := hb
      go_wp2_with fail
      refine (longestGap_any _ cy ys _ ryr l2 CV.out).mono ?_
      rintro e w2 ⟨f, t, code, rfl, hb2, f0, f1, t0, t1, LG⟩
      have hb12 := Below.tr hb2 hbr
      have hw2 : Below w.heap.size w w2 := Below.tr hb12 hb1
      rcases LG with ⟨rfl, hl⟩ | ⟨rfl, hl, hg⟩
      · go_wp2
        go_ret
        exact ⟨rfl, hw2⟩
      · have HG := hid hg
        clear hg
        go_wp2
        go_loopw [13] (fun i wr => ∃ k : Nat, 1 ≤ k ∧ k ≤ ys.length ∧ i = .int .i64 k ∧ Below w1.heap.size w1 wr) (fun i _ => ys.length - (intOf i).toNat)
        case atStart => exact ⟨1, Nat.le_refl _, by omega, by go_num, hb12⟩
        case round =>
          obtain ⟨k, hk1, hk, rfl, hb⟩ := hrel
          have hsz := hb.size
          by_cases hlt : k < ys.length
          · obtain ⟨p, hp⟩ := getx hlt
            obtain ⟨b, o, rfl, hbB, d0, d1⟩ := (ry.below hb (Nat.le_refl _)).at2 hp rfl
            obtain ⟨q, hq⟩ : ∃ q, ys[k-1]? = some q := getx (by omega)
            obtain ⟨_, _, ee, _, f0, f1⟩ := (ry.below hb (Nat.le_refl _)).at2 hq rfl
            simp at ee; obtain ⟨rfl, rfl⟩ := ee
            have vp := CV.out.rng hp
            have vq := CV.out.rng hq
            have hG := HG.out (k - 1) q p hq (by rw [show k - 1 + 1 = k by omega]; exact hp)
            have t9 : decide (t - f < p.t - q.t) = false := by simp; omega
            have zb : b < wr.heap.size := by omega
            clear hp hq hG
            go_wp2
            refine wp_region_ext (by kernel_rfl) (by kernel_rfl) ?_
            repeat (go_big_quiet_step ((first | fail)))
            refine wpQuiet_nil ?_
            intro w3 hb3
            obtain ⟨hc_w3, hf_w3⟩ := bcell hb3
            have hz_w3 := hb3.size
            go_wp2
            go_roundw
            case rel => exact ⟨k + 1, by omega, by omega, by go_num, Below.tr hb3 hb⟩
            case measure => simp [intOf]; omega
          · go_wp2
            go_ret
            exact ⟨rfl, Below.tr hb hb1⟩
namespace fnBetween
open Go.ChangeShapes Go.WideShapes Go.ChangeAt Go.RowKit Go.Deep Go.Joins
set_option linter.unusedVariables false
theorem own : ownKnob Try.prog.godebug = none := by kernel_rfl
theorem laidOut : laidOutB Try.prog = true := by kernel_rfl
set_option maxRecDepth 100000 in
theorem lifted (os : Os) (started : os.Started) (H : Type) (enc : TypeId × Value → H) :
    ReturnsInHanded {} Try.checked os 5 .any (Rows.fnBetweenSpec.pre6 enc Try.prog Try.f5 Rows.fnBetweenRow.domain false) (Rows.fnBetweenSpec.post enc Try.prog Try.f5 false true false false) := by
  refine returnsInHanded_of_change (C := Try.checked) own started (by kernel_rfl) Try.func5
    (ChangeSpec.witness6 (enc := enc) (C := Try.checked) false ⟨#[], #[.slice none 0 0], []⟩ 8 (by kernel_rfl) (by kernel_rfl) (by kernel_rfl) (by kernel_rfl)) ?_
  intro W base args ds gs before hval0 hW hcnd _
  have hval : ∀ (j : Nat) t v, Try.f5.params[j]? = some t → args[j]? = some v → Value.okWide Try.prog W .any base t v := hval0
  have hW' := hW
  obtain ⟨p, q, hA0, hV, rfl, hfz, hnd⟩ := hW
  have hA : DataW.TrodAll enc Try.prog W 0 (fun _ => true) true Try.f5.params.toList args.toList ds p := hA0
  rw [Try.params5] at hA hval
  obtain ⟨v0, vs0, d0, ds0, p0, q0, hargs, rfl, rfl, h0, r0⟩ := trodAll_cons hA
  obtain ⟨rfl, rfl, rfl⟩ := trodAll_nil r0
  obtain rfl : args = #[v0] := by cases args; simp_all
  obtain ⟨rfl, rfl⟩ := trodVars_none hV
  have k0 := h0
  have lt0 : ∀ x ∈ p0, x.block < W.heap.size := by obtain ⟨m, hm⟩ := k0; exact DataW.trod_lt m _ _ _ hm
  obtain ⟨A0, len0, cap0, rfl⟩ := okWide_slice Try.underlying22 (hval 0 22 v0 rfl rfl)
  obtain ⟨xs0, rfl, rd0, wf0, ml0⟩ : ∃ xs : List _, xs.length = len0 ∧ Rd encB 1 W W.heap.size A0 xs ∧ (∀ x ∈ xs, 0 ≤ x ∧ x < 256) ∧ len0 ≤ maxLen := by
    obtain ⟨fuel, hf⟩ := h0
    exact rd_open (encA := encB) (wf := fun x => 0 ≤ x ∧ x < 256) (k := 1) (by decide) (fun _ => rfl) Try.underlying22 (by kernel_rfl) (dec_byte Try.underlying5) (by simpa [Value.cells] using hf)
  clear hA0 hval0
  refine (between_law W A0 cap0 xs0 rd0 wf0 ml0).mono fun e W' ⟨he, bel⟩ => ?_
  subst he
  exact ⟨_, rfl, _, _, _, [], _, [], hW', trodAll_mk1 (shut_bool Try.underlying4 _), (trodAll_cons_mk (Below.trod laidOut (by kernel_rfl) (of_decide_eq_true (by kernel_rfl)) k0 bel lt0) trodAll_mk0), rfl, bel.frame _, fun h => by cases h⟩

theorem proved : Rows.FnBetweenSaid :=
  OpenClaim.holds_of_wide 5 Try.f5 rfl rfl rfl rfl rfl rfl rfl ⟨rfl, rfl, rfl, rfl, rfl⟩ rfl rfl rfl rfl rfl (by kernel_rfl) Try.func5 (by kernel_rfl)
    (of_decide_eq_true (by kernel_rfl)) (by unfold Func.isWrapper; first | (rw [if_pos (by decide +kernel)]; kernel_rfl) | (rw [if_neg (by decide +kernel)]; exact ⟨rfl, rfl⟩))
    (fun os started H enc _ => lifted os started H enc)
#print axioms proved
end fnBetween
end Go.Proofs.Ytpjmpeeclecfeaa
