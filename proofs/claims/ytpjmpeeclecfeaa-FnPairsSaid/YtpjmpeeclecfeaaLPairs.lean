/- Two enclosing stars are the nearest ones on both sides, for every code: the law says yes. No condition. -/
import Derived.Test.YtpjmpeeclecfeaaRows
import Derived.Test.YtpjmpeeclecfeaaOpen
import Derived.Test.YtpjmpeeclecfeaaC02e
namespace Go.Proofs.Ytpjmpeeclecfeaa
open Go.RowKit
theorem a2Long_any (A : Option Addr) (n c : Nat) (A' : Option Addr) (n' c' : Nat) (w : World) (h : n ≤ maxLen) (h' : n' ≤ maxLen) :
    Calls Try.prog 6 #[.slice A n c, .slice A' n' c'] w fun e w' => e = .returned (.bool (decide (3000 < n) || decide (3000 < n'))) ∧ w = w' := by
  unfold maxLen at h h'
  by_cases h1 : 3000 < n <;> by_cases h2 : 3000 < n'
  all_goals
    go_enter Try.func6, Try.ntmps6
    go_wp2
    go_ret
    exact ⟨ret_bool (by simp [h1, h2] <;> omega), rfl⟩
set_option maxRecDepth 20000 in
set_option maxHeartbeats 4000000 in
theorem pairs_law (w : World) (A0 : Option Addr) (c0 : Nat) (xs0 : List Int) (r0 : Rd encB 1 w w.heap.size A0 xs0) (wf0 : ∀ x ∈ xs0, 0 ≤ x ∧ x < 256) (m0 : xs0.length ≤ maxLen) (A1 : Option Addr) (c1 : Nat) (xs1 : List Int) (r1 : Rd encB 1 w w.heap.size A1 xs1) (wf1 : ∀ x ∈ xs1, 0 ≤ x ∧ x < 256) (m1 : xs1.length ≤ maxLen) :
    Calls Try.prog 3 #[.slice A0 xs0.length c0, .slice A1 xs1.length c1] w fun e w' => e = .returned (.bool true) ∧ Below w.heap.size w w' := by
  by_cases hL : 3000 < xs0.length ∨ 3000 < xs1.length
  · have e : (decide (3000 < xs0.length) || decide (3000 < xs1.length)) = true := by simpa using hL
    go_enter Try.func3, Try.ntmps3
    go_wp2_with fail
    refine (a2Long_any _ _ _ _ _ _ _ m0 m1).mono ?_
    rw [e]
    rintro e w1 ⟨rfl, rfl⟩
    go_wp2
    go_ret
    exact ⟨rfl, (by repeat (first | assumption | exact Below.refl _ _ | apply Below.al | apply Below.drewN' | apply Below.drew | (apply Below.tr; assumption)))⟩
  have e : (decide (3000 < xs0.length) || decide (3000 < xs1.length)) = false := by simp; omega
  have l0 : xs0.length ≤ 3000 := by omega
  have l1 : xs1.length ≤ 3000 := by omega
  clear hL
  go_enter Try.func3, Try.ntmps3
  go_wp2_with fail
  refine (a2Long_any _ _ _ _ _ _ _ m0 m1).mono ?_
  rw [e]
  rintro e w1 ⟨rfl, rfl⟩
  clear e
  go_wp2_with fail
  refine (a2Mags_any A0 c0 xs0 _ r0 wf0 l0).mono ?_
  rintro e w1 ⟨ys, Ay, cy, rfl, oy, hb1, y1, y2, yv⟩
  go_wp2_with fail
  refine (a2At_any A1 c1 xs1 0 256 _ ((r1.below hb1 (Nat.le_refl _)).more hb1.size) wf1 l1 (by omega) (by omega)).mono ?_
  rintro e w2 ⟨⟨z, rfl, z0, z1⟩, rfl⟩
  have ry : Rd encI 1 w1 w1.heap.size Ay ys := rd_of_own (enc := encI) (k := 1) (c := cy) (fun _ => rfl) oy
  have hm : magsB ys = true := by
    simp only [magsB, Bool.and_eq_true, decide_eq_true_eq, List.all_eq_true]
    exact ⟨by omega, fun x hx => inB_true.2 (yv x hx)⟩
  have hm2 : inB (8000 + 12 * z) (-2000) 20000 = true := inB_true.2 (by omega)
  go_wp2_with fail
  refine (enclosingPair_any Ay cy ys (8000 + 12 * z) _ ry (by omega) hm hm2).mono ?_
  rintro e w3 ⟨a, b, code, rfl, hb3, EP⟩
  have EP := hid EP
  have OY := hid oy
  have YV := hid yv
  have ry3 : Rd encI 1 w3 w3.heap.size Ay ys := (ry.below hb3 (Nat.le_refl _)).more hb3.size
  have hw3 : Below w.heap.size w w3 := Below.tr hb3 hb1
  clear oy yv ry hm hm2 r0 r1 wf0 wf1 hb1 hb3
  obtain ⟨m, hmm⟩ : ∃ m : Int, m = 8000 + 12 * z := ⟨_, rfl⟩
  go_wp2_with fail
  rw [← hmm] at EP
  rw [← hmm]
  have mm1 : 8000 ≤ m := by omega
  have mm2 : m ≤ 12000 := by omega
  clear hmm z0 z1
  go_loopw [10, 11, 12] (fun lv hv i wr => ∃ k : Nat, k ≤ ys.length ∧ i = .int .i64 k ∧ lv = .bool ((ys.take k).any fun x => decide (x ≤ m)) ∧ hv = .bool ((ys.take k).any fun x => decide (m < x)) ∧ Below w3.heap.size w3 wr) (fun _ _ i _ => ys.length - (intOf i).toNat)
  case atStart => exact ⟨0, Nat.zero_le _, rfl, rfl, rfl, Below.refl _ _⟩
  case round =>
    obtain ⟨k, hk, rfl, rfl, rfl, hb⟩ := hrel
    by_cases hlt : k < ys.length
    · obtain ⟨x, hx⟩ := getx hlt
      obtain ⟨bb, o, rfl, hbB, d0⟩ := (ry3.below hb (Nat.le_refl _)).at1 hx rfl
      have HA : Hid (((ys.take (k+1)).any fun x => decide (x ≤ m)) = (((ys.take k).any fun x => decide (x ≤ m)) || decide (x ≤ m))) := by unfold Hid; rw [List.take_add_one, hx, List.any_append]; simp
      have HB : Hid (((ys.take (k+1)).any fun x => decide (m < x)) = (((ys.take k).any fun x => decide (m < x)) || decide (m < x))) := by unfold Hid; rw [List.take_add_one, hx, List.any_append]; simp
      clear hx
      generalize ((ys.take k).any fun x => decide (x ≤ m)) = lo at *
      generalize ((ys.take k).any fun x => decide (m < x)) = hi at *
      by_cases hxm : x ≤ m
      · have t1 : decide (x ≤ m) = true := by simpa using hxm
        have t2 : decide (m < x) = false := by simp; omega
        cases lo <;> cases hi
        all_goals
          go_wp2
          go_roundw
          case rel => exact ⟨k + 1, by omega, by go_num, by rw [HA.out]; simp [*], by rw [HB.out]; simp [*], (by repeat (first | assumption | exact Below.refl _ _ | apply Below.al | apply Below.drewN' | apply Below.drew | (apply Below.tr; assumption)))⟩
          case measure => simp [intOf]; omega
      · have t1 : decide (x ≤ m) = false := by simpa using hxm
        have t2 : decide (m < x) = true := by simp; omega
        cases lo <;> cases hi
        all_goals
          go_wp2
          go_roundw
          case rel => exact ⟨k + 1, by omega, by go_num, by rw [HA.out]; simp [*], by rw [HB.out]; simp [*], (by repeat (first | assumption | exact Below.refl _ _ | apply Below.al | apply Below.drewN' | apply Below.drew | (apply Below.tr; assumption)))⟩
          case measure => simp [intOf]; omega
    · obtain rfl : k = ys.length := by omega
      rcases EP.out with ⟨rfl, hc⟩ | ⟨rfl, ja, jb, xa, xb, rfl, rfl, hja, hjb, h1, h2, h3, h4⟩
      · have hn : (((ys.take ys.length).any fun x => decide (x ≤ m)) && ((ys.take ys.length).any fun x => decide (m < x))) = false := by
          rw [List.take_length]
          rcases hc with hc | hc
          · have : (ys.any fun x => decide (x ≤ m)) = false := by
              rw [List.any_eq_false]
              intro x hx
              obtain ⟨j, hj⟩ := List.getElem?_of_mem hx
              have := hc j x hj
              simp; omega
            rw [this]; rfl
          · have : (ys.any fun x => decide (m < x)) = false := by
              rw [List.any_eq_false]
              intro x hx
              obtain ⟨j, hj⟩ := List.getElem?_of_mem hx
              have := hc j x hj
              simp; omega
            rw [this, Bool.and_false]
        generalize ((ys.take ys.length).any fun x => decide (x ≤ m)) = lo at *
        generalize ((ys.take ys.length).any fun x => decide (m < x)) = hi at *
        have hn := hid hn
        clear hc EP
        cases lo <;> cases hi
        all_goals
          first
            | (exfalso; exact Bool.noConfusion hn.out)
            | (go_wp2
               go_ret
               exact ⟨rfl, Below.tr hb hw3⟩)
      · have HJA := hid hja
        have HJB := hid hjb
        have lja : ja < ys.length := (List.getElem?_eq_some_iff.1 hja).1
        have ljb : jb < ys.length := (List.getElem?_eq_some_iff.1 hjb).1
        have H3 := hid h3
        have H4 := hid h4
        obtain ⟨bb, o, rfl, hbB, ea⟩ := (ry3.below hb (Nat.le_refl _)).at1 hja rfl
        obtain ⟨_, _, e1, _, eb⟩ := (ry3.below hb (Nat.le_refl _)).at1 hjb rfl
        simp at e1; obtain ⟨rfl, rfl⟩ := e1
        have s1 : decide (m < xa) = false := by simp; omega
        have s2 : decide (xb ≤ m) = false := by simp; omega
        generalize ((ys.take ys.length).any fun x => decide (x ≤ m)) = lo at *
        generalize ((ys.take ys.length).any fun x => decide (m < x)) = hi at *
        have hw4 := hid (Below.tr hb hw3)
        clear EP hja hjb h3 h4
        go_wp2
        go_loopw [13] (fun i wr' => ∃ k : Nat, k ≤ ys.length ∧ i = .int .i64 k ∧ Below w3.heap.size w3 wr') (fun i _ => ys.length - (intOf i).toNat)
        case atStart => exact ⟨0, Nat.zero_le _, rfl, hb⟩
        case round =>
          clear ea eb
          obtain ⟨k, hk, rfl, hb⟩ := hrel
          by_cases hlt : k < ys.length
          · obtain ⟨x, hx⟩ := getx hlt
            obtain ⟨_, _, e1, _, d0⟩ := (ry3.below hb (Nat.le_refl _)).at1 hx rfl
            simp at e1; obtain ⟨rfl, rfl⟩ := e1
            obtain ⟨_, _, e1, _, ea⟩ := (ry3.below hb (Nat.le_refl _)).at1 HJA.out rfl
            simp at e1; obtain ⟨rfl, rfl⟩ := e1
            obtain ⟨_, _, e1, _, eb⟩ := (ry3.below hb (Nat.le_refl _)).at1 HJB.out rfl
            simp at e1; obtain ⟨rfl, rfl⟩ := e1
            have hsz := hb.size
            have b0 : bb < wr.heap.size := by omega
            have q3 := H3.out k x hx
            have q4 := H4.out k x hx
            clear hx
            by_cases g1 : xa < x
            · have g1' : decide (xa < x) = true := by simpa using g1
              have g2' : decide (x < xb) = false := by
                have : xb ≤ x := q4 (by by_cases h : x ≤ m; (have := q3 h; omega); omega)
                simp; omega
              clear q3 q4
              go_wp2
              refine wp_region_ext (by kernel_rfl) (by kernel_rfl) ?_
              repeat (go_big_quiet_step ((first | fail)))
              refine wpQuiet_nil ?_
              intro w3 hb3
              obtain ⟨hc_w3, hf_w3⟩ := bcell hb3
              have hz_w3 := hb3.size
              go_wp2
              go_roundw
              case rel => exact ⟨k + 1, by omega, by go_num, Below.tr hb3 hb⟩
              case measure => simp [intOf]; omega
            · have g1' : decide (xa < x) = false := by simpa using g1
              clear q3 q4
              go_wp2
              refine wp_region_ext (by kernel_rfl) (by kernel_rfl) ?_
              repeat (go_big_quiet_step ((first | fail)))
              refine wpQuiet_nil ?_
              intro w3 hb3
              obtain ⟨hc_w3, hf_w3⟩ := bcell hb3
              have hz_w3 := hb3.size
              go_wp2
              go_roundw
              case rel => exact ⟨k + 1, by omega, by go_num, Below.tr hb3 hb⟩
              case measure => simp [intOf]; omega
          · go_wp2
            go_ret
            exact ⟨rfl, Below.tr hb hw3⟩
namespace fnPairs
open Go.ChangeShapes Go.WideShapes Go.ChangeAt Go.RowKit Go.Deep Go.Joins
set_option linter.unusedVariables false
theorem own : ownKnob Try.prog.godebug = none := by kernel_rfl
theorem laidOut : laidOutB Try.prog = true := by kernel_rfl
set_option maxRecDepth 100000 in
theorem lifted (os : Os) (started : os.Started) (H : Type) (enc : TypeId × Value → H) :
    ReturnsInHanded {} Try.checked os 3 .any (Rows.fnPairsSpec.pre6 enc Try.prog Try.f3 Rows.fnPairsRow.domain false) (Rows.fnPairsSpec.post enc Try.prog Try.f3 false true false false) := by
  refine returnsInHanded_of_change (C := Try.checked) own started (by kernel_rfl) Try.func3
    (ChangeSpec.witness6 (enc := enc) (C := Try.checked) false ⟨#[], #[.slice none 0 0, .slice none 0 0], []⟩ 8 (by kernel_rfl) (by kernel_rfl) (by kernel_rfl) (by kernel_rfl)) ?_
  intro W base args ds gs before hval0 hW hcnd _
  have hval : ∀ (j : Nat) t v, Try.f3.params[j]? = some t → args[j]? = some v → Value.okWide Try.prog W .any base t v := hval0
  have hW' := hW
  obtain ⟨p, q, hA0, hV, rfl, hfz, hnd⟩ := hW
  have hA : DataW.TrodAll enc Try.prog W 0 (fun _ => true) true Try.f3.params.toList args.toList ds p := hA0
  rw [Try.params3] at hA hval
  obtain ⟨v0, vs0, d0, ds0, p0, q0, hargs, rfl, rfl, h0, r0⟩ := trodAll_cons hA
  obtain ⟨v1, vs1, d1, ds1, p1, q1, rfl, rfl, rfl, h1, r1⟩ := trodAll_cons r0
  obtain ⟨rfl, rfl, rfl⟩ := trodAll_nil r1
  obtain rfl : args = #[v0, v1] := by cases args; simp_all
  obtain ⟨rfl, rfl⟩ := trodVars_none hV
  have k0 := h0
  have lt0 : ∀ x ∈ p0, x.block < W.heap.size := by obtain ⟨m, hm⟩ := k0; exact DataW.trod_lt m _ _ _ hm
  have k1 := h1
  have lt1 : ∀ x ∈ p1, x.block < W.heap.size := by obtain ⟨m, hm⟩ := k1; exact DataW.trod_lt m _ _ _ hm
  obtain ⟨A0, len0, cap0, rfl⟩ := okWide_slice Try.underlying22 (hval 0 22 v0 rfl rfl)
  obtain ⟨xs0, rfl, rd0, wf0, ml0⟩ : ∃ xs : List _, xs.length = len0 ∧ Rd encB 1 W W.heap.size A0 xs ∧ (∀ x ∈ xs, 0 ≤ x ∧ x < 256) ∧ len0 ≤ maxLen := by
    obtain ⟨fuel, hf⟩ := h0
    exact rd_open (encA := encB) (wf := fun x => 0 ≤ x ∧ x < 256) (k := 1) (by decide) (fun _ => rfl) Try.underlying22 (by kernel_rfl) (dec_byte Try.underlying5) (by simpa [Value.cells] using hf)
  obtain ⟨A1, len1, cap1, rfl⟩ := okWide_slice Try.underlying22 (hval 1 22 v1 rfl rfl)
  obtain ⟨xs1, rfl, rd1, wf1, ml1⟩ : ∃ xs : List _, xs.length = len1 ∧ Rd encB 1 W W.heap.size A1 xs ∧ (∀ x ∈ xs, 0 ≤ x ∧ x < 256) ∧ len1 ≤ maxLen := by
    obtain ⟨fuel, hf⟩ := h1
    exact rd_open (encA := encB) (wf := fun x => 0 ≤ x ∧ x < 256) (k := 1) (by decide) (fun _ => rfl) Try.underlying22 (by kernel_rfl) (dec_byte Try.underlying5) (by simpa [Value.cells] using hf)
  clear hA0 hval0
  refine (pairs_law W A0 cap0 xs0 rd0 wf0 ml0 A1 cap1 xs1 rd1 wf1 ml1).mono fun e W' ⟨he, bel⟩ => ?_
  subst he
  exact ⟨_, rfl, _, _, _, [], _, [], hW', trodAll_mk1 (shut_bool Try.underlying4 _), (trodAll_cons_mk (Below.trod laidOut (by kernel_rfl) (of_decide_eq_true (by kernel_rfl)) k0 bel lt0) (trodAll_cons_mk (Below.trod laidOut (by kernel_rfl) (of_decide_eq_true (by kernel_rfl)) k1 bel lt1) trodAll_mk0)), rfl, bel.frame _, fun h => by cases h⟩

theorem proved : Rows.FnPairsSaid :=
  OpenClaim.holds_of_wide 3 Try.f3 rfl rfl rfl rfl rfl rfl rfl ⟨rfl, rfl, rfl, rfl, rfl⟩ rfl rfl rfl rfl rfl (by kernel_rfl) Try.func3 (by kernel_rfl)
    (of_decide_eq_true (by kernel_rfl)) (by unfold Func.isWrapper; first | (rw [if_pos (by decide +kernel)]; kernel_rfl) | (rw [if_neg (by decide +kernel)]; exact ⟨rfl, rfl⟩))
    (fun os started H enc _ => lifted os started H enc)
#print axioms proved
end fnPairs
end Go.Proofs.Ytpjmpeeclecfeaa
