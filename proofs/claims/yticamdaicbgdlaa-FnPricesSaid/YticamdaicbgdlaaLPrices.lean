/- For every code: the prices of the drawn worths have the greatest worth as their sum, they prove it, and they prove nothing less; the law says yes. No condition. -/
import Derived.Test.YticamdaicbgdlaaRows
import Derived.Test.YticamdaicbgdlaaOpen
import Derived.Test.YticamdaicbgdlaaC17w
import Derived.Test.YticamdaicbgdlaaCLong
namespace Go.Proofs.Yticamdaicbgdlaa
open Go.RowKit
set_option linter.unusedVariables false
set_option maxRecDepth 20000 in
set_option maxHeartbeats 4000000 in
theorem prices_law (w : World) (A0 : Option Addr) (c0 : Nat) (xs0 : List Int) (r0 : Rd encB 1 w w.heap.size A0 xs0) (wf0 : ∀ x ∈ xs0, 0 ≤ x ∧ x < 256) (m0 : xs0.length ≤ maxLen) :
    Calls Try.prog 3 #[.slice A0 xs0.length c0] w fun e w' => e = .returned (.bool true) ∧ Below w.heap.size w w' := by
  by_cases hL : 3000 < xs0.length
  · have e : (decide (3000 < xs0.length) || decide (3000 < 0)) = true := by simpa using hL
    go_enter Try.func3, Try.ntmps3
    go_wp2_with fail
    refine (a2Long_any _ _ _ _ _ _ _ m0 (by unfold maxLen; omega)).mono ?_
    rw [e]
    rintro e w1 ⟨rfl, rfl⟩
    go_wp2
    go_ret
    exact ⟨rfl, (by repeat (first | assumption | exact Below.refl _ _ | apply Below.al | apply Below.drewN' | apply Below.drew | (apply Below.tr; assumption)))⟩
  have e : (decide (3000 < xs0.length) || decide (3000 < 0)) = false := by simp; omega
  have l0 : xs0.length ≤ 3000 := by omega
  clear hL
  go_enter Try.func3, Try.ntmps3
  go_wp2_with fail
  refine (a2Long_any _ _ _ _ _ _ _ m0 (by unfold maxLen; omega)).mono ?_
  rw [e]
  rintro e w1 ⟨rfl, rfl⟩
  clear e
  go_wp2_with fail
  refine (a2Worths_any A0 c0 xs0 _ r0 wf0 l0).mono ?_
  rintro e w1 ⟨n, Ls, A, c, rfl, R, b1, OK⟩
  clear r0 wf0 m0 l0
  have PK := prOk OK
  have hsum : sumZ (obsL n Ls) + sumZ (prcL n Ls) = tab n Ls 0 := by
    unfold obsL prcL
    rw [sumZ_range, sumZ_range]
    exact prices_sum n Ls
  have V := OK.tab_in 0
  obtain ⟨s0, s1⟩ := sumZ_in (obsL n Ls) 4 (by rw [obsL_len]; exact OK.m2) PK.o
  obtain ⟨s2, s3⟩ := sumZ_in (prcL n Ls) 4 (by rw [prcL_len]; exact OK.n2) PK.p
  have lO := obsL_len n Ls
  have lP := prcL_len n Ls
  have m2 := OK.m2
  have n2 := OK.n2
  go_wp2_with fail
  refine (prices_any n A c Ls w1 R OK).mono ?_
  rintro e w2 ⟨Ao, co, As, cs, rfl, rO, rS, b2⟩
  have RW := fun (W : World) (hW : Below w2.heap.size w2 W) => (R.below (Below.tr hW b2) (Nat.le_refl _)).more (Below.tr hW b2).size
  have RO := fun (W : World) (hW : Below w2.heap.size w2 W) => (rO.below hW (Nat.le_refl _)).more hW.size
  have RS := fun (W : World) (hW : Below w2.heap.size w2 W) => (rS.below hW (Nat.le_refl _)).more hW.size
  have CG := fun (W : World) (hW : Below w2.heap.size w2 W) => specGreatest_any n A c Ls W (RW W hW) OK
  have C1 := fun (W : World) (hW : Below w2.heap.size w2 W) => a2SumZ_any Ao co (obsL n Ls) W (RO W hW) (by omega) (hid (fun k p hk => by have := PK.o k p hk; omega))
  have C2 := fun (W : World) (hW : Below w2.heap.size w2 W) => a2SumZ_any As cs (prcL n Ls) W (RS W hW) (by omega) (hid (fun k p hk => by have := PK.p k p hk; omega))
  have C3 := fun (v : Int) (W : World) (hW : Below w2.heap.size w2 W) => specProves_any n A Ao As c co cs Ls (obsL n Ls) (prcL n Ls) v W (RW W hW) OK (RO W hW) (RS W hW) PK
  have C4 := fun (v : Int) (W : World) (hW : Below w2.heap.size w2 W) => implProves_any n A Ao As c co cs Ls (obsL n Ls) (prcL n Ls) v W (RW W hW) OK (RO W hW) (RS W hW) PK
  rw [lO] at C1 C3 C4 ⊢
  rw [lP] at C2 C3 C4 ⊢
  have b12 := Below.tr b2 b1
  clear RW RO RS R rO rS PK OK lO lP b1 b2
  generalize sumZ (obsL n Ls) = so at *
  generalize sumZ (prcL n Ls) = sp at *
  generalize tab n Ls 0 = v at *
  have hsum := hid hsum
  have CG := hid CG
  have C1 := hid C1
  have C2 := hid C2
  have C3 := hid C3
  have C4 := hid C4
  obtain ⟨V0, V1⟩ := V
  go_wp2_with fail
  refine (CG.out w2 (Below.refl _ _)).mono ?_
  rintro e w3 ⟨rfl, b3⟩
  go_wp2_with fail
  refine (C1.out w3 b3).mono ?_
  rintro e w4 ⟨rfl, b4⟩
  have b4 := Below.tr b4 b3
  go_wp2_with fail
  refine (C2.out w4 b4).mono ?_
  rintro e w5 ⟨rfl, b5⟩
  have b5 := Below.tr b5 b4
  have d1 : (so + sp != v) = false := by have := hsum.out; simp; omega
  go_wp2_with fail
  refine (C3.out v w5 b5 V0 (by omega)).mono ?_
  rw [show decide (so + sp ≤ v) = true from by have := hsum.out; simp; omega]
  rintro e w6 ⟨rfl, b6⟩
  have b6 := Below.tr b6 b5
  go_wp2_with fail
  refine (C4.out v w6 b6 V0 (by omega)).mono ?_
  rw [show decide (so + sp ≤ v) = true from by have := hsum.out; simp; omega]
  rintro e w7 ⟨rfl, b7⟩
  have b7 := Below.tr b7 b6
  by_cases hv : v = 0
  · have d2 : (v == 0) = true := by simp [hv]
    clear hv
    go_wp2
    go_ret
    exact ⟨rfl, Below.tr b7 b12⟩
  · have d2 : (v == 0) = false := by simp [hv]
    have hv' : 1 ≤ v := by omega
    clear hv
    go_wp2_with fail
    refine (C4.out (v - 1) w7 b7 (by omega) (by omega)).mono ?_
    rw [show decide (so + sp ≤ v - 1) = false from by have := hsum.out; simp; omega]
    rintro e w8 ⟨rfl, b8⟩
    have b8 := Below.tr b8 b7
    go_wp2
    go_ret
    exact ⟨rfl, Below.tr b8 b12⟩
  
namespace fnPrices
open Go.ChangeShapes Go.WideShapes Go.ChangeAt Go.RowKit Go.Deep Go.Joins
set_option linter.unusedVariables false
theorem own : ownKnob Try.prog.godebug = none := by kernel_rfl
theorem laidOut : laidOutB Try.prog = true := by kernel_rfl
set_option maxRecDepth 100000 in
theorem lifted (os : Os) (started : os.Started) (H : Type) (enc : TypeId × Value → H) :
    ReturnsInHanded {} Try.checked os 3 .any (Rows.fnPricesSpec.pre6 enc Try.prog Try.f3 Rows.fnPricesRow.domain false) (Rows.fnPricesSpec.post enc Try.prog Try.f3 false true false false) := by
  refine returnsInHanded_of_change (C := Try.checked) own started (by kernel_rfl) Try.func3
    (ChangeSpec.witness6 (enc := enc) (C := Try.checked) false ⟨#[], #[.slice none 0 0], []⟩ 8 (by kernel_rfl) (by kernel_rfl) (by kernel_rfl) (by kernel_rfl)) ?_
  intro W base args ds gs before hval0 hW hcnd _
  have hval : ∀ (j : Nat) t v, Try.f3.params[j]? = some t → args[j]? = some v → Value.okWide Try.prog W .any base t v := hval0
  have hW' := hW
  obtain ⟨p, q, hA0, hV, rfl, hfz, hnd⟩ := hW
  have hA : DataW.TrodAll enc Try.prog W 0 (fun _ => true) true Try.f3.params.toList args.toList ds p := hA0
  rw [Try.params3] at hA hval
  obtain ⟨v0, vs0, d0, ds0, p0, q0, hargs, rfl, rfl, h0, r0⟩ := trodAll_cons hA
  obtain ⟨rfl, rfl, rfl⟩ := trodAll_nil r0
  obtain rfl : args = #[v0] := by cases args; simp_all
  obtain ⟨rfl, rfl⟩ := trodVars_none hV
  have k0 := h0
  have lt0 : ∀ x ∈ p0, x.block < W.heap.size := by obtain ⟨m, hm⟩ := k0; exact DataW.trod_lt m _ _ _ hm
  obtain ⟨A0, len0, cap0, rfl⟩ := okWide_slice Try.underlying22 (hval 0 22 v0 rfl rfl)
  obtain ⟨xs0, rfl, rd0, wf0, ml0⟩ : ∃ xs : List _, xs.length = len0 ∧ Rd encB 1 W W.heap.size A0 xs ∧ (∀ x ∈ xs, 0 ≤ x ∧ x < 256) ∧ len0 ≤ maxLen := by
    obtain ⟨fuel, hf⟩ := h0
    exact rd_open (encA := encB) (wf := fun x => 0 ≤ x ∧ x < 256) (k := 1) (by decide) (fun _ => rfl) Try.underlying22 (by kernel_rfl) (dec_byte Try.underlying5) (by simpa [Value.cells] using hf)
  clear hA0 hval0
  refine (prices_law W A0 cap0 xs0 rd0 wf0 ml0).mono fun e W' ⟨he, bel⟩ => ?_
  subst he
  exact ⟨_, rfl, _, _, _, [], _, [], hW', trodAll_mk1 (shut_bool Try.underlying4 _), (trodAll_cons_mk (Below.trod laidOut (by kernel_rfl) (of_decide_eq_true (by kernel_rfl)) k0 bel lt0) trodAll_mk0), rfl, bel.frame _, fun h => by cases h⟩

theorem proved : Rows.FnPricesSaid :=
  OpenClaim.holds_of_wide 3 Try.f3 rfl rfl rfl rfl rfl rfl rfl ⟨rfl, rfl, rfl, rfl, rfl⟩ rfl rfl rfl rfl rfl (by kernel_rfl) Try.func3 (by kernel_rfl)
    (of_decide_eq_true (by kernel_rfl)) (by unfold Func.isWrapper; first | (rw [if_pos (by decide +kernel)]; kernel_rfl) | (rw [if_neg (by decide +kernel)]; exact ⟨rfl, rfl⟩))
    (fun os started H enc _ => lifted os started H enc)
#print axioms proved
end fnPrices
end Go.Proofs.Yticamdaicbgdlaa
