/- Contracts: valid rules, which rule matches, in the program and in the reference. -/
import Derived.Test.YtdklchklpmabdaaDoorCName
import Derived.Test.YtdklchklpmabdaaDoorCGrow
import Derived.Test.YtdklchklpmabdaaDoorCRuB
namespace Go.Proofs.YtdklchklpmabdaaDoor
open Go.RowKit
set_option linter.unusedVariables false
def ruB (x : Ru) : Bool := nameB x.s && (inB x.sh 0 3 && (inB x.fa 0 20000 && (inB x.ta x.fa 20000 && (inB x.fp 0 1000000 && inB x.tp x.fp 1000000))))
def ruB2 (x : Ru) : Bool := nameB x.s && (decide (0 ≤ x.fa) && (decide (x.fa ≤ x.ta) && (decide (x.ta ≤ 20000) && (decide (0 ≤ x.fp) && (decide (x.fp ≤ x.tp) && (decide (x.tp ≤ 1000000) && inB x.sh 0 3))))))
theorem ruB_eq (x : Ru) : ruB2 x = ruB x := by
  unfold ruB ruB2
  cases nameB x.s
  · rfl
  rw [Bool.eq_iff_iff]
  simp only [Bool.and_eq_true, decide_eq_true_eq, inB_true, true_and]
  omega
def ruL (xs : List Ru) : Bool := decide (xs.length ≤ 12) && xs.all ruB
def faB (f : Fa) : Bool := inB f.a 0 20000 && (inB f.p 0 1000000 && inB f.s 1 3)
def mtB (x : Ru) (f : Fa) : Bool := inB f.a x.fa x.ta && (inB f.p x.fp x.tp && (x.sh == 0 || x.sh == f.s))
def c18 (xs : List Ru) (f : Fa) : Int := if ruL xs = true then (if faB f = true then 0 else 2) else 1
theorem c18_zero {xs : List Ru} {f : Fa} (h : c18 xs f = 0) : ruL xs = true ∧ faB f = true := by
  unfold c18 at h; cases h1 : ruL xs <;> cases h2 : faB f <;> simp_all
theorem idxF_find {α : Type} (f : α → Bool) : ∀ (xs : List α) (n : Nat), (idxF f n xs = -1 ∧ xs.find? f = none) ∨ ∃ (k : Nat) (x : α), idxF f n xs = ((n + k : Nat) : Int) ∧ xs[k]? = some x ∧ xs.find? f = some x
  | [], n => .inl ⟨rfl, rfl⟩
  | x :: r, n => by
    by_cases h : f x = true
    · exact .inr ⟨0, x, by simp [idxF, h], rfl, by simp [h]⟩
    · rcases idxF_find f r (n + 1) with ⟨h1, h2⟩ | ⟨k, y, h1, h2, h3⟩
      · exact .inl ⟨by simp [idxF, h, h1], by simp [h, h2]⟩
      · exact .inr ⟨k + 1, y, by simp only [idxF, h]; simp only [h1]; simp; omega, by simpa using h2, by simp [h, h3]⟩
def clV (xs : List Ru) (f : Fa) : ByteArray := if c18 xs f = 0 then ((xs.find? fun x => mtB x f).map (·.s)).getD ByteArray.empty else ByteArray.empty
def clC (xs : List Ru) (f : Fa) : Int := if c18 xs f = 0 then (if (xs.find? fun x => mtB x f) = none then 3 else 0) else c18 xs f
theorem l18Shape_any (n : Int) (w : World) :
    Calls Tryd.prog 19 #[.int .i64 n] w fun e w' => e = .returned (.bool (inB n 1 3)) ∧ w = w' := by
  go_enter Tryd.func19, Tryd.ntmps19
  go_wp2_with (go_at_call 20; refine (l00In_any _ _ _ _).mono ?_; rintro e w' ⟨rfl, rfl⟩)
  go_ret
  exact ⟨rfl, rfl⟩
theorem l18Shape_eq {n : Int} {v : Bool} (h : inB n 1 3 = v) (w : World) :
    Calls Tryd.prog 19 #[.int .i64 n] w fun e w' => e = .returned (.bool v) ∧ w = w' := by
  subst h; exact l18Shape_any n w
set_option maxHeartbeats 2000000 in
theorem l18One_any (x : Ru) (hs : x.s.size ≤ maxLen) (w : World) (b o : Nat) (hb : b < w.heap.size) (c0 : w.cell? ⟨b, o, none⟩ = some (.string x.s)) (c1 : w.cell? ⟨b, o + 1, none⟩ = some (.int .i64 x.fa)) (c2 : w.cell? ⟨b, o + 2, none⟩ = some (.int .i64 x.ta)) (c3 : w.cell? ⟨b, o + 3, none⟩ = some (.int .i64 x.fp)) (c4 : w.cell? ⟨b, o + 4, none⟩ = some (.int .i64 x.tp)) (c5 : w.cell? ⟨b, o + 5, none⟩ = some (.int .i64 x.sh)) :
    Calls Tryd.prog 10 #[.pointer (some ⟨b, o, none⟩)] w fun e w' => e = .returned (.bool (ruB x)) ∧ Below w.heap.size w w' := by
  cases v9 : nameB x.s
  · go_enter Tryd.func10, Tryd.ntmps10
    go_wp2_with (first | (go_at_call 18; refine (specIsName_any _ _ hs).mono ?_; rintro e w' ⟨rfl, rfl⟩) | (go_at_call 19; refine (l18Shape_any _ _).mono ?_; rintro e w' ⟨rfl, rfl⟩))
    first
      | (go_ret
         exact ⟨ret_bool (by simp [ruB, *] <;> omega), (by repeat (first | assumption | exact Below.refl _ _ | apply Below.al | apply Below.drewN' | apply Below.drew | (apply Below.tr; assumption)))⟩)
      | (refine wp_region_ext (by kernel_rfl) (by kernel_rfl) ?_
         repeat (go_big_quiet_step ((first | (go_at_call 20; exact ext_same (l00In_eq (by assumption) _)))))
         refine wpQuiet_nil ?_
         intro w3 hb3
         obtain ⟨hc_w3, hf_w3⟩ := bcell hb3
         have hz_w3 := hb3.size
         go_wp2
         go_ret
         exact ⟨ret_bool (by simp [ruB, *] <;> omega), (by repeat (first | assumption | exact Below.refl _ _ | apply Below.al | apply Below.drewN' | apply Below.drew | (apply Below.tr; assumption)))⟩)
  by_cases z : x.sh = 0
  · have z1 : (x.sh != 0) = false := by simpa using z
    have v7 : inB x.sh 0 3 = true := inB_true.2 (by omega)
    clear z
    cases v0 : inB x.fa 0 20000
    · go_enter Tryd.func10, Tryd.ntmps10
      go_wp2_with (first | (go_at_call 18; refine (specIsName_any _ _ hs).mono ?_; rintro e w' ⟨rfl, rfl⟩) | (go_at_call 19; refine (l18Shape_any _ _).mono ?_; rintro e w' ⟨rfl, rfl⟩))
      first
        | (go_ret
           exact ⟨ret_bool (by simp [ruB, *] <;> omega), (by repeat (first | assumption | exact Below.refl _ _ | apply Below.al | apply Below.drewN' | apply Below.drew | (apply Below.tr; assumption)))⟩)
        | (refine wp_region_ext (by kernel_rfl) (by kernel_rfl) ?_
           repeat (go_big_quiet_step ((first | (go_at_call 20; exact ext_same (l00In_eq (by assumption) _)))))
           refine wpQuiet_nil ?_
           intro w3 hb3
           obtain ⟨hc_w3, hf_w3⟩ := bcell hb3
           have hz_w3 := hb3.size
           go_wp2
           go_ret
           exact ⟨ret_bool (by simp [ruB, *] <;> omega), (by repeat (first | assumption | exact Below.refl _ _ | apply Below.al | apply Below.drewN' | apply Below.drew | (apply Below.tr; assumption)))⟩)
    · cases v1 : inB x.ta x.fa 20000
      · go_enter Tryd.func10, Tryd.ntmps10
        go_wp2_with (first | (go_at_call 18; refine (specIsName_any _ _ hs).mono ?_; rintro e w' ⟨rfl, rfl⟩) | (go_at_call 19; refine (l18Shape_any _ _).mono ?_; rintro e w' ⟨rfl, rfl⟩))
        first
          | (go_ret
             exact ⟨ret_bool (by simp [ruB, *] <;> omega), (by repeat (first | assumption | exact Below.refl _ _ | apply Below.al | apply Below.drewN' | apply Below.drew | (apply Below.tr; assumption)))⟩)
          | (refine wp_region_ext (by kernel_rfl) (by kernel_rfl) ?_
             repeat (go_big_quiet_step ((first | (go_at_call 20; exact ext_same (l00In_eq (by assumption) _)))))
             refine wpQuiet_nil ?_
             intro w3 hb3
             obtain ⟨hc_w3, hf_w3⟩ := bcell hb3
             have hz_w3 := hb3.size
             go_wp2
             go_ret
             exact ⟨ret_bool (by simp [ruB, *] <;> omega), (by repeat (first | assumption | exact Below.refl _ _ | apply Below.al | apply Below.drewN' | apply Below.drew | (apply Below.tr; assumption)))⟩)
      · cases v2 : inB x.fp 0 1000000
        · go_enter Tryd.func10, Tryd.ntmps10
          go_wp2_with (first | (go_at_call 18; refine (specIsName_any _ _ hs).mono ?_; rintro e w' ⟨rfl, rfl⟩) | (go_at_call 19; refine (l18Shape_any _ _).mono ?_; rintro e w' ⟨rfl, rfl⟩))
          first
            | (go_ret
               exact ⟨ret_bool (by simp [ruB, *] <;> omega), (by repeat (first | assumption | exact Below.refl _ _ | apply Below.al | apply Below.drewN' | apply Below.drew | (apply Below.tr; assumption)))⟩)
            | (refine wp_region_ext (by kernel_rfl) (by kernel_rfl) ?_
               repeat (go_big_quiet_step ((first | (go_at_call 20; exact ext_same (l00In_eq (by assumption) _)))))
               refine wpQuiet_nil ?_
               intro w3 hb3
               obtain ⟨hc_w3, hf_w3⟩ := bcell hb3
               have hz_w3 := hb3.size
               go_wp2
               go_ret
               exact ⟨ret_bool (by simp [ruB, *] <;> omega), (by repeat (first | assumption | exact Below.refl _ _ | apply Below.al | apply Below.drewN' | apply Below.drew | (apply Below.tr; assumption)))⟩)
        · cases v3 : inB x.tp x.fp 1000000
          · go_enter Tryd.func10, Tryd.ntmps10
            go_wp2_with (first | (go_at_call 18; refine (specIsName_any _ _ hs).mono ?_; rintro e w' ⟨rfl, rfl⟩) | (go_at_call 19; refine (l18Shape_any _ _).mono ?_; rintro e w' ⟨rfl, rfl⟩))
            first
              | (go_ret
                 exact ⟨ret_bool (by simp [ruB, *] <;> omega), (by repeat (first | assumption | exact Below.refl _ _ | apply Below.al | apply Below.drewN' | apply Below.drew | (apply Below.tr; assumption)))⟩)
              | (refine wp_region_ext (by kernel_rfl) (by kernel_rfl) ?_
                 repeat (go_big_quiet_step ((first | (go_at_call 20; exact ext_same (l00In_eq (by assumption) _)))))
                 refine wpQuiet_nil ?_
                 intro w3 hb3
                 obtain ⟨hc_w3, hf_w3⟩ := bcell hb3
                 have hz_w3 := hb3.size
                 go_wp2
                 go_ret
                 exact ⟨ret_bool (by simp [ruB, *] <;> omega), (by repeat (first | assumption | exact Below.refl _ _ | apply Below.al | apply Below.drewN' | apply Below.drew | (apply Below.tr; assumption)))⟩)
          · go_enter Tryd.func10, Tryd.ntmps10
            go_wp2_with (first | (go_at_call 18; refine (specIsName_any _ _ hs).mono ?_; rintro e w' ⟨rfl, rfl⟩) | (go_at_call 19; refine (l18Shape_any _ _).mono ?_; rintro e w' ⟨rfl, rfl⟩))
            first
              | (go_ret
                 exact ⟨ret_bool (by simp [ruB, *] <;> omega), (by repeat (first | assumption | exact Below.refl _ _ | apply Below.al | apply Below.drewN' | apply Below.drew | (apply Below.tr; assumption)))⟩)
              | (refine wp_region_ext (by kernel_rfl) (by kernel_rfl) ?_
                 repeat (go_big_quiet_step ((first | (go_at_call 20; exact ext_same (l00In_eq (by assumption) _)))))
                 refine wpQuiet_nil ?_
                 intro w3 hb3
                 obtain ⟨hc_w3, hf_w3⟩ := bcell hb3
                 have hz_w3 := hb3.size
                 go_wp2
                 go_ret
                 exact ⟨ret_bool (by simp [ruB, *] <;> omega), (by repeat (first | assumption | exact Below.refl _ _ | apply Below.al | apply Below.drewN' | apply Below.drew | (apply Below.tr; assumption)))⟩)
  · have z1 : (x.sh != 0) = true := by simpa using z
    cases v8 : inB x.sh 1 3
    · have v7 : inB x.sh 0 3 = false := inB_false.2 (by have := inB_false.1 v8; omega)
      clear z
      go_enter Tryd.func10, Tryd.ntmps10
      go_wp2_with (first | (go_at_call 18; refine (specIsName_any _ _ hs).mono ?_; rintro e w' ⟨rfl, rfl⟩) | (go_at_call 19; refine (l18Shape_any _ _).mono ?_; rintro e w' ⟨rfl, rfl⟩))
      first
        | (go_ret
           exact ⟨ret_bool (by simp [ruB, *] <;> omega), (by repeat (first | assumption | exact Below.refl _ _ | apply Below.al | apply Below.drewN' | apply Below.drew | (apply Below.tr; assumption)))⟩)
        | (refine wp_region_ext (by kernel_rfl) (by kernel_rfl) ?_
           repeat (go_big_quiet_step ((first | (go_at_call 20; exact ext_same (l00In_eq (by assumption) _)))))
           refine wpQuiet_nil ?_
           intro w3 hb3
           obtain ⟨hc_w3, hf_w3⟩ := bcell hb3
           have hz_w3 := hb3.size
           go_wp2
           go_ret
           exact ⟨ret_bool (by simp [ruB, *] <;> omega), (by repeat (first | assumption | exact Below.refl _ _ | apply Below.al | apply Below.drewN' | apply Below.drew | (apply Below.tr; assumption)))⟩)
    · have v7 : inB x.sh 0 3 = true := inB_true.2 (by have := inB_true.1 v8; omega)
      clear z
      cases v0 : inB x.fa 0 20000
      · go_enter Tryd.func10, Tryd.ntmps10
        go_wp2_with (first | (go_at_call 18; refine (specIsName_any _ _ hs).mono ?_; rintro e w' ⟨rfl, rfl⟩) | (go_at_call 19; refine (l18Shape_any _ _).mono ?_; rintro e w' ⟨rfl, rfl⟩))
        first
          | (go_ret
             exact ⟨ret_bool (by simp [ruB, *] <;> omega), (by repeat (first | assumption | exact Below.refl _ _ | apply Below.al | apply Below.drewN' | apply Below.drew | (apply Below.tr; assumption)))⟩)
          | (refine wp_region_ext (by kernel_rfl) (by kernel_rfl) ?_
             repeat (go_big_quiet_step ((first | (go_at_call 20; exact ext_same (l00In_eq (by assumption) _)))))
             refine wpQuiet_nil ?_
             intro w3 hb3
             obtain ⟨hc_w3, hf_w3⟩ := bcell hb3
             have hz_w3 := hb3.size
             go_wp2
             go_ret
             exact ⟨ret_bool (by simp [ruB, *] <;> omega), (by repeat (first | assumption | exact Below.refl _ _ | apply Below.al | apply Below.drewN' | apply Below.drew | (apply Below.tr; assumption)))⟩)
      · cases v1 : inB x.ta x.fa 20000
        · go_enter Tryd.func10, Tryd.ntmps10
          go_wp2_with (first | (go_at_call 18; refine (specIsName_any _ _ hs).mono ?_; rintro e w' ⟨rfl, rfl⟩) | (go_at_call 19; refine (l18Shape_any _ _).mono ?_; rintro e w' ⟨rfl, rfl⟩))
          first
            | (go_ret
               exact ⟨ret_bool (by simp [ruB, *] <;> omega), (by repeat (first | assumption | exact Below.refl _ _ | apply Below.al | apply Below.drewN' | apply Below.drew | (apply Below.tr; assumption)))⟩)
            | (refine wp_region_ext (by kernel_rfl) (by kernel_rfl) ?_
               repeat (go_big_quiet_step ((first | (go_at_call 20; exact ext_same (l00In_eq (by assumption) _)))))
               refine wpQuiet_nil ?_
               intro w3 hb3
               obtain ⟨hc_w3, hf_w3⟩ := bcell hb3
               have hz_w3 := hb3.size
               go_wp2
               go_ret
               exact ⟨ret_bool (by simp [ruB, *] <;> omega), (by repeat (first | assumption | exact Below.refl _ _ | apply Below.al | apply Below.drewN' | apply Below.drew | (apply Below.tr; assumption)))⟩)
        · cases v2 : inB x.fp 0 1000000
          · go_enter Tryd.func10, Tryd.ntmps10
            go_wp2_with (first | (go_at_call 18; refine (specIsName_any _ _ hs).mono ?_; rintro e w' ⟨rfl, rfl⟩) | (go_at_call 19; refine (l18Shape_any _ _).mono ?_; rintro e w' ⟨rfl, rfl⟩))
            first
              | (go_ret
                 exact ⟨ret_bool (by simp [ruB, *] <;> omega), (by repeat (first | assumption | exact Below.refl _ _ | apply Below.al | apply Below.drewN' | apply Below.drew | (apply Below.tr; assumption)))⟩)
              | (refine wp_region_ext (by kernel_rfl) (by kernel_rfl) ?_
                 repeat (go_big_quiet_step ((first | (go_at_call 20; exact ext_same (l00In_eq (by assumption) _)))))
                 refine wpQuiet_nil ?_
                 intro w3 hb3
                 obtain ⟨hc_w3, hf_w3⟩ := bcell hb3
                 have hz_w3 := hb3.size
                 go_wp2
                 go_ret
                 exact ⟨ret_bool (by simp [ruB, *] <;> omega), (by repeat (first | assumption | exact Below.refl _ _ | apply Below.al | apply Below.drewN' | apply Below.drew | (apply Below.tr; assumption)))⟩)
          · cases v3 : inB x.tp x.fp 1000000
            · go_enter Tryd.func10, Tryd.ntmps10
              go_wp2_with (first | (go_at_call 18; refine (specIsName_any _ _ hs).mono ?_; rintro e w' ⟨rfl, rfl⟩) | (go_at_call 19; refine (l18Shape_any _ _).mono ?_; rintro e w' ⟨rfl, rfl⟩))
              first
                | (go_ret
                   exact ⟨ret_bool (by simp [ruB, *] <;> omega), (by repeat (first | assumption | exact Below.refl _ _ | apply Below.al | apply Below.drewN' | apply Below.drew | (apply Below.tr; assumption)))⟩)
                | (refine wp_region_ext (by kernel_rfl) (by kernel_rfl) ?_
                   repeat (go_big_quiet_step ((first | (go_at_call 20; exact ext_same (l00In_eq (by assumption) _)))))
                   refine wpQuiet_nil ?_
                   intro w3 hb3
                   obtain ⟨hc_w3, hf_w3⟩ := bcell hb3
                   have hz_w3 := hb3.size
                   go_wp2
                   go_ret
                   exact ⟨ret_bool (by simp [ruB, *] <;> omega), (by repeat (first | assumption | exact Below.refl _ _ | apply Below.al | apply Below.drewN' | apply Below.drew | (apply Below.tr; assumption)))⟩)
            · go_enter Tryd.func10, Tryd.ntmps10
              go_wp2_with (first | (go_at_call 18; refine (specIsName_any _ _ hs).mono ?_; rintro e w' ⟨rfl, rfl⟩) | (go_at_call 19; refine (l18Shape_any _ _).mono ?_; rintro e w' ⟨rfl, rfl⟩))
              first
                | (go_ret
                   exact ⟨ret_bool (by simp [ruB, *] <;> omega), (by repeat (first | assumption | exact Below.refl _ _ | apply Below.al | apply Below.drewN' | apply Below.drew | (apply Below.tr; assumption)))⟩)
                | (refine wp_region_ext (by kernel_rfl) (by kernel_rfl) ?_
                   repeat (go_big_quiet_step ((first | (go_at_call 20; exact ext_same (l00In_eq (by assumption) _)))))
                   refine wpQuiet_nil ?_
                   intro w3 hb3
                   obtain ⟨hc_w3, hf_w3⟩ := bcell hb3
                   have hz_w3 := hb3.size
                   go_wp2
                   go_ret
                   exact ⟨ret_bool (by simp [ruB, *] <;> omega), (by repeat (first | assumption | exact Below.refl _ _ | apply Below.al | apply Below.drewN' | apply Below.drew | (apply Below.tr; assumption)))⟩)
set_option maxHeartbeats 2000000 in
theorem isRule2_any (x : Ru) (hs : x.s.size ≤ maxLen) (w : World)  :
    Calls Tryd.prog 25 #[.agg #[.string x.s, .int .i64 x.fa, .int .i64 x.ta, .int .i64 x.fp, .int .i64 x.tp, .int .i64 x.sh]] w fun e w' => e = .returned (.bool (ruB2 x)) ∧ Below w.heap.size w w' := by
  cases v0 : nameB x.s
  · go_enter Tryd.func25, Tryd.ntmps25
    go_wp2_with (first | (go_at_call 38; refine (implIsName_any _ _ hs).mono ?_; rintro e w' ⟨rfl, rfl⟩) | (go_at_call 39; refine (in_any _ _ _ _).mono ?_; rintro e w' ⟨rfl, rfl⟩))
    all_goals
      go_ret
      exact ⟨ret_bool (by simp [ruB2, *] <;> omega), (by repeat (first | assumption | exact Below.refl _ _ | apply Below.al | apply Below.drewN' | apply Below.drew | (apply Below.tr; assumption)))⟩
  · cases v1 : decide (0 ≤ x.fa)
    · go_enter Tryd.func25, Tryd.ntmps25
      go_wp2_with (first | (go_at_call 38; refine (implIsName_any _ _ hs).mono ?_; rintro e w' ⟨rfl, rfl⟩) | (go_at_call 39; refine (in_any _ _ _ _).mono ?_; rintro e w' ⟨rfl, rfl⟩))
      all_goals
        go_ret
        exact ⟨ret_bool (by simp [ruB2, *] <;> omega), (by repeat (first | assumption | exact Below.refl _ _ | apply Below.al | apply Below.drewN' | apply Below.drew | (apply Below.tr; assumption)))⟩
    · cases v2 : decide (x.fa ≤ x.ta)
      · go_enter Tryd.func25, Tryd.ntmps25
        go_wp2_with (first | (go_at_call 38; refine (implIsName_any _ _ hs).mono ?_; rintro e w' ⟨rfl, rfl⟩) | (go_at_call 39; refine (in_any _ _ _ _).mono ?_; rintro e w' ⟨rfl, rfl⟩))
        all_goals
          go_ret
          exact ⟨ret_bool (by simp [ruB2, *] <;> omega), (by repeat (first | assumption | exact Below.refl _ _ | apply Below.al | apply Below.drewN' | apply Below.drew | (apply Below.tr; assumption)))⟩
      · cases v3 : decide (x.ta ≤ 20000)
        · go_enter Tryd.func25, Tryd.ntmps25
          go_wp2_with (first | (go_at_call 38; refine (implIsName_any _ _ hs).mono ?_; rintro e w' ⟨rfl, rfl⟩) | (go_at_call 39; refine (in_any _ _ _ _).mono ?_; rintro e w' ⟨rfl, rfl⟩))
          all_goals
            go_ret
            exact ⟨ret_bool (by simp [ruB2, *] <;> omega), (by repeat (first | assumption | exact Below.refl _ _ | apply Below.al | apply Below.drewN' | apply Below.drew | (apply Below.tr; assumption)))⟩
        · cases v4 : decide (0 ≤ x.fp)
          · go_enter Tryd.func25, Tryd.ntmps25
            go_wp2_with (first | (go_at_call 38; refine (implIsName_any _ _ hs).mono ?_; rintro e w' ⟨rfl, rfl⟩) | (go_at_call 39; refine (in_any _ _ _ _).mono ?_; rintro e w' ⟨rfl, rfl⟩))
            all_goals
              go_ret
              exact ⟨ret_bool (by simp [ruB2, *] <;> omega), (by repeat (first | assumption | exact Below.refl _ _ | apply Below.al | apply Below.drewN' | apply Below.drew | (apply Below.tr; assumption)))⟩
          · cases v5 : decide (x.fp ≤ x.tp)
            · go_enter Tryd.func25, Tryd.ntmps25
              go_wp2_with (first | (go_at_call 38; refine (implIsName_any _ _ hs).mono ?_; rintro e w' ⟨rfl, rfl⟩) | (go_at_call 39; refine (in_any _ _ _ _).mono ?_; rintro e w' ⟨rfl, rfl⟩))
              all_goals
                go_ret
                exact ⟨ret_bool (by simp [ruB2, *] <;> omega), (by repeat (first | assumption | exact Below.refl _ _ | apply Below.al | apply Below.drewN' | apply Below.drew | (apply Below.tr; assumption)))⟩
            · cases v6 : decide (x.tp ≤ 1000000)
              · go_enter Tryd.func25, Tryd.ntmps25
                go_wp2_with (first | (go_at_call 38; refine (implIsName_any _ _ hs).mono ?_; rintro e w' ⟨rfl, rfl⟩) | (go_at_call 39; refine (in_any _ _ _ _).mono ?_; rintro e w' ⟨rfl, rfl⟩))
                all_goals
                  go_ret
                  exact ⟨ret_bool (by simp [ruB2, *] <;> omega), (by repeat (first | assumption | exact Below.refl _ _ | apply Below.al | apply Below.drewN' | apply Below.drew | (apply Below.tr; assumption)))⟩
              · cases v7 : inB x.sh 0 3
                · go_enter Tryd.func25, Tryd.ntmps25
                  go_wp2_with (first | (go_at_call 38; refine (implIsName_any _ _ hs).mono ?_; rintro e w' ⟨rfl, rfl⟩) | (go_at_call 39; refine (in_any _ _ _ _).mono ?_; rintro e w' ⟨rfl, rfl⟩))
                  all_goals
                    go_ret
                    exact ⟨ret_bool (by simp [ruB2, *] <;> omega), (by repeat (first | assumption | exact Below.refl _ _ | apply Below.al | apply Below.drewN' | apply Below.drew | (apply Below.tr; assumption)))⟩
                · go_enter Tryd.func25, Tryd.ntmps25
                  go_wp2_with (first | (go_at_call 38; refine (implIsName_any _ _ hs).mono ?_; rintro e w' ⟨rfl, rfl⟩) | (go_at_call 39; refine (in_any _ _ _ _).mono ?_; rintro e w' ⟨rfl, rfl⟩))
                  all_goals
                    go_ret
                    exact ⟨ret_bool (by simp [ruB2, *] <;> omega), (by repeat (first | assumption | exact Below.refl _ _ | apply Below.al | apply Below.drewN' | apply Below.drew | (apply Below.tr; assumption)))⟩
theorem isRule_any (x : Ru) (hs : x.s.size ≤ maxLen) (w : World) :
    Calls Tryd.prog 25 #[.agg #[.string x.s, .int .i64 x.fa, .int .i64 x.ta, .int .i64 x.fp, .int .i64 x.tp, .int .i64 x.sh]] w fun e w' => e = .returned (.bool (ruB x)) ∧ Below w.heap.size w w' := by
  have := isRule2_any x hs w
  rw [ruB_eq] at this
  exact this

