/- Contracts: valid requests, in the program and in the reference. -/
import Derived.Test.YtckgbdenofghnaaCName
import Derived.Test.YtckgbdenofghnaaCGrow
namespace Go.Proofs.Ytckgbdenofghnaa
open Go.RowKit
set_option linter.unusedVariables false
def rqB (x : Rq) : Bool := nameB x.s && (inB x.f 0 10000000 && (inB x.t x.f 10000000 && (inB x.n 1 100 && (inB x.d 0 x.n && inB x.p 1 5))))
def rqB2 (x : Rq) : Bool := nameB x.s && (inB x.f 0 10000000 && (inB x.t 0 10000000 && (decide (x.f ≤ x.t) && (inB x.n 1 100 && (inB x.d 0 x.n && inB x.p 1 5)))))
theorem rqB_eq (x : Rq) : rqB2 x = rqB x := by
  unfold rqB rqB2
  cases nameB x.s
  · rfl
  cases h1 : inB x.f 0 10000000
  · rfl
  have := inB_true.1 h1
  have e : (inB x.t 0 10000000 && decide (x.f ≤ x.t)) = inB x.t x.f 10000000 := by
    rw [Bool.eq_iff_iff, Bool.and_eq_true, inB_true, inB_true, decide_eq_true_eq]; omega
  rw [← e]
  simp only [Bool.true_and, Bool.and_assoc]
def rqL (xs : List Rq) : Bool := decide (xs.length ≤ 30) && xs.all rqB
theorem rqB_true {x : Rq} (h : rqB x = true) : nameB x.s = true ∧ 0 ≤ x.f ∧ x.f ≤ x.t ∧ x.t ≤ 10000000 ∧ 1 ≤ x.n ∧ x.n ≤ 100 ∧ 0 ≤ x.d ∧ x.d ≤ x.n ∧ 1 ≤ x.p ∧ x.p ≤ 5 := by
  simp only [rqB, Bool.and_eq_true, inB_true] at h
  exact ⟨h.1, by omega, by omega, by omega, by omega, by omega, by omega, by omega, by omega, by omega⟩
theorem rqL_at {xs : List Rq} (h : rqL xs = true) {k : Nat} {x : Rq} (hx : xs[k]? = some x) : 0 ≤ x.f ∧ x.f ≤ x.t ∧ x.t ≤ 10000000 ∧ 1 ≤ x.n ∧ x.n ≤ 100 ∧ 0 ≤ x.d ∧ x.d ≤ x.n ∧ 1 ≤ x.p ∧ x.p ≤ 5 := by
  simp only [rqL, Bool.and_eq_true, List.all_eq_true] at h
  exact (rqB_true (h.2 x (List.mem_of_getElem? hx))).2
theorem rqL_len {xs : List Rq} (h : rqL xs = true) : xs.length ≤ 30 := by
  simp only [rqL, Bool.and_eq_true, decide_eq_true_eq] at h
  exact h.1
theorem l03Time_any2 (m : Int) (w : World) :
    Calls Try.prog 49 #[.int .i64 m] w fun e w' => e = .returned (.bool (inB m 0 10000000)) ∧ w = w' := by
  go_enter Try.func49, Try.ntmps49
  go_wp2_with (go_at_call 26; refine (l00In_any _ _ _ _).mono ?_; rintro e w' ⟨rfl, rfl⟩)
  go_ret
  exact ⟨rfl, rfl⟩
theorem l03Time_eq {m : Int} {v : Bool} (h : inB m 0 10000000 = v) (w : World) :
    Calls Try.prog 49 #[.int .i64 m] w fun e w' => e = .returned (.bool v) ∧ w = w' := by
  subst h; exact l03Time_any2 m w
set_option maxHeartbeats 2000000 in
theorem l22One_any (x : Rq) (hs : x.s.size ≤ maxLen) (w : World) (b o : Nat) (hb : b < w.heap.size) (c0 : w.cell? ⟨b, o, none⟩ = some (.string x.s)) (c1 : w.cell? ⟨b, o + 1, none⟩ = some (.int .i64 x.f)) (c2 : w.cell? ⟨b, o + 2, none⟩ = some (.int .i64 x.t)) (c3 : w.cell? ⟨b, o + 3, none⟩ = some (.int .i64 x.n)) (c4 : w.cell? ⟨b, o + 4, none⟩ = some (.int .i64 x.d)) (c5 : w.cell? ⟨b, o + 5, none⟩ = some (.int .i64 x.p)) :
    Calls Try.prog 37 #[.pointer (some ⟨b, o, none⟩)] w fun e w' => e = .returned (.bool (rqB x)) ∧ Below w.heap.size w w' := by
  cases v0 : nameB x.s
  · go_enter Try.func37, Try.ntmps37
    go_wp2
    refine wp_region_ext (by kernel_rfl) (by kernel_rfl) ?_
    repeat (go_big_quiet_step ((first | (go_at_call 48; exact ext_same (specIsName_eq (by assumption) _ hs)) | (go_at_call 49; exact ext_same (l03Time_eq (by assumption) _)) | (go_at_call 26; exact ext_same (l00In_eq (by assumption) _)))))
    refine wpQuiet_nil ?_
    intro w3 hb3
    obtain ⟨hc_w3, hf_w3⟩ := bcell hb3
    have hz_w3 := hb3.size
    go_wp2
    go_ret
    exact ⟨ret_bool (by simp [rqB, *] <;> omega), (by repeat (first | assumption | exact Below.refl _ _ | apply Below.al | apply Below.drewN' | apply Below.drew | (apply Below.tr; assumption)))⟩
  · cases v1 : inB x.f 0 10000000
    · go_enter Try.func37, Try.ntmps37
      go_wp2
      refine wp_region_ext (by kernel_rfl) (by kernel_rfl) ?_
      repeat (go_big_quiet_step ((first | (go_at_call 48; exact ext_same (specIsName_eq (by assumption) _ hs)) | (go_at_call 49; exact ext_same (l03Time_eq (by assumption) _)) | (go_at_call 26; exact ext_same (l00In_eq (by assumption) _)))))
      refine wpQuiet_nil ?_
      intro w3 hb3
      obtain ⟨hc_w3, hf_w3⟩ := bcell hb3
      have hz_w3 := hb3.size
      go_wp2
      go_ret
      exact ⟨ret_bool (by simp [rqB, *] <;> omega), (by repeat (first | assumption | exact Below.refl _ _ | apply Below.al | apply Below.drewN' | apply Below.drew | (apply Below.tr; assumption)))⟩
    · cases v2 : inB x.t x.f 10000000
      · go_enter Try.func37, Try.ntmps37
        go_wp2
        refine wp_region_ext (by kernel_rfl) (by kernel_rfl) ?_
        repeat (go_big_quiet_step ((first | (go_at_call 48; exact ext_same (specIsName_eq (by assumption) _ hs)) | (go_at_call 49; exact ext_same (l03Time_eq (by assumption) _)) | (go_at_call 26; exact ext_same (l00In_eq (by assumption) _)))))
        refine wpQuiet_nil ?_
        intro w3 hb3
        obtain ⟨hc_w3, hf_w3⟩ := bcell hb3
        have hz_w3 := hb3.size
        go_wp2
        go_ret
        exact ⟨ret_bool (by simp [rqB, *] <;> omega), (by repeat (first | assumption | exact Below.refl _ _ | apply Below.al | apply Below.drewN' | apply Below.drew | (apply Below.tr; assumption)))⟩
      · cases v3 : inB x.n 1 100
        · go_enter Try.func37, Try.ntmps37
          go_wp2
          refine wp_region_ext (by kernel_rfl) (by kernel_rfl) ?_
          repeat (go_big_quiet_step ((first | (go_at_call 48; exact ext_same (specIsName_eq (by assumption) _ hs)) | (go_at_call 49; exact ext_same (l03Time_eq (by assumption) _)) | (go_at_call 26; exact ext_same (l00In_eq (by assumption) _)))))
          refine wpQuiet_nil ?_
          intro w3 hb3
          obtain ⟨hc_w3, hf_w3⟩ := bcell hb3
          have hz_w3 := hb3.size
          go_wp2
          go_ret
          exact ⟨ret_bool (by simp [rqB, *] <;> omega), (by repeat (first | assumption | exact Below.refl _ _ | apply Below.al | apply Below.drewN' | apply Below.drew | (apply Below.tr; assumption)))⟩
        · cases v4 : inB x.d 0 x.n
          · go_enter Try.func37, Try.ntmps37
            go_wp2
            refine wp_region_ext (by kernel_rfl) (by kernel_rfl) ?_
            repeat (go_big_quiet_step ((first | (go_at_call 48; exact ext_same (specIsName_eq (by assumption) _ hs)) | (go_at_call 49; exact ext_same (l03Time_eq (by assumption) _)) | (go_at_call 26; exact ext_same (l00In_eq (by assumption) _)))))
            refine wpQuiet_nil ?_
            intro w3 hb3
            obtain ⟨hc_w3, hf_w3⟩ := bcell hb3
            have hz_w3 := hb3.size
            go_wp2
            go_ret
            exact ⟨ret_bool (by simp [rqB, *] <;> omega), (by repeat (first | assumption | exact Below.refl _ _ | apply Below.al | apply Below.drewN' | apply Below.drew | (apply Below.tr; assumption)))⟩
          · cases v5 : inB x.p 1 5
            · go_enter Try.func37, Try.ntmps37
              go_wp2
              refine wp_region_ext (by kernel_rfl) (by kernel_rfl) ?_
              repeat (go_big_quiet_step ((first | (go_at_call 48; exact ext_same (specIsName_eq (by assumption) _ hs)) | (go_at_call 49; exact ext_same (l03Time_eq (by assumption) _)) | (go_at_call 26; exact ext_same (l00In_eq (by assumption) _)))))
              refine wpQuiet_nil ?_
              intro w3 hb3
              obtain ⟨hc_w3, hf_w3⟩ := bcell hb3
              have hz_w3 := hb3.size
              go_wp2
              go_ret
              exact ⟨ret_bool (by simp [rqB, *] <;> omega), (by repeat (first | assumption | exact Below.refl _ _ | apply Below.al | apply Below.drewN' | apply Below.drew | (apply Below.tr; assumption)))⟩
            · go_enter Try.func37, Try.ntmps37
              go_wp2
              refine wp_region_ext (by kernel_rfl) (by kernel_rfl) ?_
              repeat (go_big_quiet_step ((first | (go_at_call 48; exact ext_same (specIsName_eq (by assumption) _ hs)) | (go_at_call 49; exact ext_same (l03Time_eq (by assumption) _)) | (go_at_call 26; exact ext_same (l00In_eq (by assumption) _)))))
              refine wpQuiet_nil ?_
              intro w3 hb3
              obtain ⟨hc_w3, hf_w3⟩ := bcell hb3
              have hz_w3 := hb3.size
              go_wp2
              go_ret
              exact ⟨ret_bool (by simp [rqB, *] <;> omega), (by repeat (first | assumption | exact Below.refl _ _ | apply Below.al | apply Below.drewN' | apply Below.drew | (apply Below.tr; assumption)))⟩
set_option maxHeartbeats 2000000 in
theorem isRequest2_any (x : Rq) (hs : x.s.size ≤ maxLen) (w : World)  :
    Calls Try.prog 39 #[.agg #[.string x.s, .int .i64 x.f, .int .i64 x.t, .int .i64 x.n, .int .i64 x.d, .int .i64 x.p]] w fun e w' => e = .returned (.bool (rqB2 x)) ∧ Below w.heap.size w w' := by
  cases v0 : nameB x.s
  · go_enter Try.func39, Try.ntmps39
    go_wp2_with (first | (go_at_call 53; refine (implIsName_any _ _ hs).mono ?_; rintro e w' ⟨rfl, rfl⟩) | (go_at_call 52; refine (validTime_any _ _).mono ?_; rintro e w' ⟨rfl, rfl⟩) | (go_at_call 29; refine (in_any _ _ _ _).mono ?_; rintro e w' ⟨rfl, rfl⟩))
    all_goals
      go_ret
      exact ⟨ret_bool (by simp [rqB2, *] <;> omega), (by repeat (first | assumption | exact Below.refl _ _ | apply Below.al | apply Below.drewN' | apply Below.drew | (apply Below.tr; assumption)))⟩
  · cases v1 : inB x.f 0 10000000
    · go_enter Try.func39, Try.ntmps39
      go_wp2_with (first | (go_at_call 53; refine (implIsName_any _ _ hs).mono ?_; rintro e w' ⟨rfl, rfl⟩) | (go_at_call 52; refine (validTime_any _ _).mono ?_; rintro e w' ⟨rfl, rfl⟩) | (go_at_call 29; refine (in_any _ _ _ _).mono ?_; rintro e w' ⟨rfl, rfl⟩))
      all_goals
        go_ret
        exact ⟨ret_bool (by simp [rqB2, *] <;> omega), (by repeat (first | assumption | exact Below.refl _ _ | apply Below.al | apply Below.drewN' | apply Below.drew | (apply Below.tr; assumption)))⟩
    · cases v2 : inB x.t 0 10000000
      · go_enter Try.func39, Try.ntmps39
        go_wp2_with (first | (go_at_call 53; refine (implIsName_any _ _ hs).mono ?_; rintro e w' ⟨rfl, rfl⟩) | (go_at_call 52; refine (validTime_any _ _).mono ?_; rintro e w' ⟨rfl, rfl⟩) | (go_at_call 29; refine (in_any _ _ _ _).mono ?_; rintro e w' ⟨rfl, rfl⟩))
        all_goals
          go_ret
          exact ⟨ret_bool (by simp [rqB2, *] <;> omega), (by repeat (first | assumption | exact Below.refl _ _ | apply Below.al | apply Below.drewN' | apply Below.drew | (apply Below.tr; assumption)))⟩
      · cases v3 : decide (x.f ≤ x.t)
        · go_enter Try.func39, Try.ntmps39
          go_wp2_with (first | (go_at_call 53; refine (implIsName_any _ _ hs).mono ?_; rintro e w' ⟨rfl, rfl⟩) | (go_at_call 52; refine (validTime_any _ _).mono ?_; rintro e w' ⟨rfl, rfl⟩) | (go_at_call 29; refine (in_any _ _ _ _).mono ?_; rintro e w' ⟨rfl, rfl⟩))
          all_goals
            go_ret
            exact ⟨ret_bool (by simp [rqB2, *] <;> omega), (by repeat (first | assumption | exact Below.refl _ _ | apply Below.al | apply Below.drewN' | apply Below.drew | (apply Below.tr; assumption)))⟩
        · cases v4 : inB x.n 1 100
          · go_enter Try.func39, Try.ntmps39
            go_wp2_with (first | (go_at_call 53; refine (implIsName_any _ _ hs).mono ?_; rintro e w' ⟨rfl, rfl⟩) | (go_at_call 52; refine (validTime_any _ _).mono ?_; rintro e w' ⟨rfl, rfl⟩) | (go_at_call 29; refine (in_any _ _ _ _).mono ?_; rintro e w' ⟨rfl, rfl⟩))
            all_goals
              go_ret
              exact ⟨ret_bool (by simp [rqB2, *] <;> omega), (by repeat (first | assumption | exact Below.refl _ _ | apply Below.al | apply Below.drewN' | apply Below.drew | (apply Below.tr; assumption)))⟩
          · cases v5 : inB x.d 0 x.n
            · go_enter Try.func39, Try.ntmps39
              go_wp2_with (first | (go_at_call 53; refine (implIsName_any _ _ hs).mono ?_; rintro e w' ⟨rfl, rfl⟩) | (go_at_call 52; refine (validTime_any _ _).mono ?_; rintro e w' ⟨rfl, rfl⟩) | (go_at_call 29; refine (in_any _ _ _ _).mono ?_; rintro e w' ⟨rfl, rfl⟩))
              all_goals
                go_ret
                exact ⟨ret_bool (by simp [rqB2, *] <;> omega), (by repeat (first | assumption | exact Below.refl _ _ | apply Below.al | apply Below.drewN' | apply Below.drew | (apply Below.tr; assumption)))⟩
            · cases v6 : inB x.p 1 5
              · go_enter Try.func39, Try.ntmps39
                go_wp2_with (first | (go_at_call 53; refine (implIsName_any _ _ hs).mono ?_; rintro e w' ⟨rfl, rfl⟩) | (go_at_call 52; refine (validTime_any _ _).mono ?_; rintro e w' ⟨rfl, rfl⟩) | (go_at_call 29; refine (in_any _ _ _ _).mono ?_; rintro e w' ⟨rfl, rfl⟩))
                all_goals
                  go_ret
                  exact ⟨ret_bool (by simp [rqB2, *] <;> omega), (by repeat (first | assumption | exact Below.refl _ _ | apply Below.al | apply Below.drewN' | apply Below.drew | (apply Below.tr; assumption)))⟩
              · go_enter Try.func39, Try.ntmps39
                go_wp2_with (first | (go_at_call 53; refine (implIsName_any _ _ hs).mono ?_; rintro e w' ⟨rfl, rfl⟩) | (go_at_call 52; refine (validTime_any _ _).mono ?_; rintro e w' ⟨rfl, rfl⟩) | (go_at_call 29; refine (in_any _ _ _ _).mono ?_; rintro e w' ⟨rfl, rfl⟩))
                all_goals
                  go_ret
                  exact ⟨ret_bool (by simp [rqB2, *] <;> omega), (by repeat (first | assumption | exact Below.refl _ _ | apply Below.al | apply Below.drewN' | apply Below.drew | (apply Below.tr; assumption)))⟩
theorem isRequest_any (x : Rq) (hs : x.s.size ≤ maxLen) (w : World) :
    Calls Try.prog 39 #[.agg #[.string x.s, .int .i64 x.f, .int .i64 x.t, .int .i64 x.n, .int .i64 x.d, .int .i64 x.p]] w fun e w' => e = .returned (.bool (rqB x)) ∧ Below w.heap.size w w' := by
  have := isRequest2_any x hs w
  rw [rqB_eq] at this
  exact this
set_option maxHeartbeats 2000000 in
theorem l22Ok_any (A : Option Addr) (c : Nat) (xs : List Rq) (w : World) (h : Rd encRq 6 w w.heap.size A xs) (hn : xs.length ≤ 1048576) (wf : ∀ x ∈ xs, x.s.size ≤ maxLen) :
    Calls Try.prog 36 #[.slice A xs.length c] w fun e w' => e = .returned (.bool (rqL xs)) ∧ Below w.heap.size w w' := by
  have WF := hid wf
  clear wf
  go_enter Try.func36, Try.ntmps36
  go_wp2
  go_loopw [3] (fun i wr => ∃ k : Nat, k ≤ xs.length ∧ i = .int .i64 k ∧ Below w.heap.size w wr ∧ Hid (xs.all rqB = (xs.drop k).all rqB)) (fun i _ => xs.length - (intOf i).toNat)
  case atStart => exact ⟨0, Nat.zero_le _, rfl, (by repeat (first | assumption | exact Below.refl _ _ | apply Below.al | apply Below.drewN' | apply Below.drew | (apply Below.tr; assumption))), hid rfl⟩
  case round =>
    obtain ⟨k, hk, rfl, hb, H⟩ := hrel
    by_cases hlt : k < xs.length
    · obtain ⟨p, hp⟩ := getx hlt
      obtain ⟨bb, o, rfl, hbB, c0, c1, c2, c3, c4, c5⟩ := (h.below hb (Nat.le_refl _)).at6 hp rfl
      have hsz := hb.size
      have b0 : bb < wr.heap.size := by omega
      have HS : Hid ((xs.drop k).all rqB = (rqB p && (xs.drop (k+1)).all rqB)) := by rw [dropx hp]; rfl
      have hws := WF.out p (List.mem_of_getElem? hp)
      clear hp
      cases h1 : rqB p
      all_goals
        go_wp2_with (go_at_call 37; refine (l22One_any p hws _ bb _ b0 c0 c1 c2 c3 c4 c5).mono ?_; rintro e w1 ⟨rfl, hb1⟩)
        first
          | (go_ret
             exact ⟨ret_bool (by simp [rqL, H.out, HS.out, h1]), (by repeat (first | assumption | exact Below.refl _ _ | apply Below.al | apply Below.drewN' | apply Below.drew | (apply Below.tr; assumption)))⟩)
          | (go_roundw
             case rel => exact ⟨k + 1, by omega, by go_num, (by repeat (first | assumption | exact Below.refl _ _ | apply Below.al | apply Below.drewN' | apply Below.drew | (apply Below.tr; assumption))), hid (by rw [H.out, HS.out, h1]; rfl)⟩
             case measure => simp [intOf]; omega)
    · have HE : Hid (xs.all rqB = true) := hid (by rw [H.out, List.drop_eq_nil_of_le (by omega)]; rfl)
      by_cases h100 : xs.length ≤ 30
      all_goals
        go_wp2
        go_ret
        exact ⟨ret_bool (by simp [rqL, HE.out]; try omega), (by repeat (first | assumption | exact Below.refl _ _ | apply Below.al | apply Below.drewN' | apply Below.drew | (apply Below.tr; assumption)))⟩
set_option maxRecDepth 20000 in
set_option maxHeartbeats 1000000 in
theorem indexFuncRequest_any (F : FuncId) (caps : Array Value) (f : Rq → Bool) (A : Option Addr) (c : Nat) (xs : List Rq) (w : World) (h : Rd encRq 6 w w.heap.size A xs) (hn : xs.length ≤ 1048576)
    (hF : ∀ (args : Array Value) (w : World), (callFunc F args).run Try.prog w = .ok (.enter F args) w)
    (hcl : ∀ (i : Nat) (x : Rq), xs[i]? = some x → ∀ (w1 : World), Below w.heap.size w w1 → Calls Try.prog F (#[.agg #[.string x.s, .int .i64 x.f, .int .i64 x.t, .int .i64 x.n, .int .i64 x.d, .int .i64 x.p]] ++ caps) w1 fun e w2 => e = .returned (.bool (f x)) ∧ Below w1.heap.size w1 w2) :
    Calls Try.prog 59 #[.slice A xs.length c, .func (.func F) #[] caps] w fun e w' => e = .returned (.int .i64 (idxF f 0 xs)) ∧ Below w.heap.size w w' := by
  have HC := hid hcl
  clear hcl
  go_enter Try.func59, Try.ntmps59
  go_wp2
  go_loopw [8] (fun i wr => ∃ k : Nat, k ≤ xs.length ∧ i = .int .i64 k ∧ Below w.heap.size w wr ∧ Hid (idxF f 0 xs = idxF f k (xs.drop k))) (fun i _ => xs.length - (intOf i).toNat)
  case atStart => exact ⟨0, Nat.zero_le _, rfl, (by repeat (first | assumption | exact Below.refl _ _ | apply Below.al | apply Below.drewN' | apply Below.drew | (apply Below.tr; assumption))), hid rfl⟩
  case round =>
    obtain ⟨k, hk, rfl, hb, H⟩ := hrel
    by_cases hlt : k < xs.length
    · obtain ⟨p, hp⟩ := getx hlt
      obtain ⟨bb, o, rfl, hbB, c0, c1, c2, c3, c4, c5⟩ := (h.below hb (Nat.le_refl _)).at6 hp rfl
      have hsz := hb.size
      have b0 : bb < wr.heap.size := by omega
      have HS : Hid (idxF f k (xs.drop k) = if f p = true then (k : Int) else idxF f (k + 1) (xs.drop (k+1))) := by rw [dropx hp]; rfl
      have HP := hid hp
      clear hp
      cases h1 : f p
      all_goals
        go_wp2_with fail
        refine (HC.out k p HP.out _ hb).mono ?_
        rintro e w1 ⟨rfl, hb1⟩
        go_wp2
        first
          | (go_ret
             exact ⟨ret_int (by rw [H.out, HS.out]; simp [h1]), (by repeat (first | assumption | exact Below.refl _ _ | apply Below.al | apply Below.drewN' | apply Below.drew | (apply Below.tr; assumption)))⟩)
          | (go_roundw
             case rel => exact ⟨k + 1, by omega, by go_num, (by repeat (first | assumption | exact Below.refl _ _ | apply Below.al | apply Below.drewN' | apply Below.drew | (apply Below.tr; assumption))), hid (by rw [H.out, HS.out]; simp [h1])⟩
             case measure => simp [intOf]; omega)
    · have HE : Hid (idxF f 0 xs = -1) := hid (by rw [H.out, List.drop_eq_nil_of_le (by omega)]; rfl)
      go_wp2
      go_ret
      exact ⟨ret_int HE.out.symm, (by repeat (first | assumption | exact Below.refl _ _ | apply Below.al | apply Below.drewN' | apply Below.drew | (apply Below.tr; assumption)))⟩
theorem containsFuncRequest_any (F : FuncId) (caps : Array Value) (f : Rq → Bool) (A : Option Addr) (c : Nat) (xs : List Rq) (w : World) (h : Rd encRq 6 w w.heap.size A xs) (hn : xs.length ≤ 1048576)
    (hF : ∀ (args : Array Value) (w : World), (callFunc F args).run Try.prog w = .ok (.enter F args) w)
    (hcl : ∀ (i : Nat) (x : Rq), xs[i]? = some x → ∀ (w1 : World), Below w.heap.size w w1 → Calls Try.prog F (#[.agg #[.string x.s, .int .i64 x.f, .int .i64 x.t, .int .i64 x.n, .int .i64 x.d, .int .i64 x.p]] ++ caps) w1 fun e w2 => e = .returned (.bool (f x)) ∧ Below w1.heap.size w1 w2) :
    Calls Try.prog 50 #[.slice A xs.length c, .func (.func F) #[] caps] w fun e w' => e = .returned (.bool (xs.any f)) ∧ Below w.heap.size w w' := by
  have HC := hid hcl
  have HA := hid (idxF_any f xs)
  clear hcl
  cases ha : xs.any f
  · have hlt : idxF f 0 xs < 0 := by rw [ha] at HA; simpa using HA.out
    go_enter Try.func50, Try.ntmps50
    go_wp2_with (go_at_call 59; refine (indexFuncRequest_any F caps f _ _ xs _ h hn hF HC.out).mono ?_; rintro e w1 ⟨rfl, hb1⟩; obtain ⟨hc_w1, hf_w1⟩ := bcell hb1; have hz_w1 := hb1.size)
    go_ret
    exact ⟨ret_bool (by simp; try omega), (by repeat (first | assumption | exact Below.refl _ _ | apply Below.al | apply Below.drewN' | apply Below.drew | (apply Below.tr; assumption)))⟩
  · have hlt : 0 ≤ idxF f 0 xs := by rw [ha] at HA; simpa using HA.out
    go_enter Try.func50, Try.ntmps50
    go_wp2_with (go_at_call 59; refine (indexFuncRequest_any F caps f _ _ xs _ h hn hF HC.out).mono ?_; rintro e w1 ⟨rfl, hb1⟩; obtain ⟨hc_w1, hf_w1⟩ := bcell hb1; have hz_w1 := hb1.size)
    go_ret
    exact ⟨ret_bool (by simp; try omega), (by repeat (first | assumption | exact Below.refl _ _ | apply Below.al | apply Below.drewN' | apply Below.drew | (apply Below.tr; assumption)))⟩
theorem validRequests_any1_any (x : Rq) (hs : x.s.size ≤ maxLen) (w : World) :
    Calls Try.prog 51 #[.agg #[.string x.s, .int .i64 x.f, .int .i64 x.t, .int .i64 x.n, .int .i64 x.d, .int .i64 x.p]] w fun e w' => e = .returned (.bool (!rqB x)) ∧ Below w.heap.size w w' := by
  go_enter Try.func51, Try.ntmps51
  go_wp2_with (go_at_call 39; refine (isRequest_any x hs _).mono ?_; rintro e w1 ⟨rfl, hb1⟩; obtain ⟨hc_w1, hf_w1⟩ := bcell hb1; have hz_w1 := hb1.size)
  go_ret
  exact ⟨rfl, (by repeat (first | assumption | exact Below.refl _ _ | apply Below.al | apply Below.drewN' | apply Below.drew | (apply Below.tr; assumption)))⟩
theorem validRequests_any (A : Option Addr) (c : Nat) (xs : List Rq) (w : World) (h : Rd encRq 6 w w.heap.size A xs) (hn : xs.length ≤ 1048576) (wf : ∀ x ∈ xs, x.s.size ≤ maxLen) :
    Calls Try.prog 38 #[.slice A xs.length c] w fun e w' => e = .returned (.bool (rqL xs)) ∧ Below w.heap.size w w' := by
  have WF := hid wf
  clear wf
  by_cases h1 : xs.length ≤ 30
  · go_enter Try.func38, Try.ntmps38
    go_wp2_with fail
    refine (containsFuncRequest_any 51 #[] (fun x => !rqB x) A c xs _ h hn (callFunc_enter Try.func51 (by kernel_rfl) (by kernel_rfl)) (fun i x hx w1 hb1 => validRequests_any1_any x (WF.out x (List.mem_of_getElem? hx)) w1)).mono ?_
    rintro e w1 ⟨rfl, hb1⟩
    go_wp2
    go_ret
    exact ⟨ret_bool (by simp [rqL, any_not, h1]), (by repeat (first | assumption | exact Below.refl _ _ | apply Below.al | apply Below.drewN' | apply Below.drew | (apply Below.tr; assumption)))⟩
  · go_enter Try.func38, Try.ntmps38
    go_wp2
    go_ret
    exact ⟨ret_bool (by simp [rqL, h1]), (by repeat (first | assumption | exact Below.refl _ _ | apply Below.al | apply Below.drewN' | apply Below.drew | (apply Below.tr; assumption)))⟩
