/- Contracts: the next request, in the program and in the reference. -/
import Derived.Test.YtnkablomkcimaaaC22v
namespace Go.Proofs.Ytnkablomkcimaaa
open Go.RowKit
set_option linter.unusedVariables false
def opn (x : Rq) (tm : Int) : Bool := inB tm x.f x.t && decide (x.d < x.n)
def befB (a b : Rq) : Bool := decide (b.p < a.p) || (a.p == b.p && decide (a.t < b.t))
def nrStep (tm : Int) (best : Option (Nat × Rq)) (i : Nat) (x : Rq) : Option (Nat × Rq) :=
  match best with
  | none => if opn x tm = true then some (i, x) else none
  | some (j, q) => if opn x tm = true then (if befB x q = true then some (i, x) else some (j, q)) else some (j, q)
def nrEnd : Option (Nat × Rq) → Int
  | none => -1
  | some (j, _) => (j : Int)
def nrGo (tm : Int) : Option (Nat × Rq) → Nat → List Rq → Int
  | best, _, [] => nrEnd best
  | best, i, x :: r => nrGo tm (nrStep tm best i x) (i + 1) r
def nqC (xs : List Rq) (tm : Int) : Int := if rqL xs = true then (if inB tm 0 10000000 = true then 0 else 2) else 1
def nrV (xs : List Rq) (tm : Int) : Int := if nqC xs tm = 0 then (if nrGo tm none 0 xs < 0 then 0 else nrGo tm none 0 xs) else 0
def nrC (xs : List Rq) (tm : Int) : Int := if nqC xs tm = 0 then (if nrGo tm none 0 xs < 0 then 3 else 0) else nqC xs tm
theorem l22Open_eq {x : Rq} {tm : Int} {v : Bool} (hv : opn x tm = v) (b o : Nat) (w : World) (hb : b < w.heap.size) (c1 : w.cell? ⟨b, o + 1, none⟩ = some (.int .i64 x.f)) (c2 : w.cell? ⟨b, o + 2, none⟩ = some (.int .i64 x.t)) (c3 : w.cell? ⟨b, o + 3, none⟩ = some (.int .i64 x.n)) (c4 : w.cell? ⟨b, o + 4, none⟩ = some (.int .i64 x.d)) :
    Calls Try.prog 136 #[.pointer (some ⟨b, o, none⟩), .int .i64 tm] w fun e w' => e = .returned (.bool v) ∧ Below w.heap.size w w' := by
  subst hv
  cases q1 : inB tm x.f x.t
  · go_enter Try.func136, Try.ntmps136
    go_wp2
    refine wp_region_ext (by kernel_rfl) (by kernel_rfl) ?_
    repeat (go_big_quiet_step ((first | (go_at_call 70; exact ext_same (l00In_eq (by assumption) _)))))
    refine wpQuiet_nil ?_
    intro w3 hb3
    obtain ⟨hc_w3, hf_w3⟩ := bcell hb3
    have hz_w3 := hb3.size
    go_wp2
    go_ret
    exact ⟨ret_bool (by simp [opn, q1]), (by repeat (first | assumption | exact Below.refl _ _ | apply Below.al | apply Below.drewN' | apply Below.drew | (apply Below.tr; assumption)))⟩
  · by_cases q2 : x.d < x.n
    all_goals
      go_enter Try.func136, Try.ntmps136
      go_wp2
      refine wp_region_ext (by kernel_rfl) (by kernel_rfl) ?_
      repeat (go_big_quiet_step ((first | (go_at_call 70; exact ext_same (l00In_eq (by assumption) _)))))
      refine wpQuiet_nil ?_
      intro w3 hb3
      obtain ⟨hc_w3, hf_w3⟩ := bcell hb3
      have hz_w3 := hb3.size
      go_wp2
      go_ret
      exact ⟨ret_bool (by simp [opn, q1, q2]), (by repeat (first | assumption | exact Below.refl _ _ | apply Below.al | apply Below.drewN' | apply Below.drew | (apply Below.tr; assumption)))⟩
theorem l22Before_eq {x y : Rq} {v : Bool} (hv : befB x y = v) (b o b' o' : Nat) (w : World) (hb : b < w.heap.size) (hb' : b' < w.heap.size) (c2 : w.cell? ⟨b, o + 2, none⟩ = some (.int .i64 x.t)) (c5 : w.cell? ⟨b, o + 5, none⟩ = some (.int .i64 x.p)) (d2 : w.cell? ⟨b', o' + 2, none⟩ = some (.int .i64 y.t)) (d5 : w.cell? ⟨b', o' + 5, none⟩ = some (.int .i64 y.p)) :
    Calls Try.prog 137 #[.pointer (some ⟨b, o, none⟩), .pointer (some ⟨b', o', none⟩)] w fun e w' => e = .returned (.bool v) ∧ Below w.heap.size w w' := by
  subst hv
  by_cases h : x.p = y.p
  · have h9 : (x.p != y.p) = false := by simpa using h
    go_enter Try.func137, Try.ntmps137
    go_wp2
    refine wp_region_ext (by kernel_rfl) (by kernel_rfl) ?_
    repeat (go_big_quiet_step ((first | fail)))
    refine wpQuiet_nil ?_
    intro w3 hb3
    obtain ⟨hc_w3, hf_w3⟩ := bcell hb3
    have hz_w3 := hb3.size
    have b3 : b < w3.heap.size := Nat.lt_of_lt_of_le hb hz_w3
    have b4 : b' < w3.heap.size := Nat.lt_of_lt_of_le hb' hz_w3
    go_wp2
    refine wp_region_ext (by kernel_rfl) (by kernel_rfl) ?_
    repeat (go_big_quiet_step ((first | fail)))
    refine wpQuiet_nil ?_
    intro w4 hb4
    obtain ⟨hc_w4, hf_w4⟩ := bcell hb4
    have hz_w4 := hb4.size
    go_wp2
    go_ret
    exact ⟨ret_bool (by simp [befB, h]; try omega), (by repeat (first | assumption | exact Below.refl _ _ | apply Below.al | apply Below.drewN' | apply Below.drew | (apply Below.tr; assumption)))⟩
  · have h9 : (x.p != y.p) = true := by simpa using h
    go_enter Try.func137, Try.ntmps137
    go_wp2
    refine wp_region_ext (by kernel_rfl) (by kernel_rfl) ?_
    repeat (go_big_quiet_step ((first | fail)))
    refine wpQuiet_nil ?_
    intro w3 hb3
    obtain ⟨hc_w3, hf_w3⟩ := bcell hb3
    have hz_w3 := hb3.size
    have b3 : b < w3.heap.size := Nat.lt_of_lt_of_le hb hz_w3
    have b4 : b' < w3.heap.size := Nat.lt_of_lt_of_le hb' hz_w3
    go_wp2
    refine wp_region_ext (by kernel_rfl) (by kernel_rfl) ?_
    repeat (go_big_quiet_step ((first | fail)))
    refine wpQuiet_nil ?_
    intro w4 hb4
    obtain ⟨hc_w4, hf_w4⟩ := bcell hb4
    have hz_w4 := hb4.size
    go_wp2
    go_ret
    exact ⟨ret_bool (by simp [befB, h]; try omega), (by repeat (first | assumption | exact Below.refl _ _ | apply Below.al | apply Below.drewN' | apply Below.drew | (apply Below.tr; assumption)))⟩
theorem open_any (x : Rq) (tm : Int) (w : World) :
    Calls Try.prog 138 #[.agg #[.string x.s, .int .i64 x.f, .int .i64 x.t, .int .i64 x.n, .int .i64 x.d, .int .i64 x.p], .int .i64 tm] w fun e w' => e = .returned (.bool (opn x tm)) ∧ Below w.heap.size w w' := by
  cases q1 : inB tm x.f x.t
  all_goals
    go_enter Try.func138, Try.ntmps138
    go_wp2_with (go_at_call 73; refine (in_any _ _ _ _).mono ?_; rintro e w' ⟨rfl, rfl⟩)
    all_goals
      go_ret
      exact ⟨ret_bool (by simp [opn, q1]), (by repeat (first | assumption | exact Below.refl _ _ | apply Below.al | apply Below.drewN' | apply Below.drew | (apply Below.tr; assumption)))⟩
set_option maxRecDepth 20000 in
set_option maxHeartbeats 4000000 in
theorem l22Next_any (A : Option Addr) (c : Nat) (xs : List Rq) (tm : Int) (w : World) (h : Rd encRq 6 w w.heap.size A xs) (hn : xs.length ≤ 1048576) :
    Calls Try.prog 109 #[.slice A xs.length c, .int .i64 tm] w fun e w' => e = .returned (.int .i64 (nrGo tm none 0 xs)) ∧ Below w.heap.size w w' := by
  go_enter Try.func109, Try.ntmps109
  go_wp2
  go_loopw [5, 6] (fun bs i wr => ∃ (k : Nat) (best : Option (Nat × Rq)), k ≤ xs.length ∧ i = .int .i64 k ∧ (True ∧ ((best = none ∧ bs = .int .i64 (-1)) ∨ ∃ j q, best = some (j, q) ∧ xs[j]? = some q ∧ bs = .int .i64 (j : Nat))) ∧ Below w.heap.size w wr ∧ Hid (nrGo tm none 0 xs = nrGo tm best k (xs.drop k))) (fun _ i _ => xs.length - (intOf i).toNat)
  case atStart => exact ⟨0, none, Nat.zero_le _, rfl, ⟨trivial, .inl ⟨rfl, rfl⟩⟩, (by repeat (first | assumption | exact Below.refl _ _ | apply Below.al | apply Below.drewN' | apply Below.drew | (apply Below.tr; assumption))), hid rfl⟩
  case round =>
    obtain ⟨k, best, hk, rfl, ⟨_, hbest⟩, hb, H⟩ := hrel
    by_cases hlt : k < xs.length
    · obtain ⟨p, hp⟩ := getx hlt
      obtain ⟨bb, o, rfl, hbB, c0, c1, c2, c3, c4, c5⟩ := (h.below hb (Nat.le_refl _)).at6 hp rfl
      have hsz := hb.size
      have HS : Hid (nrGo tm best k (xs.drop k) = nrGo tm (nrStep tm best k p) (k+1) (xs.drop (k+1))) := by rw [dropx hp]; rfl
      have b0 : bb < wr.heap.size := by omega
      have HP := hid hp
      clear hp
      rcases hbest with ⟨rfl, rfl⟩ | ⟨j, q, rfl, hq, rfl⟩
      · cases go : opn p tm
        · go_wp2
          refine wp_region_ext (by kernel_rfl) (by kernel_rfl) ?_
          repeat (go_big_quiet_step ((first | (go_at_call 136; exact ext_below (l22Open_eq go bb (o + k * 6) _ (Nat.lt_of_lt_of_le b0 (Below.size (Ext.h _))) ((Ext.cell _ b0).trans c1) ((Ext.cell _ b0).trans c2) ((Ext.cell _ b0).trans c3) ((Ext.cell _ b0).trans c4))))))
          refine wpQuiet_nil ?_
          intro w3 hb3
          obtain ⟨hc_w3, hf_w3⟩ := bcell hb3
          have hz_w3 := hb3.size
          go_wp2
          go_roundw
          case rel => exact ⟨k + 1, _, by omega, by go_num, ⟨trivial, by first | exact .inr ⟨k, p, rfl, HP.out, rfl⟩ | exact .inl ⟨rfl, rfl⟩ | exact .inr ⟨j, q, rfl, HQ.out, rfl⟩⟩, (by repeat (first | assumption | exact Below.refl _ _ | apply Below.al | apply Below.drewN' | apply Below.drew | (apply Below.tr; assumption))), hid (by rw [H.out, HS.out]; congr 1; simp [nrStep, *])⟩
          case measure => simp [intOf]; omega
        · go_wp2
          refine wp_region_ext (by kernel_rfl) (by kernel_rfl) ?_
          repeat (go_big_quiet_step ((first | (go_at_call 136; exact ext_below (l22Open_eq go bb (o + k * 6) _ (Nat.lt_of_lt_of_le b0 (Below.size (Ext.h _))) ((Ext.cell _ b0).trans c1) ((Ext.cell _ b0).trans c2) ((Ext.cell _ b0).trans c3) ((Ext.cell _ b0).trans c4))))))
          refine wpQuiet_nil ?_
          intro w3 hb3
          obtain ⟨hc_w3, hf_w3⟩ := bcell hb3
          have hz_w3 := hb3.size
          go_wp2
          go_roundw
          case rel => exact ⟨k + 1, _, by omega, by go_num, ⟨trivial, by first | exact .inr ⟨k, p, rfl, HP.out, rfl⟩ | exact .inl ⟨rfl, rfl⟩ | exact .inr ⟨j, q, rfl, HQ.out, rfl⟩⟩, (by repeat (first | assumption | exact Below.refl _ _ | apply Below.al | apply Below.drewN' | apply Below.drew | (apply Below.tr; assumption))), hid (by rw [H.out, HS.out]; congr 1; simp [nrStep, *])⟩
          case measure => simp [intOf]; omega
      · obtain ⟨b', o', e1, _, d0, d1, d2, d3, d4, d5⟩ := (h.below hb (Nat.le_refl _)).at6 hq rfl
        simp at e1; obtain ⟨rfl, rfl⟩ := e1
        have hj : j < xs.length := (List.getElem?_eq_some_iff.1 hq).1
        have hd : decide ((j : Int) < 0) = false := by simp
        have HQ := hid hq
        clear hq
        cases go : opn p tm
        · go_wp2
          refine wp_region_ext (by kernel_rfl) (by kernel_rfl) ?_
          repeat (go_big_quiet_step ((first | (go_at_call 136; exact ext_below (l22Open_eq go bb (o + k * 6) _ (Nat.lt_of_lt_of_le b0 (Below.size (Ext.h _))) ((Ext.cell _ b0).trans c1) ((Ext.cell _ b0).trans c2) ((Ext.cell _ b0).trans c3) ((Ext.cell _ b0).trans c4))))))
          refine wpQuiet_nil ?_
          intro w3 hb3
          obtain ⟨hc_w3, hf_w3⟩ := bcell hb3
          have hz_w3 := hb3.size
          go_wp2
          go_roundw
          case rel => exact ⟨k + 1, _, by omega, by go_num, ⟨trivial, by first | exact .inr ⟨k, p, rfl, HP.out, rfl⟩ | exact .inl ⟨rfl, rfl⟩ | exact .inr ⟨j, q, rfl, HQ.out, rfl⟩⟩, (by repeat (first | assumption | exact Below.refl _ _ | apply Below.al | apply Below.drewN' | apply Below.drew | (apply Below.tr; assumption))), hid (by rw [H.out, HS.out]; congr 1; simp [nrStep, *])⟩
          case measure => simp [intOf]; omega
        · cases gb : befB p q
          all_goals
            go_wp2
            refine wp_region_ext (by kernel_rfl) (by kernel_rfl) ?_
            repeat (go_big_quiet_step ((first | (go_at_call 136; exact ext_below (l22Open_eq go bb (o + k * 6) _ (Nat.lt_of_lt_of_le b0 (Below.size (Ext.h _))) ((Ext.cell _ b0).trans c1) ((Ext.cell _ b0).trans c2) ((Ext.cell _ b0).trans c3) ((Ext.cell _ b0).trans c4))) | (go_at_call 137; exact ext_below (l22Before_eq gb bb (o + k * 6) bb (o + j * 6) _ (Nat.lt_of_lt_of_le b0 (Below.size (Ext.h _))) (Nat.lt_of_lt_of_le b0 (Below.size (Ext.h _))) ((Ext.cell _ b0).trans c2) ((Ext.cell _ b0).trans c5) ((Ext.cell _ b0).trans d2) ((Ext.cell _ b0).trans d5))))))
            refine wpQuiet_nil ?_
            intro w3 hb3
            obtain ⟨hc_w3, hf_w3⟩ := bcell hb3
            have hz_w3 := hb3.size
            go_wp2
            go_roundw
            case rel => exact ⟨k + 1, _, by omega, by go_num, ⟨trivial, by first | exact .inr ⟨k, p, rfl, HP.out, rfl⟩ | exact .inl ⟨rfl, rfl⟩ | exact .inr ⟨j, q, rfl, HQ.out, rfl⟩⟩, (by repeat (first | assumption | exact Below.refl _ _ | apply Below.al | apply Below.drewN' | apply Below.drew | (apply Below.tr; assumption))), hid (by rw [H.out, HS.out]; congr 1; simp [nrStep, *])⟩
            case measure => simp [intOf]; omega
    · have HE : Hid (nrGo tm none 0 xs = nrGo tm best k []) := hid (by rw [H.out, List.drop_eq_nil_of_le (by omega)])
      rcases hbest with ⟨rfl, rfl⟩ | ⟨j, q, rfl, hq, rfl⟩
      · go_wp2
        go_ret
        exact ⟨ret_int (by rw [HE.out]; rfl), (by repeat (first | assumption | exact Below.refl _ _ | apply Below.al | apply Below.drewN' | apply Below.drew | (apply Below.tr; assumption)))⟩
      · clear hq
        go_wp2
        go_ret
        exact ⟨ret_int (by rw [HE.out]; rfl), (by repeat (first | assumption | exact Below.refl _ _ | apply Below.al | apply Below.drewN' | apply Below.drew | (apply Below.tr; assumption)))⟩
set_option maxRecDepth 20000 in
set_option maxHeartbeats 4000000 in
theorem next_rq (A : Option Addr) (c : Nat) (xs : List Rq) (tm : Int) (w : World) (h : Rd encRq 6 w w.heap.size A xs) (hn : xs.length ≤ 1048576) :
    Calls Try.prog 111 #[.slice A xs.length c, .int .i64 tm] w fun e w' => e = .returned (.int .i64 (nrGo tm none 0 xs)) ∧ Below w.heap.size w w' := by
  go_enter Try.func111, Try.ntmps111
  go_wp2
  go_loopw [5, 10] (fun bs i wr => ∃ (k : Nat) (best : Option (Nat × Rq)), k ≤ xs.length ∧ i = .int .i64 k ∧ (True ∧ ((best = none ∧ bs = .int .i64 (-1)) ∨ ∃ j q, best = some (j, q) ∧ xs[j]? = some q ∧ bs = .int .i64 (j : Nat))) ∧ Below w.heap.size w wr ∧ Hid (nrGo tm none 0 xs = nrGo tm best k (xs.drop k))) (fun _ i _ => xs.length - (intOf i).toNat)
  case atStart => exact ⟨0, none, Nat.zero_le _, rfl, ⟨trivial, .inl ⟨rfl, rfl⟩⟩, (by repeat (first | assumption | exact Below.refl _ _ | apply Below.al | apply Below.drewN' | apply Below.drew | (apply Below.tr; assumption))), hid rfl⟩
  case round =>
    obtain ⟨k, best, hk, rfl, ⟨_, hbest⟩, hb, H⟩ := hrel
    by_cases hlt : k < xs.length
    · obtain ⟨p, hp⟩ := getx hlt
      obtain ⟨bb, o, rfl, hbB, c0, c1, c2, c3, c4, c5⟩ := (h.below hb (Nat.le_refl _)).at6 hp rfl
      have hsz := hb.size
      have HS : Hid (nrGo tm best k (xs.drop k) = nrGo tm (nrStep tm best k p) (k+1) (xs.drop (k+1))) := by rw [dropx hp]; rfl
      have b0 : bb < wr.heap.size := by omega
      have HP := hid hp
      clear hp
      rcases hbest with ⟨rfl, rfl⟩ | ⟨j, q, rfl, hq, rfl⟩
      · cases go : opn p tm
        · go_wp2_with fail
          refine (open_any p tm _).mono ?_
          rw [go]
          rintro e w1 ⟨rfl, hb1⟩
          obtain ⟨hc1, hf1⟩ := bcell hb1
          have hz1 := hb1.size
          simp at hz1
          have b1 : bb < wr.heap.size + 1 := by omega
          have b2 : bb < w1.heap.size := by omega
          have b3 : wr.heap.size < w1.heap.size := by omega
          go_wp2
          go_roundw
          case rel => exact ⟨k + 1, _, by omega, by go_num, ⟨trivial, by first | exact .inr ⟨k, p, rfl, HP.out, rfl⟩ | exact .inl ⟨rfl, rfl⟩ | exact .inr ⟨j, q, rfl, HQ.out, rfl⟩⟩, (by repeat (first | assumption | exact Below.refl _ _ | apply Below.al | apply Below.drewN' | apply Below.drew | (apply Below.tr; assumption))), hid (by rw [H.out, HS.out]; congr 1; simp [nrStep, *])⟩
          case measure => simp [intOf]; omega
        · go_wp2_with fail
          refine (open_any p tm _).mono ?_
          rw [go]
          rintro e w1 ⟨rfl, hb1⟩
          obtain ⟨hc1, hf1⟩ := bcell hb1
          have hz1 := hb1.size
          simp at hz1
          have b1 : bb < wr.heap.size + 1 := by omega
          have b2 : bb < w1.heap.size := by omega
          have b3 : wr.heap.size < w1.heap.size := by omega
          go_wp2
          refine wp_region_ext (by kernel_rfl) (by kernel_rfl) ?_
          repeat (go_big_quiet_step ((first | fail)))
          refine wpQuiet_nil ?_
          intro w3 hb3
          obtain ⟨hc_w3, hf_w3⟩ := bcell hb3
          have hz_w3 := hb3.size
          go_wp2
          go_roundw
          case rel => exact ⟨k + 1, _, by omega, by go_num, ⟨trivial, by first | exact .inr ⟨k, p, rfl, HP.out, rfl⟩ | exact .inl ⟨rfl, rfl⟩ | exact .inr ⟨j, q, rfl, HQ.out, rfl⟩⟩, (by repeat (first | assumption | exact Below.refl _ _ | apply Below.al | apply Below.drewN' | apply Below.drew | (apply Below.tr; assumption))), hid (by rw [H.out, HS.out]; congr 1; simp [nrStep, *])⟩
          case measure => simp [intOf]; omega
      · obtain ⟨b', o', e1, _, d0, d1, d2, d3, d4, d5⟩ := (h.below hb (Nat.le_refl _)).at6 hq rfl
        simp at e1; obtain ⟨rfl, rfl⟩ := e1
        have hj : j < xs.length := (List.getElem?_eq_some_iff.1 hq).1
        have hd : decide ((j : Int) < 0) = false := by simp
        have HQ := hid hq
        clear hq
        cases go : opn p tm
        · go_wp2_with fail
          refine (open_any p tm _).mono ?_
          rw [go]
          rintro e w1 ⟨rfl, hb1⟩
          obtain ⟨hc1, hf1⟩ := bcell hb1
          have hz1 := hb1.size
          simp at hz1
          have b1 : bb < wr.heap.size + 1 := by omega
          have b2 : bb < w1.heap.size := by omega
          have b3 : wr.heap.size < w1.heap.size := by omega
          go_wp2
          go_roundw
          case rel => exact ⟨k + 1, _, by omega, by go_num, ⟨trivial, by first | exact .inr ⟨k, p, rfl, HP.out, rfl⟩ | exact .inl ⟨rfl, rfl⟩ | exact .inr ⟨j, q, rfl, HQ.out, rfl⟩⟩, (by repeat (first | assumption | exact Below.refl _ _ | apply Below.al | apply Below.drewN' | apply Below.drew | (apply Below.tr; assumption))), hid (by rw [H.out, HS.out]; congr 1; simp [nrStep, *])⟩
          case measure => simp [intOf]; omega
        · by_cases y1 : q.p < p.p <;> by_cases y2 : p.p = q.p <;> by_cases y3 : p.t < q.t
          all_goals
            first
              | (exfalso; omega)
              | (first
                   | (have y2' : (p.p == q.p) = true := by simpa using y2)
                   | (have y2' : (p.p == q.p) = false := by simpa using y2)
                 first
                   | (have y1' : decide (q.p < p.p) = true := by simpa using y1)
                   | (have y1' : decide (q.p < p.p) = false := by simpa using y1)
                 first
                   | (have y3' : decide (p.t < q.t) = true := by simpa using y3)
                   | (have y3' : decide (p.t < q.t) = false := by simpa using y3)
                 have gb : Hid (befB p q = (decide (q.p < p.p) || (p.p == q.p && decide (p.t < q.t)))) := rfl
                 have HS : Hid (nrGo tm (some (j, q)) k (xs.drop k) = nrGo tm (if (decide (q.p < p.p) || (p.p == q.p && decide (p.t < q.t))) = true then some (k, p) else some (j, q)) (k+1) (xs.drop (k+1))) := hid (by rw [HS.out]; simp only [nrStep]; rw [go, gb.out]; rfl)
                 rw [y1', y2', y3'] at HS
                 clear y2 gb
                 go_wp2_with fail
                 refine (open_any p tm _).mono ?_
                 rw [go]
                 rintro e w1 ⟨rfl, hb1⟩
                 obtain ⟨hc1, hf1⟩ := bcell hb1
                 have hz1 := hb1.size
                 simp at hz1
                 have b1 : bb < wr.heap.size + 1 := by omega
                 have b2 : bb < w1.heap.size := by omega
                 have b3 : wr.heap.size < w1.heap.size := by omega
                 go_wp2
                 refine wp_region_ext (by kernel_rfl) (by kernel_rfl) ?_
                 repeat (go_big_quiet_step ((first | fail)))
                 refine wpQuiet_nil ?_
                 intro w3 hb3
                 obtain ⟨hc_w3, hf_w3⟩ := bcell hb3
                 have hz_w3 := hb3.size
                 go_wp2
                 go_roundw
                 case rel => exact ⟨k + 1, _, by omega, by go_num, ⟨trivial, by first | exact .inr ⟨k, p, rfl, HP.out, rfl⟩ | exact .inl ⟨rfl, rfl⟩ | exact .inr ⟨j, q, rfl, HQ.out, rfl⟩⟩, (by repeat (first | assumption | exact Below.refl _ _ | apply Below.al | apply Below.drewN' | apply Below.drew | (apply Below.tr; assumption))), hid (by rw [H.out, HS.out]; first | done | rfl)⟩
                 case measure => simp [intOf]; omega)
    · have HE : Hid (nrGo tm none 0 xs = nrGo tm best k []) := hid (by rw [H.out, List.drop_eq_nil_of_le (by omega)])
      rcases hbest with ⟨rfl, rfl⟩ | ⟨j, q, rfl, hq, rfl⟩
      · go_wp2
        go_ret
        exact ⟨ret_int (by rw [HE.out]; rfl), (by repeat (first | assumption | exact Below.refl _ _ | apply Below.al | apply Below.drewN' | apply Below.drew | (apply Below.tr; assumption)))⟩
      · clear hq
        go_wp2
        go_ret
        exact ⟨ret_int (by rw [HE.out]; rfl), (by repeat (first | assumption | exact Below.refl _ _ | apply Below.al | apply Below.drewN' | apply Below.drew | (apply Below.tr; assumption)))⟩
theorem l22Code_any (A : Option Addr) (c : Nat) (xs : List Rq) (tm : Int) (w : World) (h : Rd encRq 6 w w.heap.size A xs) (hn : xs.length ≤ 1048576) (wf : ∀ x ∈ xs, x.s.size ≤ maxLen) :
    Calls Try.prog 108 #[.slice A xs.length c, .int .i64 tm] w fun e w' => e = .returned (.int .i64 (nqC xs tm)) ∧ Below w.heap.size w w' := by
  cases h1 : rqL xs <;> cases h2 : inB tm 0 10000000
  all_goals
    go_enter Try.func108, Try.ntmps108
    go_wp2_with (first | (go_at_call 103; refine (l22Ok_any A c xs _ h hn wf).mono ?_; rintro e w1 ⟨rfl, hb1⟩; obtain ⟨hc_w1, hf_w1⟩ := bcell hb1; have hz_w1 := hb1.size) | (go_at_call 132; refine (l03Time_any2 _ _).mono ?_; rintro e w' ⟨rfl, rfl⟩))
    go_ret
    exact ⟨ret_int (by simp [nqC, h1, h2]), (by repeat (first | assumption | exact Below.refl _ _ | apply Below.al | apply Below.drewN' | apply Below.drew | (apply Below.tr; assumption)))⟩
theorem timed_any (A : Option Addr) (c : Nat) (xs : List Rq) (tm : Int) (w : World) (h : Rd encRq 6 w w.heap.size A xs) (hn : xs.length ≤ 1048576) (wf : ∀ x ∈ xs, x.s.size ≤ maxLen) :
    Calls Try.prog 110 #[.slice A xs.length c, .int .i64 tm] w fun e w' => e = .returned (.int .i64 (nqC xs tm)) ∧ Below w.heap.size w w' := by
  cases h1 : rqL xs <;> cases h2 : inB tm 0 10000000
  all_goals
    go_enter Try.func110, Try.ntmps110
    go_wp2_with (first | (go_at_call 50; refine (validRequests_any A c xs _ h hn wf).mono ?_; rintro e w1 ⟨rfl, hb1⟩; obtain ⟨hc_w1, hf_w1⟩ := bcell hb1; have hz_w1 := hb1.size) | (go_at_call 87; refine (validTime_any _ _).mono ?_; rintro e w' ⟨rfl, rfl⟩))
    go_ret
    exact ⟨ret_int (by simp [nqC, h1, h2]), (by repeat (first | assumption | exact Below.refl _ _ | apply Below.al | apply Below.drewN' | apply Below.drew | (apply Below.tr; assumption)))⟩
set_option maxHeartbeats 2000000 in
theorem specNextRequest_any (A : Option Addr) (c : Nat) (xs : List Rq) (tm : Int) (w : World) (h : Rd encRq 6 w w.heap.size A xs) (hn : xs.length ≤ 1048576) (wf : ∀ x ∈ xs, x.s.size ≤ maxLen) :
    Calls Try.prog 52 #[.slice A xs.length c, .int .i64 tm] w fun e w' => e = .returned (.tuple #[.int .i64 (nrV xs tm), .int .i64 (nrC xs tm)]) ∧ Below w.heap.size w w' := by
  by_cases hc : nqC xs tm = 0
  rotate_left
  · have HN : (nqC xs tm != 0) = true := by simp [hc]
    have HV : Hid (nrV xs tm = 0) := by simp [Hid, nrV, hc]
    have HC : Hid (nrC xs tm = nqC xs tm) := by simp [Hid, nrC, hc]
    clear hc
    go_enter Try.func52, Try.ntmps52
    go_wp2_with (go_at_call 108; refine (l22Code_any A c xs _ _ h hn wf).mono ?_; rintro e w1 ⟨rfl, hb1⟩; obtain ⟨hc_w1, hf_w1⟩ := bcell hb1; have hz_w1 := hb1.size)
    go_ret2
    exact ⟨by rw [HV.out, HC.out]; simp, (by repeat (first | assumption | exact Below.refl _ _ | apply Below.al | apply Below.drewN' | apply Below.drew | (apply Below.tr; assumption)))⟩
  have HN : (nqC xs tm != 0) = false := by simp [hc]
  have HV : Hid (nrV xs tm = if nrGo tm none 0 xs < 0 then 0 else nrGo tm none 0 xs) := by simp [Hid, nrV, hc]
  have HC : Hid (nrC xs tm = if nrGo tm none 0 xs < 0 then 3 else 0) := by simp [Hid, nrC, hc]
  clear hc
  by_cases hg : nrGo tm none 0 xs < 0
  · have HV1 : Hid (nrV xs tm = 0) := hid (by rw [HV.out, if_pos hg])
    have HC1 : Hid (nrC xs tm = 3) := hid (by rw [HC.out, if_pos hg])
    go_enter Try.func52, Try.ntmps52
    go_wp2_with (first | (go_at_call 108; refine (l22Code_any A c xs _ _ h hn wf).mono ?_; rintro e w1 ⟨rfl, hb1⟩; obtain ⟨hc_w1, hf_w1⟩ := bcell hb1; have hz_w1 := hb1.size) | (go_at_call 109; refine (l22Next_any A c xs _ _ ((h.below hb1 (Nat.le_refl _)).more hb1.size) hn).mono ?_; rintro e w2 ⟨rfl, hb2⟩; obtain ⟨hc_w2, hf_w2⟩ := bcell hb2; have hz_w2 := hb2.size))
    go_ret2
    exact ⟨by rw [HV1.out, HC1.out]; simp, (by repeat (first | assumption | exact Below.refl _ _ | apply Below.al | apply Below.drewN' | apply Below.drew | (apply Below.tr; assumption)))⟩
  · have HV1 : Hid (nrV xs tm = nrGo tm none 0 xs) := hid (by rw [HV.out, if_neg hg])
    have HC1 : Hid (nrC xs tm = 0) := hid (by rw [HC.out, if_neg hg])
    go_enter Try.func52, Try.ntmps52
    go_wp2_with (first | (go_at_call 108; refine (l22Code_any A c xs _ _ h hn wf).mono ?_; rintro e w1 ⟨rfl, hb1⟩; obtain ⟨hc_w1, hf_w1⟩ := bcell hb1; have hz_w1 := hb1.size) | (go_at_call 109; refine (l22Next_any A c xs _ _ ((h.below hb1 (Nat.le_refl _)).more hb1.size) hn).mono ?_; rintro e w2 ⟨rfl, hb2⟩; obtain ⟨hc_w2, hf_w2⟩ := bcell hb2; have hz_w2 := hb2.size))
    go_ret2
    exact ⟨by rw [HV1.out, HC1.out]; simp, (by repeat (first | assumption | exact Below.refl _ _ | apply Below.al | apply Below.drewN' | apply Below.drew | (apply Below.tr; assumption)))⟩
set_option maxHeartbeats 2000000 in
theorem implNextRequest_any (A : Option Addr) (c : Nat) (xs : List Rq) (tm : Int) (w : World) (h : Rd encRq 6 w w.heap.size A xs) (hn : xs.length ≤ 1048576) (wf : ∀ x ∈ xs, x.s.size ≤ maxLen) :
    Calls Try.prog 53 #[.slice A xs.length c, .int .i64 tm] w fun e w' => e = .returned (.tuple #[.int .i64 (nrV xs tm), .int .i64 (nrC xs tm)]) ∧ Below w.heap.size w w' := by
  by_cases hc : nqC xs tm = 0
  rotate_left
  · have HN : (nqC xs tm != 0) = true := by simp [hc]
    have HV : Hid (nrV xs tm = 0) := by simp [Hid, nrV, hc]
    have HC : Hid (nrC xs tm = nqC xs tm) := by simp [Hid, nrC, hc]
    clear hc
    go_enter Try.func53, Try.ntmps53
    go_wp2_with (go_at_call 110; refine (timed_any A c xs _ _ h hn wf).mono ?_; rintro e w1 ⟨rfl, hb1⟩; obtain ⟨hc_w1, hf_w1⟩ := bcell hb1; have hz_w1 := hb1.size)
    go_ret2
    exact ⟨by rw [HV.out, HC.out]; simp, (by repeat (first | assumption | exact Below.refl _ _ | apply Below.al | apply Below.drewN' | apply Below.drew | (apply Below.tr; assumption)))⟩
  have HN : (nqC xs tm != 0) = false := by simp [hc]
  have HV : Hid (nrV xs tm = if nrGo tm none 0 xs < 0 then 0 else nrGo tm none 0 xs) := by simp [Hid, nrV, hc]
  have HC : Hid (nrC xs tm = if nrGo tm none 0 xs < 0 then 3 else 0) := by simp [Hid, nrC, hc]
  clear hc
  by_cases hg : nrGo tm none 0 xs < 0
  · have HV1 : Hid (nrV xs tm = 0) := hid (by rw [HV.out, if_pos hg])
    have HC1 : Hid (nrC xs tm = 3) := hid (by rw [HC.out, if_pos hg])
    go_enter Try.func53, Try.ntmps53
    go_wp2_with (first | (go_at_call 110; refine (timed_any A c xs _ _ h hn wf).mono ?_; rintro e w1 ⟨rfl, hb1⟩; obtain ⟨hc_w1, hf_w1⟩ := bcell hb1; have hz_w1 := hb1.size) | (go_at_call 111; refine (next_rq A c xs _ _ ((h.below hb1 (Nat.le_refl _)).more hb1.size) hn).mono ?_; rintro e w2 ⟨rfl, hb2⟩; obtain ⟨hc_w2, hf_w2⟩ := bcell hb2; have hz_w2 := hb2.size))
    go_ret2
    exact ⟨by rw [HV1.out, HC1.out]; simp, (by repeat (first | assumption | exact Below.refl _ _ | apply Below.al | apply Below.drewN' | apply Below.drew | (apply Below.tr; assumption)))⟩
  · have HV1 : Hid (nrV xs tm = nrGo tm none 0 xs) := hid (by rw [HV.out, if_neg hg])
    have HC1 : Hid (nrC xs tm = 0) := hid (by rw [HC.out, if_neg hg])
    go_enter Try.func53, Try.ntmps53
    go_wp2_with (first | (go_at_call 110; refine (timed_any A c xs _ _ h hn wf).mono ?_; rintro e w1 ⟨rfl, hb1⟩; obtain ⟨hc_w1, hf_w1⟩ := bcell hb1; have hz_w1 := hb1.size) | (go_at_call 111; refine (next_rq A c xs _ _ ((h.below hb1 (Nat.le_refl _)).more hb1.size) hn).mono ?_; rintro e w2 ⟨rfl, hb2⟩; obtain ⟨hc_w2, hf_w2⟩ := bcell hb2; have hz_w2 := hb2.size))
    go_ret2
    exact ⟨by rw [HV1.out, HC1.out]; simp, (by repeat (first | assumption | exact Below.refl _ _ | apply Below.al | apply Below.drewN' | apply Below.drew | (apply Below.tr; assumption)))⟩
end Go.Proofs.Ytnkablomkcimaaa
