/- Contracts: two lists of requests are equal, in the program and in the reference. -/
import Derived.Test.YtkkjljahfpdfhaaCReq
namespace Go.Proofs.Ytkkjljahfpdfhaa
open Go.RowKit
set_option linter.unusedVariables false
def sameRequest (p q : Rq) : Bool := (p.s.toList == q.s.toList) && (p.f == q.f) && (p.t == q.t) && (p.n == q.n) && (p.d == q.d) && (p.p == q.p)
theorem run_neqRequest (p q : Rq) (w : World) : (binOp .neq 104 (.agg #[.string p.s, .int .i64 p.f, .int .i64 p.t, .int .i64 p.n, .int .i64 p.d, .int .i64 p.p]) (.agg #[.string q.s, .int .i64 q.f, .int .i64 q.t, .int .i64 q.n, .int .i64 q.d, .int .i64 q.p])).run Try.prog w = .ok (.bool (!sameRequest p q)) w := by
  rw [run_neq_struct]
  rw [run_equalIn_agg (P := Try.prog) w 9999 104 _ _ (by kernel_rfl) (by kernel_rfl)]
  simp [go_sem, Try.underlying2, Try.underlying9, Try.underlying104]
  (repeat' split) <;> simp_all [sameRequest]
theorem run_eqlRequest (p q : Rq) (w : World) : (binOp .eql 104 (.agg #[.string p.s, .int .i64 p.f, .int .i64 p.t, .int .i64 p.n, .int .i64 p.d, .int .i64 p.p]) (.agg #[.string q.s, .int .i64 q.f, .int .i64 q.t, .int .i64 q.n, .int .i64 q.d, .int .i64 q.p])).run Try.prog w = .ok (.bool (sameRequest p q)) w := by
  rw [run_eql_struct]
  rw [run_equalIn_agg (P := Try.prog) w 9999 104 _ _ (by kernel_rfl) (by kernel_rfl)]
  simp [go_sem, Try.underlying2, Try.underlying9, Try.underlying104]
  (repeat' split) <;> simp_all [sameRequest]
set_option maxHeartbeats 1000000 in
theorem specSameRequests_any (A : Option Addr) (c : Nat) (xs : List Rq) (A' : Option Addr) (c' : Nat) (ys : List Rq) (w : World) (h : Rd encRq 6 w w.heap.size A xs) (hn : xs.length ≤ 1048576) (h' : Rd encRq 6 w w.heap.size A' ys) (hn' : ys.length ≤ 1048576) :
    Calls Try.prog 31 #[.slice A xs.length c, .slice A' ys.length c'] w fun e w' => e = .returned (.bool (sameL sameRequest xs ys)) ∧ Below w.heap.size w w' := by
  by_cases hl : ys.length = xs.length
  · have hne : ((xs.length : Int) != ys.length) = false := by simp [hl]
    have HL := hid hl
    have HM := hid (sameL_len (f := sameRequest) hl)
    clear hl
    go_enter Try.func31, Try.ntmps31
    go_wp2
    go_loopw [5] (fun i wr => ∃ k : Nat, k ≤ xs.length ∧ i = .int .i64 k ∧ Below w.heap.size w wr ∧ Hid (same2 sameRequest xs ys = same2 sameRequest (xs.drop k) (ys.drop k))) (fun i _ => xs.length - (intOf i).toNat)
    case atStart => exact ⟨0, Nat.zero_le _, rfl, (by repeat (first | assumption | exact Below.refl _ _ | apply Below.al | apply Below.drewN' | apply Below.drew | (apply Below.tr; assumption))), hid rfl⟩
    case round =>
      obtain ⟨k, hk, rfl, hb, H⟩ := hrel
      by_cases hlt : k < xs.length
      · obtain ⟨p, hp⟩ := getx hlt
        obtain ⟨b, o, rfl, hbB, c0, c1, c2, c3, c4, c5⟩ := (h.below hb (Nat.le_refl _)).at6 hp rfl
        have hsz := hb.size
        obtain ⟨q, hq⟩ : ∃ q, ys[k]? = some q := getx (by have := HL.out; omega)
        obtain ⟨b', o', rfl, hbB', d0, d1, d2, d3, d4, d5⟩ := (h'.below hb (Nat.le_refl _)).at6 hq rfl
        have HS : Hid (same2 sameRequest (xs.drop k) (ys.drop k) = (sameRequest p q && same2 sameRequest (xs.drop (k+1)) (ys.drop (k+1)))) := by rw [dropx hp, dropx hq]; rfl
        have hky : k < ys.length := by have := HL.out; omega
        have b0 : b < wr.heap.size := by omega
        have b1 : b' < wr.heap.size := by omega
        have he := fun w => run_neqRequest p q w
        clear hp hq
        cases h1 : sameRequest p q
        all_goals
          go_wp2
          refine wp_region_ext (by kernel_rfl) (by kernel_rfl) ?_
          repeat (go_big_quiet_step ((first | fail)))
          refine wpQuiet_nil ?_
          intro w3 hb3
          obtain ⟨hc_w3, hf_w3⟩ := bcell hb3
          go_wp2
          first
            | (go_ret
               exact ⟨ret_bool (by rw [HM.out, H.out, HS.out, h1]; rfl), (by repeat (first | assumption | exact Below.refl _ _ | apply Below.al | apply Below.drewN' | apply Below.drew | (apply Below.tr; assumption)))⟩)
            | (go_roundw
               case rel => exact ⟨k + 1, by omega, by go_num, (by repeat (first | assumption | exact Below.refl _ _ | apply Below.al | apply Below.drewN' | apply Below.drew | (apply Below.tr; assumption))), hid (by rw [H.out, HS.out, h1]; rfl)⟩
               case measure => simp [intOf]; omega)
      · have HE : Hid (same2 sameRequest xs ys = true) := hid (by rw [H.out, List.drop_eq_nil_of_le (by omega)]; rfl)
        go_wp2
        go_ret
        exact ⟨ret_bool (by rw [HM.out, HE.out]), (by repeat (first | assumption | exact Below.refl _ _ | apply Below.al | apply Below.drewN' | apply Below.drew | (apply Below.tr; assumption)))⟩
  · have hne : ((xs.length : Int) != ys.length) = true := by simp; omega
    have HM := hid (sameL_ne (f := sameRequest) hl)
    go_enter Try.func31, Try.ntmps31
    go_wp2
    go_ret
    exact ⟨ret_bool HM.out.symm, (by repeat (first | assumption | exact Below.refl _ _ | apply Below.al | apply Below.drewN' | apply Below.drew | (apply Below.tr; assumption)))⟩
set_option maxHeartbeats 1000000 in
theorem equalRq_any (A : Option Addr) (c : Nat) (xs : List Rq) (A' : Option Addr) (c' : Nat) (ys : List Rq) (w : World) (h : Rd encRq 6 w w.heap.size A xs) (hn : xs.length ≤ 1048576) (h' : Rd encRq 6 w w.heap.size A' ys) (hn' : ys.length ≤ 1048576) :
    Calls Try.prog 74 #[.slice A xs.length c, .slice A' ys.length c'] w fun e w' => e = .returned (.bool (sameL sameRequest xs ys)) ∧ Below w.heap.size w w' := by
  by_cases hl : ys.length = xs.length
  · have hne : ((xs.length : Int) != ys.length) = false := by simp [hl]
    have HL := hid hl
    have HM := hid (sameL_len (f := sameRequest) hl)
    clear hl
    go_enter Try.func74, Try.ntmps74
    go_wp2
    go_loopw [13] (fun i wr => ∃ k : Nat, k ≤ xs.length ∧ i = .int .i64 k ∧ Below w.heap.size w wr ∧ Hid (same2 sameRequest xs ys = same2 sameRequest (xs.drop k) (ys.drop k))) (fun i _ => xs.length - (intOf i).toNat)
    case atStart => exact ⟨0, Nat.zero_le _, rfl, (by repeat (first | assumption | exact Below.refl _ _ | apply Below.al | apply Below.drewN' | apply Below.drew | (apply Below.tr; assumption))), hid rfl⟩
    case round =>
      obtain ⟨k, hk, rfl, hb, H⟩ := hrel
      by_cases hlt : k < xs.length
      · obtain ⟨p, hp⟩ := getx hlt
        obtain ⟨b, o, rfl, hbB, c0, c1, c2, c3, c4, c5⟩ := (h.below hb (Nat.le_refl _)).at6 hp rfl
        have hsz := hb.size
        obtain ⟨q, hq⟩ : ∃ q, ys[k]? = some q := getx (by have := HL.out; omega)
        obtain ⟨b', o', rfl, hbB', d0, d1, d2, d3, d4, d5⟩ := (h'.below hb (Nat.le_refl _)).at6 hq rfl
        have HS : Hid (same2 sameRequest (xs.drop k) (ys.drop k) = (sameRequest p q && same2 sameRequest (xs.drop (k+1)) (ys.drop (k+1)))) := by rw [dropx hp, dropx hq]; rfl
        have hky : k < ys.length := by have := HL.out; omega
        have b0 : b < wr.heap.size := by omega
        have b1 : b' < wr.heap.size := by omega
        have he := fun w => run_neqRequest p q w
        clear hp hq
        cases h1 : sameRequest p q
        all_goals
          go_wp2
          refine wp_region_ext (by kernel_rfl) (by kernel_rfl) ?_
          repeat (go_big_quiet_step ((first | fail)))
          refine wpQuiet_nil ?_
          intro w3 hb3
          obtain ⟨hc_w3, hf_w3⟩ := bcell hb3
          go_wp2
          first
            | (go_ret
               exact ⟨ret_bool (by rw [HM.out, H.out, HS.out, h1]; rfl), (by repeat (first | assumption | exact Below.refl _ _ | apply Below.al | apply Below.drewN' | apply Below.drew | (apply Below.tr; assumption)))⟩)
            | (go_roundw
               case rel => exact ⟨k + 1, by omega, by go_num, (by repeat (first | assumption | exact Below.refl _ _ | apply Below.al | apply Below.drewN' | apply Below.drew | (apply Below.tr; assumption))), hid (by rw [H.out, HS.out, h1]; rfl)⟩
               case measure => simp [intOf]; omega)
      · have HE : Hid (same2 sameRequest xs ys = true) := hid (by rw [H.out, List.drop_eq_nil_of_le (by omega)]; rfl)
        go_wp2
        go_ret
        exact ⟨ret_bool (by rw [HM.out, HE.out]), (by repeat (first | assumption | exact Below.refl _ _ | apply Below.al | apply Below.drewN' | apply Below.drew | (apply Below.tr; assumption)))⟩
  · have hne : ((xs.length : Int) != ys.length) = true := by simp; omega
    have HM := hid (sameL_ne (f := sameRequest) hl)
    go_enter Try.func74, Try.ntmps74
    go_wp2
    go_ret
    exact ⟨ret_bool HM.out.symm, (by repeat (first | assumption | exact Below.refl _ _ | apply Below.al | apply Below.drewN' | apply Below.drew | (apply Below.tr; assumption)))⟩
theorem implSameRequests_any (A : Option Addr) (c : Nat) (xs : List Rq) (A' : Option Addr) (c' : Nat) (ys : List Rq) (w : World) (h : Rd encRq 6 w w.heap.size A xs) (hn : xs.length ≤ 1048576) (h' : Rd encRq 6 w w.heap.size A' ys) (hn' : ys.length ≤ 1048576) :
    Calls Try.prog 33 #[.slice A xs.length c, .slice A' ys.length c'] w fun e w' => e = .returned (.bool (sameL sameRequest xs ys)) ∧ Below w.heap.size w w' := by
  go_enter Try.func33, Try.ntmps33
  go_wp2_with (go_at_call 74; refine (equalRq_any A c xs A' c' ys _ h hn h' hn').mono ?_; rintro e w1 ⟨rfl, hb1⟩; obtain ⟨hc_w1, hf_w1⟩ := bcell hb1; have hz_w1 := hb1.size)
  go_ret
  exact ⟨rfl, (by repeat (first | assumption | exact Below.refl _ _ | apply Below.al | apply Below.drewN' | apply Below.drew | (apply Below.tr; assumption)))⟩
end Go.Proofs.Ytkkjljahfpdfhaa
