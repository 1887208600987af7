/- Contracts: the parts that are shown in a window and those that are missing, in the program; lists of numbers in the laws. -/
import Derived.Test.YtgdahehpofdllaaC16s
import Derived.Test.YtgdahehpofdllaaCIdx
namespace Go.Proofs.Ytgdahehpofdllaa
open Go.RowKit
set_option linter.unusedVariables false
theorem bit_one (S i : Nat) (hS : S < 2 ^ 50) : (bits .and .u64 ((S : Int) / 2 ^ i) 1 == 1) = S.testBit i := by
  have h := Nat.div_le_self S (2 ^ i)
  have e : ((S : Int) / 2 ^ i) = ((S / 2 ^ i : Nat) : Int) := by push_cast; rfl
  have e2 := bits_and_u64_nat (S / 2 ^ i) 1 (by omega) (by omega)
  rw [e, show (1 : Int) = ((1 : Nat) : Int) from rfl, e2, Nat.and_one_is_mod, Nat.testBit_eq_decide_div_mod_eq]
  rcases Nat.mod_two_eq_zero_or_one (S / 2 ^ i) with h | h <;> simp [h]
theorem bitsOf1_any (S i : Nat) (v : Bool) (bs bw : Nat) (w : World) (hS : S < 2 ^ 50) (hi : i < 50) (c0 : w.cell? ⟨bs, 0, none⟩ = some (.int .u64 S)) (c1 : w.cell? ⟨bw, 0, none⟩ = some (.bool v)) (z0 : bs < w.heap.size) (z1 : bw < w.heap.size) :
    Calls Try.prog 41 #[.int .i64 i, .pointer (some ⟨bs, 0, none⟩), .pointer (some ⟨bw, 0, none⟩)] w fun e w' => e = .returned (.bool (S.testBit i == v)) ∧ Below w.heap.size w w' := by
  go_enter Try.func41, Try.ntmps41
  go_wp2
  refine wp_region_ext (by kernel_rfl) (by kernel_rfl) ?_
  repeat (go_big_quiet_step ((first | fail)))
  refine wpQuiet_nil ?_
  intro w3 hb3
  obtain ⟨hc_w3, hf_w3⟩ := bcell hb3
  have hz_w3 := hb3.size
  go_wp2
  go_ret
  exact ⟨ret_bool (by rw [bit_one S i hS]), hb3⟩
set_option maxHeartbeats 2000000 in
theorem bitsOf_any (S n : Nat) (v : Bool) (w : World) (hS : S < 2 ^ 50) (hn : n ≤ 50) :
    Calls Try.prog 22 #[.int .u64 S, .int .i64 n, .bool v] w (OwnRes 2 1 encI (idxW (fun i => S.testBit i == v) n) w) := by
  go_enter Try.func22, Try.ntmps22
  go_wp2_with fail
  refine (indicesWhere_any 41 _ (fun i => S.testBit i == v) n _ (by omega) (callFunc_enter Try.func41 (by kernel_rfl) (by kernel_rfl)) ?_).mono ?_
  · intro i w1 hi hb
    refine bitsOf1_any S i v w.heap.size (w.heap.size + 1) w1 hS (by omega) ?_ ?_ ?_ ?_
    · rw [(bcell hb).1 _ _ (by first | (simp; done) | (simp; omega))]; simp [go_sem]
    · rw [(bcell hb).1 _ _ (by first | (simp; done) | (simp; omega))]; simp [go_sem]
    · have := hb.size; simp at this; omega
    · have := hb.size; simp at this; omega
  · rintro e w1 ⟨Ad, c, rfl, o1, hb1⟩
    go_wp2
    go_ret
    exact ⟨Ad, c, rfl, own_lo o1 (by simp; omega), Below.tr hb1 (by repeat (first | assumption | exact Below.refl _ _ | apply Below.al | apply Below.drewN' | apply Below.drew | (refine Below.sc ?_ (by first | omega | (simp; done) | (simp; omega)) _) | (apply Below.tr; assumption)))⟩
set_option maxRecDepth 20000 in
set_option maxHeartbeats 2000000 in
theorem shownBins_any (a b f t : Int) (n : Nat) (w : World) (a0 : 0 ≤ a) (a1 : a ≤ 10000000) (b0 : n ≤ b) (b1 : b ≤ 1000000) (f0 : 0 ≤ f) (f1 : f ≤ t) (t1 : t ≤ 10000000) (n0 : 1 ≤ n) (n1 : n ≤ 50) :
    Calls Try.prog 8 #[.agg #[.int .i64 a, .int .i64 b], .agg #[.int .i64 f, .int .i64 t], .int .i64 n] w (OwnTup 2 1 encI (idxW (fun i => (bitS (shB a b f t n) n).testBit i) n) 0 w) := by
  go_enter Try.func8, Try.ntmps8
  go_wp2_with fail
  refine (shownEach_any (some ⟨w.heap.size + 1 + 1, 0, none⟩) 1 a b f t n _ ?_ a0 a1 b0 b1 f0 f1 t1 n0 n1).mono ?_
  · intro _
    refine ⟨w.heap.size + 1 + 1, 0, rfl, by simp, fun i x hi j v hj => ?_⟩
    obtain rfl : i = 0 := by
      have := (List.getElem?_eq_some_iff.1 hi).1; simpa using this
    simp at hi
    subst hi
    match j, hj with
    | 0, hj => simp [encWi] at hj; subst hj; simp [go_sem]
    | 1, hj => simp [encWi] at hj; subst hj; simp [go_sem]
    | j + 2, hj => simp [encWi] at hj
  rintro e w1 ⟨sv, rfl, hb1⟩
  have hb1' : Below w.heap.size w w1 := Below.tr hb1 (by repeat (first | assumption | exact Below.refl _ _ | apply Below.al | apply Below.drewN' | apply Below.drew | (refine Below.sc ?_ (by first | omega | (simp; done) | (simp; omega)) _) | (apply Below.tr; assumption)))
  have BL : bitS (shB a b f t n) n < 2 ^ 50 := Nat.lt_of_lt_of_le (bitS_lt _ n) (Nat.pow_le_pow_right (by omega) (by omega))
  clear hb1
  go_wp2_with fail
  have BO := bitsOf_any _ n true w1 BL (by omega)
  simp only [beq_true, beq_false] at BO
  refine BO.mono ?_
  rintro e w2 ⟨Ad, cd, rfl, o2, hb2⟩
  have O2 := hid o2
  clear o2
  go_wp2
  go_ret2
  exact ⟨Ad, cd, rfl, own_lo O2.out (by have := hb1'.size; omega), Below.tr hb2 hb1'⟩
set_option maxRecDepth 20000 in
set_option maxHeartbeats 2000000 in
theorem missingBins_any (A : Option Addr) (c : Nat) (a b f t : Int) (n : Nat) (w : World) (h : Rd encWi 2 w w.heap.size A [⟨f, t⟩]) (a0 : 0 ≤ a) (a1 : a ≤ 10000000) (b0 : n ≤ b) (b1 : b ≤ 1000000) (f0 : 0 ≤ f) (f1 : f ≤ t) (t1 : t ≤ 10000000) (n0 : 1 ≤ n) (n1 : n ≤ 50) :
    Calls Try.prog 9 #[.agg #[.int .i64 a, .int .i64 b], .slice A 1 c, .int .i64 n] w (OwnTup 2 1 encI (idxW (fun i => !(bitS (shB a b f t n) n).testBit i) n) 0 w) := by
  go_enter Try.func9, Try.ntmps9
  go_wp2_with fail
  refine (shownEach_any A c a b f t n _ ((h.below (B' := w.heap.size) (by repeat (first | assumption | exact Below.refl _ _ | apply Below.al | apply Below.drewN' | apply Below.drew | (apply Below.tr; assumption))) (Nat.le_refl _)).more (by simp)) a0 a1 b0 b1 f0 f1 t1 n0 n1).mono ?_
  rintro e w1 ⟨sv, rfl, hb1⟩
  have hb1' : Below w.heap.size w w1 := Below.tr hb1 (by repeat (first | assumption | exact Below.refl _ _ | apply Below.al | apply Below.drewN' | apply Below.drew | (refine Below.sc ?_ (by first | omega | (simp; done) | (simp; omega)) _) | (apply Below.tr; assumption)))
  have BL : bitS (shB a b f t n) n < 2 ^ 50 := Nat.lt_of_lt_of_le (bitS_lt _ n) (Nat.pow_le_pow_right (by omega) (by omega))
  clear hb1
  go_wp2_with fail
  have BO := bitsOf_any _ n false w1 BL (by omega)
  simp only [beq_true, beq_false] at BO
  refine BO.mono ?_
  rintro e w2 ⟨Ad, cd, rfl, o2, hb2⟩
  have O2 := hid o2
  clear o2
  go_wp2
  go_ret2
  exact ⟨Ad, cd, rfl, own_lo O2.out (by have := hb1'.size; omega), Below.tr hb2 hb1'⟩
end Go.Proofs.Ytgdahehpofdllaa
