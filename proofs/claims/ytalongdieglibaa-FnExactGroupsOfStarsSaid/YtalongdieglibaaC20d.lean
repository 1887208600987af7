/- Contracts: the fewest wrong links, in the reference. -/
import Derived.Test.YtalongdieglibaaC20c
namespace Go.Proofs.Ytalongdieglibaa
open Go.RowKit
set_option linter.unusedVariables false
theorem vlB_n {stars : Int} {xs : List Lk} (h : vlB stars xs = true) : ∃ n : Nat, stars = n ∧ 1 ≤ n ∧ n ≤ 10 ∧ xs.length ≤ 12 ∧ ∀ (k : Nat) (p : Lk), xs[k]? = some p → 0 ≤ p.a ∧ p.a < p.b ∧ p.b < n ∧ -5000 ≤ p.d ∧ p.d ≤ 5000 := by
  simp only [vlB, Bool.and_eq_true, inB_true, decide_eq_true_eq, List.all_eq_true] at h
  refine ⟨stars.toNat, by omega, by omega, by omega, h.2.1, fun k p hp => ?_⟩
  have := h.2.2 p (List.mem_of_getElem? hp)
  simp only [lkB, Bool.and_eq_true, decide_eq_true_eq, inB_true] at this
  omega
def cwC (stars : Int) (xs : List Lk) : Int := if vlB stars xs = true then 0 else 1
def cwV (stars : Int) (xs : List Lk) : Int := if vlB stars xs = true then (FW stars.toNat xs).m else 0
def fewV (stars : Int) (xs : List Lk) : List Int := if vlB stars xs = true then (FW stars.toNat xs).f else []
def susV (stars : Int) (xs : List Lk) : List Int := if vlB stars xs = true then (FW stars.toNat xs).s else []
set_option maxRecDepth 20000 in
set_option maxHeartbeats 2000000 in
theorem specCountWrong_any (stars : Int) (A : Option Addr) (c : Nat) (xs : List Lk) (w : World) (h : Rd encLk 3 w w.heap.size A xs) (hn : xs.length ≤ 1048576) :
    Calls Try.prog 8 #[.int .i64 stars, .slice A xs.length c] w (fun e w' => e = .returned (.tuple #[.int .i64 (cwV stars xs), .int .i64 (cwC stars xs)]) ∧ Below w.heap.size w w') := by
  have C1 := l20Ok_any stars A c xs w h hn
  cases hv : vlB stars xs
  · rw [hv] at C1
    have HV : Hid (cwV stars xs = 0) := hid (by simp [cwV, hv])
    have HC : Hid (cwC stars xs = 1) := hid (by simp [cwC, hv])
    go_enter Try.func8, Try.ntmps8
    go_wp2_with (go_at_call 25; refine C1.mono ?_; rintro e w1 ⟨rfl, hb1⟩)
    go_ret2
    exact ⟨by rw [HV.out, HC.out]; rfl, hb1⟩
  · rw [hv] at C1
    obtain ⟨n, rfl, n1, n2, hl, V⟩ := vlB_n hv
    have V := hid V
    have HV : Hid (cwV (n : Int) xs = (FW n xs).m) := hid (by simp [cwV, hv])
    have HC : Hid (cwC (n : Int) xs = 0) := hid (by simp [cwC, hv])
    clear hv
    go_enter Try.func8, Try.ntmps8
    go_wp2_with (first | (go_at_call 25; refine C1.mono ?_; rintro e w1 ⟨rfl, hb1⟩) | (go_at_call 26; refine (l20Find_any n A c xs _ n1 n2 hl V ((h.below hb1 (Nat.le_refl _)).more hb1.size)).mono ?_; rintro e w2 ⟨p, rfl, ⟨AF, cF, AU, cU, S⟩, hb2⟩; have x0 := S.c4; have zp := S.lp))
    go_ret2
    exact ⟨by rw [HV.out, HC.out]; rfl, Below.tr hb2 hb1⟩
set_option maxRecDepth 20000 in
set_option maxHeartbeats 2000000 in
theorem specFewestWrong_any (stars : Int) (A : Option Addr) (c : Nat) (xs : List Lk) (w : World) (h : Rd encLk 3 w w.heap.size A xs) (hn : xs.length ≤ 1048576) :
    Calls Try.prog 18 #[.int .i64 stars, .slice A xs.length c] w (OwnTup 2 1 encI (fewV stars xs) (cwC stars xs) w) := by
  have C1 := l20Ok_any stars A c xs w h hn
  cases hv : vlB stars xs
  · rw [hv] at C1
    have HV : Hid (fewV stars xs = []) := hid (by simp [fewV, hv])
    have HC : Hid (cwC stars xs = 1) := hid (by simp [cwC, hv])
    go_enter Try.func18, Try.ntmps18
    go_wp2_with (go_at_call 25; refine C1.mono ?_; rintro e w1 ⟨rfl, hb1⟩)
    go_ret2
    exact ⟨none, 0, by rw [HV.out, HC.out]; rfl, by rw [HV.out]; exact World.ownsRow_nil _ _ _ _, hb1⟩
  · rw [hv] at C1
    obtain ⟨n, rfl, n1, n2, hl, V⟩ := vlB_n hv
    have V := hid V
    have HV : Hid (fewV (n : Int) xs = (FW n xs).f) := hid (by simp [fewV, hv])
    have HC : Hid (cwC (n : Int) xs = 0) := hid (by simp [cwC, hv])
    clear hv
    go_enter Try.func18, Try.ntmps18
    go_wp2_with (first | (go_at_call 25; refine C1.mono ?_; rintro e w1 ⟨rfl, hb1⟩) | (go_at_call 26; refine (l20Find_any n A c xs _ n1 n2 hl V ((h.below hb1 (Nat.le_refl _)).more hb1.size)).mono ?_; rintro e w2 ⟨p, rfl, ⟨AF, cF, AU, cU, S⟩, hb2⟩; have x0 := S.c2; have zp := S.lp))
    go_ret2
    exact ⟨AF, cF, by rw [HV.out, HC.out]; rfl, by rw [HV.out]; exact own_lo S.oF hb1.size, Below.tr hb2 hb1⟩
set_option maxRecDepth 20000 in
set_option maxHeartbeats 2000000 in
theorem specSuspectLinks_any (stars : Int) (A : Option Addr) (c : Nat) (xs : List Lk) (w : World) (h : Rd encLk 3 w w.heap.size A xs) (hn : xs.length ≤ 1048576) :
    Calls Try.prog 23 #[.int .i64 stars, .slice A xs.length c] w (OwnTup 2 1 encI (susV stars xs) (cwC stars xs) w) := by
  have C1 := l20Ok_any stars A c xs w h hn
  cases hv : vlB stars xs
  · rw [hv] at C1
    have HV : Hid (susV stars xs = []) := hid (by simp [susV, hv])
    have HC : Hid (cwC stars xs = 1) := hid (by simp [cwC, hv])
    go_enter Try.func23, Try.ntmps23
    go_wp2_with (go_at_call 25; refine C1.mono ?_; rintro e w1 ⟨rfl, hb1⟩)
    go_ret2
    exact ⟨none, 0, by rw [HV.out, HC.out]; rfl, by rw [HV.out]; exact World.ownsRow_nil _ _ _ _, hb1⟩
  · rw [hv] at C1
    obtain ⟨n, rfl, n1, n2, hl, V⟩ := vlB_n hv
    have V := hid V
    have HV : Hid (susV (n : Int) xs = (FW n xs).s) := hid (by simp [susV, hv])
    have HC : Hid (cwC (n : Int) xs = 0) := hid (by simp [cwC, hv])
    clear hv
    go_enter Try.func23, Try.ntmps23
    go_wp2_with (first | (go_at_call 25; refine C1.mono ?_; rintro e w1 ⟨rfl, hb1⟩) | (go_at_call 26; refine (l20Find_any n A c xs _ n1 n2 hl V ((h.below hb1 (Nat.le_refl _)).more hb1.size)).mono ?_; rintro e w2 ⟨p, rfl, ⟨AF, cF, AU, cU, S⟩, hb2⟩; have x0 := S.c3; have zp := S.lp))
    go_ret2
    exact ⟨AU, cU, by rw [HV.out, HC.out]; rfl, by rw [HV.out]; exact own_lo S.oU hb1.size, Below.tr hb2 hb1⟩
end Go.Proofs.Ytalongdieglibaa
