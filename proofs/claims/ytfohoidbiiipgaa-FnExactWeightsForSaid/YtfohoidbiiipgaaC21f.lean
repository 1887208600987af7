/- Contracts: the weights of magnitudes, in the program and in the reference. -/
import Derived.Test.YtfohoidbiiipgaaC21d
namespace Go.Proofs.Ytfohoidbiiipgaa
open Go.RowKit
set_option linter.unusedVariables false
def wfV (xs : List Int) : List Int := if smC xs = 0 then (awL xs).map (wt1 (madI xs)) else []
theorem wfV_len (xs : List Int) : (wfV xs).length ≤ xs.length := by
  unfold wfV awL; split <;> simp
theorem rd_kept {W w2 : World} {ob : Obj} {v : Value} {g B : Nat} {ys : List Int} (r : Rd encI 1 W B (some ⟨g, 0, none⟩) ys) (hg : (W.alloc ob).grownBy w2 v.ownBlock) (ag : v.ownBlock ≠ some g) (hlt : g < W.heap.size) : Rd encI 1 w2 w2.heap.size (some ⟨g, 0, none⟩) ys := fun hx => by
  obtain ⟨b, o, e1, e2, e3⟩ := r hx
  cases e1
  have := hg.size
  simp at this
  exact ⟨g, 0, rfl, by omega, fun i x hi j u hj => grow_box hg ag hlt (e3 i x hi j u hj)⟩
set_option maxRecDepth 20000 in
set_option maxHeartbeats 4000000 in
theorem specWeightsFor_any (A : Option Addr) (c : Nat) (xs : List Int) (w : World) (h : Rd encI 1 w w.heap.size A xs) (hn : xs.length ≤ 1048576) :
    Calls Try.prog 11 #[.slice A xs.length c] w (OwnTup 2 1 encI (wfV xs) (smC xs) w) := by
  by_cases hc : smC xs = 0
  rotate_left
  · have HN : (smC xs != 0) = true := by simp [hc]
    have HV : Hid (wfV xs = []) := hid (if_neg hc)
    clear hc
    go_enter Try.func11, Try.ntmps11
    go_wp2_with fail
    refine (l21Some_any A c xs _ h hn).mono ?_
    rintro e w1 ⟨rfl, hb1⟩
    go_wp2
    go_ret2
    exact ⟨none, 0, by rw [HV.out]; rfl, by rw [HV.out]; exact World.ownsRow_nil _ _ _ _, hb1⟩
  obtain ⟨hm, hne⟩ := smC_zero hc
  obtain ⟨hl, hx⟩ := magsB_true hm
  have hr : ∀ x ∈ xs, -2000 ≤ x ∧ x ≤ 20000 := fun x hxm => by obtain ⟨k, hk⟩ := List.mem_iff_getElem?.1 hxm; exact hx k x hk
  have hM := medI_in hne hr
  have hD := madI_in hne hr
  have C1 : ∀ W, Below w.heap.size w W → Calls Try.prog 23 #[.slice A xs.length c] W fun e w' => e = .returned (.int .i64 (medI xs)) ∧ Below W.heap.size W w' := fun W hW => l02Median_any A c xs W ((h.below hW (Nat.le_refl _)).more hW.size) hne (by omega) (fun x hx => by have := hr x hx; omega)
  have C2 : ∀ W, Below w.heap.size w W → Calls Try.prog 20 #[.slice A xs.length c] W fun e w' => e = .returned (.int .i64 (madI xs)) ∧ Below W.heap.size W w' := fun W hW => l21Median_any A c xs W ((h.below hW (Nat.le_refl _)).more hW.size) hne hl hr
  have HV : Hid (wfV xs = (awL xs).map (wt1 (madI xs))) := hid (if_pos hc)
  have HC := hid hc
  have HAW : Hid (awL xs = xs.map fun x => absI (x - medI xs)) := hid rfl
  have HR := hid hr
  clear hc hm hx hr
  generalize medI xs = M at *
  generalize madI xs = D at *
  obtain ⟨i0, hi0, iz0, iz1, iz2⟩ := info_parts (P := Try.prog) (e := 2) (z := .int .i64 0) (size := 1) (bytes := 8) (by kernel_rfl)
  go_enter Try.func11, Try.ntmps11
  go_wp2_with fail
  refine (l21Some_any A c xs _ h hn).mono ?_
  rw [HC.out]
  rintro e w1 ⟨rfl, hb1⟩
  go_wp2_with fail
  refine (C1 _ hb1).mono ?_
  rintro e w2 ⟨rfl, hb2⟩
  have hb2' := Below.tr hb2 hb1
  go_wp2_with fail
  refine (C2 _ hb2').mono ?_
  rintro e w3 ⟨rfl, hb3⟩
  have hb3' := Below.tr hb3 hb2'
  have o0 := hid (own_lit0 w3 2 1 (lo := w.heap.size) hb3'.size)
  have hb4 : Below w.heap.size w (w3.alloc (.cells #[] 2)) := hb3'.alloc hb3'.size _
  clear C1 C2 hb1 hb2 hb3 hb2' hb3'
  go_wp2_with fail
  generalize Value.slice (some ⟨w3.heap.size, 0, none⟩) 0 0 = v0 at *
  go_loopw [7, 8] (fun v i wr => ∃ k : Nat, k ≤ xs.length ∧ i = .int .i64 k ∧ Below w.heap.size w wr ∧ wr.ownsRow w.heap.size 2 1 v k (((xs.take k).map fun x => wt1 D (absI (x - M))).flatMap encI)) (fun _ i _ => xs.length - (intOf i).toNat)
  case atStart => exact ⟨0, Nat.zero_le _, rfl, hb4, o0.out⟩
  case round =>
    clear hb4 o0
    obtain ⟨k, hk, rfl, hb, hown⟩ := hrel
    by_cases hlt : k < xs.length
    · obtain ⟨p, hp⟩ := getx hlt
      obtain ⟨b, o, rfl, hbB, c0⟩ := (h.below hb (Nat.le_refl _)).at1 hp rfl
      have hsz := hb.size
      have hpr := HR.out p (List.mem_of_getElem? hp)
      have H0 := hid hown
      have HP := hid hp
      have a0 : 0 ≤ absI (p - M) := by unfold absI; omega
      have a1 : absI (p - M) ≤ 22000 := by unfold absI; omega
      clear hown hp
      by_cases g1 : absI (p - M) ≤ D
      · have hW : Hid (wt1 D (absI (p - M)) = 100) := hid (if_pos g1)
        have g1' : decide (absI (p - M) ≤ D) = true := by simpa using g1
        skip
        go_wp2_with (first | (go_at_call 24; refine (l02Size_any _ _ (by omega) (by omega)).mono ?_; rintro e w' ⟨rfl, rfl⟩) | (at_builtin; go_must (refine wpList_append_own _ rfl _ _ 22 rfl (w.heap.size) 2 i0 _ 1 8 Try.underlying22 hi0 iz0 iz1 iz2 rfl (by decide) _ _ _ rfl (H0.out.alloc _) ⟨(wr).heap.size, 0, none⟩ 1 1 [.int .i64 (100)] rfl rfl (news_at wr [.int .i64 (100)] 2) (by simp [Value.oneCell']) (by unfold maxLen; omega) (by omega) (by first | omega | (simp; done) | (simp; omega)) ?_); intro v2 w9 own_w9 grow_w9 _))
        go_roundw
        case rel => exact ⟨k + 1, by omega, by go_num, Below.ap hb hb.size H0.out (Nat.le_refl _) grow_w9, by rw [List.take_add_one, HP.out, List.map_append]; simpa [encI, hW.out] using own_w9⟩
        case measure => simp [intOf]; omega
      · have g1' : decide (absI (p - M) ≤ D) = false := by simpa using g1
        by_cases g2 : absI (p - M) ≤ 10 * D
        · have hW : Hid (wt1 D (absI (p - M)) = (100 * D).tdiv (absI (p - M))) := hid (by unfold wt1; rw [if_neg g1, if_pos g2])
          have g2' : decide (absI (p - M) ≤ 10 * D) = true := by simpa using g2
          have n0 : ((absI (p - M)) == 0) = false := by simp; omega
          have n1 : ((absI (p - M)) == -1) = false := by simp; omega
          have nb := tdiv_bd (100 * D) (absI (p - M)) (by omega) (by omega) (by omega)
          skip
          go_wp2_with (first | (go_at_call 24; refine (l02Size_any _ _ (by omega) (by omega)).mono ?_; rintro e w' ⟨rfl, rfl⟩) | (at_builtin; go_must (refine wpList_append_own _ rfl _ _ 22 rfl (w.heap.size) 2 i0 _ 1 8 Try.underlying22 hi0 iz0 iz1 iz2 rfl (by decide) _ _ _ rfl (H0.out.alloc _) ⟨(wr).heap.size, 0, none⟩ 1 1 [.int .i64 ((100 * D).tdiv (absI (p - M)))] rfl rfl (news_at wr [.int .i64 ((100 * D).tdiv (absI (p - M)))] 2) (by simp [Value.oneCell']) (by unfold maxLen; omega) (by omega) (by first | omega | (simp; done) | (simp; omega)) ?_); intro v2 w9 own_w9 grow_w9 _))
          go_roundw
          case rel => exact ⟨k + 1, by omega, by go_num, Below.ap hb hb.size H0.out (Nat.le_refl _) grow_w9, by rw [List.take_add_one, HP.out, List.map_append]; simpa [encI, hW.out] using own_w9⟩
          case measure => simp [intOf]; omega
        · have hW : Hid (wt1 D (absI (p - M)) = 0) := hid (by unfold wt1; rw [if_neg g1, if_neg g2])
          have g2' : decide (absI (p - M) ≤ 10 * D) = false := by simpa using g2
          skip
          go_wp2_with (first | (go_at_call 24; refine (l02Size_any _ _ (by omega) (by omega)).mono ?_; rintro e w' ⟨rfl, rfl⟩) | (at_builtin; go_must (refine wpList_append_own _ rfl _ _ 22 rfl (w.heap.size) 2 i0 _ 1 8 Try.underlying22 hi0 iz0 iz1 iz2 rfl (by decide) _ _ _ rfl (H0.out.alloc _) ⟨(wr).heap.size, 0, none⟩ 1 1 [.int .i64 (0)] rfl rfl (news_at wr [.int .i64 (0)] 2) (by simp [Value.oneCell']) (by unfold maxLen; omega) (by omega) (by first | omega | (simp; done) | (simp; omega)) ?_); intro v2 w9 own_w9 grow_w9 _))
          go_roundw
          case rel => exact ⟨k + 1, by omega, by go_num, Below.ap hb hb.size H0.out (Nat.le_refl _) grow_w9, by rw [List.take_add_one, HP.out, List.map_append]; simpa [encI, hW.out] using own_w9⟩
          case measure => simp [intOf]; omega
    · obtain rfl : k = xs.length := by omega
      have H0 := hid hown
      obtain ⟨Ar, cr, rfl⟩ := own_shape hown
      have HV2 : Hid (wfV xs = xs.map fun x => wt1 D (absI (x - M))) := hid (by rw [HV.out, HAW.out, List.map_map]; rfl)
      clear hown
      go_wp2
      go_ret2
      exact ⟨Ar, cr, by rw [HV2.out, HC.out, List.length_map]; rfl, by rw [HV2.out, List.length_map]; have := H0.out; rwa [List.take_length] at this, hb⟩
set_option maxRecDepth 20000 in
set_option maxHeartbeats 4000000 in
theorem implWeightsFor_any (A : Option Addr) (c : Nat) (xs : List Int) (w : World) (h : Rd encI 1 w w.heap.size A xs) (hn : xs.length ≤ 1048576) :
    Calls Try.prog 12 #[.slice A xs.length c] w (OwnTup 2 1 encI (wfV xs) (smC xs) w) := by
  by_cases hc : smC xs = 0
  rotate_left
  · have HN : (smC xs != 0) = true := by simp [hc]
    have HV : Hid (wfV xs = []) := hid (if_neg hc)
    clear hc
    go_enter Try.func12, Try.ntmps12
    go_wp2_with fail
    refine (someMags_any A c xs _ h hn).mono ?_
    rintro e w1 ⟨rfl, hb1⟩
    go_wp2
    go_ret2
    exact ⟨none, 0, by rw [HV.out]; rfl, by rw [HV.out]; exact World.ownsRow_nil _ _ _ _, hb1⟩
  obtain ⟨hm, hne⟩ := smC_zero hc
  obtain ⟨hl, hx⟩ := magsB_true hm
  have hr : ∀ x ∈ xs, -2000 ≤ x ∧ x ≤ 20000 := fun x hxm => by obtain ⟨k, hk⟩ := List.mem_iff_getElem?.1 hxm; exact hx k x hk
  have hM := medI_in hne hr
  have hD := madI_in hne hr
  have C1 : ∀ W, Below w.heap.size w W → Calls Try.prog 26 #[.slice A xs.length c] W fun e w' => e = .returned (.int .i64 (medI xs)) ∧ Below W.heap.size W w' := fun W hW => median_any A c xs W ((h.below hW (Nat.le_refl _)).more hW.size) hne (by omega) (fun x hx => by have := hr x hx; omega)
  have C2 : ∀ W, Below w.heap.size w W → Calls Try.prog 22 #[.slice A xs.length c] W fun e w' => e = .returned (.int .i64 (madI xs)) ∧ Below W.heap.size W w' := fun W hW => medianDeviation_any A c xs W ((h.below hW (Nat.le_refl _)).more hW.size) hne hl hr
  have hxb : ∀ (k : Nat) (p : Int), xs[k]? = some p → -1000000000000000000 ≤ p ∧ p ≤ 1000000000000000000 := fun k p hp => by have := hx k p hp; omega
  have C3 : ∀ W, Below w.heap.size w W → Calls Try.prog 25 #[.slice A xs.length c, .int .i64 (medI xs)] W (OwnRes 2 1 encI (awL xs) W) := fun W hW => distances_any A c xs (medI xs) W ((h.below hW (Nat.le_refl _)).more hW.size) (by omega) hxb (by omega) (by omega)
  have ha := hid (awL_in hne hr)
  have hla : (awL xs).length = xs.length := List.length_map ..
  have hl1 : (awL xs).length ≤ 100 := by omega
  have HLA := hid hla
  clear hxb hla
  have HV : Hid (wfV xs = (awL xs).map (wt1 (madI xs))) := hid (if_pos hc)
  have HC := hid hc
  have HAW : Hid (awL xs = xs.map fun x => absI (x - medI xs)) := hid rfl
  have HR := hid hr
  clear hc hm hx hr
  generalize medI xs = M at *
  generalize madI xs = D at *
  generalize awL xs = Y at *
  obtain ⟨i0, hi0, iz0, iz1, iz2⟩ := info_parts (P := Try.prog) (e := 2) (z := .int .i64 0) (size := 1) (bytes := 8) (by kernel_rfl)
  go_enter Try.func12, Try.ntmps12
  go_wp2_with fail
  refine (someMags_any A c xs _ h hn).mono ?_
  rw [HC.out]
  rintro e w1 ⟨rfl, hb1⟩
  go_wp2_with fail
  refine (C2 _ hb1).mono ?_
  rintro e w2 ⟨rfl, hb2⟩
  have hb2' := Below.tr hb2 hb1
  have o0 : (w2.alloc (.cells #[] 2)).ownsRow w.heap.size 2 1 (.slice (some ⟨w2.heap.size, 0, none⟩) 0 0) 0 [] := own_lit0 w2 2 1 hb2'.size
  have hb3 : Below w.heap.size w (w2.alloc (.cells #[] 2)) := hb2'.alloc hb2'.size _
  go_wp2_with fail
  refine (C1 _ hb3).mono ?_
  rintro e w4 ⟨rfl, hb4⟩
  have hb4' := Below.tr hb4 hb3
  have o4 := own_below o0 hb4 (Nat.le_refl _)
  go_wp2_with fail
  refine (C3 _ hb4').mono ?_
  rintro e w5 ⟨Ay, cy, rfl, oy, hb5⟩
  have ry := rd_of_own (enc := encI) (k := 1) (fun _ => rfl) oy
  have hb5' := Below.tr hb5 hb4'
  have o5 := hid (own_below o4 hb5 (Nat.le_refl _))
  obtain ⟨gy, rfl, gy1, gy2⟩ := own_form oy (by have := HLA.out; omega)
  have ne5 : (Value.slice (some ⟨w2.heap.size, 0, none⟩) 0 0).ownBlock ≠ some gy := by have := hb4.size; simp at this; simp [Value.ownBlock]; omega
  clear C1 C2 C3 oy o4 o0 hb1 hb2 hb3 hb4 hb5 hb2' hb4'
  go_wp2_with fail
  generalize Value.slice (some ⟨w2.heap.size, 0, none⟩) 0 0 = v0 at *
  go_loopw [6, 22] (fun v i wr => ∃ k : Nat, k ≤ Y.length ∧ i = .int .i64 k ∧ Below w.heap.size w wr ∧ Rd encI 1 wr wr.heap.size (some ⟨gy, 0, none⟩) Y ∧ gy < wr.heap.size ∧ v.ownBlock ≠ some gy ∧ Hid (wr.ownsRow w.heap.size 2 1 v k (((Y.take k).map (wt1 D)).flatMap encI))) (fun _ i _ => Y.length - (intOf i).toNat)
  case atStart => exact ⟨0, Nat.zero_le _, rfl, hb5', ry, gy2, ne5, o5⟩
  case round =>
    clear o5 ne5 ry gy1 gy2 hb5'
    obtain ⟨k, hk, rfl, hb, ry, zy, ne, H0⟩ := hrel
    have hsz := hb.size
    by_cases hlt : k < Y.length
    · obtain ⟨p, hp⟩ := getx hlt
      obtain ⟨b, o, eb, hbB, c0⟩ := ry.at1 hp rfl
      simp at eb; obtain ⟨rfl, rfl⟩ := eb
      rw [Nat.zero_add] at c0
      have hpr := ha.out p (List.mem_of_getElem? hp)
      have HP := hid hp
      have NE := hid ne
      clear hp ne
      by_cases g1 : p ≤ D
      · have hW : Hid (wt1 D (p) = 100) := hid (if_pos g1)
        have g1' : decide (p ≤ D) = true := by simpa using g1
        skip
        go_wp2_with (first | (at_builtin; go_must (refine wpList_append_own_at _ rfl _ _ 22 rfl (w.heap.size) 2 i0 _ 1 8 Try.underlying22 hi0 iz0 iz1 iz2 rfl (by decide) _ _ _ rfl (H0.out.alloc _) ⟨(wr).heap.size, 0, none⟩ 1 1 [.int .i64 (100)] rfl rfl (news_at wr [.int .i64 (100)] 2) (by simp [Value.oneCell']) (by unfold maxLen; omega) (by omega) (by first | omega | (simp; done) | (simp; omega)) ?_); intro v2 w9 own_w9 grow_w9 _ at_w9))
        go_roundw
        case rel => exact ⟨k + 1, by omega, by go_num, Below.ap hb hb.size H0.out (Nat.le_refl _) grow_w9, rd_kept ry grow_w9 NE.out zy, Nat.lt_of_lt_of_le zy (Nat.le_trans (by simp) grow_w9.size), grow_ne at_w9 NE.out zy, hid (by rw [List.take_add_one, HP.out, List.map_append]; simpa [encI, hW.out] using own_w9)⟩
        case measure => simp [intOf]; omega
      · have g1' : decide (p ≤ D) = false := by simpa using g1
        by_cases g2 : p ≤ 10 * D
        · have hW : Hid (wt1 D (p) = (100 * D).tdiv (p)) := hid (by unfold wt1; rw [if_neg g1, if_pos g2])
          have g2' : decide (p ≤ 10 * D) = true := by simpa using g2
          have n0 : ((p) == 0) = false := by simp; omega
          have n1 : ((p) == -1) = false := by simp; omega
          have nb := tdiv_bd (100 * D) (p) (by omega) (by omega) (by omega)
          skip
          go_wp2_with (first | (at_builtin; go_must (refine wpList_append_own_at _ rfl _ _ 22 rfl (w.heap.size) 2 i0 _ 1 8 Try.underlying22 hi0 iz0 iz1 iz2 rfl (by decide) _ _ _ rfl (H0.out.alloc _) ⟨(wr).heap.size, 0, none⟩ 1 1 [.int .i64 ((100 * D).tdiv (p))] rfl rfl (news_at wr [.int .i64 ((100 * D).tdiv (p))] 2) (by simp [Value.oneCell']) (by unfold maxLen; omega) (by omega) (by first | omega | (simp; done) | (simp; omega)) ?_); intro v2 w9 own_w9 grow_w9 _ at_w9))
          go_roundw
          case rel => exact ⟨k + 1, by omega, by go_num, Below.ap hb hb.size H0.out (Nat.le_refl _) grow_w9, rd_kept ry grow_w9 NE.out zy, Nat.lt_of_lt_of_le zy (Nat.le_trans (by simp) grow_w9.size), grow_ne at_w9 NE.out zy, hid (by rw [List.take_add_one, HP.out, List.map_append]; simpa [encI, hW.out] using own_w9)⟩
          case measure => simp [intOf]; omega
        · have hW : Hid (wt1 D (p) = 0) := hid (by unfold wt1; rw [if_neg g1, if_neg g2])
          have g2' : decide (p ≤ 10 * D) = false := by simpa using g2
          skip
          go_wp2_with (first | (at_builtin; go_must (refine wpList_append_own_at _ rfl _ _ 22 rfl (w.heap.size) 2 i0 _ 1 8 Try.underlying22 hi0 iz0 iz1 iz2 rfl (by decide) _ _ _ rfl (H0.out.alloc _) ⟨(wr).heap.size, 0, none⟩ 1 1 [.int .i64 (0)] rfl rfl (news_at wr [.int .i64 (0)] 2) (by simp [Value.oneCell']) (by unfold maxLen; omega) (by omega) (by first | omega | (simp; done) | (simp; omega)) ?_); intro v2 w9 own_w9 grow_w9 _ at_w9))
          go_roundw
          case rel => exact ⟨k + 1, by omega, by go_num, Below.ap hb hb.size H0.out (Nat.le_refl _) grow_w9, rd_kept ry grow_w9 NE.out zy, Nat.lt_of_lt_of_le zy (Nat.le_trans (by simp) grow_w9.size), grow_ne at_w9 NE.out zy, hid (by rw [List.take_add_one, HP.out, List.map_append]; simpa [encI, hW.out] using own_w9)⟩
          case measure => simp [intOf]; omega
    · obtain rfl : k = Y.length := by omega
      obtain ⟨Ar, cr, rfl⟩ := own_shape H0.out
      have O := H0
      clear ne
      go_wp2
      go_ret2
      exact ⟨Ar, cr, by rw [HV.out, HC.out, List.length_map]; rfl, by rw [HV.out, List.length_map]; have := O.out; rwa [List.take_length] at this, hb⟩
end Go.Proofs.Ytfohoidbiiipgaa
