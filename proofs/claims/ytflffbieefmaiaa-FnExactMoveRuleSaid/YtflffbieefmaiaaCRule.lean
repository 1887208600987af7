/- Contracts of the laws' own helpers for rules and facts. -/
import Derived.Test.YtflffbieefmaiaaC1
import Derived.Test.YtflffbieefmaiaaCRuB
namespace Go.Proofs.Ytflffbieefmaiaa
open Go.RowKit
set_option linter.unusedVariables false
theorem toRule_any (us : ByteArray) (ufa : Int) (uta : Int) (ufp : Int) (utp : Int) (ush : Int) (w : World) :
    Calls Try.prog 14 #[.agg #[.string us, .int .i64 ufa, .int .i64 uta, .int .i64 ufp, .int .i64 utp, .int .i64 ush]] w fun e w' => e = .returned (.agg #[.string us, .int .i64 ufa, .int .i64 uta, .int .i64 ufp, .int .i64 utp, .int .i64 ush]) ∧ Below w.heap.size w w' := by
  go_enter Try.func14, Try.ntmps14
  go_wp2
  exact bodyPost_ret (v := .agg #[.string us, .int .i64 ufa, .int .i64 uta, .int .i64 ufp, .int .i64 utp, .int .i64 ush]) (by simp [results, Try.results14, go_sem]) rfl ⟨rfl, (by repeat (first | assumption | exact Below.refl _ _ | apply Below.al | apply Below.drewN' | apply Below.drew | (apply Below.tr; assumption)))⟩
theorem eqRule_same (us : ByteArray) (ufa : Int) (uta : Int) (ufp : Int) (utp : Int) (ush : Int) (w : World) :
    Calls Try.prog 21 #[.agg #[.string us, .int .i64 ufa, .int .i64 uta, .int .i64 ufp, .int .i64 utp, .int .i64 ush], .agg #[.string us, .int .i64 ufa, .int .i64 uta, .int .i64 ufp, .int .i64 utp, .int .i64 ush]] w fun e w' => e = .returned (.bool true) ∧ Below w.heap.size w w' := by
  go_enter Try.func21, Try.ntmps21
  go_wp2
  go_ret
  exact ⟨rfl, (by repeat (first | assumption | exact Below.refl _ _ | apply Below.al | apply Below.drewN' | apply Below.drew | (apply Below.tr; assumption)))⟩
theorem szRule_any (us : ByteArray) (ufa : Int) (uta : Int) (ufp : Int) (utp : Int) (ush : Int) (left : Int) (w : World) (hs : us.size ≤ maxLen) (h0 : 0 ≤ left) (h1 : left ≤ 1048576) :
    Calls Try.prog 11 #[.agg #[.string us, .int .i64 ufa, .int .i64 uta, .int .i64 ufp, .int .i64 utp, .int .i64 ush], .int .i64 left] w fun e w' => e = .returned (.int .i64 (szI left us.size)) ∧ Below w.heap.size w w' := by
  unfold maxLen at hs
  by_cases h : left < us.size
  · have HE : Hid (szI left us.size = -1) := if_pos h
    go_enter Try.func11, Try.ntmps11
    go_wp2
    go_ret
    exact ⟨ret_int HE.out.symm, (by repeat (first | assumption | exact Below.refl _ _ | apply Below.al | apply Below.drewN' | apply Below.drew | (apply Below.tr; assumption)))⟩
  · have HE : Hid (szI left us.size = left - us.size) := if_neg h
    go_enter Try.func11, Try.ntmps11
    go_wp2
    go_ret
    exact ⟨ret_int HE.out.symm, (by repeat (first | assumption | exact Below.refl _ _ | apply Below.al | apply Below.drewN' | apply Below.drew | (apply Below.tr; assumption)))⟩
theorem szRule_ok (us : ByteArray) (ufa : Int) (uta : Int) (ufp : Int) (utp : Int) (ush : Int) (left : Int) (w : World) (hs : us.size ≤ left) (h0 : 0 ≤ left) (h1 : left ≤ 1048576) :
    Calls Try.prog 11 #[.agg #[.string us, .int .i64 ufa, .int .i64 uta, .int .i64 ufp, .int .i64 utp, .int .i64 ush], .int .i64 left] w fun e w' => e = .returned (.int .i64 (left - us.size)) ∧ Below w.heap.size w w' := by
  have t := szRule_any us ufa uta ufp utp ush left w (by unfold maxLen; omega) h0 h1
  rw [show szI left us.size = left - us.size from if_neg (by omega)] at t
  exact t
theorem szRule_big (us : ByteArray) (ufa : Int) (uta : Int) (ufp : Int) (utp : Int) (ush : Int) (left : Int) (w : World) (hs : us.size ≤ maxLen) (hb : left < us.size) (h0 : 0 ≤ left) (h1 : left ≤ 1048576) :
    Calls Try.prog 11 #[.agg #[.string us, .int .i64 ufa, .int .i64 uta, .int .i64 ufp, .int .i64 utp, .int .i64 ush], .int .i64 left] w fun e w' => e = .returned (.int .i64 (-1)) ∧ Below w.heap.size w w' := by
  have t := szRule_any us ufa uta ufp utp ush left w hs h0 h1
  rw [show szI left us.size = -1 from if_pos hb] at t
  exact t
def sumRule (xs : List Ru) : Nat := (xs.map fun p => p.s.size).sum
def totRule (xs : List Ru) : Nat := xs.length + sumRule xs
theorem sumRule_take {xs : List Ru} {k : Nat} {p : Ru} (h : xs[k]? = some p) : sumRule (xs.take (k + 1)) = sumRule (xs.take k) + p.s.size := by
  unfold sumRule
  rw [List.take_add_one, h]
  simp
theorem sumRule_le (xs : List Ru) (k : Nat) : sumRule (xs.take k) ≤ sumRule xs := by
  have e : sumRule xs = sumRule (xs.take k) + sumRule (xs.drop k) := by
    unfold sumRule
    rw [← List.sum_append_nat, ← List.map_append, List.take_append_drop]
  omega
set_option maxHeartbeats 1000000 in
theorem szRuleS_ok (A : Option Addr) (c : Nat) (xs : List Ru) (left : Int) (w : World) (h : Rd encRu 6 w w.heap.size A xs) (hn : totRule xs ≤ left) (h1 : left ≤ 1048576) :
    Calls Try.prog 4 #[.slice A xs.length c, .int .i64 left] w fun e w' => e = .returned (.int .i64 (left - totRule xs)) ∧ Below w.heap.size w w' := by
  have HT : Hid (totRule xs = xs.length + sumRule xs) := rfl
  have hl : (xs.length : Int) ≤ left := by have := HT.out; omega
  go_enter Try.func4, Try.ntmps4
  go_wp2
  go_loopw [1, 5] (fun l i wr => ∃ k : Nat, k ≤ xs.length ∧ i = .int .i64 k ∧ l = .int .i64 (left - xs.length - sumRule (xs.take k)) ∧ Below w.heap.size w wr) (fun _ i _ => xs.length - (intOf i).toNat)
  case atStart => exact ⟨0, Nat.zero_le _, rfl, by simp [sumRule], (by repeat (first | assumption | exact Below.refl _ _ | apply Below.al | apply Below.drewN' | apply Below.drew | (apply Below.tr; assumption)))⟩
  case round =>
    obtain ⟨k, hk, rfl, rfl, hb⟩ := hrel
    by_cases hlt : k < xs.length
    · obtain ⟨p, hp⟩ := getx hlt
      obtain ⟨b, o, rfl, hbB, c0, c1, c2, c3, c4, c5⟩ := (h.below hb (Nat.le_refl _)).at6 hp rfl
      have hsz := hb.size
      have e1 := sumRule_take hp
      have e2 := sumRule_le xs (k + 1)
      have g1 : ((p.s.size : Nat) : Int) ≤ left - xs.length - sumRule (xs.take k) := by have := HT.out; omega
      have HE : Hid (szI (left - xs.length - sumRule (xs.take k)) p.s.size = left - xs.length - sumRule (xs.take (k + 1))) := by unfold Hid szI; rw [if_neg (by omega), e1]; omega
      have g2 : 0 ≤ left - xs.length - sumRule (xs.take (k + 1)) := by omega
      have g3 : 0 ≤ left - xs.length - sumRule (xs.take k) := by omega
      clear hp e1
      go_wp2_with fail
      refine (szRule_any p.s p.fa p.ta p.fp p.tp p.sh _ _ (by unfold maxLen; omega) g3 (by omega)).mono ?_
      rw [HE.out]
      rintro e w1 ⟨rfl, hb1⟩
      go_wp2
      go_roundw
      case rel => exact ⟨k + 1, by omega, by go_num, rfl, (by repeat (first | assumption | exact Below.refl _ _ | apply Below.al | apply Below.drewN' | apply Below.drew | (apply Below.tr; assumption)))⟩
      case measure => simp [intOf]; omega
    · obtain rfl : k = xs.length := by omega
      go_wp2
      go_ret
      exact ⟨ret_int (by have := HT.out; rw [List.take_length]; omega), hb⟩
set_option maxHeartbeats 1000000 in
theorem szRuleS_big (A : Option Addr) (c : Nat) (xs : List Ru) (left : Int) (w : World) (h : Rd encRu 6 w w.heap.size A xs) (wf : ∀ x ∈ xs, x.s.size ≤ maxLen) (hm : xs.length ≤ maxLen) (hn : left < totRule xs) (h0 : 0 ≤ left) (h1 : left ≤ 1048576) :
    Calls Try.prog 4 #[.slice A xs.length c, .int .i64 left] w fun e w' => e = .returned (.int .i64 (-1)) ∧ Below w.heap.size w w' := by
  have HT : Hid (totRule xs = xs.length + sumRule xs) := rfl
  have WF := hid wf
  clear wf
  unfold maxLen at hm
  by_cases hl : left < xs.length
  · go_enter Try.func4, Try.ntmps4
    go_wp2
    go_ret
    exact ⟨rfl, (by repeat (first | assumption | exact Below.refl _ _ | apply Below.al | apply Below.drewN' | apply Below.drew | (apply Below.tr; assumption)))⟩
  · go_enter Try.func4, Try.ntmps4
    go_wp2
    go_loopw [1, 5] (fun l i wr => ∃ k : Nat, k ≤ xs.length ∧ i = .int .i64 k ∧ l = .int .i64 (left - xs.length - sumRule (xs.take k)) ∧ 0 ≤ left - xs.length - sumRule (xs.take k) ∧ Below w.heap.size w wr) (fun _ i _ => xs.length - (intOf i).toNat)
    case atStart => exact ⟨0, Nat.zero_le _, rfl, by simp [sumRule], by simp [sumRule]; omega, (by repeat (first | assumption | exact Below.refl _ _ | apply Below.al | apply Below.drewN' | apply Below.drew | (apply Below.tr; assumption)))⟩
    case round =>
      obtain ⟨k, hk, rfl, rfl, g0, hb⟩ := hrel
      by_cases hlt : k < xs.length
      · obtain ⟨p, hp⟩ := getx hlt
        obtain ⟨b, o, rfl, hbB, c0, c1, c2, c3, c4, c5⟩ := (h.below hb (Nat.le_refl _)).at6 hp rfl
        have hsz := hb.size
        have e1 := sumRule_take hp
        have hs := WF.out p (List.mem_of_getElem? hp)
        by_cases g1 : ((p.s.size : Nat) : Int) ≤ left - xs.length - sumRule (xs.take k)
        · have HE : Hid (szI (left - xs.length - sumRule (xs.take k)) p.s.size = left - xs.length - sumRule (xs.take (k + 1))) := by unfold Hid szI; rw [if_neg (by omega), e1]; omega
          have g2 : 0 ≤ left - xs.length - sumRule (xs.take (k + 1)) := by omega
          clear hp e1
          go_wp2_with fail
          refine (szRule_any p.s p.fa p.ta p.fp p.tp p.sh _ _ hs g0 (by omega)).mono ?_
          rw [HE.out]
          rintro e w1 ⟨rfl, hb1⟩
          go_wp2
          go_roundw
          case rel => exact ⟨k + 1, by omega, by go_num, rfl, g2, (by repeat (first | assumption | exact Below.refl _ _ | apply Below.al | apply Below.drewN' | apply Below.drew | (apply Below.tr; assumption)))⟩
          case measure => simp [intOf]; omega
        · have HE : Hid (szI (left - xs.length - sumRule (xs.take k)) p.s.size = -1) := by unfold Hid szI; rw [if_pos (by omega)]
          clear hp e1
          go_wp2_with fail
          refine (szRule_any p.s p.fa p.ta p.fp p.tp p.sh _ _ hs g0 (by omega)).mono ?_
          rw [HE.out]
          rintro e w1 ⟨rfl, hb1⟩
          go_wp2
          go_ret
          exact ⟨rfl, (by repeat (first | assumption | exact Below.refl _ _ | apply Below.al | apply Below.drewN' | apply Below.drew | (apply Below.tr; assumption)))⟩
      · obtain rfl : k = xs.length := by omega
        exfalso
        rw [List.take_length] at g0
        have := HT.out
        omega
set_option maxHeartbeats 1000000 in
theorem toRuleS_any (A : Option Addr) (c : Nat) (xs : List Ru) (w : World) (h : Rd encRu 6 w w.heap.size A xs) (hn : xs.length ≤ 1048576) :
    Calls Try.prog 6 #[.slice A xs.length c] w (OwnRes 36 6 encRu xs w) := by
  obtain ⟨i0, hi0, iz0, iz1, iz2⟩ := info_parts (P := Try.prog) (e := 36) (z := .agg #[.string ByteArray.empty, .int .i64 0, .int .i64 0, .int .i64 0, .int .i64 0, .int .i64 0]) (size := 6) (bytes := 56) (by kernel_rfl)
  go_enter Try.func6, Try.ntmps6
  go_wp2_with (at_make; refine wpList_make_full _ rfl _ _ 24 rfl w.heap.size 36 i0 _ 6 Try.underlying24 hi0 iz0 iz1 _ _ _ _ xs.length rfl rfl rfl rfl (by rw [iz2]; omega) (by unfold maxLen; omega) (Nat.le_refl _) ?_; intro w1 hown1 hg1)
  have hb1 : Below w.heap.size w w1 := (Below.refl _ _).grown hg1 (Nat.le_refl _) (by simp)
  have iz1' : w.heap.size < w1.heap.size := (hown1.lt w.heap.size rfl).2
  clear hg1
  go_loopw [4] (fun i wr => ∃ k : Nat, k ≤ xs.length ∧ i = .int .i64 k ∧ Below w.heap.size w wr ∧ ∃ Z : List Value, Z.length = (xs.length - k) * 6 ∧
      wr.ownsRow w.heap.size 36 6 (.slice (some ⟨w.heap.size, 0, none⟩) xs.length xs.length) xs.length ((xs.take k).flatMap encRu ++ Z)) (fun i _ => xs.length - (intOf i).toNat)
  case atStart => exact ⟨0, Nat.zero_le _, rfl, hb1, _, by rw [Nat.sub_zero]; exact hown1.1, by simpa using hown1⟩
  case round =>
    clear hown1 hb1 iz1'
    obtain ⟨k, hk, rfl, hb, Z, hZ, hown⟩ := hrel
    by_cases hlt : k < xs.length
    · obtain ⟨p, hp⟩ := getx hlt
      obtain ⟨b, o, rfl, hbB, c0, c1, c2, c3, c4, c5⟩ := (h.below hb (Nat.le_refl _)).at6 hp rfl
      have HP : Hid (xs[k]? = some p) := hp
      clear hp
      obtain ⟨z0, z1, z2, z3, z4, z5, R, rfl, hR⟩ : ∃ z0 z1 z2 z3 z4 z5 R, Z = z0 :: z1 :: z2 :: z3 :: z4 :: z5 :: R ∧ R.length = (xs.length - (k + 1)) * 6 := by
        match Z, hZ with
        | z0 :: z1 :: z2 :: z3 :: z4 :: z5 :: R, hZ => exact ⟨z0, z1, z2, z3, z4, z5, R, rfl, by simp at hZ; omega⟩
        | [], hZ => simp at hZ; omega
        | [_], hZ => simp at hZ; omega
        | [_, _], hZ => simp at hZ; omega
        | [_, _, _], hZ => simp at hZ; omega
        | [_, _, _, _], hZ => simp at hZ; omega
        | [_, _, _, _, _], hZ => simp at hZ; omega
      clear hZ
      have hfl : ((xs.take k).flatMap encRu).length = k * 6 := by rw [flat_len (k := 6) (fun _ => rfl), List.length_take, Nat.min_eq_left hk]
      have H0 := hid hown
      clear hown
      go_wp2_with fail
      refine (toRule_any _ _ _ _ _ _ _).mono ?_
      rintro e w2 ⟨rfl, hb2⟩
      have hown2 := own_below H0.out hb2 (Nat.le_refl _)
      have hbb := hb.trans (hb2.mono hb.size)
      have d0 : w2.cell? ⟨w.heap.size, k * 6, none⟩ = some z0 := by (have := hown2.cellAt (k * 6 + 0) (by omega); rw [List.getElem?_append_right (by omega)] at this; simpa [hfl] using this)
      have d1 : w2.cell? ⟨w.heap.size, k * 6 + 1, none⟩ = some z1 := by (have := hown2.cellAt (k * 6 + 1) (by omega); rw [List.getElem?_append_right (by omega)] at this; simpa [hfl] using this)
      have d2 : w2.cell? ⟨w.heap.size, k * 6 + 2, none⟩ = some z2 := by (have := hown2.cellAt (k * 6 + 2) (by omega); rw [List.getElem?_append_right (by omega)] at this; simpa [hfl] using this)
      have d3 : w2.cell? ⟨w.heap.size, k * 6 + 3, none⟩ = some z3 := by (have := hown2.cellAt (k * 6 + 3) (by omega); rw [List.getElem?_append_right (by omega)] at this; simpa [hfl] using this)
      have d4 : w2.cell? ⟨w.heap.size, k * 6 + 4, none⟩ = some z4 := by (have := hown2.cellAt (k * 6 + 4) (by omega); rw [List.getElem?_append_right (by omega)] at this; simpa [hfl] using this)
      have d5 : w2.cell? ⟨w.heap.size, k * 6 + 5, none⟩ = some z5 := by (have := hown2.cellAt (k * 6 + 5) (by omega); rw [List.getElem?_append_right (by omega)] at this; simpa [hfl] using this)
      have f0 : w2.frozen? ⟨w.heap.size, k * 6, none⟩ = false := hown2.frozenAt _
      have f1 : w2.frozen? ⟨w.heap.size, k * 6 + 1, none⟩ = false := hown2.frozenAt _
      have f2 : w2.frozen? ⟨w.heap.size, k * 6 + 2, none⟩ = false := hown2.frozenAt _
      have f3 : w2.frozen? ⟨w.heap.size, k * 6 + 3, none⟩ = false := hown2.frozenAt _
      have f4 : w2.frozen? ⟨w.heap.size, k * 6 + 4, none⟩ = false := hown2.frozenAt _
      have f5 : w2.frozen? ⟨w.heap.size, k * 6 + 5, none⟩ = false := hown2.frozenAt _
      have H1 := hid hown2
      clear hown2
      go_wp2
      go_roundw
      case rel => exact ⟨k + 1, by omega, by go_num, (Below.sc (Below.sc (Below.sc (Below.sc (Below.sc (Below.sc hbb (Nat.le_refl _) _) (Nat.le_refl _) _) (Nat.le_refl _) _) (Nat.le_refl _) _) (Nat.le_refl _) _) (Nat.le_refl _) _), R, by omega, by rw [flat_take HP.out, List.append_assoc]; exact own_set6 H1.out hfl.symm (.string p.s) (.int .i64 p.fa) (.int .i64 p.ta) (.int .i64 p.fp) (.int .i64 p.tp) (.int .i64 p.sh)⟩
      case measure => simp [intOf]; omega
    · obtain rfl : k = xs.length := by omega
      have hZ0 : Z = [] := List.eq_nil_of_length_eq_zero (by simpa using hZ)
      subst hZ0
      have H0 := hid hown
      clear hown
      go_wp2
      go_ret
      exact ⟨_, _, rfl, by have := H0.out; simpa using this, hb⟩
set_option maxHeartbeats 1000000 in
theorem eqRuleS_same (A A' : Option Addr) (c c' : Nat) (xs : List Ru) (w : World) (h : Rd encRu 6 w w.heap.size A xs) (h' : Rd encRu 6 w w.heap.size A' xs) (hn : xs.length ≤ 1048576) :
    Calls Try.prog 8 #[.slice A xs.length c, .slice A' xs.length c'] w fun e w' => e = .returned (.bool true) ∧ Below w.heap.size w w' := by
  go_enter Try.func8, Try.ntmps8
  go_wp2
  go_loopw [5] (fun i wr => ∃ k : Nat, k ≤ xs.length ∧ i = .int .i64 k ∧ Below w.heap.size w wr) (fun i _ => xs.length - (intOf i).toNat)
  case atStart => exact ⟨0, Nat.zero_le _, rfl, Below.refl _ _⟩
  case round =>
    obtain ⟨k, hk, rfl, hb⟩ := hrel
    by_cases hlt : k < xs.length
    · obtain ⟨p, hp⟩ := getx hlt
      obtain ⟨b, o, rfl, hbB, c0, c1, c2, c3, c4, c5⟩ := (h.below hb (Nat.le_refl _)).at6 hp rfl
      obtain ⟨b', o', rfl, hbB', d0, d1, d2, d3, d4, d5⟩ := (h'.below hb (Nat.le_refl _)).at6 hp rfl
      clear hp
      have hsz := hb.size
      have b0 : b < wr.heap.size := by omega
      have b1 : b' < wr.heap.size := by omega
      go_wp2
      refine wp_region_ext (by kernel_rfl) (by kernel_rfl) ?_
      repeat (go_big_quiet_step ((first | (go_at_call 21; exact ext_below (eqRule_same _ _ _ _ _ _ _)))))
      refine wpQuiet_nil ?_
      intro w3 hb3
      obtain ⟨hc_w3, hf_w3⟩ := bcell hb3
      have hz_w3 := hb3.size
      go_wp2
      go_roundw
      case rel => exact ⟨k + 1, by omega, by go_num, (by repeat (first | assumption | exact Below.refl _ _ | apply Below.al | apply Below.drewN' | apply Below.drew | (apply Below.tr; assumption)))⟩
      case measure => simp [intOf]; omega
    · go_wp2
      go_ret
      exact ⟨rfl, (by repeat (first | assumption | exact Below.refl _ _ | apply Below.al | apply Below.drewN' | apply Below.drew | (apply Below.tr; assumption)))⟩
