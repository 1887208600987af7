/- Contracts of the law's own helpers for links: copying, comparing, counting. -/
import Derived.Test.YtalongdieglibaaC1
namespace Go.Proofs.Ytalongdieglibaa
open Go.RowKit
set_option linter.unusedVariables false
theorem toLink_any (ua : Int) (ub : Int) (ud : Int) (w : World) :
    Calls Try.prog 27 #[.agg #[.int .i64 ua, .int .i64 ub, .int .i64 ud]] w fun e w' => e = .returned (.agg #[.int .i64 ua, .int .i64 ub, .int .i64 ud]) ∧ Below w.heap.size w w' := by
  go_enter Try.func27, Try.ntmps27
  go_wp2
  exact bodyPost_ret (v := .agg #[.int .i64 ua, .int .i64 ub, .int .i64 ud]) (by simp [results, Try.results27, go_sem]) rfl ⟨rfl, (by repeat (first | assumption | exact Below.refl _ _ | apply Below.al | apply Below.drewN' | apply Below.drew | (apply Below.tr; assumption)))⟩
theorem eqLink_same (ua : Int) (ub : Int) (ud : Int) (w : World) :
    Calls Try.prog 31 #[.agg #[.int .i64 ua, .int .i64 ub, .int .i64 ud], .agg #[.int .i64 ua, .int .i64 ub, .int .i64 ud]] w fun e w' => e = .returned (.bool true) ∧ Below w.heap.size w w' := by
  go_enter Try.func31, Try.ntmps31
  go_wp2
  go_ret
  exact ⟨rfl, (by repeat (first | assumption | exact Below.refl _ _ | apply Below.al | apply Below.drewN' | apply Below.drew | (apply Below.tr; assumption)))⟩
theorem szLinkS_ok (A : Option Addr) (n c : Nat) (left : Int) (w : World) (hn : n ≤ left) (h1 : left ≤ 1048576) :
    Calls Try.prog 7 #[.slice A n c, .int .i64 left] w fun e w' => e = .returned (.int .i64 (left - n)) ∧ w = w' := by
  go_enter Try.func7, Try.ntmps7
  go_wp2
  go_ret
  exact ⟨rfl, rfl⟩
theorem szLinkS_big (A : Option Addr) (n c : Nat) (left : Int) (w : World) (hm : n ≤ maxLen) (hn : left < n) (h0 : 0 ≤ left) (h1 : left ≤ 1048576) :
    Calls Try.prog 7 #[.slice A n c, .int .i64 left] w fun e w' => e = .returned (.int .i64 (-1)) ∧ w = w' := by
  unfold maxLen at hm
  go_enter Try.func7, Try.ntmps7
  go_wp2
  go_ret
  exact ⟨rfl, rfl⟩
set_option maxHeartbeats 1000000 in
theorem toLinkS_any (A : Option Addr) (c : Nat) (xs : List Lk) (w : World) (h : Rd encLk 3 w w.heap.size A xs) (hn : xs.length ≤ 1048576) :
    Calls Try.prog 9 #[.slice A xs.length c] w (OwnRes 47 3 encLk xs w) := by
  obtain ⟨i0, hi0, iz0, iz1, iz2⟩ := info_parts (P := Try.prog) (e := 47) (z := .agg #[.int .i64 0, .int .i64 0, .int .i64 0]) (size := 3) (bytes := 24) (by kernel_rfl)
  go_enter Try.func9, Try.ntmps9
  go_wp2_with (at_make; refine wpList_make_full _ rfl _ _ 26 rfl w.heap.size 47 i0 _ 3 Try.underlying26 hi0 iz0 iz1 _ _ _ _ xs.length rfl rfl rfl rfl (by rw [iz2]; omega) (by unfold maxLen; omega) (Nat.le_refl _) ?_; intro w1 hown1 hg1)
  have hb1 : Below w.heap.size w w1 := (Below.refl _ _).grown hg1 (Nat.le_refl _) (by simp)
  have iz1' : w.heap.size < w1.heap.size := (hown1.lt w.heap.size rfl).2
  clear hg1
  go_loopw [4] (fun i wr => ∃ k : Nat, k ≤ xs.length ∧ i = .int .i64 k ∧ Below w.heap.size w wr ∧ ∃ Z : List Value, Z.length = (xs.length - k) * 3 ∧
      wr.ownsRow w.heap.size 47 3 (.slice (some ⟨w.heap.size, 0, none⟩) xs.length xs.length) xs.length ((xs.take k).flatMap encLk ++ Z)) (fun i _ => xs.length - (intOf i).toNat)
  case atStart => exact ⟨0, Nat.zero_le _, rfl, hb1, _, by rw [Nat.sub_zero]; exact hown1.1, by simpa using hown1⟩
  case round =>
    clear hown1 hb1 iz1'
    obtain ⟨k, hk, rfl, hb, Z, hZ, hown⟩ := hrel
    by_cases hlt : k < xs.length
    · obtain ⟨p, hp⟩ := getx hlt
      obtain ⟨b, o, rfl, hbB, c0, c1, c2⟩ := (h.below hb (Nat.le_refl _)).at3 hp rfl
      have HP : Hid (xs[k]? = some p) := hp
      clear hp
      obtain ⟨z0, z1, z2, R, rfl, hR⟩ : ∃ z0 z1 z2 R, Z = z0 :: z1 :: z2 :: R ∧ R.length = (xs.length - (k + 1)) * 3 := by
        match Z, hZ with
        | z0 :: z1 :: z2 :: R, hZ => exact ⟨z0, z1, z2, R, rfl, by simp at hZ; omega⟩
        | [], hZ => simp at hZ; omega
        | [_], hZ => simp at hZ; omega
        | [_, _], hZ => simp at hZ; omega
      clear hZ
      have hfl : ((xs.take k).flatMap encLk).length = k * 3 := by rw [flat_len (k := 3) (fun _ => rfl), List.length_take, Nat.min_eq_left hk]
      have H0 := hid hown
      clear hown
      go_wp2_with fail
      refine (toLink_any _ _ _ _).mono ?_
      rintro e w2 ⟨rfl, hb2⟩
      have hown2 := own_below H0.out hb2 (Nat.le_refl _)
      have hbb := hb.trans (hb2.mono hb.size)
      have d0 : w2.cell? ⟨w.heap.size, k * 3, none⟩ = some z0 := by (have := hown2.cellAt (k * 3 + 0) (by omega); rw [List.getElem?_append_right (by omega)] at this; simpa [hfl] using this)
      have d1 : w2.cell? ⟨w.heap.size, k * 3 + 1, none⟩ = some z1 := by (have := hown2.cellAt (k * 3 + 1) (by omega); rw [List.getElem?_append_right (by omega)] at this; simpa [hfl] using this)
      have d2 : w2.cell? ⟨w.heap.size, k * 3 + 2, none⟩ = some z2 := by (have := hown2.cellAt (k * 3 + 2) (by omega); rw [List.getElem?_append_right (by omega)] at this; simpa [hfl] using this)
      have f0 : w2.frozen? ⟨w.heap.size, k * 3, none⟩ = false := hown2.frozenAt _
      have f1 : w2.frozen? ⟨w.heap.size, k * 3 + 1, none⟩ = false := hown2.frozenAt _
      have f2 : w2.frozen? ⟨w.heap.size, k * 3 + 2, none⟩ = false := hown2.frozenAt _
      have H1 := hid hown2
      clear hown2
      go_wp2
      go_roundw
      case rel => exact ⟨k + 1, by omega, by go_num, (Below.sc (Below.sc (Below.sc hbb (Nat.le_refl _) _) (Nat.le_refl _) _) (Nat.le_refl _) _), R, by omega, by rw [flat_take HP.out, List.append_assoc]; exact own_set3 H1.out hfl.symm (.int .i64 p.a) (.int .i64 p.b) (.int .i64 p.d)⟩
      case measure => simp [intOf]; omega
    · obtain rfl : k = xs.length := by omega
      have hZ0 : Z = [] := List.eq_nil_of_length_eq_zero (by simpa using hZ)
      subst hZ0
      have H0 := hid hown
      clear hown
      go_wp2
      go_ret
      exact ⟨_, _, rfl, by have := H0.out; simpa using this, hb⟩
set_option maxHeartbeats 1000000 in
theorem eqLinkS_same (A A' : Option Addr) (c c' : Nat) (xs : List Lk) (w : World) (h : Rd encLk 3 w w.heap.size A xs) (h' : Rd encLk 3 w w.heap.size A' xs) (hn : xs.length ≤ 1048576) :
    Calls Try.prog 11 #[.slice A xs.length c, .slice A' xs.length c'] w fun e w' => e = .returned (.bool true) ∧ Below w.heap.size w w' := by
  go_enter Try.func11, Try.ntmps11
  go_wp2
  go_loopw [5] (fun i wr => ∃ k : Nat, k ≤ xs.length ∧ i = .int .i64 k ∧ Below w.heap.size w wr) (fun i _ => xs.length - (intOf i).toNat)
  case atStart => exact ⟨0, Nat.zero_le _, rfl, Below.refl _ _⟩
  case round =>
    obtain ⟨k, hk, rfl, hb⟩ := hrel
    by_cases hlt : k < xs.length
    · obtain ⟨p, hp⟩ := getx hlt
      obtain ⟨b, o, rfl, hbB, c0, c1, c2⟩ := (h.below hb (Nat.le_refl _)).at3 hp rfl
      obtain ⟨b', o', rfl, hbB', d0, d1, d2⟩ := (h'.below hb (Nat.le_refl _)).at3 hp rfl
      clear hp
      have hsz := hb.size
      have b0 : b < wr.heap.size := by omega
      have b1 : b' < wr.heap.size := by omega
      go_wp2
      refine wp_region_ext (by kernel_rfl) (by kernel_rfl) ?_
      repeat (go_big_quiet_step ((first | (go_at_call 31; exact ext_below (eqLink_same _ _ _ _)))))
      refine wpQuiet_nil ?_
      intro w3 hb3
      obtain ⟨hc_w3, hf_w3⟩ := bcell hb3
      have hz_w3 := hb3.size
      go_wp2
      go_roundw
      case rel => exact ⟨k + 1, by omega, by go_num, (by repeat (first | assumption | exact Below.refl _ _ | apply Below.al | apply Below.drewN' | apply Below.drew | (apply Below.tr; assumption)))⟩
      case measure => simp [intOf]; omega
    · go_wp2
      go_ret
      exact ⟨rfl, (by repeat (first | assumption | exact Below.refl _ _ | apply Below.al | apply Below.drewN' | apply Below.drew | (apply Below.tr; assumption)))⟩
set_option maxHeartbeats 2000000 in
theorem markLinkS_any (lo : Nat) (Ad : Option Addr) (n c : Nat) (zs : List Value) (k0 : Int) (w : World) (own : w.ownsRow lo 47 3 (.slice Ad n c) n zs) (hn : n ≤ 1048576) (h0 : 0 ≤ k0) (h1 : k0 ≤ 1000000000) :
    Calls Try.prog 15 #[.slice Ad n c, .int .i64 k0] w (MarkRes 47 3 lo (.slice Ad n c) n ((marks k0 (n * 3)).map (Value.int .i64)) (k0 + n * 3) w) := by
  have Hzl := hid own.1
  go_enter Try.func15, Try.ntmps15
  go_wp2
  go_loopw [1, 5] (fun kk i wr => ∃ j : Nat, j ≤ n ∧ i = .int .i64 j ∧ kk = .int .i64 (k0 + j * 3) ∧ wr.ownsRow lo 47 3 (.slice Ad n c) n ((marks k0 (j * 3)).map (Value.int .i64) ++ zs.drop (j * 3)) ∧ w.grownBy wr (Value.slice Ad n c).ownBlock) (fun _ i _ => n - (intOf i).toNat)
  case atStart => exact ⟨0, Nat.zero_le _, rfl, by go_num, by simpa [marks] using own, World.grownBy.refl w _⟩
  case round =>
    clear own
    obtain ⟨j, hj, rfl, rfl, own, hg⟩ := hrel
    by_cases hlt : j < n
    · obtain ⟨g, rfl, hlo, hgw⟩ := own_form own (by omega)
      obtain ⟨z0, hz0⟩ : ∃ z, zs[j * 3 + 0]? = some z := getx (by have := Hzl.out; omega)
      obtain ⟨z1, hz1⟩ : ∃ z, zs[j * 3 + 1]? = some z := getx (by have := Hzl.out; omega)
      obtain ⟨z2, hz2⟩ : ∃ z, zs[j * 3 + 2]? = some z := getx (by have := Hzl.out; omega)
      have HD : Hid (zs.drop (j * 3) = z0 :: z1 :: z2 :: zs.drop ((j + 1) * 3)) := by
        unfold Hid
        rw [dropx (by simpa using hz0), dropx (k := j * 3 + 1) hz1, dropx (k := j * 3 + 2) hz2, Nat.succ_mul]
      have hml : ((marks k0 (j * 3)).map (Value.int .i64)).length = j * 3 := by simp [marks]
      have d0 : wr.cell? ⟨g, j * 3, none⟩ = some z0 := by
        have := own.cellAt (j * 3 + 0) (by omega)
        rw [List.getElem?_append_right (by omega), hml, Nat.add_sub_cancel_left, HD.out] at this
        simpa using this
      have f0 : wr.frozen? ⟨g, j * 3, none⟩ = false := own.frozenAt _
      have d1 : wr.cell? ⟨g, j * 3 + 1, none⟩ = some z1 := by
        have := own.cellAt (j * 3 + 1) (by omega)
        rw [List.getElem?_append_right (by omega), hml, Nat.add_sub_cancel_left, HD.out] at this
        simpa using this
      have f1 : wr.frozen? ⟨g, j * 3 + 1, none⟩ = false := own.frozenAt _
      have d2 : wr.cell? ⟨g, j * 3 + 2, none⟩ = some z2 := by
        have := own.cellAt (j * 3 + 2) (by omega)
        rw [List.getElem?_append_right (by omega), hml, Nat.add_sub_cancel_left, HD.out] at this
        simpa using this
      have f2 : wr.frozen? ⟨g, j * 3 + 2, none⟩ = false := own.frozenAt _
      have H1 := hid own
      have HG := hid hg
      clear own hg hz0 hz1 hz2
      go_wp2
      go_roundw
      case rel =>
        have hs := H1.out
        rw [HD.out] at hs
        have h2 := own_set3 (j := j * 3) hs hml.symm (.int .i64 (k0 + j * 3)) (.int .i64 (k0 + j * 3 + 1)) (.int .i64 (k0 + j * 3 + 1 + 1))
        have e9 : k0 + (j : Int) * 3 + 1 + 1 = k0 + (j : Int) * 3 + 2 := by omega
        refine ⟨j + 1, by omega, by go_num, by first | go_num | (congr 1; push_cast; omega) | (congr 1; omega), ?_, ?_⟩
        · rw [Nat.succ_mul, marks_add3]
          simpa [Nat.succ_mul, e9] using h2
        · have g0 := HG.out
          have s0 := (hs.stored (j * 3) (.int .i64 (k0 + j * 3)))
          have s1 := (s0.1.stored (j * 3 + 1) (.int .i64 (k0 + j * 3 + 1)))
          have s2 := (s1.1.stored (j * 3 + 2) (.int .i64 (k0 + j * 3 + 1 + 1)))
          exact (grown_trans' (grown_trans' (grown_trans' g0 s0.2) s1.2) s2.2)
      case measure => simp [intOf]; omega
    · obtain rfl : j = n := by omega
      have HE := hid own
      have HG := hid hg
      clear own hg
      go_wp2
      go_ret
      exact ⟨rfl, by have := HE.out; rw [List.drop_eq_nil_of_le (by have := Hzl.out; omega), List.append_nil] at this; exact this, HG.out⟩

end Go.Proofs.Ytalongdieglibaa
