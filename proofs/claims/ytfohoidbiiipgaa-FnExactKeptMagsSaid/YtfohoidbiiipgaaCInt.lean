/- Contracts: lists of numbers: the laws' helpers, and the tests of whole lists. -/
import Derived.Test.YtfohoidbiiipgaaC1
namespace Go.Proofs.Ytfohoidbiiipgaa
open Go.RowKit
set_option linter.unusedVariables false
set_option maxHeartbeats 1000000 in
theorem toInt64S_any (A : Option Addr) (c : Nat) (xs : List Int) (w : World) (h : Rd encI 1 w w.heap.size A xs) (hn : xs.length ≤ 1048576) :
    Calls Try.prog 8 #[.slice A xs.length c] w (OwnRes 2 1 encI xs w) := by
  obtain ⟨i0, hi0, hz0, hz1, hz2⟩ := info_parts (P := Try.prog) (e := 2) (z := .int .i64 0) (size := 1) (bytes := 8) (by kernel_rfl)
  go_enter Try.func8, Try.ntmps8
  go_wp2_with (at_make; refine wpList_make_full _ rfl _ _ 22 rfl w.heap.size 2 i0 _ 1 Try.underlying22 hi0 hz0 hz1 _ _ _ _ xs.length rfl rfl rfl rfl (by rw [hz2]; omega) (by unfold maxLen; omega) (Nat.le_refl _) ?_; intro w1 hown1 hg1)
  have hb1 : Below w.heap.size w w1 := (Below.refl _ _).grown hg1 (Nat.le_refl _) (by simp)
  clear hg1
  go_loopw [4] (fun i wr => ∃ k : Nat, k ≤ xs.length ∧ i = .int .i64 k ∧ Below w.heap.size w wr ∧ ∃ Z : List Value, Z.length = (xs.length - k) * 1 ∧
      wr.ownsRow w.heap.size 2 1 (.slice (some ⟨w.heap.size, 0, none⟩) xs.length xs.length) xs.length ((xs.take k).flatMap encI ++ Z)) (fun i _ => xs.length - (intOf i).toNat)
  case atStart => exact ⟨0, Nat.zero_le _, rfl, hb1, _, by rw [Nat.sub_zero]; exact hown1.1, by simpa using hown1⟩
  case round =>
    clear hown1 hb1
    obtain ⟨k, hk, rfl, hb, Z, hZ, hown⟩ := hrel
    by_cases hlt : k < xs.length
    · obtain ⟨p, hp⟩ := getx hlt
      obtain ⟨b, o, rfl, hbB, c0⟩ := (h.below hb (Nat.le_refl _)).at1 hp rfl
      have HP : Hid (xs[k]? = some p) := hp
      clear hp
      obtain ⟨z0, R, rfl, hR⟩ : ∃ z0 R, Z = z0 :: R ∧ R.length = (xs.length - (k + 1)) * 1 := by
        match Z, hZ with
        | z0 :: R, hZ => exact ⟨z0, R, rfl, by simp at hZ; omega⟩
        | [], hZ => simp at hZ; omega
      clear hZ
      have hfl : ((xs.take k).flatMap encI).length = k := by rw [flat_len (k := 1) (fun _ => rfl), List.length_take, Nat.min_eq_left hk, Nat.mul_one]
      have d0 : wr.cell? ⟨w.heap.size, k, none⟩ = some z0 := by (have := hown.cellAt k (by omega); rw [List.getElem?_append_right (by omega)] at this; simpa [hfl] using this)
      have f0 : wr.frozen? ⟨w.heap.size, k, none⟩ = false := hown.frozenAt _
      have H1 := hid hown
      clear hown
      go_wp2
      go_roundw
      case rel => exact ⟨k + 1, by omega, by go_num, Below.sc hb (Nat.le_refl _) _, R, by omega, by rw [flat_take HP.out, List.append_assoc]; exact own_set H1.out hfl.symm (.int .i64 p)⟩
      case measure => simp [intOf]; omega
    · obtain rfl : k = xs.length := by omega
      have hZ0 : Z = [] := List.eq_nil_of_length_eq_zero (by simpa using hZ)
      subst hZ0
      have H0 := hid hown
      clear hown
      go_wp2
      go_ret
      exact ⟨_, _, rfl, by have := H0.out; simpa using this, hb⟩
set_option maxHeartbeats 1000000 in
theorem eqInt64S_same (A A' : Option Addr) (c c' : Nat) (xs : List Int) (w : World) (h : Rd encI 1 w w.heap.size A xs) (h' : Rd encI 1 w w.heap.size A' xs) (hn : xs.length ≤ 1048576) :
    Calls Try.prog 10 #[.slice A xs.length c, .slice A' xs.length c'] w fun e w' => e = .returned (.bool true) ∧ Below w.heap.size w w' := by
  go_enter Try.func10, Try.ntmps10
  go_wp2
  go_loopw [5] (fun i wr => ∃ k : Nat, k ≤ xs.length ∧ i = .int .i64 k ∧ Below w.heap.size w wr) (fun i _ => xs.length - (intOf i).toNat)
  case atStart => exact ⟨0, Nat.zero_le _, rfl, Below.refl _ _⟩
  case round =>
    obtain ⟨k, hk, rfl, hb⟩ := hrel
    by_cases hlt : k < xs.length
    · obtain ⟨p, hp⟩ := getx hlt
      obtain ⟨b, o, rfl, hbB, c0⟩ := (h.below hb (Nat.le_refl _)).at1 hp rfl
      obtain ⟨b', o', rfl, hbB', d0⟩ := (h'.below hb (Nat.le_refl _)).at1 hp rfl
      clear hp
      have hsz := hb.size
      have b0 : b < wr.heap.size := by omega
      have b1 : b' < wr.heap.size := by omega
      go_wp2
      refine wp_region_ext (by kernel_rfl) (by kernel_rfl) ?_
      repeat (go_big_quiet_step ((first | fail)))
      refine wpQuiet_nil ?_
      intro w3 hb3
      obtain ⟨hc_w3, hf_w3⟩ := bcell hb3
      have hz_w3 := hb3.size
      go_wp2
      go_roundw
      case rel => exact ⟨k + 1, by omega, by go_num, (by repeat (first | assumption | exact Below.refl _ _ | apply Below.al | apply Below.drewN' | apply Below.drew | (apply Below.tr; assumption)))⟩
      case measure => simp [intOf]; omega
    · go_wp2
      go_ret
      exact ⟨rfl, (by repeat (first | assumption | exact Below.refl _ _ | apply Below.al | apply Below.drewN' | apply Below.drew | (apply Below.tr; assumption)))⟩
set_option maxRecDepth 20000 in
set_option maxHeartbeats 1000000 in
theorem indexFuncI_any (F : FuncId) (caps : Array Value) (f : Int → Bool) (A : Option Addr) (c : Nat) (xs : List Int) (w : World) (h : Rd encI 1 w w.heap.size A xs) (hn : xs.length ≤ 1048576)
    (hF : ∀ (args : Array Value) (w : World), (callFunc F args).run Try.prog w = .ok (.enter F args) w)
    (hcl : ∀ (x : Int) (w1 : World), Below w.heap.size w w1 → Calls Try.prog F (#[.int .i64 x] ++ caps) w1 fun e w2 => e = .returned (.bool (f x)) ∧ Below w1.heap.size w1 w2) :
    Calls Try.prog 58 #[.slice A xs.length c, .func (.func F) #[] caps] w fun e w' => e = .returned (.int .i64 (idxF f 0 xs)) ∧ Below w.heap.size w w' := by
  have HC := hid hcl
  clear hcl
  go_enter Try.func58, Try.ntmps58
  go_wp2
  go_loopw [8] (fun i wr => ∃ k : Nat, k ≤ xs.length ∧ i = .int .i64 k ∧ Below w.heap.size w wr ∧ Hid (idxF f 0 xs = idxF f k (xs.drop k))) (fun i _ => xs.length - (intOf i).toNat)
  case atStart => exact ⟨0, Nat.zero_le _, rfl, (by repeat (first | assumption | exact Below.refl _ _ | apply Below.al | apply Below.drewN' | apply Below.drew | (apply Below.tr; assumption))), hid rfl⟩
  case round =>
    obtain ⟨k, hk, rfl, hb, H⟩ := hrel
    by_cases hlt : k < xs.length
    · obtain ⟨p, hp⟩ := getx hlt
      obtain ⟨b, o, rfl, hbB, c0⟩ := (h.below hb (Nat.le_refl _)).at1 hp rfl
      have hsz := hb.size
      have HS : Hid (idxF f k (xs.drop k) = if f p = true then (k : Int) else idxF f (k + 1) (xs.drop (k+1))) := by rw [dropx hp]; rfl
      clear hp
      cases h1 : f p
      all_goals
        go_wp2_with fail
        refine (HC.out p _ hb).mono ?_
        rintro e w1 ⟨rfl, hb1⟩
        go_wp2
        first
          | (go_ret
             exact ⟨ret_int (by rw [H.out, HS.out]; simp [h1]), (by repeat (first | assumption | exact Below.refl _ _ | apply Below.al | apply Below.drewN' | apply Below.drew | (apply Below.tr; assumption)))⟩)
          | (go_roundw
             case rel => exact ⟨k + 1, by omega, by go_num, (by repeat (first | assumption | exact Below.refl _ _ | apply Below.al | apply Below.drewN' | apply Below.drew | (apply Below.tr; assumption))), hid (by rw [H.out, HS.out]; simp [h1])⟩
             case measure => simp [intOf]; omega)
    · have HE : Hid (idxF f 0 xs = -1) := hid (by rw [H.out, List.drop_eq_nil_of_le (by omega)]; rfl)
      go_wp2
      go_ret
      exact ⟨ret_int HE.out.symm, (by repeat (first | assumption | exact Below.refl _ _ | apply Below.al | apply Below.drewN' | apply Below.drew | (apply Below.tr; assumption)))⟩
theorem containsFuncI_any (F : FuncId) (caps : Array Value) (f : Int → Bool) (A : Option Addr) (c : Nat) (xs : List Int) (w : World) (h : Rd encI 1 w w.heap.size A xs) (hn : xs.length ≤ 1048576)
    (hF : ∀ (args : Array Value) (w : World), (callFunc F args).run Try.prog w = .ok (.enter F args) w)
    (hcl : ∀ (x : Int) (w1 : World), Below w.heap.size w w1 → Calls Try.prog F (#[.int .i64 x] ++ caps) w1 fun e w2 => e = .returned (.bool (f x)) ∧ Below w1.heap.size w1 w2) :
    Calls Try.prog 53 #[.slice A xs.length c, .func (.func F) #[] caps] w fun e w' => e = .returned (.bool (xs.any f)) ∧ Below w.heap.size w w' := by
  have HC := hid hcl
  have HA := hid (idxF_any f xs)
  clear hcl
  cases ha : xs.any f
  · have hlt : idxF f 0 xs < 0 := by rw [ha] at HA; simpa using HA.out
    go_enter Try.func53, Try.ntmps53
    go_wp2_with (go_at_call 58; refine (indexFuncI_any F caps f _ _ xs _ h hn hF HC.out).mono ?_; rintro e w1 ⟨rfl, hb1⟩; obtain ⟨hc_w1, hf_w1⟩ := bcell hb1; have hz_w1 := hb1.size)
    go_ret
    exact ⟨ret_bool (by simp; try omega), (by repeat (first | assumption | exact Below.refl _ _ | apply Below.al | apply Below.drewN' | apply Below.drew | (apply Below.tr; assumption)))⟩
  · have hlt : 0 ≤ idxF f 0 xs := by rw [ha] at HA; simpa using HA.out
    go_enter Try.func53, Try.ntmps53
    go_wp2_with (go_at_call 58; refine (indexFuncI_any F caps f _ _ xs _ h hn hF HC.out).mono ?_; rintro e w1 ⟨rfl, hb1⟩; obtain ⟨hc_w1, hf_w1⟩ := bcell hb1; have hz_w1 := hb1.size)
    go_ret
    exact ⟨ret_bool (by simp; try omega), (by repeat (first | assumption | exact Below.refl _ _ | apply Below.al | apply Below.drewN' | apply Below.drew | (apply Below.tr; assumption)))⟩
theorem allIn1_any (x lo hi : Int) (b b' : Nat) (w : World) (h0 : w.cell? ⟨b, 0, none⟩ = some (.int .i64 lo)) (h1 : w.cell? ⟨b', 0, none⟩ = some (.int .i64 hi)) :
    Calls Try.prog 54 #[.int .i64 x, .pointer (some ⟨b, 0, none⟩), .pointer (some ⟨b', 0, none⟩)] w fun e w' => e = .returned (.bool (!inB x lo hi)) ∧ w = w' := by
  go_enter Try.func54, Try.ntmps54
  go_wp2_with (go_at_call 43; refine (in_any _ _ _ _).mono ?_; rintro e w' ⟨rfl, rfl⟩)
  go_ret
  exact ⟨rfl, rfl⟩
set_option maxHeartbeats 1000000 in
theorem allIn_any (lo hi : Int) (A : Option Addr) (c : Nat) (xs : List Int) (w : World) (h : Rd encI 1 w w.heap.size A xs) (hn : xs.length ≤ 1048576) :
    Calls Try.prog 47 #[.slice A xs.length c, .int .i64 lo, .int .i64 hi] w fun e w' => e = .returned (.bool (xs.all fun x => inB x lo hi)) ∧ Below w.heap.size w w' := by
  go_enter Try.func47, Try.ntmps47
  go_wp2_with fail
  refine (containsFuncI_any 54 _ (fun x => !inB x lo hi) A c xs _ ((h.below (B' := w.heap.size) (by repeat (first | assumption | exact Below.refl _ _ | apply Below.al | apply Below.drewN' | apply Below.drew | (apply Below.tr; assumption))) (Nat.le_refl _)).more (by simp; omega)) hn (callFunc_enter Try.func54 (by kernel_rfl) (by kernel_rfl)) ?_).mono ?_
  · intro x w1 hb
    refine (allIn1_any x lo hi w.heap.size (w.heap.size + 1) w1 ?_ ?_).mono ?_
    · rw [(bcell hb).1 _ _ (by first | (simp; done) | (simp; omega))]; simp
    · rw [(bcell hb).1 _ _ (by first | (simp; done) | (simp; omega))]; simp
    · rintro e w2 ⟨rfl, rfl⟩
      exact ⟨rfl, Below.refl _ _⟩
  · rintro e w1 ⟨rfl, hb1⟩
    go_wp2
    go_ret
    exact ⟨ret_bool (by simp [any_not]), (by repeat (first | assumption | exact Below.refl _ _ | apply Below.al | apply Below.drewN' | apply Below.drew | (apply Below.tr; assumption)))⟩
def magsB (xs : List Int) : Bool := decide (xs.length ≤ 100) && xs.all fun x => inB x (-2000) 20000
theorem areMags_any (A : Option Addr) (c : Nat) (xs : List Int) (w : World) (h : Rd encI 1 w w.heap.size A xs) (hn : xs.length ≤ 1048576) :
    Calls Try.prog 35 #[.slice A xs.length c] w fun e w' => e = .returned (.bool (magsB xs)) ∧ Below w.heap.size w w' := by
  by_cases h1 : xs.length ≤ 100
  all_goals
    go_enter Try.func35, Try.ntmps35
    go_wp2_with (go_at_call 47; refine (allIn_any _ _ _ _ xs _ h hn).mono ?_; rintro e w1 ⟨rfl, hb1⟩; obtain ⟨hc_w1, hf_w1⟩ := bcell hb1; have hz_w1 := hb1.size)
    go_ret
    exact ⟨ret_bool (by simp [magsB, *] <;> (intros; omega)), (by repeat (first | assumption | exact Below.refl _ _ | apply Below.al | apply Below.drewN' | apply Below.drew | (apply Below.tr; assumption)))⟩
def codeMags (xs : List Int) : Int := if magsB xs = true then 0 else 2
set_option maxHeartbeats 1000000 in
theorem l02List_any (A : Option Addr) (c : Nat) (xs : List Int) (w : World) (h : Rd encI 1 w w.heap.size A xs) (hn : xs.length ≤ 1048576) :
    Calls Try.prog 33 #[.slice A xs.length c] w fun e w' => e = .returned (.int .i64 (codeMags xs)) ∧ Below w.heap.size w w' := by
  go_enter Try.func33, Try.ntmps33
  go_wp2
  go_loopw [3] (fun i wr => ∃ k : Nat, k ≤ xs.length ∧ i = .int .i64 k ∧ Below w.heap.size w wr ∧ Hid ((xs.all fun x => inB x (-2000) 20000) = ((xs.drop k).all fun x => inB x (-2000) 20000))) (fun i _ => xs.length - (intOf i).toNat)
  case atStart => exact ⟨0, Nat.zero_le _, rfl, (by repeat (first | assumption | exact Below.refl _ _ | apply Below.al | apply Below.drewN' | apply Below.drew | (apply Below.tr; assumption))), hid rfl⟩
  case round =>
    obtain ⟨k, hk, rfl, hb, H⟩ := hrel
    by_cases hlt : k < xs.length
    · obtain ⟨p, hp⟩ := getx hlt
      obtain ⟨b, o, rfl, hbB, c0⟩ := (h.below hb (Nat.le_refl _)).at1 hp rfl
      have hsz := hb.size
      have HS : Hid (((xs.drop k).all fun x => inB x (-2000) 20000) = (inB p (-2000) 20000 && (xs.drop (k+1)).all fun x => inB x (-2000) 20000)) := by rw [dropx hp]; rfl
      clear hp
      cases h1 : inB p (-2000) 20000
      all_goals
        go_wp2_with (go_at_call 46; refine (l02Mag_any _ _).mono ?_; rintro e w' ⟨rfl, rfl⟩)
        first
          | (go_ret
             have e : magsB xs = false := by simp only [magsB, H.out, HS.out, h1]; simp
             exact ⟨ret_int (by simp [codeMags, e]), (by repeat (first | assumption | exact Below.refl _ _ | apply Below.al | apply Below.drewN' | apply Below.drew | (apply Below.tr; assumption)))⟩)
          | (go_roundw
             case rel => exact ⟨k + 1, by omega, by go_num, (by repeat (first | assumption | exact Below.refl _ _ | apply Below.al | apply Below.drewN' | apply Below.drew | (apply Below.tr; assumption))), hid (by rw [H.out, HS.out, h1]; rfl)⟩
             case measure => simp [intOf]; omega)
    · have HE : Hid ((xs.all fun x => inB x (-2000) 20000) = true) := hid (by rw [H.out, List.drop_eq_nil_of_le (by omega)]; rfl)
      by_cases h100 : xs.length ≤ 100
      all_goals
        go_wp2
        go_ret
        exact ⟨ret_int (by simp only [codeMags, magsB, HE.out]; simp [h100]), (by repeat (first | assumption | exact Below.refl _ _ | apply Below.al | apply Below.drewN' | apply Below.drew | (apply Below.tr; assumption)))⟩
set_option maxHeartbeats 1000000 in
theorem markInt64S_any (lo : Nat) (Ad : Option Addr) (n c : Nat) (zs : List Value) (k0 : Int) (w : World) (own : w.ownsRow lo 2 1 (.slice Ad n c) n zs) (hn : n ≤ 1048576) (h0 : 0 ≤ k0) (h1 : k0 ≤ 1000000000) :
    Calls Try.prog 13 #[.slice Ad n c, .int .i64 k0] w (MarkRes 2 1 lo (.slice Ad n c) n ((marks k0 n).map (Value.int .i64)) (k0 + n) w) := by
  have Hzl := hid own.1
  go_enter Try.func13, Try.ntmps13
  go_wp2
  go_loopw [1, 5] (fun kk i wr => ∃ j : Nat, j ≤ n ∧ i = .int .i64 j ∧ kk = .int .i64 (k0 + j) ∧ wr.ownsRow lo 2 1 (.slice Ad n c) n ((marks k0 j).map (Value.int .i64) ++ zs.drop j) ∧ w.grownBy wr (Value.slice Ad n c).ownBlock) (fun _ i _ => n - (intOf i).toNat)
  case atStart => exact ⟨0, Nat.zero_le _, rfl, by go_num, by simpa [marks] using own, World.grownBy.refl w _⟩
  case round =>
    clear own
    obtain ⟨j, hj, rfl, rfl, own, hg⟩ := hrel
    by_cases hlt : j < n
    · obtain ⟨g, rfl, hlo, hgw⟩ := own_form own (by omega)
      obtain ⟨z, hz⟩ : ∃ z, zs[j]? = some z := getx (by have := Hzl.out; omega)
      have HD : Hid (zs.drop j = z :: zs.drop (j + 1)) := hid (dropx hz)
      have hml : ((marks k0 j).map (Value.int .i64)).length = j := by simp [marks]
      have d0 : wr.cell? ⟨g, j, none⟩ = some z := by
        have := own.cellAt j (by omega)
        rw [List.getElem?_append_right (by omega), hml, Nat.sub_self, HD.out] at this
        simpa using this
      have f0 : wr.frozen? ⟨g, j, none⟩ = false := own.frozenAt _
      have H1 := hid own
      have HG := hid hg
      clear own hg hz
      go_wp2
      go_roundw
      case rel => exact ⟨j + 1, by omega, by go_num, by first | go_num | (congr 1; push_cast; omega) | (congr 1; omega), by
          have h2 := own_set (j := j) (by have := H1.out; rw [HD.out] at this; exact this) hml.symm (.int .i64 (k0 + j))
          rw [marks_succ]; simpa using h2, grown_trans' HG.out ((H1.out.stored j _).2)⟩
      case measure => simp [intOf]; omega
    · obtain rfl : j = n := by omega
      have HE := hid own
      have HG := hid hg
      clear own hg
      go_wp2
      go_ret
      exact ⟨rfl, by have := HE.out; rw [List.drop_eq_nil_of_le (by have := Hzl.out; omega), List.append_nil] at this; exact this, HG.out⟩
set_option maxHeartbeats 1000000 in
theorem heldInt64S_any (lo : Nat) (Ad : Option Addr) (n c : Nat) (k0 : Int) (w : World) (own : w.ownsRow lo 2 1 (.slice Ad n c) n ((marks k0 n).map (Value.int .i64))) (hn : n ≤ 1048576) (h0 : 0 ≤ k0) (h1 : k0 ≤ 1000000000) :
    Calls Try.prog 14 #[.slice Ad n c, .int .i64 k0] w fun e w' => e = .returned (.int .i64 (k0 + n)) ∧ w = w' := by
  go_enter Try.func14, Try.ntmps14
  go_wp2
  go_loop [1, 5] (fun kk i => ∃ j : Nat, j ≤ n ∧ i = .int .i64 j ∧ kk = .int .i64 (k0 + j)) (fun _ i => n - (intOf i).toNat)
  case atStart => exact ⟨0, Nat.zero_le _, rfl, by go_num⟩
  case round =>
    obtain ⟨j, hj, rfl, rfl⟩ := hrel
    by_cases hlt : j < n
    · obtain ⟨g, rfl, hlo, hgw⟩ := own_form own (by omega)
      have d0 : w.cell? ⟨g, j, none⟩ = some (.int .i64 (k0 + j)) := by
        have := own.cellAt j (by omega)
        rw [List.getElem?_map, marks_at hlt] at this
        exact this
      have H1 := hid own
      clear own
      go_wp2
      go_round
      case rel => exact ⟨j + 1, by omega, by go_num, by first | go_num | (congr 1; push_cast; omega) | (congr 1; omega)⟩
      case measure => simp [intOf]; omega
    · obtain rfl : j = n := by omega
      have HE := hid own
      clear own
      go_wp2
      go_ret
      exact ⟨rfl, rfl⟩
end Go.Proofs.Ytfohoidbiiipgaa
