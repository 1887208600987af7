/- Contracts: numbers, words, ranges and a rule read, in the reference. -/
import Derived.Test.YtdklchklpmabdaaDoorCRdP
namespace Go.Proofs.YtdklchklpmabdaaDoor
open Go.RowKit
set_option linter.unusedVariables false
set_option maxRecDepth 20000 in
set_option maxHeartbeats 2000000 in
theorem l01Number_pos (s : ByteArray) (hs : s.size ≤ maxLen) (w : World) (hp : 0 < s.size) (hc : ((s[0].toNat : Int) == 45) = false) (hB : Hid (bodyN s.data.toList = s.data.toList)) :
    Calls Tryd.prog 17 #[.string s] w fun e w' => e = .returned (.tuple #[.int .i64 ((numV s.data.toList).getD 0), .bool (numV s.data.toList).isSome]) ∧ Below w.heap.size w w' := by
  unfold maxLen at hs
  have hE3 : s.toList.isEmpty = false := str_ne3 (by omega)
  have hE2 : s.data.toList.isEmpty = false := str_ne2 (by omega)
  have hp' : (0 : Int) < s.size := by omega
  have hLB : Hid ((bodyN s.data.toList).length = s.size) := hid (by rw [hB.out]; simp)
  by_cases h1 : s.size < 1
  · have HN : Hid (numV s.data.toList = none) := hid (by unfold numV; rw [if_neg (fun h => by have := h.1; rw [hLB.out] at this; omega)])
    omega
  by_cases h18 : 18 < s.size
  · have HN : Hid (numV s.data.toList = none) := hid (by unfold numV; rw [if_neg (fun h => by have := h.2.1; rw [hLB.out] at this; omega)])
    go_enter Tryd.func17, Tryd.ntmps17
    go_wp2
    go_ret2
    exact ⟨by rw [HN.out]; rfl, Below.refl _ _⟩
  have HNn : Hid (numN s.data.toList = valF 0 (bodyN s.data.toList)) := hid (by unfold numN; rw [if_neg (by rw [hLB.out]; simp)])
  have HNV : Hid (∀ v, numN s.data.toList = v → (bodyN s.data.toList).all dgU = true → numV s.data.toList = if Lib.itoa v = s.data.toList then some v else none) := hid (fun v hv ha => by
    subst hv; unfold numV; simp only [ha, true_and]
    have a1 : 1 ≤ (bodyN s.data.toList).length := by rw [hLB.out]; omega
    have a2 : (bodyN s.data.toList).length ≤ 18 := by rw [hLB.out]; omega
    simp only [a1, a2, true_and])
  have HNd : Hid ((bodyN s.data.toList).all dgU = false → numV s.data.toList = none) := hid (fun ha => by unfold numV; rw [if_neg (fun h => by rw [ha] at h; exact absurd h.2.2.1 (by simp))])
  rw [hB.out] at HNn HNV HNd
  go_enter Tryd.func17, Tryd.ntmps17
  go_wp2
  skip
  go_loop [5, 6] (fun nv iv => ∃ (k : Nat) (a : Int), k ≤ s.size ∧ iv = .int .i64 k ∧ nv = .int .i64 a ∧ Hid (0 ≤ a ∧ a < 10 ^ k) ∧ Hid (valF 0 s.data.toList = valF a (s.data.toList.drop k)) ∧ Hid (s.data.toList.all dgU = (s.data.toList.drop k).all dgU)) (fun _ iv => s.size - (intOf iv).toNat)
  case atStart => exact ⟨0, 0, Nat.zero_le _, rfl, rfl, hid ⟨Int.le_refl _, by decide⟩, hid rfl, hid rfl⟩
  case round =>
    obtain ⟨k, a, hk, rfl, rfl, HA, HF, HD⟩ := hrel
    by_cases hlt : k < s.size
    · have a0 := HA.out.1
      have a1 : a < 100000000000000000 := by
        have h1 := HA.out.2
        have h2 : (10 : Int) ^ k ≤ 10 ^ 17 := by exact_mod_cast Nat.pow_le_pow_right (n := 10) (by omega) (show k ≤ 17 by omega)
        omega
      have HSF : Hid (valF a (s.data.toList.drop k) = valF (10 * a + ((s[k].toNat : Int) - 48)) (s.data.toList.drop (k+1))) := by rw [str_at s k hlt]; rfl
      have HSD : Hid ((s.data.toList.drop k).all dgU = (dgU s[k] && (s.data.toList.drop (k+1)).all dgU)) := by rw [str_at s k hlt]; rfl
      have ck : (s[k].toNat : Int) ≤ 255 := by have := s[k].toNat_lt; omega
      have hdg : Hid (digB (s[k].toNat : Int) = dgU s[k]) := hid (by unfold digB dgU; congr 1 <;> (congr 1; apply propext; omega))
      cases q : digB (s[k].toNat : Int)
      · have HN : Hid (numV s.data.toList = none) := hid (HNd.out (by rw [HD.out, HSD.out, ← hdg.out, q]; rfl))
        go_wp2_with (go_at_call 28; refine (l01Digit_any _ _ (by omega) (by omega)).mono ?_; rintro e w' ⟨rfl, rfl⟩)
        go_ret2
        exact ⟨by rw [HN.out]; rfl, Below.refl _ _⟩
      · have q2 : 48 ≤ (s[k].toNat : Int) ∧ (s[k].toNat : Int) ≤ 57 := by simpa [digB] using q
        obtain ⟨q3, q4⟩ := q2
        have HP : Hid (0 ≤ 10 * a + ((s[k].toNat : Int) - 48) ∧ 10 * a + ((s[k].toNat : Int) - 48) < 10 ^ (k + 1)) := hid ⟨by omega, by have := HA.out.2; rw [Int.pow_succ]; omega⟩
        go_wp2_with (go_at_call 28; refine (l01Digit_any _ _ (by omega) (by omega)).mono ?_; rintro e w' ⟨rfl, rfl⟩)
        go_round
        case rel => exact ⟨k + 1, 10 * a + ((s[k].toNat : Int) - 48), by omega, by go_num, by first | rfl | go_num, HP, hid (by rw [HF.out, HSF.out]), hid (by rw [HD.out, HSD.out, ← hdg.out, q]; rfl)⟩
        case measure => simp [intOf]; omega
    · obtain rfl : k = s.size := by omega
      have a0 := HA.out.1
      have a1 : a < 1000000000000000000 := by
        have h1 := HA.out.2
        have h2 : (10 : Int) ^ s.size ≤ 10 ^ 18 := by exact_mod_cast Nat.pow_le_pow_right (n := 10) (by omega) (show s.size ≤ 18 by omega)
        omega
      have HE : Hid (numN s.data.toList = a) := hid (by rw [HNn.out, HF.out, List.drop_eq_nil_of_le (by simp)]; rfl)
      have HA2 : Hid (s.data.toList.all dgU = true) := hid (by rw [HD.out, List.drop_eq_nil_of_le (by simp)]; rfl)
      have HV := hid (HNV.out _ HE.out HA2.out)
      by_cases heq : Lib.itoa (a) = s.data.toList
      · have HW : Hid (numV s.data.toList = some (a)) := hid (by rw [HV.out, if_pos heq])
        have hx : ((decS (a)).toList == s.toList) = true := by rw [ByteArray.toList_eq, ByteArray.toList_eq]; simp [decS, heq]
        clear heq HV
        go_wp2_with (go_at_call 29; refine (l01Dec_any (a) (by omega) (by omega) _).mono ?_; rintro e w5 ⟨rfl, hb5⟩)
        go_ret2
        exact ⟨by rw [HW.out]; rfl, hb5⟩
      · have HW : Hid (numV s.data.toList = none) := hid (by rw [HV.out, if_neg heq])
        have hx : ((decS (a)).toList == s.toList) = false := by rw [ByteArray.toList_eq, ByteArray.toList_eq]; simp [decS]; exact fun e => heq (by simpa using e)
        clear heq HV
        go_wp2_with (go_at_call 29; refine (l01Dec_any (a) (by omega) (by omega) _).mono ?_; rintro e w5 ⟨rfl, hb5⟩)
        go_ret2
        exact ⟨by rw [HW.out]; rfl, hb5⟩
set_option maxRecDepth 20000 in
set_option maxHeartbeats 2000000 in
theorem l01Number_neg (s : ByteArray) (hs : s.size ≤ maxLen) (w : World) (hp : 0 < s.size) (hc : ((s[0].toNat : Int) == 45) = true) (hB : Hid (bodyN s.data.toList = (s.extract 1 s.size).data.toList)) (hl : (s.extract 1 s.size).size = s.size - 1) :
    Calls Tryd.prog 17 #[.string s] w fun e w' => e = .returned (.tuple #[.int .i64 ((numV s.data.toList).getD 0), .bool (numV s.data.toList).isSome]) ∧ Below w.heap.size w w' := by
  unfold maxLen at hs
  have hE3 : s.toList.isEmpty = false := str_ne3 (by omega)
  have hE2 : s.data.toList.isEmpty = false := str_ne2 (by omega)
  have hp' : (0 : Int) < s.size := by omega
  have hLB : Hid ((bodyN s.data.toList).length = (s.extract 1 s.size).size) := hid (by rw [hB.out]; simp)
  by_cases h1 : (s.extract 1 s.size).size < 1
  · have HN : Hid (numV s.data.toList = none) := hid (by unfold numV; rw [if_neg (fun h => by have := h.1; rw [hLB.out] at this; omega)])
    go_enter Tryd.func17, Tryd.ntmps17
    go_wp2
    go_ret2
    exact ⟨by rw [HN.out]; rfl, Below.refl _ _⟩
  by_cases h18 : 18 < (s.extract 1 s.size).size
  · have HN : Hid (numV s.data.toList = none) := hid (by unfold numV; rw [if_neg (fun h => by have := h.2.1; rw [hLB.out] at this; omega)])
    go_enter Tryd.func17, Tryd.ntmps17
    go_wp2
    go_ret2
    exact ⟨by rw [HN.out]; rfl, Below.refl _ _⟩
  have HNn : Hid (numN s.data.toList = -(valF 0 (bodyN s.data.toList))) := hid (by unfold numN; rw [if_pos (by rw [hLB.out]; simp; omega)])
  have HNV : Hid (∀ v, numN s.data.toList = v → (bodyN s.data.toList).all dgU = true → numV s.data.toList = if Lib.itoa v = s.data.toList then some v else none) := hid (fun v hv ha => by
    subst hv; unfold numV; simp only [ha, true_and]
    have a1 : 1 ≤ (bodyN s.data.toList).length := by rw [hLB.out]; omega
    have a2 : (bodyN s.data.toList).length ≤ 18 := by rw [hLB.out]; omega
    simp only [a1, a2, true_and])
  have HNd : Hid ((bodyN s.data.toList).all dgU = false → numV s.data.toList = none) := hid (fun ha => by unfold numV; rw [if_neg (fun h => by rw [ha] at h; exact absurd h.2.2.1 (by simp))])
  rw [hB.out] at HNn HNV HNd
  go_enter Tryd.func17, Tryd.ntmps17
  go_wp2
  generalize hTT : s.extract 1 s.size = T at *
  clear hTT
  go_loop [5, 6] (fun nv iv => ∃ (k : Nat) (a : Int), k ≤ T.size ∧ iv = .int .i64 k ∧ nv = .int .i64 a ∧ Hid (0 ≤ a ∧ a < 10 ^ k) ∧ Hid (valF 0 T.data.toList = valF a (T.data.toList.drop k)) ∧ Hid (T.data.toList.all dgU = (T.data.toList.drop k).all dgU)) (fun _ iv => T.size - (intOf iv).toNat)
  case atStart => exact ⟨0, 0, Nat.zero_le _, rfl, rfl, hid ⟨Int.le_refl _, by decide⟩, hid rfl, hid rfl⟩
  case round =>
    obtain ⟨k, a, hk, rfl, rfl, HA, HF, HD⟩ := hrel
    by_cases hlt : k < T.size
    · have a0 := HA.out.1
      have a1 : a < 100000000000000000 := by
        have h1 := HA.out.2
        have h2 : (10 : Int) ^ k ≤ 10 ^ 17 := by exact_mod_cast Nat.pow_le_pow_right (n := 10) (by omega) (show k ≤ 17 by omega)
        omega
      have HSF : Hid (valF a (T.data.toList.drop k) = valF (10 * a + ((T[k].toNat : Int) - 48)) (T.data.toList.drop (k+1))) := by rw [str_at T k hlt]; rfl
      have HSD : Hid ((T.data.toList.drop k).all dgU = (dgU T[k] && (T.data.toList.drop (k+1)).all dgU)) := by rw [str_at T k hlt]; rfl
      have ck : (T[k].toNat : Int) ≤ 255 := by have := T[k].toNat_lt; omega
      have hdg : Hid (digB (T[k].toNat : Int) = dgU T[k]) := hid (by unfold digB dgU; congr 1 <;> (congr 1; apply propext; omega))
      cases q : digB (T[k].toNat : Int)
      · have HN : Hid (numV s.data.toList = none) := hid (HNd.out (by rw [HD.out, HSD.out, ← hdg.out, q]; rfl))
        go_wp2_with (go_at_call 28; refine (l01Digit_any _ _ (by omega) (by omega)).mono ?_; rintro e w' ⟨rfl, rfl⟩)
        go_ret2
        exact ⟨by rw [HN.out]; rfl, Below.refl _ _⟩
      · have q2 : 48 ≤ (T[k].toNat : Int) ∧ (T[k].toNat : Int) ≤ 57 := by simpa [digB] using q
        obtain ⟨q3, q4⟩ := q2
        have HP : Hid (0 ≤ 10 * a + ((T[k].toNat : Int) - 48) ∧ 10 * a + ((T[k].toNat : Int) - 48) < 10 ^ (k + 1)) := hid ⟨by omega, by have := HA.out.2; rw [Int.pow_succ]; omega⟩
        go_wp2_with (go_at_call 28; refine (l01Digit_any _ _ (by omega) (by omega)).mono ?_; rintro e w' ⟨rfl, rfl⟩)
        go_round
        case rel => exact ⟨k + 1, 10 * a + ((T[k].toNat : Int) - 48), by omega, by go_num, by first | rfl | go_num, HP, hid (by rw [HF.out, HSF.out]), hid (by rw [HD.out, HSD.out, ← hdg.out, q]; rfl)⟩
        case measure => simp [intOf]; omega
    · obtain rfl : k = T.size := by omega
      have a0 := HA.out.1
      have a1 : a < 1000000000000000000 := by
        have h1 := HA.out.2
        have h2 : (10 : Int) ^ T.size ≤ 10 ^ 18 := by exact_mod_cast Nat.pow_le_pow_right (n := 10) (by omega) (show T.size ≤ 18 by omega)
        omega
      have HE : Hid (numN s.data.toList = -a) := hid (by rw [HNn.out, HF.out, List.drop_eq_nil_of_le (by simp)]; rfl)
      have HA2 : Hid (T.data.toList.all dgU = true) := hid (by rw [HD.out, List.drop_eq_nil_of_le (by simp)]; rfl)
      have HV := hid (HNV.out _ HE.out HA2.out)
      by_cases heq : Lib.itoa (-a) = s.data.toList
      · have HW : Hid (numV s.data.toList = some (-a)) := hid (by rw [HV.out, if_pos heq])
        have hx : ((decS (-a)).toList == s.toList) = true := by rw [ByteArray.toList_eq, ByteArray.toList_eq]; simp [decS, heq]
        clear heq HV
        go_wp2_with (go_at_call 29; refine (l01Dec_any (-a) (by omega) (by omega) _).mono ?_; rintro e w5 ⟨rfl, hb5⟩)
        go_ret2
        exact ⟨by rw [HW.out]; rfl, hb5⟩
      · have HW : Hid (numV s.data.toList = none) := hid (by rw [HV.out, if_neg heq])
        have hx : ((decS (-a)).toList == s.toList) = false := by rw [ByteArray.toList_eq, ByteArray.toList_eq]; simp [decS]; exact fun e => heq (by simpa using e)
        clear heq HV
        go_wp2_with (go_at_call 29; refine (l01Dec_any (-a) (by omega) (by omega) _).mono ?_; rintro e w5 ⟨rfl, hb5⟩)
        go_ret2
        exact ⟨by rw [HW.out]; rfl, hb5⟩
def numR (s : ByteArray) (w : World) (e : Ending) (w' : World) : Prop := e = .returned (.tuple #[.int .i64 ((numV s.data.toList).getD 0), .bool (numV s.data.toList).isSome]) ∧ Below w.heap.size w w'
theorem l01Number_any (s : ByteArray) (hs : s.size ≤ maxLen) (w : World) :
    Calls Tryd.prog 17 #[.string s] w (numR s w) := by
  by_cases h0 : s.size = 0
  · obtain rfl : s = ByteArray.empty := ByteArray.size_eq_zero_iff.1 h0
    go_enter Tryd.func17, Tryd.ntmps17
    go_wp2
    go_ret2
    exact ⟨rfl, Below.refl _ _⟩
  have hp : 0 < s.size := by omega
  have hl : s.data.toList = s[0] :: s.data.toList.drop 1 := by have := str_at s 0 hp; simpa using this
  have hx : (s.extract 1 s.size).data.toList = s.data.toList.drop 1 := by
    rw [Lib.extract_data, List.take_of_length_le (by simp)]
  cases hc : ((s[0].toNat : Int) == 45)
  · refine l01Number_pos s hs w hp hc (hid ?_)
    rcases bodyN_cases s.data.toList with ⟨t, e1, e2⟩ | ⟨_, e2⟩
    · rw [e1] at hl
      simp only [List.cons.injEq] at hl
      rw [← hl.1] at hc
      exact absurd hc (by decide)
    · exact e2
  · refine l01Number_neg s hs w hp hc (hid ?_) (by simp)
    have h45 : s[0] = 45 := by
      have := beq_iff_eq.1 hc
      exact UInt8.toNat_inj.1 (by simpa using (by omega : s[0].toNat = 45))
    rw [hx]
    rw [h45] at hl
    have := bodyN_cases s.data.toList
    rcases this with ⟨t, e1, e2⟩ | ⟨e1, _⟩
    · rw [e2]; rw [e1]; rfl
    · exact absurd hl (e1 _)
def encS (x : ByteArray) : List Value := [.string x]
def SplRes (c : UInt8) (s : ByteArray) (w : World) (e : Ending) (w' : World) : Prop := ∃ (ys : List ByteArray) (Ad : Option Addr) (cc : Nat), e = .returned (.slice Ad ys.length cc) ∧ w'.ownsRow w.heap.size 9 1 (.slice Ad ys.length cc) ys.length (ys.flatMap encS) ∧ ys.map (·.data.toList) = wds c s.data.toList ∧ Below w.heap.size w w'
theorem drop_split {l : L8} {f k : Nat} {b : UInt8} (hf : f ≤ k) (hk : l[k]? = some b) : l.drop f = (l.drop f).take (k - f) ++ b :: l.drop (k + 1) := by
  obtain ⟨h1, h2⟩ := List.getElem?_eq_some_iff.1 hk
  have e := List.take_append_drop (k - f) (l.drop f)
  rw [List.drop_drop, show f + (k - f) = k by omega, List.drop_eq_getElem_cons h1, h2] at e
  exact e.symm
theorem take_snoc {l : L8} {f k : Nat} {b : UInt8} (hf : f ≤ k) (hk : l[k]? = some b) : (l.drop f).take (k + 1 - f) = (l.drop f).take (k - f) ++ [b] := by
  rw [show k + 1 - f = (k - f) + 1 by omega, List.take_add_one, List.getElem?_drop, show f + (k - f) = k by omega, hk]; rfl
set_option maxRecDepth 20000 in
set_option maxHeartbeats 2000000 in
theorem l01Split_any (s : ByteArray) (c : UInt8) (hs : s.size ≤ 1048576) (w : World) :
    Calls Tryd.prog 7 #[.string s, .int .u8 (c.toNat : Int)] w (SplRes c s w) := by
  obtain ⟨i0, hi0, iz0, iz1, iz2⟩ := info_parts (P := Tryd.prog) (e := 9) (z := .string ByteArray.empty) (size := 1) (bytes := 16) (by kernel_rfl)
  have cc : (c.toNat : Int) ≤ 255 := by have := c.toNat_lt; omega
  go_enter Tryd.func7, Tryd.ntmps7
  go_wp2
  go_loopw [5, 6, 7] (fun vv fv iv wr => ∃ (ys : List ByteArray) (f k : Nat), f ≤ k ∧ k ≤ s.size ∧ ys.length ≤ k ∧ fv = .int .i64 f ∧ iv = .int .i64 k ∧ Below w.heap.size w wr ∧ Hid (wds c s.data.toList = ys.map (·.data.toList) ++ wds c (s.data.toList.drop f)) ∧ Hid (c ∉ (s.data.toList.drop f).take (k - f)) ∧ wr.ownsRow w.heap.size 9 1 vv ys.length (ys.flatMap encS)) (fun _ _ iv _ => s.size - (intOf iv).toNat)
  case atStart => exact ⟨[], 0, 0, Nat.le_refl _, Nat.zero_le _, Nat.le_refl _, rfl, rfl, (by repeat (first | assumption | exact Below.refl _ _ | apply Below.al | apply Below.drewN' | apply Below.drew | (apply Below.tr; assumption))), hid rfl, hid (by simp), own_lit0 _ _ _ (Nat.le_refl _)⟩
  case round =>
    obtain ⟨ys, f, k, hfk, hk, hyk, rfl, rfl, hb, HW, HN, own⟩ := hrel
    have hsz := hb.size
    have H0 := hid own
    clear own
    by_cases hlt : k < s.size
    · have ek : s.data.toList[k]? = some s[k] := by rw [List.getElem?_eq_getElem (by simpa using hlt)]; rfl
      have hx : Hid ((s.extract f k).data.toList = (s.data.toList.drop f).take (k - f)) := hid (Lib.extract_data s f k)
      by_cases hq : s[k] = c
      · have hq' : ((s[k].toNat : Int) == (c.toNat : Int)) = true := by simp [hq]
        have HW2 : Hid (wds c s.data.toList = (ys ++ [s.extract f k]).map (·.data.toList) ++ wds c (s.data.toList.drop (k + 1))) := hid (by
          rw [HW.out, drop_split hfk ek, hq, wds_app _ HN.out, List.map_append, List.map_cons, hx.out]; simp)
        have hff : (f : Int) ≤ (k : Int) := by omega
        have hkk : (k : Int) ≤ (s.size : Int) := by omega
        clear ek hq
        go_wp2_with (at_builtin; go_must (refine wpList_append_own _ rfl _ _ 28 rfl (w.heap.size) 9 i0 _ 1 16 Tryd.underlying28 hi0 iz0 iz1 iz2 rfl (by decide) _ _ _ rfl (H0.out.alloc _) ⟨wr.heap.size, 0, none⟩ 1 1 [.string (s.extract f k)] rfl rfl (news_at wr [.string (s.extract f k)] 9) (by simp [Value.oneCell']) (by unfold maxLen; omega) (by omega) (by first | omega | (simp; done) | (simp; omega)) ?_); intro v2 w2 own_w2 grow_w2 _)
        go_roundw
        case rel => exact ⟨ys ++ [s.extract f k], k + 1, k + 1, Nat.le_refl _, by omega, by simp; omega, by go_num, by go_num, Below.ap hb hb.size H0.out (Nat.le_refl _) grow_w2, HW2, hid (by simp), by simpa [encS] using own_w2⟩
        case measure => simp [intOf]; omega
      · have hq' : ((s[k].toNat : Int) == (c.toNat : Int)) = false := by
          have : s[k].toNat ≠ c.toNat := fun e => hq (UInt8.toNat_inj.1 e)
          simp; omega
        have HN2 : Hid (c ∉ (s.data.toList.drop f).take (k + 1 - f)) := hid (by rw [take_snoc hfk ek]; simp [HN.out]; exact fun e => hq e.symm)
        clear ek hq
        go_wp2
        go_roundw
        case rel => exact ⟨ys, f, k + 1, by omega, by omega, by omega, rfl, by go_num, hb, HW, HN2, H0.out⟩
        case measure => simp [intOf]; omega
    · obtain rfl : k = s.size := by omega
      have hx : Hid ((s.extract f s.size).data.toList = s.data.toList.drop f) := hid (by rw [Lib.extract_data, List.take_of_length_le (by simp)])
      have HW2 : Hid ((ys ++ [s.extract f s.size]).map (·.data.toList) = wds c s.data.toList) := hid (by
        have hn := HN.out
        rw [List.take_of_length_le (by simp)] at hn
        rw [HW.out, wds_none hn, List.map_append, List.map_cons, hx.out]; rfl)
      have hff : (f : Int) ≤ (s.size : Int) := by omega
      go_wp2_with (at_builtin; go_must (refine wpList_append_own _ rfl _ _ 28 rfl (w.heap.size) 9 i0 _ 1 16 Tryd.underlying28 hi0 iz0 iz1 iz2 rfl (by decide) _ _ _ rfl (H0.out.alloc _) ⟨wr.heap.size, 0, none⟩ 1 1 [.string (s.extract f s.size)] rfl rfl (news_at wr [.string (s.extract f s.size)] 9) (by simp [Value.oneCell']) (by unfold maxLen; omega) (by omega) (by first | omega | (simp; done) | (simp; omega)) ?_); intro v2 w2 own_w2 grow_w2 _)
      obtain ⟨A2, c2, rfl⟩ := own_shape own_w2
      go_ret
      exact ⟨ys ++ [s.extract f s.size], A2, c2, by simp, by simpa [encS] using own_w2, HW2.out, Below.ap hb hb.size H0.out (Nat.le_refl _) grow_w2⟩
theorem wds_len (c : UInt8) : ∀ (n : Nat) (l : L8), l.length ≤ n → ∀ w ∈ wds c l, w.length ≤ l.length
  | n, l, hn => by
    rcases dec1 c l with h | ⟨a, r, rfl, h⟩
    · rw [wds_none h]; simp
    · cases n with
      | zero => simp at hn
      | succ n =>
        have ih := wds_len c n r (by simp at hn; omega)
        rw [wds_app r h]
        intro v hv
        rcases List.mem_cons.1 hv with rfl | hv
        · simp
        · have := ih v hv; simp; omega
theorem ys_size {c : UInt8} {s : ByteArray} {ys : List ByteArray} (h : ys.map (·.data.toList) = wds c s.data.toList) {y : ByteArray} (hy : y ∈ ys) : y.size ≤ s.size := by
  have := wds_len c _ s.data.toList (Nat.le_refl _) y.data.toList (by rw [← h]; exact List.mem_map.2 ⟨y, hy, rfl⟩)
  simpa using this
theorem str_e {s : ByteArray} (h : s.data.toList = []) : s.toList.isEmpty = true := by rw [ByteArray.toList_eq, h]; rfl
theorem str_f {s : ByteArray} (h : s.data.toList ≠ []) : s.toList.isEmpty = false := by
  rw [ByteArray.toList_eq]
  cases hs : s.data.toList with
  | nil => exact absurd hs h
  | cons _ _ => rfl
def RngRes (s : ByteArray) (w : World) (e : Ending) (w' : World) : Prop := ∃ x y : Int, e = .returned (.tuple #[.int .i64 x, .int .i64 y, .bool (rgV s.data.toList).isSome]) ∧ (∀ p, rgV s.data.toList = some p → x = p.1 ∧ y = p.2) ∧ Below w.heap.size w w'
theorem cells_at {w : World} {lo g n cc : Nat} {e : TypeId} {ys : List ByteArray} (o : w.ownsRow lo e 1 (.slice (some ⟨g, 0, none⟩) n cc) n (ys.flatMap encS)) {j : Nat} {y : ByteArray} (hj : ys[j]? = some y) (hn : n = ys.length) : w.cell? ⟨g, j, none⟩ = some (.string y) := by
  have hl := (List.getElem?_eq_some_iff.1 hj).1
  have x := o.cellAt j (by omega)
  rw [x]
  have := flat_at (enc := encS) (k := 1) (fun _ => rfl) ys j y hj 0 (by decide)
  simpa [encS] using this
set_option maxRecDepth 20000 in
set_option maxHeartbeats 2000000 in
theorem l18Range_any (s : ByteArray) (hs : s.size ≤ 1048576) (w : World) :
    Calls Tryd.prog 8 #[.string s] w (RngRes s w) := by
  have C : Calls Tryd.prog 7 #[.string s, .int .u8 46] w (SplRes 46 s w) := l01Split_any s 46 hs w
  go_enter Tryd.func8, Tryd.ntmps8
  go_wp2_with fail
  refine C.mono ?_
  rintro e w1 ⟨ys, Ad, cc, rfl, own, hy, hb1⟩
  have sz := fun y (h : y ∈ ys) => ys_size hy h
  have H0 := hid own
  have hy := hid hy
  clear own C
  by_cases h3 : ys.length = 3
  · match ys, h3 with
    | [a, b, d], _ =>
      obtain ⟨g, rfl, zg1, zg2⟩ := own_form H0.out (by simp)
      have c0 := cells_at H0.out (j := 0) (y := a) rfl rfl
      have c1 := cells_at H0.out (j := 1) (y := b) rfl rfl
      have c2 := cells_at H0.out (j := 2) (y := d) rfl rfl
      have za := sz a (by simp)
      have zd := sz d (by simp)
      simp only [List.length_cons, List.length_nil] at *
      by_cases hb : b.data.toList = []
      · have hE := str_e hb
        have HR : Hid (rgV s.data.toList = twoN a.data.toList d.data.toList) := hid (by unfold rgV; rw [← hy.out]; simp only [List.map_cons, List.map_nil, hb]; rfl)
        clear hb
        go_wp2_with fail
        refine (l01Number_any a (by unfold maxLen; omega) w1).mono ?_
        rintro e w2 ⟨rfl, hb2⟩
        have c2' := ((bcell hb2).1 g 2 zg2).trans c2
        go_wp2_with fail
        refine (l01Number_any d (by unfold maxLen; omega) w2).mono ?_
        rintro e w3 ⟨rfl, hb3⟩
        have BW : Below w.heap.size w w3 := Below.tr hb3 (Below.tr hb2 hb1)
        unfold twoN at HR
        generalize numV a.data.toList = na at *
        generalize numV d.data.toList = nd at *
        cases na <;> cases nd
        all_goals
          simp only at HR
          go_wp2
          go_ret3
        · exact ⟨_, _, by rw [HR.out]; rfl, (fun p hp => by rw [HR.out] at hp; cases hp), BW⟩
        · exact ⟨_, _, by rw [HR.out]; rfl, (fun p hp => by rw [HR.out] at hp; cases hp), BW⟩
        · exact ⟨_, _, by rw [HR.out]; rfl, (fun p hp => by rw [HR.out] at hp; cases hp), BW⟩
        · exact ⟨_, _, by rw [HR.out]; rfl, (fun p hp => by rw [HR.out] at hp; cases hp; exact ⟨rfl, rfl⟩), BW⟩
      · have hE := str_f hb
        have HR : Hid (rgV s.data.toList = none) := hid (by
          unfold rgV; rw [← hy.out]
          simp only [List.map_cons, List.map_nil]
          split
          · next e => simp only [List.cons.injEq] at e; exact absurd e.2.1 hb
          · rfl)
        clear hb
        go_wp2
        go_ret3
        exact ⟨0, 0, by rw [HR.out]; rfl, (fun p hp => by rw [HR.out] at hp; cases hp), hb1⟩
  · have HR : Hid (rgV s.data.toList = none) := hid (by
      unfold rgV
      split
      · next e => have := congrArg List.length hy.out; rw [e] at this; simp at this; exact absurd this h3
      · rfl)
    have h3' : ((ys.length : Int) != 3) = true := by simp; omega
    go_wp2
    go_ret3
    exact ⟨0, 0, by rw [HR.out]; rfl, (fun p hp => by rw [HR.out] at hp; cases hp), hb1⟩
end Go.Proofs.YtdklchklpmabdaaDoor
