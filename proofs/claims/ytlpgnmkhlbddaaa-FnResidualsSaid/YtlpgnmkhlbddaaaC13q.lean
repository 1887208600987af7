/- Contracts: the squares and the worst of what an ephemeris leaves of minima, in the program, at drawn minima. -/
import Derived.Test.YtlpgnmkhlbddaaaC13r
import Derived.Test.YtlpgnmkhlbddaaaC13f
namespace Go.Proofs.Ytlpgnmkhlbddaaa
open Go.RowKit
set_option linter.unusedVariables false
def sqI : List Int → Int | [] => 0 | x :: r => x * x + sqI r
theorem near_rs {a b : Int} {xs : List Mn} (h : NearE a b xs) : ∀ r ∈ xs.map (rsd a b), -10 ≤ r ∧ r ≤ 10 := fun r hr => by
  obtain ⟨p, hp, rfl⟩ := List.mem_map.1 hr
  have := h p hp
  unfold rsd
  omega
theorem all_in {lo hi : Int} {rs : List Int} (h : ∀ r ∈ rs, lo ≤ r ∧ r ≤ hi) : (rs.all fun x => inB x lo hi) = true := by
  rw [List.all_eq_true]
  exact fun x hx => inB_true.2 (h x hx)
def WorstRes (rs : List Int) (w : World) (e : Ending) (w' : World) : Prop := ∃ (k : Nat) (m : Int), rs[k]? = some m ∧ (∀ r ∈ rs, absI r ≤ absI m) ∧ e = .returned (.tuple #[.int .i64 k, .int .i64 0]) ∧ Below w.heap.size w w'
set_option maxRecDepth 20000 in
set_option maxHeartbeats 4000000 in
theorem squaresOf_any (A : Option Addr) (c : Nat) (xs : List Mn) (a b : Int) (w : World) (h : Rd encMn 2 w w.heap.size A xs) (ok : MnOk xs) (hl : xs.length ≤ 8) (ne : NearE a b xs) (a0 : 0 ≤ a) (a1 : a ≤ 19900) (p0 : 1 ≤ b) (p1 : b ≤ 9000) :
    Calls Try.prog 15 #[.slice A xs.length c, .agg #[.int .i64 a, .int .i64 b]] w fun e w' => e = .returned (.tuple #[.int .i64 (sqI (xs.map (rsd a b))), .int .i64 0]) ∧ Below w.heap.size w w' := by
  go_enter Try.func15, Try.ntmps15
  go_wp2_with fail
  refine (residualsOf_any A c xs a b _ ((h.below (B' := w.heap.size) (by repeat (first | assumption | exact Below.refl _ _ | apply Below.al | apply Below.drewN' | apply Below.drew | (apply Below.tr; assumption))) (Nat.le_refl _)).more (by first | (simp; done) | (simp; omega))) ok hl a0 a1 p0 p1).mono ?_
  rintro e w1 ⟨Ar, cr, rfl, own, hb1⟩
  have hb1' : Below w.heap.size w w1 := Below.tr hb1 (by repeat (first | assumption | exact Below.refl _ _ | apply Below.al | apply Below.drewN' | apply Below.drew | (refine Below.sc ?_ (by first | omega | (simp; done) | (simp; omega)) _) | (apply Below.tr; assumption)))
  have RR := rd_of_own (enc := encI) (k := 1) (fun _ => rfl) own
  have hln : (xs.map (rsd a b)).length = xs.length := List.length_map ..
  have HB : ∀ r ∈ xs.map (rsd a b), -10 ≤ r ∧ r ≤ 10 := near_rs ne
  generalize hrs : xs.map (rsd a b) = rs at *
  have HRS := hid hrs
  clear own hb1 hrs
  have HBh := hid HB
  have AI := allIn_any (-1000000) 1000000 Ar cr rs w1 RR (by omega)
  rw [all_in (lo := -1000000) (hi := 1000000) (fun r hr => by have := HB r hr; omega)] at AI
  have hl2 : rs.length ≤ 8 := by omega
  clear HB hln
  go_wp2_with fail
  refine AI.mono ?_
  rintro e w2 ⟨rfl, hb2⟩
  have hb2' := Below.tr hb2 hb1'
  clear AI
  go_wp2_with fail
  go_loopw [8, 27] (fun sv i wr => ∃ (k : Nat) (s : Int), k ≤ rs.length ∧ i = .int .i64 k ∧ sv = .int .i64 s ∧ 0 ≤ s ∧ s ≤ k * 100 ∧ Below w1.heap.size w1 wr ∧ Hid (sqI rs = s + sqI (rs.drop k))) (fun _ i _ => rs.length - (intOf i).toNat)
  case atStart => exact ⟨0, 0, Nat.zero_le _, rfl, rfl, by omega, by omega, hb2, hid (by simp)⟩
  case round =>
    clear hb2
    obtain ⟨k, s, hk, rfl, rfl, s0, s1, hb, H⟩ := hrel
    have hsz := hb.size
    by_cases hlt : k < rs.length
    · obtain ⟨p, hp⟩ := getx hlt
      obtain ⟨bb, o, rfl, hbB, c0⟩ := (RR.below hb (Nat.le_refl _)).at1 hp rfl
      have hpr := HBh.out p (List.mem_of_getElem? hp)
      have HS : Hid (sqI (rs.drop k) = p * p + sqI (rs.drop (k+1))) := by rw [dropx hp]; rfl
      have m1 := mul_bds (x := p) (y := p) (A := 10) (B := 10) (by omega) (by omega) (by omega) (by omega)
      have m2 := sq_nn p
      clear hp
      go_wp2
      go_roundw
      case rel => exact ⟨k + 1, s + p * p, by omega, by go_num, rfl, by omega, by push_cast; omega, hb, hid (by rw [H.out, HS.out]; omega)⟩
      case measure => simp [intOf]; omega
    · have HE : Hid (s = sqI rs) := hid (by rw [H.out, List.drop_eq_nil_of_le (by omega)]; simp [sqI])
      go_wp2
      go_ret2
      exact ⟨by rw [HE.out, ← HRS.out]; rfl, Below.tr hb hb1'⟩
set_option maxRecDepth 20000 in
set_option maxHeartbeats 4000000 in
theorem worstFew_any (A : Option Addr) (c : Nat) (xs : List Mn) (a b : Int) (w : World) (h : Rd encMn 2 w w.heap.size A xs) (ok : MnOk xs) (hl : xs.length ≤ 8) (ne : NearE a b xs) (h0 : xs.length = 0) (a0 : 0 ≤ a) (a1 : a ≤ 19900) (p0 : 1 ≤ b) (p1 : b ≤ 9000) :
    Calls Try.prog 16 #[.slice A xs.length c, .agg #[.int .i64 a, .int .i64 b]] w fun e w' => e = .returned (.tuple #[.int .i64 0, .int .i64 3]) ∧ Below w.heap.size w w' := by
  have H0 := hid h0
  clear h0
  go_enter Try.func16, Try.ntmps16
  go_wp2_with fail
  refine (residualsOf_any A c xs a b _ ((h.below (B' := w.heap.size) (by repeat (first | assumption | exact Below.refl _ _ | apply Below.al | apply Below.drewN' | apply Below.drew | (apply Below.tr; assumption))) (Nat.le_refl _)).more (by first | (simp; done) | (simp; omega))) ok hl a0 a1 p0 p1).mono ?_
  rintro e w1 ⟨Ar, cr, rfl, own, hb1⟩
  have hb1' : Below w.heap.size w w1 := Below.tr hb1 (by repeat (first | assumption | exact Below.refl _ _ | apply Below.al | apply Below.drewN' | apply Below.drew | (refine Below.sc ?_ (by first | omega | (simp; done) | (simp; omega)) _) | (apply Below.tr; assumption)))
  have RR := rd_of_own (enc := encI) (k := 1) (fun _ => rfl) own
  have hln : (xs.map (rsd a b)).length = xs.length := List.length_map ..
  have HB : ∀ r ∈ xs.map (rsd a b), -10 ≤ r ∧ r ≤ 10 := near_rs ne
  generalize hrs : xs.map (rsd a b) = rs at *
  have HRS := hid hrs
  clear own hb1 hrs
  have e0 : ((rs.length : Int) == 0) = true := by simpa using hln.trans H0.out
  clear hln HB H0 hl ok h
  go_wp2
  go_ret2
  exact ⟨rfl, hb1'⟩
set_option maxRecDepth 20000 in
set_option maxHeartbeats 4000000 in
theorem worst_any (A : Option Addr) (c : Nat) (xs : List Mn) (a b : Int) (w : World) (h : Rd encMn 2 w w.heap.size A xs) (ok : MnOk xs) (hl : xs.length ≤ 8) (ne : NearE a b xs) (h0 : 0 < xs.length) (a0 : 0 ≤ a) (a1 : a ≤ 19900) (p0 : 1 ≤ b) (p1 : b ≤ 9000) :
    Calls Try.prog 16 #[.slice A xs.length c, .agg #[.int .i64 a, .int .i64 b]] w (WorstRes (xs.map (rsd a b)) w) := by
  go_enter Try.func16, Try.ntmps16
  go_wp2_with fail
  refine (residualsOf_any A c xs a b _ ((h.below (B' := w.heap.size) (by repeat (first | assumption | exact Below.refl _ _ | apply Below.al | apply Below.drewN' | apply Below.drew | (apply Below.tr; assumption))) (Nat.le_refl _)).more (by first | (simp; done) | (simp; omega))) ok hl a0 a1 p0 p1).mono ?_
  rintro e w1 ⟨Ar, cr, rfl, own, hb1⟩
  have hb1' : Below w.heap.size w w1 := Below.tr hb1 (by repeat (first | assumption | exact Below.refl _ _ | apply Below.al | apply Below.drewN' | apply Below.drew | (refine Below.sc ?_ (by first | omega | (simp; done) | (simp; omega)) _) | (apply Below.tr; assumption)))
  have RR := rd_of_own (enc := encI) (k := 1) (fun _ => rfl) own
  have hln : (xs.map (rsd a b)).length = xs.length := List.length_map ..
  have HB : ∀ r ∈ xs.map (rsd a b), -10 ≤ r ∧ r ≤ 10 := near_rs ne
  generalize hrs : xs.map (rsd a b) = rs at *
  have HRS := hid hrs
  clear own hb1 hrs
  have e0 : ((rs.length : Int) == 0) = false := by have : ¬ rs.length = 0 := by omega
                                                   simpa using this
  obtain ⟨m0, hm0⟩ : ∃ m, rs[0]? = some m := getx (by omega)
  have HBh := hid HB
  have hl2 : rs.length ≤ 8 := by omega
  have hl3 : 0 < rs.length := by omega
  clear hln HB h0 hl ok h ne
  go_wp2_with fail
  go_loopw [8, 27] (fun wv i wr => ∃ (k j : Nat) (m : Int), k ≤ rs.length ∧ i = .int .i64 k ∧ wv = .int .i64 j ∧ Hid (rs[j]? = some m) ∧ Below w1.heap.size w1 wr ∧ Hid (∀ r ∈ rs.take k, absI r ≤ absI m)) (fun _ i _ => rs.length - (intOf i).toNat)
  case atStart => exact ⟨0, 0, m0, Nat.zero_le _, rfl, rfl, hid hm0, Below.refl _ _, hid (by simp)⟩
  case round =>
    clear hm0
    obtain ⟨k, j, m, hk, rfl, rfl, HJ, hb, H⟩ := hrel
    have hsz := hb.size
    have hj := (List.getElem?_eq_some_iff.1 HJ.out).1
    by_cases hlt : k < rs.length
    · obtain ⟨p, hp⟩ := getx hlt
      obtain ⟨bb, o, rfl, hbB, c0⟩ := (RR.below hb (Nat.le_refl _)).at1 hp rfl
      obtain ⟨_, _, ee, _, d0⟩ := (RR.below hb (Nat.le_refl _)).at1 HJ.out rfl
      simp at ee; obtain ⟨rfl, rfl⟩ := ee
      have hpr := HBh.out p (List.mem_of_getElem? hp)
      have hmr := HBh.out m (List.mem_of_getElem? HJ.out)
      have HP := hid hp
      have b0 : bb < wr.heap.size := by omega
      clear hp
      by_cases hc : absI m < absI p
      · have hc' : decide (absI m < absI p) = true := by simpa using hc
        go_wp2_with fail
        refine wp_region_ext (by kernel_rfl) (by kernel_rfl) ?_
        repeat (go_big_quiet_step ((first | (go_at_call 29; exact ext_same (abs_any _ _ (by omega) (by omega))))))
        refine wpQuiet_nil ?_
        intro w3 hb3
        obtain ⟨hc_w3, hf_w3⟩ := bcell hb3
        have hz_w3 := hb3.size
        have hb3' := Below.tr hb3 hb
        clear hc_w3 hf_w3
        go_wp2
        go_roundw
        case rel => exact ⟨k + 1, k, p, by omega, by go_num, rfl, HP, hb3', hid (fun r hr => by rw [List.take_add_one, HP.out] at hr; rcases List.mem_append.1 hr with hr | hr; (have := H.out r hr; omega); (simp at hr; subst hr; omega))⟩
        case measure => simp [intOf]; omega
      · have hc' : decide (absI m < absI p) = false := by simpa using hc
        go_wp2_with fail
        refine wp_region_ext (by kernel_rfl) (by kernel_rfl) ?_
        repeat (go_big_quiet_step ((first | (go_at_call 29; exact ext_same (abs_any _ _ (by omega) (by omega))))))
        refine wpQuiet_nil ?_
        intro w3 hb3
        obtain ⟨hc_w3, hf_w3⟩ := bcell hb3
        have hz_w3 := hb3.size
        have hb3' := Below.tr hb3 hb
        clear hc_w3 hf_w3
        go_wp2
        go_roundw
        case rel => exact ⟨k + 1, j, m, by omega, by go_num, rfl, HJ, hb3', hid (fun r hr => by rw [List.take_add_one, HP.out] at hr; rcases List.mem_append.1 hr with hr | hr; (exact H.out r hr); (simp at hr; subst hr; omega))⟩
        case measure => simp [intOf]; omega
    · have HE : Hid (∀ r ∈ rs, absI r ≤ absI m) := hid (by have := H.out; rwa [List.take_of_length_le (by omega)] at this)
      go_wp2
      go_ret2
      exact ⟨j, m, HJ.out, HE.out, rfl, Below.tr hb hb1'⟩
end Go.Proofs.Ytlpgnmkhlbddaaa
