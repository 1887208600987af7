/- Contracts: numbers put to their place, the facts that are searched, in the reference. -/
import Derived.Test.YtbjanedofdcgdaaC18k
import Derived.Deep.RegionHeld3
import Derived.BigRegion
namespace Go.Proofs.Ytbjanedofdcgdaa
open Go.RowKit
set_option linter.unusedVariables false
set_option maxRecDepth 20000 in
set_option maxHeartbeats 2000000 in
theorem l00Put_any (Ad : Option Addr) (c : Nat) (xs : List Int) (n : Int) (w : World) (h : Rd encI 1 w w.heap.size Ad xs) (hn : xs.length ≤ 1048576) :
    Calls Try.prog 35 #[.slice Ad xs.length c, .int .i64 n] w (OwnRes 2 1 encI (putS xs n) w) := by
  obtain ⟨i0, hi0, iz0, iz1, iz2⟩ := info_parts (P := Try.prog) (e := 2) (z := .int .i64 0) (size := 1) (bytes := 8) (by kernel_rfl)
  go_enter Try.func35, Try.ntmps35
  go_wp2
  go_loopw [5, 6, 7] (fun v d i wr => ∃ (k : Nat) (zs : List Int) (dd : Bool), k ≤ xs.length ∧ i = .int .i64 k ∧ d = .bool dd ∧ zs.length ≤ k + 1 ∧ (dd = false → zs.length ≤ k) ∧ Below w.heap.size w wr ∧ wr.ownsRow w.heap.size 2 1 v zs.length (zs.flatMap encI) ∧ Hid (zs ++ (if dd then xs.drop k else putS (xs.drop k) n) = putS xs n)) (fun _ _ i _ => xs.length - (intOf i).toNat)
  case atStart => exact ⟨0, [], false, Nat.zero_le _, rfl, rfl, by simp, by simp, (by repeat (first | assumption | exact Below.refl _ _ | apply Below.al | apply Below.drewN' | apply Below.drew | (apply Below.tr; assumption))), own_lit0 _ _ _ (Nat.le_refl _), hid rfl⟩
  case round =>
    obtain ⟨k, zs, dd, hk, rfl, rfl, hz1, hz2, hb, hown, HE⟩ := hrel
    by_cases hlt : k < xs.length
    · obtain ⟨p, hp⟩ := getx hlt
      obtain ⟨b, o, rfl, hbB, c0⟩ := (h.below hb (Nat.le_refl _)).at1 hp rfl
      have hsz := hb.size
      have HD : Hid (xs.drop k = p :: xs.drop (k+1)) := hid (by rw [List.drop_eq_getElem_cons hlt]; rw [(List.getElem?_eq_some_iff.1 hp).2])
      have H0 := hid hown
      clear hown hp
      cases dd
      · have hz3 := hz2 rfl
        clear hz2
        by_cases h1 : n ≤ p
        · by_cases h2 : n < p
          · go_wp2_with (first | ((at_builtin; (refine wpList_append_own _ rfl _ _ 35 rfl (w.heap.size) 2 i0 _ 1 8 Try.underlying35 hi0 iz0 iz1 iz2 rfl (by decide) _ _ _ rfl (H0.out.alloc _) ⟨(wr).heap.size, 0, none⟩ 1 1 [.int .i64 n] rfl rfl (news_at wr [.int .i64 n] 2) (by simp [Value.oneCell']) (by unfold maxLen; omega) (by omega) (by first | omega | (simp; done) | (simp; omega)) ?_); intro vw2 w2 own_w2 grow_w2 _); have hb2 := Below.ap hb hb.size H0.out (Nat.le_refl _) grow_w2; have hzz := hb2.size; have c2 := ((bcell hb2).1 _ (o+k) hbB).trans (((bcell hb).1 _ _ hbB).symm.trans c0); have O2 := hid own_w2; clear own_w2 grow_w2) | (at_builtin; go_must (refine wpList_append_own _ rfl _ _ 35 rfl (w.heap.size) 2 i0 _ 1 8 Try.underlying35 hi0 iz0 iz1 iz2 rfl (by decide) _ _ _ rfl (O2.out.alloc _) ⟨(w2).heap.size, 0, none⟩ 1 1 [.int .i64 p] rfl rfl (news_at w2 [.int .i64 p] 2) (by simp [Value.oneCell']) (by unfold maxLen; omega) (by omega) (by first | omega | (simp; done) | (simp; omega)) ?_); intro vw3 w3 own_w3 grow_w3 _))
            have hb3 := Below.ap hb2 hb2.size O2.out (Nat.le_refl _) grow_w3
            go_roundw
            case rel => exact ⟨k + 1, zs ++ [n, p], true, by omega, by go_num, rfl, by simp; omega, by simp, hb3, by simpa [encI] using own_w3, hid (by have := HE.out; rw [HD.out] at this; simpa [putS, h1, h2] using this)⟩
            case measure => simp [intOf]; omega
          · go_wp2_with (at_builtin; go_must (refine wpList_append_own _ rfl _ _ 35 rfl (w.heap.size) 2 i0 _ 1 8 Try.underlying35 hi0 iz0 iz1 iz2 rfl (by decide) _ _ _ rfl (H0.out.alloc _) ⟨(wr).heap.size, 0, none⟩ 1 1 [.int .i64 p] rfl rfl (news_at wr [.int .i64 p] 2) (by simp [Value.oneCell']) (by unfold maxLen; omega) (by omega) (by first | omega | (simp; done) | (simp; omega)) ?_); intro vw3 w3 own_w3 grow_w3 _)
            have hb3 := Below.ap hb hb.size H0.out (Nat.le_refl _) grow_w3
            go_roundw
            case rel => exact ⟨k + 1, zs ++ [p], true, by omega, by go_num, rfl, by simp; omega, by simp <;> omega, hb3, by simpa [encI] using own_w3, hid (by have := HE.out; rw [HD.out] at this; simpa [putS, h1, h2] using this)⟩
            case measure => simp [intOf]; omega
        · go_wp2_with (at_builtin; go_must (refine wpList_append_own _ rfl _ _ 35 rfl (w.heap.size) 2 i0 _ 1 8 Try.underlying35 hi0 iz0 iz1 iz2 rfl (by decide) _ _ _ rfl (H0.out.alloc _) ⟨(wr).heap.size, 0, none⟩ 1 1 [.int .i64 p] rfl rfl (news_at wr [.int .i64 p] 2) (by simp [Value.oneCell']) (by unfold maxLen; omega) (by omega) (by first | omega | (simp; done) | (simp; omega)) ?_); intro vw3 w3 own_w3 grow_w3 _)
          have hb3 := Below.ap hb hb.size H0.out (Nat.le_refl _) grow_w3
          go_roundw
          case rel => exact ⟨k + 1, zs ++ [p], false, by omega, by go_num, rfl, by simp; omega, by simp <;> omega, hb3, by simpa [encI] using own_w3, hid (by have := HE.out; rw [HD.out] at this; simpa [putS, h1] using this)⟩
          case measure => simp [intOf]; omega
      · go_wp2_with (at_builtin; go_must (refine wpList_append_own _ rfl _ _ 35 rfl (w.heap.size) 2 i0 _ 1 8 Try.underlying35 hi0 iz0 iz1 iz2 rfl (by decide) _ _ _ rfl (H0.out.alloc _) ⟨(wr).heap.size, 0, none⟩ 1 1 [.int .i64 p] rfl rfl (news_at wr [.int .i64 p] 2) (by simp [Value.oneCell']) (by unfold maxLen; omega) (by omega) (by first | omega | (simp; done) | (simp; omega)) ?_); intro vw3 w3 own_w3 grow_w3 _)
        have hb3 := Below.ap hb hb.size H0.out (Nat.le_refl _) grow_w3
        go_roundw
        case rel => exact ⟨k + 1, zs ++ [p], true, by omega, by go_num, rfl, by simp; omega, by simp <;> omega, hb3, by simpa [encI] using own_w3, hid (by have := HE.out; rw [HD.out] at this; simpa using this)⟩
        case measure => simp [intOf]; omega
    · obtain rfl : k = xs.length := by omega
      have H0 := hid hown
      clear hown
      cases dd
      · have hz3 := hz2 rfl
        clear hz2
        have hsz := hb.size
        go_wp2_with (at_builtin; go_must (refine wpList_append_own _ rfl _ _ 35 rfl (w.heap.size) 2 i0 _ 1 8 Try.underlying35 hi0 iz0 iz1 iz2 rfl (by decide) _ _ _ rfl (H0.out.alloc _) ⟨(wr).heap.size, 0, none⟩ 1 1 [.int .i64 n] rfl rfl (news_at wr [.int .i64 n] 2) (by simp [Value.oneCell']) (by unfold maxLen; omega) (by omega) (by first | omega | (simp; done) | (simp; omega)) ?_); intro vw2 w2 own_w2 grow_w2 _)
        have hb2 := Below.ap hb hb.size H0.out (Nat.le_refl _) grow_w2
        obtain ⟨A2, c2, rfl⟩ := own_shape own_w2
        have HE2 : Hid (zs ++ [n] = putS xs n) := hid (by have := HE.out; simpa [putS] using this)
        have O2 : Hid (w2.ownsRow w.heap.size 2 1 (.slice A2 (zs.length + 1) c2) (zs.length + 1) ((zs ++ [n]).flatMap encI)) := hid (by simpa [encI] using own_w2)
        clear own_w2 grow_w2
        go_wp2
        go_ret
        exact ⟨A2, c2, by rw [← HE2.out]; simp, by rw [← HE2.out]; simpa using O2.out, hb2⟩
      · obtain ⟨A2, c2, rfl⟩ := own_shape H0.out
        have HE2 : Hid (zs = putS xs n) := hid (by have := HE.out; simpa using this)
        go_wp2
        go_ret
        exact ⟨A2, c2, by rw [← HE2.out]; rfl, by rw [← HE2.out]; exact H0.out, hb⟩
theorem rd_zero (w : World) {g B : Nat} (hg : g = w.heap.size) (hB : g < B) : Rd encI 1 (w.alloc (.cells #[.int .i64 0] 2)) B (some ⟨g, 0, none⟩) [0] := fun hx => by
  subst hg
  refine ⟨w.heap.size, 0, rfl, by omega, ?_⟩
  intro i x hi j v hv
  cases i with
  | zero =>
    simp at hi; subst hi
    cases j with
    | zero => simp [encI] at hv; subst hv; simp [go_sem]
    | succ j => simp [encI] at hv
  | succ i => simp at hi
theorem l00Put_rd (Ad : Option Addr) (c : Nat) (xs : List Int) (n : Int) (w : World) (h : Rd encI 1 w w.heap.size Ad xs) (hn : xs.length ≤ 1048576) :
    Calls Try.prog 35 #[.slice Ad xs.length c, .int .i64 n] w fun e w' => ∃ A5 c5, e = .returned (.slice A5 (putS xs n).length c5) ∧ Rd encI 1 w' w'.heap.size A5 (putS xs n) ∧ Below w.heap.size w w' :=
  (l00Put_any Ad c xs n w h hn).mono fun _ _ ⟨A5, c5, he, own, hb⟩ => ⟨A5, c5, he, rd_of_own (fun _ => rfl) own, hb⟩
theorem ruL_in {xs : List Ru} (h : ruL xs = true) : ∀ x ∈ xs, 0 ≤ x.fa ∧ x.fa ≤ x.ta ∧ x.ta ≤ 20000 ∧ 0 ≤ x.fp ∧ x.fp ≤ x.tp ∧ x.tp ≤ 1000000 := by
  intro x hx
  unfold ruL at h
  simp only [Bool.and_eq_true, List.all_eq_true] at h
  have := h.2 x hx
  unfold ruB at this
  simp only [Bool.and_eq_true, inB_true] at this
  omega
def fdF (x : Option Fa) : Fa := x.getD ⟨0, 0, 0⟩
set_option maxRecDepth 20000 in
set_option maxHeartbeats 2000000 in
theorem l18Find_any (A : Option Addr) (c : Nat) (xs : List Ru) (k : Int) (w : World) (h : Rd encRu 6 w w.heap.size A xs) (hr : ruL xs = true) :
    Calls Try.prog 22 #[.slice A xs.length c, .int .i64 k] w fun e w' => e = .returned (.tuple #[.agg #[.int .i64 (fdF (fndR xs k)).a, .int .i64 (fdF (fndR xs k)).p, .int .i64 (fdF (fndR xs k)).s], .bool (fndR xs k).isSome]) ∧ Below w.heap.size w w' := by
  have hn := ruL_len hr
  go_enter Try.func22, Try.ntmps22
  go_wp2
  go_loopw [6, 7, 8] (fun v1 v2 i wr => ∃ (j : Nat) (A1 : Option Addr) (c1 : Nat) (A2 : Option Addr) (c2 : Nat) (L1 L2 : List Int), j ≤ xs.length ∧ i = .int .i64 j ∧ v1 = .slice A1 L1.length c1 ∧ v2 = .slice A2 L2.length c2 ∧ Below (((w.alloc (.cells #[.int .i64 0, .int .i64 0, .int .i64 0] 25)).alloc (.cells #[.int .i64 0] 2)).alloc (.cells #[.int .i64 0] 2)).heap.size (((w.alloc (.cells #[.int .i64 0, .int .i64 0, .int .i64 0] 25)).alloc (.cells #[.int .i64 0] 2)).alloc (.cells #[.int .i64 0] 2)) wr ∧ Hid (Rd encI 1 wr wr.heap.size A1 L1) ∧ Hid (Rd encI 1 wr wr.heap.size A2 L2) ∧ L1.length ≤ 1 + 2 * j ∧ L2.length ≤ 1 + 2 * j ∧ Hid (crL (·.fa) (·.ta) [0] xs = crL (·.fa) (·.ta) L1 (xs.drop j)) ∧ Hid (crL (·.fp) (·.tp) [0] xs = crL (·.fp) (·.tp) L2 (xs.drop j))) (fun _ _ i _ => xs.length - (intOf i).toNat)
  case atStart => exact ⟨0, _, _, _, _, [0], [0], Nat.zero_le _, rfl, rfl, rfl, Below.refl _ _, hid (((rd_zero (w.alloc (.cells #[.int .i64 0, .int .i64 0, .int .i64 0] 25)) (B := (World.heap ((w.alloc (.cells #[.int .i64 0, .int .i64 0, .int .i64 0] 25)).alloc (.cells #[.int .i64 0] 2))).size) (by simp) (by simp)).below (B' := (World.heap ((w.alloc (.cells #[.int .i64 0, .int .i64 0, .int .i64 0] 25)).alloc (.cells #[.int .i64 0] 2))).size) (Below.al (Below.refl _ _) _) (Nat.le_refl _)).more (B' := (World.heap (((w.alloc (.cells #[.int .i64 0, .int .i64 0, .int .i64 0] 25)).alloc (.cells #[.int .i64 0] 2)).alloc (.cells #[.int .i64 0] 2))).size) (by simp)), hid (rd_zero ((w.alloc (.cells #[.int .i64 0, .int .i64 0, .int .i64 0] 25)).alloc (.cells #[.int .i64 0] 2)) (by simp) (by simp)), by simp, by simp, hid rfl, hid rfl⟩
  case round =>
    obtain ⟨j, A1, c1, A2, c2, L1, L2, hj, rfl, rfl, rfl, hb, R1, R2, l1, l2, H1, H2⟩ := hrel
    have hbw : Below w.heap.size w wr := Below.tr hb (by repeat (first | assumption | exact Below.refl _ _ | apply Below.al | apply Below.drewN' | apply Below.drew | (apply Below.tr; assumption)))
    by_cases hlt : j < xs.length
    · obtain ⟨p, hp⟩ := getx hlt
      obtain ⟨bb, o, rfl, hbB, x0, x1, x2, x3, x4, x5⟩ := (h.below hbw (Nat.le_refl _)).at6 hp rfl
      obtain ⟨p1, p2, p3, p4, p5, p6⟩ := ruL_in hr p (List.mem_of_getElem? hp)
      have HD := hid (dropx hp)
      have hsz := hb.size
      simp at hsz
      have b0 : bb < wr.heap.size := by omega
      clear hp hbw x0 x5
      have B0 := hid hb
      clear hb
      go_wp2
      have q21 : ∀ W, Below wr.heap.size wr W → Calls Try.prog 35 #[.slice A1 L1.length c1, .int .i64 p.fa] W fun e w' => ∃ A5 c5, e = .returned (.slice A5 (putS L1 p.fa).length c5) ∧ Rd encI 1 w' w'.heap.size A5 (putS L1 p.fa) ∧ Below W.heap.size W w' := fun W hW => l00Put_rd A1 c1 L1 p.fa W ((R1.out.below hW (Nat.le_refl _)).more hW.size) (by omega)
      have u21 := putS_len L1 p.fa
      have u22 := putS_len (putS L1 p.fa) (p.ta + 1)
      have y21 : IntKind.i64.wrap (p.ta + 1) = p.ta + 1 := IntWalk.i64_in _ ⟨by omega, by omega⟩
      go_region_held3 (fun w' => w'.cell? ⟨bb, o + j * 6 + 1, none⟩ = some (.int .i64 p.fa) ∧ w'.cell? ⟨bb, o + j * 6 + 2, none⟩ = some (.int .i64 p.ta)) (first | go_keep)
        (first | (have rr := r21; (try rw [y21]); go_at_call 35; refine (l00Put_rd A21 c21 (putS L1 p.fa) (p.ta + 1) _ rr (by omega)).mono ?_; rintro e w22 ⟨A22, c22, rfl, r22, hb22⟩; have zw22 := hb22.size; have hbw22 : Below wr.heap.size wr w22 := Below.trans hbw21 (hb22.mono (by omega)); have x22 : w22.cell? ⟨bb, o + j * 6 + 1, none⟩ = some (.int .i64 p.fa) ∧ w22.cell? ⟨bb, o + j * 6 + 2, none⟩ = some (.int .i64 p.ta) := ⟨((bcell hbw22).1 bb _ (by omega)).trans (by assumption), ((bcell hbw22).1 bb _ (by omega)).trans (by assumption)⟩; clear rr) | (go_at_call 35; refine (q21 _ (by repeat (first | assumption | exact Below.refl _ _ | apply Below.al | apply Below.drew))).mono ?_; rintro e w21 ⟨A21, c21, rfl, r21, hb21⟩; have zw21 := hb21.size; simp at zw21; have hbw21 : Below wr.heap.size wr w21 := Below.trans (by repeat (first | assumption | exact Below.refl _ _ | apply Below.al | apply Below.drew)) (hb21.mono (by simp)); have x21 : w21.cell? ⟨bb, o + j * 6 + 1, none⟩ = some (.int .i64 p.fa) ∧ w21.cell? ⟨bb, o + j * 6 + 2, none⟩ = some (.int .i64 p.ta) := ⟨((bcell hbw21).1 bb _ (by omega)).trans (by assumption), ((bcell hbw21).1 bb _ (by omega)).trans (by assumption)⟩))
      have B2 := hid (Below.tr hbw22 B0.out)
      have R22 := hid r22
      have R2' := hid ((R2.out.below hbw22 (Nat.le_refl _)).more hbw22.size)
      have v3 := ((bcell hbw22).1 bb _ (by omega)).trans x3
      have v4 := ((bcell hbw22).1 bb _ (by omega)).trans x4
      have zz22 := hbw22.size
      clear x21 x22 r21 r22 q21 hb21 hb22 hbw21 hbw22 x1 x2 x3 x4 R1 B0 R2
      go_wp2
      have q23 : ∀ W, Below w22.heap.size w22 W → Calls Try.prog 35 #[.slice A2 L2.length c2, .int .i64 p.fp] W fun e w' => ∃ A5 c5, e = .returned (.slice A5 (putS L2 p.fp).length c5) ∧ Rd encI 1 w' w'.heap.size A5 (putS L2 p.fp) ∧ Below W.heap.size W w' := fun W hW => l00Put_rd A2 c2 L2 p.fp W ((R2'.out.below hW (Nat.le_refl _)).more hW.size) (by omega)
      have u23 := putS_len L2 p.fp
      have u24 := putS_len (putS L2 p.fp) (p.tp + 1)
      have y23 : IntKind.i64.wrap (p.tp + 1) = p.tp + 1 := IntWalk.i64_in _ ⟨by omega, by omega⟩
      go_region_held3 (fun w' => w'.cell? ⟨bb, o + j * 6 + 3, none⟩ = some (.int .i64 p.fp) ∧ w'.cell? ⟨bb, o + j * 6 + 4, none⟩ = some (.int .i64 p.tp)) (first | go_keep)
        (first | (have rr := r23; (try rw [y23]); go_at_call 35; refine (l00Put_rd A23 c23 (putS L2 p.fp) (p.tp + 1) _ rr (by omega)).mono ?_; rintro e w24 ⟨A24, c24, rfl, r24, hb24⟩; have zw24 := hb24.size; have hbw24 : Below w22.heap.size w22 w24 := Below.trans hbw23 (hb24.mono (by omega)); have x24 : w24.cell? ⟨bb, o + j * 6 + 3, none⟩ = some (.int .i64 p.fp) ∧ w24.cell? ⟨bb, o + j * 6 + 4, none⟩ = some (.int .i64 p.tp) := ⟨((bcell hbw24).1 bb _ (by omega)).trans (by assumption), ((bcell hbw24).1 bb _ (by omega)).trans (by assumption)⟩; clear rr) | (go_at_call 35; refine (q23 _ (by repeat (first | assumption | exact Below.refl _ _ | apply Below.al | apply Below.drew))).mono ?_; rintro e w23 ⟨A23, c23, rfl, r23, hb23⟩; have zw23 := hb23.size; simp at zw23; have hbw23 : Below w22.heap.size w22 w23 := Below.trans (by repeat (first | assumption | exact Below.refl _ _ | apply Below.al | apply Below.drew)) (hb23.mono (by simp)); have x23 : w23.cell? ⟨bb, o + j * 6 + 3, none⟩ = some (.int .i64 p.fp) ∧ w23.cell? ⟨bb, o + j * 6 + 4, none⟩ = some (.int .i64 p.tp) := ⟨((bcell hbw23).1 bb _ (by omega)).trans (by assumption), ((bcell hbw23).1 bb _ (by omega)).trans (by assumption)⟩))
      have B4 := hid (Below.tr hbw24 B2.out)
      have R24 := hid r24
      have R22' := hid ((R22.out.below hbw24 (Nat.le_refl _)).more hbw24.size)
      clear x23 x24 r23 r24 q23 hb23 hb24 hbw23 hbw24 v3 v4 B2
      go_wp2
      go_roundw
      case rel => exact ⟨j + 1, A22, c22, A24, c24, _, _, by omega, by go_num, rfl, rfl, B4.out, R22', R24, by omega, by omega, hid (by rw [H1.out, HD.out]; rfl), hid (by rw [H2.out, HD.out]; rfl)⟩
      case measure => simp [intOf]; omega
    · obtain rfl : j = xs.length := by omega
      have HF : Hid (fndR xs k = fndS L1 L2 xs k) := hid (by unfold fndR; rw [H1.out, H2.out, List.drop_length]; rfl)
      clear H1 H2 hlt hj
      have hsz := hb.size
      simp at hsz
      have g0 : w.heap.size < wr.heap.size := by omega
      have e0 : wr.cell? ⟨w.heap.size, 0, none⟩ = some (.int .i64 0) := by rw [(bcell hb).1 (w.heap.size) 0 (by simp <;> omega)]; simp [go_sem]
      have f0 : wr.frozen? ⟨w.heap.size, 0, none⟩ = false := by rw [(bcell hb).2 (w.heap.size) 0 (by simp <;> omega)]; simp [go_sem]
      have e1 : wr.cell? ⟨w.heap.size, 1, none⟩ = some (.int .i64 0) := by rw [(bcell hb).1 (w.heap.size) 1 (by simp <;> omega)]; simp [go_sem]
      have f1 : wr.frozen? ⟨w.heap.size, 1, none⟩ = false := by rw [(bcell hb).2 (w.heap.size) 1 (by simp <;> omega)]; simp [go_sem]
      have e2 : wr.cell? ⟨w.heap.size, 2, none⟩ = some (.int .i64 0) := by rw [(bcell hb).1 (w.heap.size) 2 (by simp <;> omega)]; simp [go_sem]
      have f2 : wr.frozen? ⟨w.heap.size, 2, none⟩ = false := by rw [(bcell hb).2 (w.heap.size) 2 (by simp <;> omega)]; simp [go_sem]
      have h0 := hid ((h.below hbw (Nat.le_refl _)).more hbw.size)
      have hbw0 := hid hbw
      clear hb hbw h
      obtain ⟨w0, rfl⟩ : ∃ w0, w0 = wr := ⟨_, rfl⟩
      generalize hq : w.heap.size = q at *
      have HQ := hid hq
      clear hq
      go_wp2
      go_loopw [9] (fun i wr => ∃ a : Nat, a ≤ L1.length ∧ i = .int .i64 a ∧ Below w0.heap.size w0 wr ∧ Hid (fndR xs k = (allF L2 (L1.drop a)).find? fun f => faB f && hitB xs k f)) (fun i _ => L1.length - (intOf i).toNat)
      case atStart => exact ⟨0, Nat.zero_le _, rfl, Below.refl _ _, HF⟩
      case round =>
        obtain ⟨a, ha, rfl, hb, HA⟩ := hrel
        by_cases hlta : a < L1.length
        · obtain ⟨x, hx⟩ := getx hlta
          have HX : Hid (allF L2 (L1.drop a) = rowF x L2 ++ allF L2 (L1.drop (a+1))) := hid (by rw [dropx hx]; rfl)
          obtain ⟨w1, rfl⟩ : ∃ w1, w1 = wr := ⟨_, rfl⟩
          go_wp2
          go_loopw [10] (fun i wr => ∃ b : Nat, b ≤ L2.length ∧ i = .int .i64 b ∧ Below w0.heap.size w0 wr ∧ Hid (fndR xs k = (rowF x (L2.drop b) ++ allF L2 (L1.drop (a+1))).find? fun f => faB f && hitB xs k f)) (fun i _ => L2.length - (intOf i).toNat)
          case atStart => exact ⟨0, Nat.zero_le _, rfl, hb, hid (by rw [HA.out, HX.out]; rfl)⟩
          case round =>
            clear hb
            obtain ⟨b, hbl, rfl, hb, HB⟩ := hrel
            by_cases hltb : b < L2.length
            · obtain ⟨y, hy⟩ := getx hltb
              have HY : Hid (rowF x (L2.drop b) = shp x y ++ rowF x (L2.drop (b+1))) := hid (by rw [dropx hy]; rfl)
              obtain ⟨w2, rfl⟩ : ∃ w2, w2 = wr := ⟨_, rfl⟩
              go_wp2
              go_loopw [11] (fun i wr => ∃ n : Nat, n ≤ 3 ∧ i = .int .i64 (1 + n) ∧ Below w0.heap.size w0 wr ∧ Hid (fndR xs k = ((shp x y).drop n ++ rowF x (L2.drop (b+1)) ++ allF L2 (L1.drop (a+1))).find? fun f => faB f && hitB xs k f)) (fun i _ => 5 - (intOf i).toNat)
              case atStart => exact ⟨0, Nat.zero_le _, rfl, hb, hid (by rw [HB.out, HY.out]; rfl)⟩
              case round =>
                clear hb
                obtain ⟨n, hn3, rfl, hb, HN⟩ := hrel
                by_cases hltn : n < 3
                · have HS : Hid ((shp x y).drop n = ⟨x, y, 1 + n⟩ :: (shp x y).drop (n+1)) := hid (by match n, hltn with | 0, _ => rfl | 1, _ => rfl | 2, _ => rfl)
                  obtain ⟨ba, oa, rfl, hbBa, ca⟩ := (R1.out.below hb (Nat.le_refl _)).at1 hx rfl
                  obtain ⟨bp, op, rfl, hbBp, cp⟩ := (R2.out.below hb (Nat.le_refl _)).at1 hy rfl
                  have hzr := hb.size
                  have za : ba < wr.heap.size := by omega
                  have zp : bp < wr.heap.size := by omega
                  have zq : q < wr.heap.size := by omega
                  go_wp2
                  go_region
                  have hbW : Below w0.heap.size w0 (wr.alloc (.cells #[.int .i64 x, .int .i64 y, .int .i64 (1 + (n : Int))] 25)).drew := (by repeat (first | assumption | exact Below.refl _ _ | apply Below.al | apply Below.drewN' | apply Below.drew | (apply Below.tr; assumption)))
                  have x0 : ((wr.alloc (.cells #[.int .i64 x, .int .i64 y, .int .i64 (1 + (n : Int))] 25)).drew).cell? ⟨wr.heap.size, 0, none⟩ = some (.int .i64 x) := by simp [go_sem]
                  have x1 : ((wr.alloc (.cells #[.int .i64 x, .int .i64 y, .int .i64 (1 + (n : Int))] 25)).drew).cell? ⟨wr.heap.size, 1, none⟩ = some (.int .i64 y) := by simp [go_sem]
                  have x2 : ((wr.alloc (.cells #[.int .i64 x, .int .i64 y, .int .i64 (1 + (n : Int))] 25)).drew).cell? ⟨wr.heap.size, 2, none⟩ = some (.int .i64 (1 + (n : Int))) := by simp [go_sem]
                  have zW : wr.heap.size < ((wr.alloc (.cells #[.int .i64 x, .int .i64 y, .int .i64 (1 + (n : Int))] 25)).drew).heap.size := by simp
                  generalize (wr.alloc (.cells #[.int .i64 x, .int .i64 y, .int .i64 (1 + (n : Int))] 25)).drew = W at *
                  have C1 := l18Facts_any x y (1 + (n : Int)) W
                  have C2 : ∀ W5, Below W.heap.size W W5 → Calls Try.prog 37 #[.slice A xs.length c, .agg #[.int .i64 x, .int .i64 y, .int .i64 (1 + (n : Int))]] W5 fun e w' => e = .returned (.int .i64 (idxF (fun r => mtB r ⟨x, y, 1 + (n : Int)⟩) 0 xs)) ∧ Below W5.heap.size W5 w' := fun W5 h5 => l18First_any A c xs ⟨x, y, 1 + (n : Int)⟩ W5 (((h0.out.below (Below.tr h5 hbW) (Nat.le_refl _)).more (Below.tr h5 hbW).size)) (by omega)
                  cases hfa : faB ⟨x, y, 1 + (n : Int)⟩
                  · rw [hfa] at C1
                    go_wp2_with (go_at_call 36; refine C1.mono ?_; rintro e w5 ⟨rfl, hb5⟩; have x5 := fun j => (bcell hb5).1 wr.heap.size j zW; have y0 := (x5 0).trans x0; have y1 := (x5 1).trans x1; have y2 := (x5 2).trans x2; have zw5 := hb5.size)
                    go_roundw
                    case rel => exact ⟨n + 1, by omega, by go_num, Below.tr hb5 hbW, hid (by rw [HN.out, HS.out, List.cons_append, List.cons_append, List.find?_cons]; simp [hitB, hfa])⟩
                    case measure => simp [intOf]; omega
                  · rw [hfa] at C1
                    have HI : Hid (hitB xs k ⟨x, y, 1 + (n : Int)⟩ = ((idxF (fun r => mtB r ⟨x, y, 1 + (n : Int)⟩) 0 xs) == k)) := hid rfl
                    generalize (idxF (fun r => mtB r ⟨x, y, 1 + (n : Int)⟩) 0 xs) = I at *
                    by_cases hk : I = k
                    · have hk1 : (I == k) = true := by simpa using hk
                      have HE : Hid (fndR xs k = some ⟨x, y, 1 + (n : Int)⟩) := hid (by rw [HN.out, HS.out, List.cons_append, List.cons_append, List.find?_cons]; simp [HI.out, hfa, hk1])
                      clear HI HN hk
                      go_wp2_with (first | (go_at_call 36; refine C1.mono ?_; rintro e w5 ⟨rfl, hb5⟩; have x5 := fun j => (bcell hb5).1 wr.heap.size j zW; have y0 := (x5 0).trans x0; have y1 := (x5 1).trans x1; have y2 := (x5 2).trans x2; have zw5 := hb5.size) | (go_at_call 37; refine (C2 _ hb5).mono ?_; rintro e w6 ⟨rfl, hb6⟩; have hb6' : Below W.heap.size W w6 := Below.tr hb6 hb5; have x6 := fun j => (bcell hb6').1 wr.heap.size j zW; have t0 := (x6 0).trans x0; have t1 := (x6 1).trans x1; have t2 := (x6 2).trans x2; have hbF := Below.tr hb6' hbW; have re0 := ((bcell hbF).1 q 0 g0).trans e0; have re1 := ((bcell hbF).1 q 1 g0).trans e1; have re2 := ((bcell hbF).1 q 2 g0).trans e2; have rf0 := ((bcell hbF).2 q 0 g0).trans f0; have rf1 := ((bcell hbF).2 q 1 g0).trans f1; have rf2 := ((bcell hbF).2 q 2 g0).trans f2; have zw6 := hbF.size))
                      exact bodyPost_ret (v := .tuple #[.agg #[.int .i64 (fdF (fndR xs k)).a, .int .i64 (fdF (fndR xs k)).p, .int .i64 (fdF (fndR xs k)).s], .bool (fndR xs k).isSome]) (by rw [HE.out]; simp [fdF, results, Try.results22, go_sem, *]) rfl ⟨rfl, by rw [HQ.out]; have H6 := Below.trans hbw0.out (hbF.mono (by omega)); exact ((H6.setCell (by simp) _).setCell (by simp) _).setCell (by simp) _⟩
                    · have hk1 : (I == k) = false := by simpa using hk
                      go_wp2_with (first | (go_at_call 36; refine C1.mono ?_; rintro e w5 ⟨rfl, hb5⟩; have x5 := fun j => (bcell hb5).1 wr.heap.size j zW; have y0 := (x5 0).trans x0; have y1 := (x5 1).trans x1; have y2 := (x5 2).trans x2; have zw5 := hb5.size) | (go_at_call 37; refine (C2 _ hb5).mono ?_; rintro e w6 ⟨rfl, hb6⟩; have hb6' : Below W.heap.size W w6 := Below.tr hb6 hb5; have x6 := fun j => (bcell hb6').1 wr.heap.size j zW; have t0 := (x6 0).trans x0; have t1 := (x6 1).trans x1; have t2 := (x6 2).trans x2; have hbF := Below.tr hb6' hbW; have re0 := ((bcell hbF).1 q 0 g0).trans e0; have re1 := ((bcell hbF).1 q 1 g0).trans e1; have re2 := ((bcell hbF).1 q 2 g0).trans e2; have rf0 := ((bcell hbF).2 q 0 g0).trans f0; have rf1 := ((bcell hbF).2 q 1 g0).trans f1; have rf2 := ((bcell hbF).2 q 2 g0).trans f2; have zw6 := hbF.size))
                      go_roundw
                      case rel => exact ⟨n + 1, by omega, by go_num, hbF, hid (by rw [HN.out, HS.out, List.cons_append, List.cons_append, List.find?_cons]; simp [hfa, HI.out, hk1])⟩
                      case measure => simp [intOf]; omega
                · obtain rfl : n = 3 := by omega
                  have HE : Hid (fndR xs k = (rowF x (L2.drop (b+1)) ++ allF L2 (L1.drop (a+1))).find? fun f => faB f && hitB xs k f) := hid (by rw [HN.out]; rfl)
                  clear hltn HN
                  go_wp2
                  go_roundw
                  case rel => exact ⟨b + 1, by omega, by go_num, hb, HE⟩
                  case measure => simp [intOf]; omega
            · obtain rfl : b = L2.length := by omega
              have HE : Hid (fndR xs k = (allF L2 (L1.drop (a+1))).find? fun f => faB f && hitB xs k f) := hid (by rw [HB.out, List.drop_length]; rfl)
              clear hltb HB
              go_wp2
              go_roundw
              case rel => exact ⟨a + 1, by omega, by go_num, hb, HE⟩
              case measure => simp [intOf]; omega
        · obtain rfl : a = L1.length := by omega
          have HE : Hid (fndR xs k = none) := hid (by rw [HA.out, List.drop_length]; rfl)
          have zq : q < wr.heap.size := by have := hb.size; omega
          have re0 := ((bcell hb).1 q 0 g0).trans e0
          have rf0 := ((bcell hb).2 q 0 g0).trans f0
          have re1 := ((bcell hb).1 q 1 g0).trans e1
          have rf1 := ((bcell hb).2 q 1 g0).trans f1
          have re2 := ((bcell hb).1 q 2 g0).trans e2
          have rf2 := ((bcell hb).2 q 2 g0).trans f2
          go_wp2
          exact bodyPost_ret (v := .tuple #[.agg #[.int .i64 (fdF (fndR xs k)).a, .int .i64 (fdF (fndR xs k)).p, .int .i64 (fdF (fndR xs k)).s], .bool (fndR xs k).isSome]) (by rw [HE.out]; simp [fdF, results, Try.results22, go_sem, *]) rfl ⟨rfl, by rw [HQ.out]; have H6 := Below.trans hbw0.out (hb.mono (by omega)); exact ((H6.setCell (by simp) _).setCell (by simp) _).setCell (by simp) _⟩
end Go.Proofs.Ytbjanedofdcgdaa
