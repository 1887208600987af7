/- Contract: cycles assigned to times near to an ephemeris, in the program, at drawn minima. -/
import Derived.Test.YtlpgnmkhlbddaaaC13q
namespace Go.Proofs.Ytlpgnmkhlbddaaa
open Go.RowKit
set_option linter.unusedVariables false
def TmOk (xs : List Int) : Prop := xs.Pairwise (fun a b => a < b) ∧ (∀ t ∈ xs, 0 ≤ t ∧ t ≤ 10000000) ∧ xs.length ≤ 50
theorem near_cyc {c b r : Int} (h1 : -10 ≤ r) (h2 : r ≤ 10) (hb : 41 ≤ b) : nearI (c * b + r) b = c := by
  rw [nearI_round _ _ (by omega)]
  exact ediv_uniq (r := 2 * r + b) (by omega) (by grind) (by omega) (by omega)
theorem mnTimes {xs : List Mn} (ok : MnOk xs) (hl : xs.length ≤ 8) : TmOk (xs.map Mn.t) := by
  refine ⟨?_, ?_, by simp; omega⟩
  · rw [List.pairwise_map]
    exact List.Pairwise.imp (fun h => h.2) ok.1
  · intro q hq
    obtain ⟨p, hp, rfl⟩ := List.mem_map.1 hq
    have := ok.2 p hp
    omega
set_option maxHeartbeats 2000000 in
theorem areTimes_ok (A : Option Addr) (c : Nat) (xs : List Int) (w : World) (h : Rd encI 1 w w.heap.size A xs) (ok : TmOk xs) :
    Calls Try.prog 30 #[.slice A xs.length c, .int .i64 50] w fun e w' => e = .returned (.bool true) ∧ Below w.heap.size w w' := by
  have hl := ok.2.2
  have PW := hid ok.1
  have AI := allIn_any 0 10000000 A c xs w h (by omega)
  rw [all_in ok.2.1] at AI
  clear ok
  go_enter Try.func30, Try.ntmps30
  go_wp2_with fail
  refine AI.mono ?_
  rintro e w1 ⟨rfl, hb1⟩
  clear AI
  go_wp2_with fail
  go_loopw [5] (fun i wr => ∃ (k : Nat), 1 ≤ k ∧ k ≤ xs.length + 1 ∧ i = .int .i64 k ∧ Below w.heap.size w wr) (fun i _ => xs.length - (intOf i).toNat)
  case atStart => exact ⟨1, Nat.le_refl _, by omega, rfl, hb1⟩
  case round =>
    obtain ⟨k, hk1, hk, rfl, hb⟩ := hrel
    have hsz := hb.size
    by_cases hlt : k < xs.length
    · obtain ⟨p, hp⟩ := getx hlt
      obtain ⟨bb, o, rfl, hbB, c0⟩ := (h.below hb (Nat.le_refl _)).at1 hp rfl
      obtain ⟨q, hq⟩ : ∃ q, xs[k-1]? = some q := getx (by omega)
      obtain ⟨_, _, ee, _, d0⟩ := (h.below hb (Nat.le_refl _)).at1 hq rfl
      simp at ee; obtain ⟨rfl, rfl⟩ := ee
      have hqp : q < p := by
        obtain ⟨h1, rfl⟩ := List.getElem?_eq_some_iff.1 hq
        obtain ⟨h2, rfl⟩ := List.getElem?_eq_some_iff.1 hp
        exact List.pairwise_iff_getElem.1 PW.out (k-1) k h1 h2 (by omega)
      have hd : decide (p ≤ q) = false := by simp; omega
      have b0 : bb < wr.heap.size := by omega
      clear hp hq
      go_wp2
      refine wp_region_ext (by kernel_rfl) (by kernel_rfl) ?_
      repeat (go_big_quiet_step ((first | fail)))
      refine wpQuiet_nil ?_
      intro w3 hb3
      obtain ⟨hc_w3, hf_w3⟩ := bcell hb3
      have hz_w3 := hb3.size
      go_wp2
      go_roundw
      case rel => exact ⟨k + 1, by omega, by omega, by go_num, (by repeat (first | assumption | exact Below.refl _ _ | apply Below.al | apply Below.drewN' | apply Below.drew | (apply Below.tr; assumption)))⟩
      case measure => simp [intOf]; omega
    · go_wp2
      go_ret
      exact ⟨rfl, hb⟩
set_option maxRecDepth 20000 in
set_option maxHeartbeats 4000000 in
theorem assignCycles_any (A : Option Addr) (c : Nat) (xs : List Mn) (a b : Int) (w : World) (h : Rd encI 1 w w.heap.size A (xs.map Mn.t)) (ok : MnOk xs) (hl : xs.length ≤ 8) (ne : NearE a b xs) (a0 : 0 ≤ a) (a1 : a ≤ 19900) (p0 : 41 ≤ b) (p1 : b ≤ 9000) :
    Calls Try.prog 17 #[.slice A xs.length c, .agg #[.int .i64 a, .int .i64 b], .int .i64 10] w (OwnTup 34 2 encMn xs 0 w) := by
  have hv := hid (ok.mv hl)
  have HR := hid ok.2
  have HNE := hid ne
  have hE : ephB a b = true := by unfold ephB; rw [inB_true.2 (by omega), inB_true.2 (by omega)]; rfl
  have hto := mnTimes ok hl
  have h10 : inB 10 0 1000000 = true := by decide
  obtain ⟨i0, hi0, iz0, iz1, iz2⟩ := info_parts (P := Try.prog) (e := 34) (z := .agg #[.int .i64 0, .int .i64 0]) (size := 2) (bytes := 16) (by kernel_rfl)
  clear ok ne
  go_enter Try.func17, Try.ntmps17
  go_wp2_with fail
  refine (validEphemeris_any _ _ _).mono ?_
  rw [hE]
  rintro e w1 ⟨rfl, hb1⟩
  have e0 : w1.cell? ⟨w.heap.size, 0, none⟩ = some (.int .i64 a) := by rw [(bcell hb1).1 (w.heap.size) 0 (by first | (simp; done) | (simp; omega))]; simp [go_sem]
  have e1 : w1.cell? ⟨w.heap.size, 1, none⟩ = some (.int .i64 b) := by rw [(bcell hb1).1 (w.heap.size) 1 (by first | (simp; done) | (simp; omega))]; simp [go_sem]
  have hw1 : Below w.heap.size w w1 := (by repeat (first | assumption | exact Below.refl _ _ | apply Below.al | apply Below.drewN' | apply Below.drew | (refine Below.sc ?_ (by first | omega | (simp; done) | (simp; omega)) _) | (apply Below.tr; assumption)))
  have z1 := hb1.size
  simp at z1
  have g1 : w.heap.size < w1.heap.size := by omega
  clear hb1
  have AT := areTimes_ok A c (xs.map Mn.t) w1 ((h.below hw1 (Nat.le_refl _)).more hw1.size) hto
  rw [List.length_map] at AT
  go_wp2_with fail
  refine AT.mono ?_
  rintro e w2 ⟨rfl, hb2⟩
  clear AT hto
  have e0 := ((bcell hb2).1 _ 0 g1).trans e0
  have e1 := ((bcell hb2).1 _ 1 g1).trans e1
  have hw2 := Below.tr hb2 hw1
  have g2 : w.heap.size < w2.heap.size := by have := hb2.size; omega
  clear hb2 hw1 g1 z1
  have o0 : (w2.alloc (.cells #[] 34)).ownsRow w2.heap.size 34 2 (.slice (some ⟨w2.heap.size, 0, none⟩) 0 0) 0 [] := own_lit0 w2 34 2 (Nat.le_refl _)
  have hb0 : Below w2.heap.size w2 (w2.alloc (.cells #[] 34)) := (by repeat (first | assumption | exact Below.refl _ _ | apply Below.al | apply Below.drewN' | apply Below.drew | (refine Below.sc ?_ (by first | omega | (simp; done) | (simp; omega)) _) | (apply Below.tr; assumption)))
  go_wp2_with (go_at_call 23; refine (in_eq h10 _).mono ?_; rintro e w' ⟨rfl, rfl⟩)
  generalize Value.slice (some ⟨w2.heap.size, 0, none⟩) 0 0 = v0 at *
  go_loopw [8, 28] (fun vv i wr => ∃ k : Nat, k ≤ xs.length ∧ i = .int .i64 k ∧ Below w2.heap.size w2 wr ∧ Hid (wr.ownsRow w2.heap.size 34 2 vv k ((xs.take k).flatMap encMn))) (fun _ i _ => xs.length - (intOf i).toNat)
  case atStart => exact ⟨0, Nat.zero_le _, rfl, hb0, hid o0⟩
  case round =>
    clear hb0 o0
    obtain ⟨k, hk, rfl, hb, OW⟩ := hrel
    obtain ⟨Ar, cr, rfl⟩ := own_shape OW.out
    have hsz := hb.size
    have hbw := Below.tr hb hw2
    by_cases hlt : k < xs.length
    · obtain ⟨p, hp⟩ := getx hlt
      have hpt : (xs.map Mn.t)[k]? = some p.t := by rw [List.getElem?_map, hp]; rfl
      obtain ⟨bb, o, rfl, hbB, c0⟩ := (h.below hbw (Nat.le_refl _)).at1 hpt rfl
      have hpr := HR.out p (List.mem_of_getElem? hp)
      have hpn := HNE.out p (List.mem_of_getElem? hp)
      have rb := (rsd_bd hpr a0 a1 (by omega) p1)
      have hnr : nearI (p.t - a) b = p.c := by
        have e : p.t - a = p.c * b + (p.t - (a + p.c * b)) := by omega
        rw [e]; exact near_cyc hpn.1 hpn.2 p0
      have hab : absI (rsd a b p) ≤ 10 := by unfold absI rsd; omega
      have hab' : decide (10 < absI (rsd a b p)) = false := by simp; omega
      have OA := hid (OW.out.alloc (.cells #[.int .i64 p.c, .int .i64 p.t] 34))
      have hbA := Below.al (Below.refl _ wr) (.cells #[.int .i64 p.c, .int .i64 p.t] 34)
      have HP := hid hp
      have b0 : bb < wr.heap.size := by have := hw2.size; omega
      have y0 := ((bcell hb).1 _ 0 g2).trans e0
      have y1 := ((bcell hb).1 _ 1 g2).trans e1
      have g3 : w.heap.size < wr.heap.size := by omega
      have x0 : (wr.alloc (.cells #[.int .i64 p.c, .int .i64 p.t] 34)).cell? ⟨wr.heap.size, 0, none⟩ = some (.int .i64 p.c) := by simp [go_sem]
      have x1 : (wr.alloc (.cells #[.int .i64 p.c, .int .i64 p.t] 34)).cell? ⟨wr.heap.size, 1, none⟩ = some (.int .i64 p.t) := by simp [go_sem]
      have u0 := ((bcell hbA).1 _ 0 g3).trans y0
      have u1 := ((bcell hbA).1 _ 1 g3).trans y1
      have HQ := hid hnr
      clear hp hpt hnr
      go_wp2_with fail
      refine (nearest_any (p.t - a) b _ (by omega) (by omega) (by omega) (by omega)).mono ?_
      rw [HQ.out]
      rintro e w4 ⟨rfl, rfl⟩
      go_wp2_with fail
      refine (residual_any a b p _ hpr a0 a1 (by omega) p1).mono ?_
      rintro e w5 ⟨rfl, hb5⟩
      have hcb := (bcell hb5).1
      have t0 := (hcb wr.heap.size 0 (by simp)).trans x0
      have t1 := (hcb wr.heap.size 1 (by simp)).trans x1
      have O5 := hid (own_below OA.out hb5 (Nat.le_refl _))
      have hbw5 : Below w2.heap.size w2 w5 := Below.tr (Below.tr hb5 hbA) hb
      have hz5 := hbw5.size
      have g5 : wr.heap.size < w5.heap.size := by have := hb5.size; simp at this; omega
      clear OA hb5 u0 u1 x0 x1 y0 y1 hcb
      go_wp2_with (first | (go_at_call 29; refine (abs_any _ _ (by omega) (by omega)).mono ?_; rintro e w' ⟨rfl, rfl⟩) | (at_builtin; go_must (refine wpList_append_own _ rfl _ _ 24 rfl (w2.heap.size) 34 i0 _ 2 16 Try.underlying24 hi0 iz0 iz1 iz2 rfl (by decide) _ _ _ rfl (O5.out.alloc _) ⟨(w5).heap.size, 0, none⟩ 1 1 [.int .i64 p.c, .int .i64 p.t] rfl rfl (news_at w5 [.int .i64 p.c, .int .i64 p.t] 34) (by simp [Value.oneCell']) (by unfold maxLen; omega) (by omega) (by first | omega | (simp; done) | (simp; omega)) ?_); intro v2 w6 own_w6 grow_w6 _))
      have hb6 : Below w2.heap.size w2 w6 := Below.ap hbw5 (by omega) O5.out (Nat.le_refl _) grow_w6
      have O6 := hid own_w6
      clear own_w6
      go_wp2
      go_roundw
      case rel => exact ⟨k + 1, by omega, by go_num, hb6, hid (by rw [List.take_add_one, HP.out, List.flatMap_append]; exact O6.out)⟩
      case measure => simp [intOf]; omega
    · obtain rfl : k = xs.length := by omega
      have oM : wr.ownsRow w2.heap.size 34 2 (.slice Ar xs.length cr) xs.length (xs.flatMap encMn) := by
        have := OW.out
        rwa [List.take_length] at this
      have rM := rd_of_own (enc := encMn) (k := 2) (fun _ => rfl) oM
      have OM := hid oM
      clear OW oM
      go_wp2_with fail
      refine (validMinima_ok Ar cr xs _ rM hv.out).mono ?_
      rintro e w3 ⟨rfl, hb3⟩
      go_wp2
      go_ret2
      exact ⟨Ar, cr, rfl, own_below (own_lo OM.out (by omega)) hb3 (Nat.le_refl _), Below.tr hb3 hbw⟩
end Go.Proofs.Ytlpgnmkhlbddaaa
