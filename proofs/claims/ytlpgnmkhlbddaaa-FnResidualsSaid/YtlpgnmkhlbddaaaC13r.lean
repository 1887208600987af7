/- Contracts: what an ephemeris leaves of minima, in the program, at drawn minima. -/
import Derived.Test.YtlpgnmkhlbddaaaC13v
import Derived.Test.YtlpgnmkhlbddaaaCInt
namespace Go.Proofs.Ytlpgnmkhlbddaaa
open Go.RowKit
set_option linter.unusedVariables false
def rsd (a b : Int) (p : Mn) : Int := p.t - a - p.c * b
theorem rsd_bd {a b : Int} {p : Mn} (hp : 0 ≤ p.c ∧ p.c ≤ 51 ∧ 0 ≤ p.t ∧ p.t ≤ 480000) (a0 : 0 ≤ a) (a1 : a ≤ 19900) (p0 : 1 ≤ b) (p1 : b ≤ 9000) : (0 ≤ p.c * b ∧ p.c * b ≤ 459000) ∧ (-480000 ≤ rsd a b p ∧ rsd a b p ≤ 480000) := by
  have m := mul_bds (x := p.c) (y := b) (A := 51) (B := 9000) (by omega) (by omega) (by omega) (by omega)
  have n := Int.mul_nonneg (a := p.c) (b := b) (by omega) (by omega)
  unfold rsd
  omega
theorem residual_any (a b : Int) (p : Mn) (w : World) (hp : 0 ≤ p.c ∧ p.c ≤ 51 ∧ 0 ≤ p.t ∧ p.t ≤ 480000) (a0 : 0 ≤ a) (a1 : a ≤ 19900) (p0 : 1 ≤ b) (p1 : b ≤ 9000) :
    Calls Try.prog 27 #[.agg #[.int .i64 a, .int .i64 b], .agg #[.int .i64 p.c, .int .i64 p.t]] w fun e w' => e = .returned (.int .i64 (rsd a b p)) ∧ Below w.heap.size w w' := by
  have m := (rsd_bd hp a0 a1 p0 p1).1
  go_enter Try.func27, Try.ntmps27
  go_wp2
  go_ret
  exact ⟨ret_int rfl, (by repeat (first | assumption | exact Below.refl _ _ | apply Below.al | apply Below.drewN' | apply Below.drew | (apply Below.tr; assumption)))⟩
set_option maxRecDepth 20000 in
set_option maxHeartbeats 4000000 in
theorem residualsOf_any (A : Option Addr) (c : Nat) (xs : List Mn) (a b : Int) (w : World) (h : Rd encMn 2 w w.heap.size A xs) (ok : MnOk xs) (hl : xs.length ≤ 8) (a0 : 0 ≤ a) (a1 : a ≤ 19900) (p0 : 1 ≤ b) (p1 : b ≤ 9000) :
    Calls Try.prog 14 #[.slice A xs.length c, .agg #[.int .i64 a, .int .i64 b]] w (OwnTup 2 1 encI (xs.map (rsd a b)) 0 w) := by
  have hv := ok.mv hl
  have HR := hid ok.2
  have hE : ephB a b = true := by unfold ephB; rw [inB_true.2 (by omega), inB_true.2 (by omega)]; rfl
  obtain ⟨i0, hi0, iz0, iz1, iz2⟩ := info_parts (P := Try.prog) (e := 2) (z := .int .i64 0) (size := 1) (bytes := 8) (by kernel_rfl)
  clear ok
  go_enter Try.func14, Try.ntmps14
  go_wp2_with fail
  refine (validMinima_ok A c xs _ ((h.below (B' := w.heap.size) (by repeat (first | assumption | exact Below.refl _ _ | apply Below.al | apply Below.drewN' | apply Below.drew | (apply Below.tr; assumption))) (Nat.le_refl _)).more (by first | (simp; done) | (simp; omega))) hv).mono ?_
  rintro e w1 ⟨rfl, hb1⟩
  have e0 : w1.cell? ⟨w.heap.size, 0, none⟩ = some (.int .i64 a) := by rw [(bcell hb1).1 (w.heap.size) 0 (by first | (simp; done) | (simp; omega))]; simp [go_sem]
  have e1 : w1.cell? ⟨w.heap.size, 1, none⟩ = some (.int .i64 b) := by rw [(bcell hb1).1 (w.heap.size) 1 (by first | (simp; done) | (simp; omega))]; simp [go_sem]
  have hw1 : Below w.heap.size w w1 := (by repeat (first | assumption | exact Below.refl _ _ | apply Below.al | apply Below.drewN' | apply Below.drew | (refine Below.sc ?_ (by first | omega | (simp; done) | (simp; omega)) _) | (apply Below.tr; assumption)))
  have z1 := hb1.size
  simp at z1
  have g1 : w.heap.size < w1.heap.size := by omega
  clear hb1
  go_wp2_with fail
  refine (validEphemeris_any _ _ _).mono ?_
  rw [hE]
  rintro e w2 ⟨rfl, hb2⟩
  have e0 := ((bcell hb2).1 _ 0 g1).trans e0
  have e1 := ((bcell hb2).1 _ 1 g1).trans e1
  have hw2 := Below.tr hb2 hw1
  have g2 : w.heap.size < w2.heap.size := by have := hb2.size; omega
  clear hb2 hw1 g1 z1
  have o0 : (w2.alloc (.cells #[] 2)).ownsRow w2.heap.size 2 1 (.slice (some ⟨w2.heap.size, 0, none⟩) 0 0) 0 [] := own_lit0 w2 2 1 (Nat.le_refl _)
  have hb0 : Below w2.heap.size w2 (w2.alloc (.cells #[] 2)) := (by repeat (first | assumption | exact Below.refl _ _ | apply Below.al | apply Below.drewN' | apply Below.drew | (refine Below.sc ?_ (by first | omega | (simp; done) | (simp; omega)) _) | (apply Below.tr; assumption)))
  go_wp2_with fail
  generalize Value.slice (some ⟨w2.heap.size, 0, none⟩) 0 0 = v0 at *
  go_loopw [6, 20] (fun vv i wr => ∃ k : Nat, k ≤ xs.length ∧ i = .int .i64 k ∧ Below w2.heap.size w2 wr ∧ Hid (wr.ownsRow w2.heap.size 2 1 vv k (((xs.take k).map (rsd a b)).flatMap encI))) (fun _ i _ => xs.length - (intOf i).toNat)
  case atStart => exact ⟨0, Nat.zero_le _, rfl, hb0, hid o0⟩
  case round =>
    clear hb0 o0
    obtain ⟨k, hk, rfl, hb, OW⟩ := hrel
    obtain ⟨Ar, cr, rfl⟩ := own_shape OW.out
    have hsz := hb.size
    have hbw := Below.tr hb hw2
    by_cases hlt : k < xs.length
    · obtain ⟨p, hp⟩ := getx hlt
      obtain ⟨bb, o, rfl, hbB, c0, c1⟩ := (h.below hbw (Nat.le_refl _)).at2 hp rfl
      have hpr := HR.out p (List.mem_of_getElem? hp)
      have rb := (rsd_bd hpr a0 a1 p0 p1).2
      have OA := hid (OW.out.alloc (.cells #[.int .i64 p.c, .int .i64 p.t] 34))
      have hbA := Below.al (Below.refl _ wr) (.cells #[.int .i64 p.c, .int .i64 p.t] 34)
      have HP := hid hp
      have b0 : bb < wr.heap.size := by have := hw2.size; omega
      have y0 := ((bcell hb).1 _ 0 g2).trans e0
      have y1 := ((bcell hb).1 _ 1 g2).trans e1
      have g3 : w.heap.size < wr.heap.size := by omega
      have x0 : (wr.alloc (.cells #[.int .i64 p.c, .int .i64 p.t] 34)).cell? ⟨wr.heap.size, 0, none⟩ = some (.int .i64 p.c) := by simp [go_sem]
      have x1 : (wr.alloc (.cells #[.int .i64 p.c, .int .i64 p.t] 34)).cell? ⟨wr.heap.size, 1, none⟩ = some (.int .i64 p.t) := by simp [go_sem]
      have u0 := ((bcell hbA).1 _ 0 g3).trans y0
      have u1 := ((bcell hbA).1 _ 1 g3).trans y1
      clear hp
      go_wp2_with fail
      refine (residual_any a b p _ hpr a0 a1 p0 p1).mono ?_
      rintro e w5 ⟨rfl, hb5⟩
      have O5 := hid (own_below OA.out hb5 (Nat.le_refl _))
      have hbw5 : Below w2.heap.size w2 w5 := Below.tr (Below.tr hb5 hbA) hb
      generalize hr : rsd a b p = r at *
      have hr := hid hr
      have hz5 := hbw5.size
      clear OA hb5 u0 u1 x0 x1 y0 y1
      go_wp2_with (at_builtin; go_must (refine wpList_append_own _ rfl _ _ 39 rfl (w2.heap.size) 2 i0 _ 1 8 Try.underlying39 hi0 iz0 iz1 iz2 rfl (by decide) _ _ _ rfl (O5.out.alloc _) ⟨(w5).heap.size, 0, none⟩ 1 1 [.int .i64 r] rfl rfl (news_at w5 [.int .i64 r] 2) (by simp [Value.oneCell']) (by unfold maxLen; omega) (by omega) (by first | omega | (simp; done) | (simp; omega)) ?_); intro v2 w6 own_w6 grow_w6 _)
      have hb6 : Below w2.heap.size w2 w6 := Below.ap hbw5 (by omega) O5.out (Nat.le_refl _) grow_w6
      have O6 := hid own_w6
      clear own_w6
      go_wp2
      go_roundw
      case rel => exact ⟨k + 1, by omega, by go_num, hb6, hid (by rw [List.take_add_one, HP.out, List.map_append, List.flatMap_append]; simpa [hr.out, encI] using O6.out)⟩
      case measure => simp [intOf]; omega
    · obtain rfl : k = xs.length := by omega
      have oM : wr.ownsRow w2.heap.size 2 1 (.slice Ar (xs.map (rsd a b)).length cr) (xs.map (rsd a b)).length ((xs.map (rsd a b)).flatMap encI) := by
        have := OW.out
        rw [List.take_length] at this
        rw [List.length_map]; exact this
      have OM := hid oM
      clear OW oM
      go_wp2
      go_ret2
      exact ⟨Ar, cr, by rw [List.length_map]; rfl, own_lo OM.out (by omega), hbw⟩
end Go.Proofs.Ytlpgnmkhlbddaaa
