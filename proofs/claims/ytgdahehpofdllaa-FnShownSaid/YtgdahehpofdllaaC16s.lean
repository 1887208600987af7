/- Contracts: which parts of a phase a window shows, in the program. -/
import Derived.Test.YtgdahehpofdllaaC16p
import Derived.Test.YtgdahehpofdllaaCMul
import Derived.Test.YtgdahehpofdllaaC00
import Derived.Test.YtgdahehpofdllaaCWin
namespace Go.Proofs.Ytgdahehpofdllaa
open Go.RowKit
set_option linter.unusedVariables false
theorem or_pow {S k : Nat} (hS : S < 2 ^ 50) (hk : k < 50) : bits .or .u64 (S : Int) (IntKind.u64.wrap (2 ^ k)) = ((S ||| 2 ^ k : Nat) : Int) := by
  have h : 2 ^ k ≤ 2 ^ 50 := Nat.pow_le_pow_right (by omega) (by omega)
  have e : IntKind.u64.wrap (2 ^ k) = ((2 ^ k : Nat) : Int) := by
    rw [show ((2 : Int) ^ k) = ((2 ^ k : Nat) : Int) from by push_cast; rfl, IntKind.wrap_u64]
    generalize 2 ^ k = p at *
    omega
  rw [e]
  exact bits_or_u64_nat S (2 ^ k) (by omega) (by omega)
theorem ceilDiv_any (a b : Int) (w : World) (h1 : -4000000000000000000 ≤ a) (h2 : a ≤ 4000000000000000000) (hb : 0 < b) :
    Calls Try.prog 53 #[.int .i64 a, .int .i64 b] w fun e w' => e = .returned (.int .i64 (ceilI a b)) ∧ w = w' := by
  have m := ediv_bd (-a) b 4000000000000000000 (by omega) (by omega) hb
  go_enter Try.func53, Try.ntmps53
  go_wp2_with (go_at_call 59; refine (floorDiv_any _ _ _ (by omega) (by omega) hb).mono ?_; rintro e w' ⟨rfl, rfl⟩)
  go_ret
  exact ⟨rfl, rfl⟩
theorem ephPhase_any (a b T : Int) (w : World) (h1 : 0 ≤ a) (h2 : a ≤ 10000000) (h3 : 1 ≤ b) (h4 : b ≤ 1000000) (h5 : 0 ≤ T) (h6 : T ≤ 10000000) :
    Calls Try.prog 52 #[.agg #[.int .i64 a, .int .i64 b], .int .i64 T] w fun e w' => e = .returned (.int .i64 ((T - a) % b)) ∧ Below w.heap.size w w' := by
  go_enter Try.func52, Try.ntmps52
  go_wp2_with (go_at_call 54; refine (mod_any _ _ _ (by omega) (by omega) (by omega) (by omega)).mono ?_; rintro e w' ⟨rfl, rfl⟩)
  go_ret
  exact ⟨rfl, (by repeat (first | assumption | exact Below.refl _ _ | apply Below.al | apply Below.drewN' | apply Below.drew | (apply Below.tr; assumption)))⟩
set_option maxRecDepth 20000 in
set_option maxHeartbeats 4000000 in
theorem shown_any (a b f t : Int) (n : Nat) (w : World) (a0 : 0 ≤ a) (a1 : a ≤ 10000000) (b0 : 1 ≤ b) (b1 : b ≤ 1000000) (f0 : 0 ≤ f) (f1 : f ≤ t) (t1 : t ≤ 10000000) (n0 : 1 ≤ n) (n1 : n ≤ 50) :
    Calls Try.prog 39 #[.agg #[.int .i64 a, .int .i64 b], .agg #[.int .i64 f, .int .i64 t], .int .i64 n] w fun e w' => e = .returned (.int .u64 (bitS (shB a b f t n) n)) ∧ Below w.heap.size w w' := by
  obtain ⟨ph, hph⟩ : ∃ ph, ph = (f - a) % b := ⟨_, rfl⟩
  have mp := emod_bd (f - a) b (by omega)
  rw [← hph] at mp
  have HPH := hid hph
  go_enter Try.func39, Try.ntmps39
  go_wp2_with fail
  refine (ephPhase_any a b f _ a0 a1 b0 b1 f0 (by omega)).mono ?_
  rw [← hph]
  rintro e w1 ⟨rfl, hb1⟩
  clear hph
  go_wp2_with fail
  go_loopw [7, 18] (fun sv i wr => ∃ (k : Nat), k ≤ n ∧ i = .int .i64 k ∧ sv = .int .u64 (bitS (shB a b f t n) k) ∧ Below (World.heap ((w.alloc (.cells #[.int .i64 a, .int .i64 b] 25)).alloc (.cells #[.int .i64 f, .int .i64 t] 29))).size ((w.alloc (.cells #[.int .i64 a, .int .i64 b] 25)).alloc (.cells #[.int .i64 f, .int .i64 t] 29)) wr) (fun _ i _ => n - (intOf i).toNat)
  case atStart => exact ⟨0, Nat.zero_le _, rfl, rfl, hb1⟩
  case round =>
    clear hb1
    obtain ⟨k, hk, rfl, rfl, hb⟩ := hrel
    have hbw : Below w.heap.size w wr := Below.tr hb (by repeat (first | assumption | exact Below.refl _ _ | apply Below.al | apply Below.drewN' | apply Below.drew | (refine Below.sc ?_ (by first | omega | (simp; done) | (simp; omega)) _) | (apply Below.tr; assumption)))
    have hsz := hb.size
    simp at hsz
    by_cases hlt : k < n
    · have e0 : wr.cell? ⟨w.heap.size, 0, none⟩ = some (.int .i64 a) := by rw [(bcell hb).1 (w.heap.size) 0 (by first | (simp; done) | (simp; omega))]; simp [go_sem]
      have e1 : wr.cell? ⟨w.heap.size, 1, none⟩ = some (.int .i64 b) := by rw [(bcell hb).1 (w.heap.size) 1 (by first | (simp; done) | (simp; omega))]; simp [go_sem]
      have e2 : wr.cell? ⟨w.heap.size + 1, 0, none⟩ = some (.int .i64 f) := by rw [(bcell hb).1 (w.heap.size + 1) 0 (by first | (simp; done) | (simp; omega))]; simp [go_sem]
      have e3 : wr.cell? ⟨w.heap.size + 1, 1, none⟩ = some (.int .i64 t) := by rw [(bcell hb).1 (w.heap.size + 1) 1 (by first | (simp; done) | (simp; omega))]; simp [go_sem]
      have g0 : w.heap.size < wr.heap.size := by omega
      have g1 : w.heap.size + 1 < wr.heap.size := by omega
      have m1 := mul_bds (x := (k : Int)) (y := b) (A := 50) (B := 1000000) (by omega) (by omega) (by omega) (by omega)
      have m2 := mul_bds (x := (k : Int) + 1) (y := b) (A := 51) (B := 1000000) (by omega) (by omega) (by omega) (by omega)
      have q1 := ediv_bd (-((k : Int) * b)) n 51000000 (by omega) (by omega) (by omega)
      have q2 := ediv_bd (-(((k : Int) + 1) * b)) n 51000000 (by omega) (by omega) (by omega)
      have B1 := bitS_lt (shB a b f t n) k
      have B2 : 2 ^ k ≤ 2 ^ 50 := Nat.pow_le_pow_right (by omega) (by omega)
      have HC : Hid (bitS (shB a b f t n) (k + 1) = if shB a b f t n k = true then bitS (shB a b f t n) k ||| 2 ^ k else bitS (shB a b f t n) k) := hid rfl
      have HS : Hid (shB a b f t n k = decide (f + waitI b n ph k ≤ t)) := hid (by unfold shB; rw [← HPH.out])
      have HW : Hid (waitI b n ph k = if inB ph (ceilI (k * b) n) (ceilI ((k + 1) * b) n - 1) = true then 0 else (ceilI (k * b) n - ph) % b) := hid rfl
      have C0 : -51000000 ≤ ceilI (k * b) n ∧ ceilI (k * b) n ≤ 51000000 := by unfold ceilI; omega
      have C1 : -51000000 ≤ ceilI ((k + 1) * b) n ∧ ceilI ((k + 1) * b) n ≤ 51000000 := by unfold ceilI; omega
      generalize bitS (shB a b f t n) k = S at *
      clear q1 q2
      go_wp2_with fail
      refine wp_region_ext (by kernel_rfl) (by kernel_rfl) ?_
      repeat (go_big_quiet_step ((first | (go_at_call 53; exact ext_same (ceilDiv_any _ _ _ (by omega) (by omega) (by omega))))))
      refine wpQuiet_nil ?_
      intro w3 hb3
      obtain ⟨hc_w3, hf_w3⟩ := bcell hb3
      have hz_w3 := hb3.size
      have e1 := (hc_w3 _ 1 g0).trans e1
      have e2 := (hc_w3 _ 0 g1).trans e2
      have e3 := (hc_w3 _ 1 g1).trans e3
      have hb3' := Below.tr hb3 hb
      generalize ceilI (k * b) n = c0 at *
      generalize ceilI ((k + 1) * b) n = c1 at *
      clear hc_w3 hf_w3 e0 m1 m2
      cases hin : inB ph c0 (c1 - 1)
      · have md := emod_bd (c0 - ph) b (by omega)
        have HW2 : Hid (waitI b n ph k = (c0 - ph) % b) := hid (by rw [HW.out, hin]; rfl)
        by_cases hsh : f + (c0 - ph) % b ≤ t
        · have HX : Hid (bitS (shB a b f t n) (k + 1) = S ||| 2 ^ k) := hid (by rw [HC.out, HS.out, HW2.out]; simp [hsh])
          clear HC HS HW HW2
          go_wp2_with (first | (go_at_call 34; refine (in_eq (by assumption) _).mono ?_; rintro e w' ⟨rfl, rfl⟩) | (go_at_call 54; refine (mod_any _ _ _ (by omega) (by omega) (by omega) (by omega)).mono ?_; rintro e w' ⟨rfl, rfl⟩))
          go_roundw
          case rel => exact ⟨k + 1, by omega, by go_num, by rw [or_pow (by omega) (by omega), HX.out], hb3'⟩
          case measure => simp [intOf]; omega
        · have HX : Hid (bitS (shB a b f t n) (k + 1) = S) := hid (by rw [HC.out, HS.out, HW2.out]; simp [hsh])
          clear HC HS HW HW2
          go_wp2_with (first | (go_at_call 34; refine (in_eq (by assumption) _).mono ?_; rintro e w' ⟨rfl, rfl⟩) | (go_at_call 54; refine (mod_any _ _ _ (by omega) (by omega) (by omega) (by omega)).mono ?_; rintro e w' ⟨rfl, rfl⟩))
          go_roundw
          case rel => exact ⟨k + 1, by omega, by go_num, by rw [HX.out], hb3'⟩
          case measure => simp [intOf]; omega
      · have HW2 : Hid (waitI b n ph k = 0) := hid (by rw [HW.out, hin]; rfl)
        have HX : Hid (bitS (shB a b f t n) (k + 1) = S ||| 2 ^ k) := hid (by rw [HC.out, HS.out, HW2.out]; simp; omega)
        clear HC HS HW HW2
        go_wp2_with (first | (go_at_call 34; refine (in_eq (by assumption) _).mono ?_; rintro e w' ⟨rfl, rfl⟩) | (go_at_call 54; refine (mod_any _ _ _ (by omega) (by omega) (by omega) (by omega)).mono ?_; rintro e w' ⟨rfl, rfl⟩))
        go_roundw
        case rel => exact ⟨k + 1, by omega, by go_num, by rw [or_pow (by omega) (by omega), HX.out], hb3'⟩
        case measure => simp [intOf]; omega
    · obtain rfl : k = n := by omega
      go_wp2
      go_ret
      exact ⟨rfl, hbw⟩
def encU (n : Int) : List Value := [.int .u64 n]
set_option maxRecDepth 20000 in
set_option maxHeartbeats 4000000 in
theorem shownEach_any (A : Option Addr) (c : Nat) (a b f t : Int) (n : Nat) (w : World) (h : Rd encWi 2 w w.heap.size A [⟨f, t⟩]) (a0 : 0 ≤ a) (a1 : a ≤ 10000000) (b0 : n ≤ b) (b1 : b ≤ 1000000) (f0 : 0 ≤ f) (f1 : f ≤ t) (t1 : t ≤ 10000000) (n0 : 1 ≤ n) (n1 : n ≤ 50) :
    Calls Try.prog 21 #[.agg #[.int .i64 a, .int .i64 b], .slice A 1 c, .int .i64 n] w fun e w' => ∃ v, e = .returned (.tuple #[v, .int .u64 (bitS (shB a b f t n) n), .int .i64 0]) ∧ Below w.heap.size w w' := by
  have hE : ephB a b = true := by unfold ephB; rw [inB_true.2 (by omega), inB_true.2 (by omega)]; rfl
  have hW : wsB [⟨f, t⟩] = true := by simp [wsB, wiGo, wiOk, inB_true]; omega
  have hC : ftC a b [⟨f, t⟩] true = 0 := by simp [ftC, hE, hW]
  have hn : inB n 1 50 = true := inB_true.2 (by omega)
  obtain ⟨wB, hwB⟩ : ∃ wB, wB = w.alloc (.cells #[.int .i64 a, .int .i64 b] 25) := ⟨_, rfl⟩
  have hbB : Below w.heap.size w wB := by rw [hwB]; exact Below.al (Below.refl _ _) _
  have e0 : wB.cell? ⟨w.heap.size, 0, none⟩ = some (.int .i64 a) := by rw [hwB]; simp [go_sem]
  have e1 : wB.cell? ⟨w.heap.size, 1, none⟩ = some (.int .i64 b) := by rw [hwB]; simp [go_sem]
  have zB : w.heap.size < wB.heap.size := by rw [hwB]; simp
  have FT : ∀ W, Below wB.heap.size wB W → Calls Try.prog 38 #[.agg #[.int .i64 a, .int .i64 b], .slice A 1 c, .bool true] W fun e w' => e = .returned (.int .i64 0) ∧ Below W.heap.size W w' := fun W hb => by
    have := fits_any A c [⟨f, t⟩] a b true W ((h.below (hbB.trans (hb.mono hbB.size)) (Nat.le_refl _)).more (by have := hb.size; omega)) (by simp)
    rw [hC] at this
    exact this
  obtain ⟨u, o, rfl, huB, c0, c1⟩ := h.at2 (i := 0) rfl rfl
  simp only [Nat.zero_mul, Nat.add_zero] at c0 c1
  obtain ⟨i0, hi0, iz0, iz1, iz2⟩ := info_parts (P := Try.prog) (e := 51) (z := .int .u64 0) (size := 1) (bytes := 8) (by kernel_rfl)
  clear hE hW hC
  go_enter Try.func21, Try.ntmps21
  go_wp2
  rw [← hwB]
  clear hwB
  generalize hpp : w.heap.size = p at *
  have HPP := hid hpp
  clear hpp
  refine wp_region_ext (by kernel_rfl) (by kernel_rfl) ?_
  repeat (go_big_quiet_step ((first | (go_at_call 34; exact ext_same (in_eq hn _)) | (go_at_call 38; exact ext_below (FT _ (Ext.h _))))))
  refine wpQuiet_nil ?_
  intro w1 hb1
  obtain ⟨hc_w1, hf_w1⟩ := bcell hb1
  have hz_w1 := hb1.size
  have e0 := (hc_w1 p 0 zB).trans e0
  have e1 := (hc_w1 p 1 zB).trans e1
  have hb1' : Below p w w1 := hbB.trans (hb1.mono (by omega))
  have zp : p < w1.heap.size := by omega
  have t1' : decide (b < n) = false := by simp; omega
  have c0 := (hb1'.cell (p := ⟨u, o, none⟩) huB).trans c0
  have c1 := (hb1'.cell (p := ⟨u, o + 1, none⟩) huB).trans c1
  have o0 : (w1.alloc (.cells #[] 51)).ownsRow w1.heap.size 51 1 (.slice (some ⟨w1.heap.size, 0, none⟩) 0 0) 0 [] := own_lit0 w1 51 1 (Nat.le_refl _)
  have hb0 : Below w1.heap.size w1 (w1.alloc (.cells #[] 51)) := (by repeat (first | assumption | exact Below.refl _ _ | apply Below.al | apply Below.drewN' | apply Below.drew | (refine Below.sc ?_ (by first | omega | (simp; done) | (simp; omega)) _) | (apply Below.tr; assumption)))
  clear hc_w1 hf_w1 FT hn hb1 hbB zB
  go_wp2_with fail
  generalize Value.slice (some ⟨w1.heap.size, 0, none⟩) 0 0 = v0 at *
  go_loopw [10, 11, 30] (fun sv av i wr => ∃ (k : Nat) (ys : List Int), k ≤ 1 ∧ ys.length = k ∧ i = .int .i64 k ∧ av = .int .u64 (if k = 0 then 0 else bitS (shB a b f t n) n : Nat) ∧ Below w1.heap.size w1 wr ∧ Hid (wr.ownsRow w1.heap.size 51 1 sv k (ys.flatMap encU))) (fun _ _ i _ => 1 - (intOf i).toNat)
  case atStart => exact ⟨0, [], by omega, rfl, rfl, rfl, hb0, hid o0⟩
  case round =>
    clear hb0 o0
    obtain ⟨k, ys, hk, hy, rfl, rfl, hb, OW⟩ := hrel
    obtain ⟨Ar, cr, rfl⟩ := own_shape OW.out
    have hsz := hb.size
    by_cases hlt : k < 1
    · obtain rfl : k = 0 := by omega
      obtain rfl : ys = [] := List.eq_nil_of_length_eq_zero hy
      have d0 := (hb.cell (p := ⟨u, o, none⟩) (by show u < _; omega)).trans c0
      have d1 := (hb.cell (p := ⟨u, o + 1, none⟩) (by show u < _; omega)).trans c1
      have x0 := (hb.cell (p := ⟨p, 0, none⟩) zp).trans e0
      have x1 := (hb.cell (p := ⟨p, 1, none⟩) zp).trans e1
      have zpr : p < wr.heap.size := by omega
      have hbA := Below.al (Below.refl _ wr) (.cells #[.int .i64 f, .int .i64 t] 29)
      have OA := hid (OW.out.alloc (.cells #[.int .i64 f, .int .i64 t] 29))
      have y0 := (hbA.cell (p := ⟨p, 0, none⟩) zpr).trans x0
      have y1 := (hbA.cell (p := ⟨p, 1, none⟩) zpr).trans x1
      have BL := bitS_lt (shB a b f t n) n
      have B2 : 2 ^ n ≤ 2 ^ 50 := Nat.pow_le_pow_right (by omega) (by omega)
      have BO : bits .or .u64 0 (bitS (shB a b f t n) n : Nat) = (bitS (shB a b f t n) n : Nat) := by
        have := bits_or_u64_nat 0 (bitS (shB a b f t n) n) (by omega) (by omega)
        simpa using this
      clear hy
      go_wp2_with fail
      refine (shown_any a b f t n _ a0 a1 (by omega) b1 f0 f1 t1 n0 n1).mono ?_
      rintro e w5 ⟨rfl, hb5⟩
      have O5 := hid (own_below OA.out hb5 (Nat.le_refl _))
      have hbw5 : Below w1.heap.size w1 w5 := Below.tr (Below.tr hb5 hbA) hb
      have hz5 := hbw5.size
      generalize hS : bitS (shB a b f t n) n = S at *
      have HS := hid hS
      clear hS
      clear OA hb5 y0 y1 x0 x1 d0 d1
      go_wp2_with (at_builtin; go_must (refine wpList_append_own _ rfl _ _ 50 rfl (w1.heap.size) 51 i0 _ 1 8 Try.underlying50 hi0 iz0 iz1 iz2 rfl (by decide) _ _ _ rfl (O5.out.alloc _) ⟨(w5).heap.size, 0, none⟩ 1 1 [.int .u64 S] rfl rfl (news_at w5 [.int .u64 S] 51) (by simp [Value.oneCell']) (by unfold maxLen; omega) (by omega) (by first | omega | (simp; done) | (simp; omega)) ?_); intro v2 w6 own_w6 grow_w6 _)
      have hb6 : Below w1.heap.size w1 w6 := Below.ap hbw5 (by omega) O5.out (Nat.le_refl _) grow_w6
      have O6 := hid own_w6
      clear own_w6
      go_wp2
      go_roundw
      case rel => exact ⟨1, [(S : Int)], by omega, rfl, rfl, by simp [HS.out], hb6, hid (by simpa [encU] using O6.out)⟩
      case measure => simp [intOf]
    · obtain rfl : k = 1 := by omega
      have O1 := OW
      go_wp2
      exact bodyPost_ret (v := .tuple #[.slice Ar 1 cr, .int .u64 (bitS (shB a b f t n) n : Nat), .int .i64 0]) (by simp [results, Try.results21, go_sem]) rfl ⟨_, rfl, by rw [HPP.out]; exact hb1'.trans (hb.mono (by omega))⟩
end Go.Proofs.Ytgdahehpofdllaa
