/- Contract: shifted cycles, in the program, at drawn minima. -/
import Derived.Test.YtlpgnmkhlbddaaaC13f
namespace Go.Proofs.Ytlpgnmkhlbddaaa
open Go.RowKit
set_option linter.unusedVariables false
theorem specValidMinima_ok (A : Option Addr) (c : Nat) (xs : List Mn) (w : World) (h : Rd encMn 2 w w.heap.size A xs) (ok : MvOk xs) :
    Calls Try.prog 12 #[.slice A xs.length c] w fun e w' => e = .returned (.bool true) ∧ Below w.heap.size w w' := by
  go_enter Try.func12, Try.ntmps12
  go_wp2_with fail
  refine (l13Ok_ok A c xs _ h ok).mono ?_
  rintro e w1 ⟨rfl, hb1⟩
  go_wp2
  go_ret
  exact ⟨rfl, hb1⟩
theorem mnShift {xs : List Mn} {b : Int} (h : MnOk xs) (hl : xs.length ≤ 8) (h1 : -200 ≤ b) (h2 : b ≤ 200) : MvOk (xs.map (mv b)) := by
  refine ⟨?_, ?_, by simp; omega⟩
  · rw [List.pairwise_map]
    refine List.Pairwise.imp ?_ h.1
    rintro p q ⟨h3, h4⟩
    simp only [mv]
    omega
  · intro q hq
    obtain ⟨p, hp, rfl⟩ := List.mem_map.1 hq
    have := h.2 p hp
    simp only [mv]
    omega
set_option maxRecDepth 20000 in
set_option maxHeartbeats 4000000 in
theorem shiftCycles_any (A : Option Addr) (c : Nat) (xs : List Mn) (by_ : Int) (w : World) (h : Rd encMn 2 w w.heap.size A xs) (ok : MnOk xs) (hl : xs.length ≤ 8) (h1 : -200 ≤ by_) (h2 : by_ ≤ 200) :
    Calls Try.prog 11 #[.slice A xs.length c, .int .i64 by_] w (OwnTup 34 2 encMn (xs.map (mv by_)) 0 w) := by
  have hv := ok.mv hl
  have HV2 := hid (mnShift ok hl h1 h2)
  have HR := hid ok.2
  have hby : inB by_ (-10000) 10000 = true := inB_true.2 (by omega)
  obtain ⟨i0, hi0, iz0, iz1, iz2⟩ := info_parts (P := Try.prog) (e := 34) (z := .agg #[.int .i64 0, .int .i64 0]) (size := 2) (bytes := 16) (by kernel_rfl)
  clear ok
  go_enter Try.func11, Try.ntmps11
  go_wp2_with (first | (go_at_call 13; refine (validMinima_ok A c xs _ h hv).mono ?_; rintro e w1 ⟨rfl, hb1⟩; obtain ⟨hc_w1, hf_w1⟩ := bcell hb1; have hz_w1 := hb1.size; (try simp at hz_w1); (try have g_w1 : w.heap.size < w1.heap.size := (by omega))) | (go_at_call 23; refine (in_eq hby _).mono ?_; rintro e w' ⟨rfl, rfl⟩))
  have hbw : Below w.heap.size w (w1.alloc (.cells #[] 34)) := (by repeat (first | assumption | exact Below.refl _ _ | apply Below.al | apply Below.drewN' | apply Below.drew | (refine Below.sc ?_ (by first | omega | (simp; done) | (simp; omega)) _) | (apply Below.tr; assumption)))
  have o0 : (w1.alloc (.cells #[] 34)).ownsRow w.heap.size 34 2 (.slice (some ⟨w1.heap.size, 0, none⟩) 0 0) 0 [] := own_lit0 w1 34 2 (by omega)
  clear hc_w1 hf_w1 hb1
  generalize Value.slice (some ⟨w1.heap.size, 0, none⟩) 0 0 = v0 at *
  go_loopw [6, 20] (fun vv i wr => ∃ k : Nat, k ≤ xs.length ∧ i = .int .i64 k ∧ Below w.heap.size w wr ∧ Hid (wr.ownsRow w.heap.size 34 2 vv k (((xs.take k).map (mv by_)).flatMap encMn))) (fun _ i _ => xs.length - (intOf i).toNat)
  case atStart => exact ⟨0, Nat.zero_le _, rfl, hbw, hid o0⟩
  case round =>
    clear hbw o0
    obtain ⟨k, hk, rfl, hb, OW⟩ := hrel
    obtain ⟨Ar, cr, rfl⟩ := own_shape OW.out
    have hsz := hb.size
    by_cases hlt : k < xs.length
    · obtain ⟨p, hp⟩ := getx hlt
      obtain ⟨bb, o, rfl, hbB, c0, c1⟩ := (h.below hb (Nat.le_refl _)).at2 hp rfl
      have hpr := HR.out p (List.mem_of_getElem? hp)
      have OA := hid (OW.out.alloc (.cells #[.int .i64 p.c, .int .i64 p.t] 34))
      have hbA : Below w.heap.size w (wr.alloc (.cells #[.int .i64 p.c, .int .i64 p.t] 34)) := hb.alloc hsz _
      have HP := hid hp
      have b0 : bb < wr.heap.size := by omega
      clear hp
      go_wp2_with (at_builtin; go_must (refine wpList_append_own_at _ rfl _ _ 24 rfl (w.heap.size) 34 i0 _ 2 16 Try.underlying24 hi0 iz0 iz1 iz2 rfl (by decide) _ _ _ rfl (OA.out.alloc _) ⟨wr.heap.size + 1, 0, none⟩ 1 1 [.int .i64 (p.c + by_), .int .i64 p.t] rfl rfl (by have hh := news_at (wr.alloc (.cells #[.int .i64 p.c, .int .i64 p.t] 34)) [.int .i64 (p.c + by_), .int .i64 p.t] 34; rw [show (World.heap (wr.alloc (.cells #[.int .i64 p.c, .int .i64 p.t] 34))).size = wr.heap.size + 1 from by simp] at hh; exact hh) (by simp [Value.oneCell']) (by unfold maxLen; omega) (by omega) (by first | omega | (simp; done) | (simp; omega)) ?_); intro v2 w6 own_w6 grow_w6 _ at_w6)
      have hb6 : Below w.heap.size w w6 := Below.ap hbA (by simp; omega) OA.out (Nat.le_refl _) grow_w6
      have O6 := hid own_w6
      clear own_w6
      go_wp2
      go_roundw
      case rel => exact ⟨k + 1, by omega, by go_num, hb6, hid (by rw [List.take_add_one, HP.out, List.map_append, List.flatMap_append]; exact O6.out)⟩
      case measure => simp [intOf]; omega
    · obtain rfl : k = xs.length := by omega
      have oM : wr.ownsRow w.heap.size 34 2 (.slice Ar (xs.map (mv by_)).length cr) (xs.map (mv by_)).length ((xs.map (mv by_)).flatMap encMn) := by
        have := OW.out
        rw [List.take_length] at this
        rw [List.length_map]; exact this
      have rM := rd_of_own (enc := encMn) (k := 2) (fun _ => rfl) oM
      have C2 := validMinima_ok Ar cr (xs.map (mv by_)) wr rM HV2.out
      rw [List.length_map] at C2
      have O2 := hid oM
      clear oM rM OW hlt
      go_wp2_with fail
      refine C2.mono ?_
      rintro e w2 ⟨rfl, hb2⟩
      clear C2
      go_wp2
      go_ret2
      exact ⟨Ar, cr, by rw [List.length_map]; rfl, own_below O2.out hb2 (Nat.le_refl _), Below.trans hb (hb2.mono hsz)⟩
end Go.Proofs.Ytlpgnmkhlbddaaa
