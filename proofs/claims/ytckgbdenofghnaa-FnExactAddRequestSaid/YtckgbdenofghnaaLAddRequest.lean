/- The program and the reference return the same requests behind an addition, in new memory, for every list of requests and every request. No condition. -/
import Derived.Test.YtckgbdenofghnaaRows
import Derived.Test.YtckgbdenofghnaaOpen
import Derived.Test.YtckgbdenofghnaaC22d
import Derived.Test.YtckgbdenofghnaaCReq
import Derived.Test.YtckgbdenofghnaaCRuM
import Derived.Test.YtckgbdenofghnaaCAg6
namespace Go.Proofs.Ytckgbdenofghnaa
open Go.RowKit
set_option linter.unusedVariables false
set_option maxHeartbeats 1000000 in
theorem ar_law (w : World) (A0 : Option Addr) (c0 : Nat) (xs0 : List Rq) (r0 : Rd encRq 6 w w.heap.size A0 xs0) (wf0 : ∀ x ∈ xs0, x.s.size ≤ maxLen) (m0 : xs0.length ≤ maxLen) (s : ByteArray) (w_s : s.size ≤ maxLen) (f : Int) (w_f : (Lit.int .i64 f).wf = true) (t : Int) (w_t : (Lit.int .i64 t).wf = true) (n : Int) (w_n : (Lit.int .i64 n).wf = true) (d : Int) (w_d : (Lit.int .i64 d).wf = true) (p : Int) (w_p : (Lit.int .i64 p).wf = true) :
    Calls Try.prog 5 #[.slice A0 xs0.length c0, .agg #[.string s, .int .i64 f, .int .i64 t, .int .i64 n, .int .i64 d, .int .i64 p]] w fun e w' => e = .returned (.bool true) ∧ Below w.heap.size w w' := by
  unfold maxLen at m0
  have l0 : xs0.length ≤ totRequest xs0 := Nat.le_add_right _ _
  rcases Nat.lt_or_ge 1048576 (totRequest xs0) with n0 | n0
  · go_enter Try.func5, Try.ntmps5
    have tt : Below w.heap.size w (w.alloc (.cells #[.string s, .int .i64 f, .int .i64 t, .int .i64 n, .int .i64 d, .int .i64 p] 35)) := (by repeat (first | assumption | exact Below.refl _ _ | apply Below.al | apply Below.drewN' | apply Below.drew | (apply Below.tr; assumption)))
    have uu : Below (World.heap (w.alloc (.cells #[.string s, .int .i64 f, .int .i64 t, .int .i64 n, .int .i64 d, .int .i64 p] 35))).size (w.alloc (.cells #[.string s, .int .i64 f, .int .i64 t, .int .i64 n, .int .i64 d, .int .i64 p] 35)) (w.alloc (.cells #[.string s, .int .i64 f, .int .i64 t, .int .i64 n, .int .i64 d, .int .i64 p] 35)) := Below.refl _ _
    go_wp2_with fail
    refine (szRequestS_big A0 c0 xs0 _ _ ((r0.below tt (Nat.le_refl _)).more tt.size) wf0 (by unfold maxLen; omega) (by omega) (by omega) (by omega)).mono ?_
    rintro e wz ⟨rfl, bz⟩
    go_wp2_with fail
    go_ret
    exact ⟨rfl, (by repeat (first | assumption | exact Below.refl _ _ | apply Below.al | apply Below.drewN' | apply Below.drew | (apply Below.tr; assumption)))⟩
  rcases Nat.lt_or_ge 1048576 (totRequest xs0 + s.size) with n1 | n1
  · go_enter Try.func5, Try.ntmps5
    have tt : Below w.heap.size w (w.alloc (.cells #[.string s, .int .i64 f, .int .i64 t, .int .i64 n, .int .i64 d, .int .i64 p] 35)) := (by repeat (first | assumption | exact Below.refl _ _ | apply Below.al | apply Below.drewN' | apply Below.drew | (apply Below.tr; assumption)))
    have uu : Below (World.heap (w.alloc (.cells #[.string s, .int .i64 f, .int .i64 t, .int .i64 n, .int .i64 d, .int .i64 p] 35))).size (w.alloc (.cells #[.string s, .int .i64 f, .int .i64 t, .int .i64 n, .int .i64 d, .int .i64 p] 35)) (w.alloc (.cells #[.string s, .int .i64 f, .int .i64 t, .int .i64 n, .int .i64 d, .int .i64 p] 35)) := Below.refl _ _
    go_wp2_with fail
    refine (szRequestS_ok A0 c0 xs0 _ _ ((r0.below tt (Nat.le_refl _)).more tt.size) (by omega) (by omega)).mono ?_
    rintro e wz ⟨rfl, bz⟩
    have tt := Below.tr bz tt
    have uu := Below.tr bz uu
    obtain ⟨hcz, hfz⟩ := bcell uu
    have hzz := uu.size
    go_wp2_with fail
    refine (szRequest_big s f t n d p _ _ w_s (by omega) (by omega) (by omega)).mono ?_
    rintro e wz ⟨rfl, bz⟩
    go_wp2_with fail
    go_ret
    exact ⟨rfl, (by repeat (first | assumption | exact Below.refl _ _ | apply Below.al | apply Below.drewN' | apply Below.drew | (apply Below.tr; assumption)))⟩
  go_enter Try.func5, Try.ntmps5
  have tt : Below w.heap.size w (w.alloc (.cells #[.string s, .int .i64 f, .int .i64 t, .int .i64 n, .int .i64 d, .int .i64 p] 35)) := (by repeat (first | assumption | exact Below.refl _ _ | apply Below.al | apply Below.drewN' | apply Below.drew | (apply Below.tr; assumption)))
  have z0 : w.heap.size ≤ (World.heap (w.alloc (.cells #[.string s, .int .i64 f, .int .i64 t, .int .i64 n, .int .i64 d, .int .i64 p] 35))).size := tt.size
  have uu : Below (World.heap (w.alloc (.cells #[.string s, .int .i64 f, .int .i64 t, .int .i64 n, .int .i64 d, .int .i64 p] 35))).size (w.alloc (.cells #[.string s, .int .i64 f, .int .i64 t, .int .i64 n, .int .i64 d, .int .i64 p] 35)) (w.alloc (.cells #[.string s, .int .i64 f, .int .i64 t, .int .i64 n, .int .i64 d, .int .i64 p] 35)) := Below.refl _ _
  have q0 : (w.alloc (.cells #[.string s, .int .i64 f, .int .i64 t, .int .i64 n, .int .i64 d, .int .i64 p] 35)).cell? ⟨w.heap.size, 0, none⟩ = some (.string s) := by simp [go_sem]
  have q1 : (w.alloc (.cells #[.string s, .int .i64 f, .int .i64 t, .int .i64 n, .int .i64 d, .int .i64 p] 35)).cell? ⟨w.heap.size, 1, none⟩ = some (.int .i64 f) := by simp [go_sem]
  have q2 : (w.alloc (.cells #[.string s, .int .i64 f, .int .i64 t, .int .i64 n, .int .i64 d, .int .i64 p] 35)).cell? ⟨w.heap.size, 2, none⟩ = some (.int .i64 t) := by simp [go_sem]
  have q3 : (w.alloc (.cells #[.string s, .int .i64 f, .int .i64 t, .int .i64 n, .int .i64 d, .int .i64 p] 35)).cell? ⟨w.heap.size, 3, none⟩ = some (.int .i64 n) := by simp [go_sem]
  have q4 : (w.alloc (.cells #[.string s, .int .i64 f, .int .i64 t, .int .i64 n, .int .i64 d, .int .i64 p] 35)).cell? ⟨w.heap.size, 4, none⟩ = some (.int .i64 d) := by simp [go_sem]
  have q5 : (w.alloc (.cells #[.string s, .int .i64 f, .int .i64 t, .int .i64 n, .int .i64 d, .int .i64 p] 35)).cell? ⟨w.heap.size, 5, none⟩ = some (.int .i64 p) := by simp [go_sem]
  go_wp2_with fail
  refine (szRequestS_ok A0 c0 xs0 _ _ ((r0.below tt (Nat.le_refl _)).more tt.size) (by omega) (by omega)).mono ?_
  rintro e w1 ⟨rfl, b1⟩
  have z1 := b1.size
  have tt := Below.tr b1 tt
  have uu := Below.tr b1 uu
  obtain ⟨hc1, hf1⟩ := bcell uu
  go_wp2_with fail
  refine (szRequest_ok s f t n d p _ _ (by omega) (by omega) (by omega)).mono ?_
  rintro e w2 ⟨rfl, b2⟩
  have z2 := b2.size
  have tt := Below.tr b2 tt
  have uu := Below.tr b2 uu
  obtain ⟨hc2, hf2⟩ := bcell uu
  go_wp2_with fail
  go_region_held3 (fun w' => w'.cell? ⟨w.heap.size, 0, none⟩ = some (.string s) ∧ w'.cell? ⟨w.heap.size, 1, none⟩ = some (.int .i64 f) ∧ w'.cell? ⟨w.heap.size, 2, none⟩ = some (.int .i64 t) ∧ w'.cell? ⟨w.heap.size, 3, none⟩ = some (.int .i64 n) ∧ w'.cell? ⟨w.heap.size, 4, none⟩ = some (.int .i64 d) ∧ w'.cell? ⟨w.heap.size, 5, none⟩ = some (.int .i64 p)) (go_keep) (first | (go_at_call 18; refine (toRequestS_any A0 c0 xs0 _ (r0.bm (by repeat (first | assumption | exact Below.refl _ _ | apply Below.al | apply Below.drewN' | apply Below.drew | (apply Below.tr; assumption))) (Below.size (by repeat (first | assumption | exact Below.refl _ _ | apply Below.al | apply Below.drewN' | apply Below.drew | (apply Below.tr; assumption))))) (by omega)).mono ?_; rintro e w3 ⟨B1, d1, rfl, o1, b3⟩; have b3 : Below (World.heap w2).size w2 w3 := (by repeat (first | assumption | exact Below.refl _ _ | apply Below.al | apply Below.drewN' | apply Below.drew | (apply Below.tr; assumption))); have z3 := b3.size; have tt : Below w.heap.size w w3 := (by repeat (first | assumption | exact Below.refl _ _ | apply Below.al | apply Below.drewN' | apply Below.drew | (apply Below.tr; assumption))); have uu := Below.tr b3 uu; obtain ⟨hc3, hf3⟩ := bcell uu; have p1 := o1) | (go_at_call 19; refine (toRequest_any _ _ _ _ _ _ _).mono ?_; rintro e w4 ⟨rfl, b4⟩; have b4 : Below (World.heap w3).size w3 w4 := (by repeat (first | assumption | exact Below.refl _ _ | apply Below.al | apply Below.drewN' | apply Below.drew | (apply Below.tr; assumption))); have z4 := b4.size; have p1 := own_below p1 b4 (Nat.le_refl _); have tt : Below w.heap.size w w4 := (by repeat (first | assumption | exact Below.refl _ _ | apply Below.al | apply Below.drewN' | apply Below.drew | (apply Below.tr; assumption))); have uu := Below.tr b4 uu; obtain ⟨hc4, hf4⟩ := bcell uu) | (go_at_call 17; refine (specAddRequest_any B1 d1 xs0 s f t n d p _ (rd_of_own (enc := encRq) (k := 6) (fun _ => rfl) p1) (by omega) wf0 (own_nil p1) w_s).mono ?_; rintro e w5 ⟨WA, Wc, rfl, Wo, b5⟩; have b5 : Below (World.heap w4).size w4 w5 := (by repeat (first | assumption | exact Below.refl _ _ | apply Below.al | apply Below.drewN' | apply Below.drew | (apply Below.tr; assumption))); have z5 := b5.size; have p1 := own_below p1 b5 (Nat.le_refl _); have tt : Below w.heap.size w w5 := (by repeat (first | assumption | exact Below.refl _ _ | apply Below.al | apply Below.drewN' | apply Below.drew | (apply Below.tr; assumption))); have uu := Below.tr b5 uu; obtain ⟨hc5, hf5⟩ := bcell uu; have Wp := Wo))
  go_wp2_with fail
  refine (toRequestS_any A0 c0 xs0 _ ((r0.below tt (Nat.le_refl _)).more tt.size) (by omega)).mono ?_
  rintro e w6 ⟨B2, d2, rfl, o2, b6⟩
  have z6 := b6.size
  have p1 := own_below p1 b6 (Nat.le_refl _)
  have Wp := own_below Wp b6 (Nat.le_refl _)
  have tt := Below.tr b6 tt
  have uu := Below.tr b6 uu
  obtain ⟨hc6, hf6⟩ := bcell uu
  have p2 := o2
  go_wp2_with fail
  refine (toRequest_any _ _ _ _ _ _ _).mono ?_
  rintro e w7 ⟨rfl, b7⟩
  have z7 := b7.size
  have p1 := own_below p1 b7 (Nat.le_refl _)
  have Wp := own_below Wp b7 (Nat.le_refl _)
  have p2 := own_below p2 b7 (Nat.le_refl _)
  have tt := Below.tr b7 tt
  have uu := Below.tr b7 uu
  obtain ⟨hc7, hf7⟩ := bcell uu
  go_wp2_with fail
  refine (implAddRequest_any B2 d2 xs0 s f t n d p _ (rd_of_own (enc := encRq) (k := 6) (fun _ => rfl) p2) (by omega) wf0 (own_nil p2) w_s).mono ?_
  rintro e w8 ⟨GA, Gc, rfl, Go, b8⟩
  have z8 := b8.size
  have p1 := own_below p1 b8 (Nat.le_refl _)
  have Wp := own_below Wp b8 (Nat.le_refl _)
  have p2 := own_below p2 b8 (Nat.le_refl _)
  have tt := Below.tr b8 tt
  have uu := Below.tr b8 uu
  obtain ⟨hc8, hf8⟩ := bcell uu
  have Gp := Go
  have hyl : (arV xs0 ⟨s, f, t, n, d, p⟩).length ≤ 1048576 := by have := arV_len xs0 ⟨s, f, t, n, d, p⟩; omega
  go_wp2_with fail
  refine (eqRequestS_same GA WA Gc Wc (arV xs0 ⟨s, f, t, n, d, p⟩) _ (rd_of_own (enc := encRq) (k := 6) (fun _ => rfl) Gp) (rd_of_own (enc := encRq) (k := 6) (fun _ => rfl) Wp) hyl).mono ?_
  rintro e w9 ⟨rfl, b9⟩
  have z9 := b9.size
  have p1 := own_below p1 b9 (Nat.le_refl _)
  have Wp := own_below Wp b9 (Nat.le_refl _)
  have p2 := own_below p2 b9 (Nat.le_refl _)
  have Gp := own_below Gp b9 (Nat.le_refl _)
  have tt := Below.tr b9 tt
  have uu := Below.tr b9 uu
  obtain ⟨hc9, hf9⟩ := bcell uu
  go_wp2_with fail
  refine (toRequestS_any A0 c0 xs0 _ ((r0.below tt (Nat.le_refl _)).more tt.size) (by omega)).mono ?_
  rintro e w10 ⟨B3, d3, rfl, o3, b10⟩
  have z10 := b10.size
  have p1 := own_below p1 b10 (Nat.le_refl _)
  have Wp := own_below Wp b10 (Nat.le_refl _)
  have p2 := own_below p2 b10 (Nat.le_refl _)
  have Gp := own_below Gp b10 (Nat.le_refl _)
  have tt := Below.tr b10 tt
  have uu := Below.tr b10 uu
  obtain ⟨hc10, hf10⟩ := bcell uu
  have p3 := o3
  go_wp2_with fail
  refine (eqRequestS_same B2 B3 d2 d3 xs0 _ (rd_of_own (enc := encRq) (k := 6) (fun _ => rfl) p2) (rd_of_own (enc := encRq) (k := 6) (fun _ => rfl) p3) (by omega)).mono ?_
  rintro e w11 ⟨rfl, b11⟩
  have z11 := b11.size
  have p1 := own_below p1 b11 (Nat.le_refl _)
  have Wp := own_below Wp b11 (Nat.le_refl _)
  have p2 := own_below p2 b11 (Nat.le_refl _)
  have Gp := own_below Gp b11 (Nat.le_refl _)
  have p3 := own_below p3 b11 (Nat.le_refl _)
  have tt := Below.tr b11 tt
  have uu := Below.tr b11 uu
  obtain ⟨hc11, hf11⟩ := bcell uu
  have Z_Wp := Wo
  have Z_Gp := Go
  have Z_p2 := o2
  go_wp2_with fail
  refine (markRequestS_any _ B2 xs0.length d2 _ (1) _ p2 (by omega) (by omega) (by omega)).mono ?_
  rintro e w12 ⟨rfl, pm12, gm12⟩
  have z12 := gm12.size
  have Wp := Wp.kept gm12 (own_ne Z_Wp Z_p2 (by omega)).2
  have Gp := Gp.kept gm12 (own_ne Z_p2 Z_Gp (by omega)).1
  have tt := Below.gr tt tt.size p2 (by omega) gm12
  have uu := Below.gr uu uu.size p2 (by first | omega | (simp; omega)) gm12
  obtain ⟨hc12, hf12⟩ := bcell uu
  have p2 := pm12
  go_wp2_with fail
  refine (eqRequestS_same GA WA Gc Wc (arV xs0 ⟨s, f, t, n, d, p⟩) _ (rd_of_own (enc := encRq) (k := 6) (fun _ => rfl) Gp) (rd_of_own (enc := encRq) (k := 6) (fun _ => rfl) Wp) hyl).mono ?_
  rintro e w13 ⟨rfl, b13⟩
  have z13 := b13.size
  have Wp := own_below Wp b13 (Nat.le_refl _)
  have Gp := own_below Gp b13 (Nat.le_refl _)
  have tt := Below.tr b13 tt
  have uu := Below.tr b13 uu
  obtain ⟨hc13, hf13⟩ := bcell uu
  go_wp2_with fail
  refine (markRequestS_any _ GA (arV xs0 ⟨s, f, t, n, d, p⟩).length Gc _ 1 _ Gp (by omega) (by omega) (by omega)).mono ?_
  rintro e w14 ⟨rfl, pm14, gm14⟩
  have z14 := gm14.size
  have Wp := Wp.kept gm14 (own_ne Z_Wp Z_Gp (by omega)).2
  have tt := Below.gr tt tt.size Gp (by omega) gm14
  have uu := Below.gr uu uu.size Gp (by first | omega | (simp; omega)) gm14
  obtain ⟨hc14, hf14⟩ := bcell uu
  have Gp := pm14
  go_wp2_with fail
  refine (heldRequestS_any _ GA (arV xs0 ⟨s, f, t, n, d, p⟩).length Gc 1 _ Gp (by omega) (by omega) (by omega)).mono ?_
  rintro e w15 ⟨rfl, b15⟩
  have z15 := b15.size
  have Wp := own_below Wp b15 (Nat.le_refl _)
  have Gp := own_below Gp b15 (Nat.le_refl _)
  have tt := Below.tr b15 tt
  have uu := Below.tr b15 uu
  obtain ⟨hc15, hf15⟩ := bcell uu
  go_wp2_with fail
  go_region_held3 (fun w' => w'.cell? ⟨w.heap.size, 0, none⟩ = some (.string s) ∧ w'.cell? ⟨w.heap.size, 1, none⟩ = some (.int .i64 f) ∧ w'.cell? ⟨w.heap.size, 2, none⟩ = some (.int .i64 t) ∧ w'.cell? ⟨w.heap.size, 3, none⟩ = some (.int .i64 n) ∧ w'.cell? ⟨w.heap.size, 4, none⟩ = some (.int .i64 d) ∧ w'.cell? ⟨w.heap.size, 5, none⟩ = some (.int .i64 p)) (go_keep) (first | (go_at_call 18; refine (toRequestS_any A0 c0 xs0 _ (r0.bm (by repeat (first | assumption | exact Below.refl _ _ | apply Below.al | apply Below.drewN' | apply Below.drew | (apply Below.tr; assumption))) (Below.size (by repeat (first | assumption | exact Below.refl _ _ | apply Below.al | apply Below.drewN' | apply Below.drew | (apply Below.tr; assumption))))) (by omega)).mono ?_; rintro e w16 ⟨B4, d4, rfl, o4, b16⟩; have b16 : Below (World.heap w15).size w15 w16 := (by repeat (first | assumption | exact Below.refl _ _ | apply Below.al | apply Below.drewN' | apply Below.drew | (apply Below.tr; assumption))); have z16 := b16.size; have Wp := own_below Wp b16 (Nat.le_refl _); have Gp := own_below Gp b16 (Nat.le_refl _); have tt : Below w.heap.size w w16 := (by repeat (first | assumption | exact Below.refl _ _ | apply Below.al | apply Below.drewN' | apply Below.drew | (apply Below.tr; assumption))); have uu := Below.tr b16 uu; obtain ⟨hc16, hf16⟩ := bcell uu; have p4 := o4) | (go_at_call 19; refine (toRequest_any _ _ _ _ _ _ _).mono ?_; rintro e w17 ⟨rfl, b17⟩; have b17 : Below (World.heap w16).size w16 w17 := (by repeat (first | assumption | exact Below.refl _ _ | apply Below.al | apply Below.drewN' | apply Below.drew | (apply Below.tr; assumption))); have z17 := b17.size; have Wp := own_below Wp b17 (Nat.le_refl _); have Gp := own_below Gp b17 (Nat.le_refl _); have p4 := own_below p4 b17 (Nat.le_refl _); have tt : Below w.heap.size w w17 := (by repeat (first | assumption | exact Below.refl _ _ | apply Below.al | apply Below.drewN' | apply Below.drew | (apply Below.tr; assumption))); have uu := Below.tr b17 uu; obtain ⟨hc17, hf17⟩ := bcell uu) | (go_at_call 20; refine (implAddRequest_any B4 d4 xs0 s f t n d p _ (rd_of_own (enc := encRq) (k := 6) (fun _ => rfl) p4) (by omega) wf0 (own_nil p4) w_s).mono ?_; rintro e w18 ⟨HA, Hc, rfl, Ho, b18⟩; have b18 : Below (World.heap w17).size w17 w18 := (by repeat (first | assumption | exact Below.refl _ _ | apply Below.al | apply Below.drewN' | apply Below.drew | (apply Below.tr; assumption))); have z18 := b18.size; have Wp := own_below Wp b18 (Nat.le_refl _); have Gp := own_below Gp b18 (Nat.le_refl _); have p4 := own_below p4 b18 (Nat.le_refl _); have tt : Below w.heap.size w w18 := (by repeat (first | assumption | exact Below.refl _ _ | apply Below.al | apply Below.drewN' | apply Below.drew | (apply Below.tr; assumption))); have uu := Below.tr b18 uu; obtain ⟨hc18, hf18⟩ := bcell uu; have Hp := Ho))
  go_wp2_with fail
  refine (eqRequestS_same HA WA Hc Wc (arV xs0 ⟨s, f, t, n, d, p⟩) _ (rd_of_own (enc := encRq) (k := 6) (fun _ => rfl) Hp) (rd_of_own (enc := encRq) (k := 6) (fun _ => rfl) Wp) hyl).mono ?_
  rintro e w19 ⟨rfl, b19⟩
  have z19 := b19.size
  have Wp := own_below Wp b19 (Nat.le_refl _)
  have Gp := own_below Gp b19 (Nat.le_refl _)
  have p4 := own_below p4 b19 (Nat.le_refl _)
  have Hp := own_below Hp b19 (Nat.le_refl _)
  have tt := Below.tr b19 tt
  have uu := Below.tr b19 uu
  obtain ⟨hc19, hf19⟩ := bcell uu
  go_wp2_with fail
  refine (heldRequestS_any _ GA (arV xs0 ⟨s, f, t, n, d, p⟩).length Gc 1 _ Gp (by omega) (by omega) (by omega)).mono ?_
  rintro e w20 ⟨rfl, b20⟩
  have z20 := b20.size
  have Wp := own_below Wp b20 (Nat.le_refl _)
  have Gp := own_below Gp b20 (Nat.le_refl _)
  have p4 := own_below p4 b20 (Nat.le_refl _)
  have Hp := own_below Hp b20 (Nat.le_refl _)
  have tt := Below.tr b20 tt
  have uu := Below.tr b20 uu
  obtain ⟨hc20, hf20⟩ := bcell uu
  go_wp2_with fail
  go_ret
  exact ⟨rfl, tt⟩
namespace fnExactAddRequest
open Go.ChangeShapes Go.WideShapes Go.ChangeAt Go.RowKit Go.Deep Go.Joins
set_option linter.unusedVariables false
theorem own : ownKnob Try.prog.godebug = none := by kernel_rfl
theorem laidOut : laidOutB Try.prog = true := by kernel_rfl
set_option maxRecDepth 100000 in
theorem lifted (os : Os) (started : os.Started) (H : Type) (enc : TypeId × Value → H) :
    ReturnsInHanded {} Try.checked os 5 .any (Rows.fnExactAddRequestSpec.pre6 enc Try.prog Try.f5 Rows.fnExactAddRequestRow.domain false) (Rows.fnExactAddRequestSpec.post enc Try.prog Try.f5 false true false false) := by
  refine returnsInHanded_of_change (C := Try.checked) own started (by kernel_rfl) Try.func5
    (ChangeSpec.witness6 (enc := enc) (C := Try.checked) false ⟨#[], #[.slice none 0 0, .agg #[.string ByteArray.empty, .int .i64 0, .int .i64 0, .int .i64 0, .int .i64 0, .int .i64 0]], []⟩ 8 (by kernel_rfl) (by kernel_rfl) (by kernel_rfl) (by kernel_rfl)) ?_
  intro W base args ds gs before hval0 hW hcnd _
  have hval : ∀ (j : Nat) t v, Try.f5.params[j]? = some t → args[j]? = some v → Value.okWide Try.prog W .any base t v := hval0
  have hW' := hW
  obtain ⟨p, q, hA0, hV, rfl, hfz, hnd⟩ := hW
  have hA : DataW.TrodAll enc Try.prog W 0 (fun _ => true) true Try.f5.params.toList args.toList ds p := hA0
  rw [Try.params5] at hA hval
  obtain ⟨v0, vs0, d0, ds0, p0, q0, hargs, rfl, rfl, h0, r0⟩ := trodAll_cons hA
  obtain ⟨v1, vs1, d1, ds1, p1, q1, rfl, rfl, rfl, h1, r1⟩ := trodAll_cons r0
  obtain ⟨rfl, rfl, rfl⟩ := trodAll_nil r1
  obtain rfl : args = #[v0, v1] := by cases args; simp_all
  obtain ⟨rfl, rfl⟩ := trodVars_none hV
  have k0 := h0
  have lt0 : ∀ x ∈ p0, x.block < W.heap.size := by obtain ⟨m, hm⟩ := k0; exact DataW.trod_lt m _ _ _ hm
  have k1 := h1
  have lt1 : ∀ x ∈ p1, x.block < W.heap.size := by obtain ⟨m, hm⟩ := k1; exact DataW.trod_lt m _ _ _ hm
  obtain ⟨A0, len0, cap0, rfl⟩ := okWide_slice Try.underlying33 (hval 0 33 v0 rfl rfl)
  obtain ⟨xs0, rfl, rd0, wf0, ml0⟩ : ∃ xs : List _, xs.length = len0 ∧ Rd encRq 6 W W.heap.size A0 xs ∧ (∀ x ∈ xs, x.s.size ≤ maxLen) ∧ len0 ≤ maxLen := by
    obtain ⟨fuel, hf⟩ := h0
    exact rd_open (encA := encRq) (wf := fun x => x.s.size ≤ maxLen) (k := 6) (by decide) (fun _ => rfl) Try.underlying33 (by kernel_rfl) (fun n cs y h => dec_rq Try.underlying35 (by kernel_rfl) (by kernel_rfl) Try.underlying9 Try.underlying2 Try.underlying2 Try.underlying2 Try.underlying2 Try.underlying2 n cs y h) (by simpa [Value.cells] using hf)
  obtain ⟨c1_0, c1_1, c1_2, c1_3, c1_4, c1_5, y1_0, y1_1, y1_2, y1_3, y1_4, y1_5, m1, rfl, _, _, z1_0, z1_1, z1_2, z1_3, z1_4, z1_5⟩ := open_agg6 Try.underlying35 (by kernel_rfl) (by kernel_rfl) (hval 1 35 v1 rfl rfl) h1
  obtain ⟨a1_0, e1_0, _, w1_0⟩ := DataW.trod_string Try.underlying9 z1_0
  simp at e1_0; subst e1_0
  obtain ⟨a1_1, e1_1, _, w1_1⟩ := DataW.trod_int Try.underlying2 z1_1
  simp at e1_1; subst e1_1
  obtain ⟨a1_2, e1_2, _, w1_2⟩ := DataW.trod_int Try.underlying2 z1_2
  simp at e1_2; subst e1_2
  obtain ⟨a1_3, e1_3, _, w1_3⟩ := DataW.trod_int Try.underlying2 z1_3
  simp at e1_3; subst e1_3
  obtain ⟨a1_4, e1_4, _, w1_4⟩ := DataW.trod_int Try.underlying2 z1_4
  simp at e1_4; subst e1_4
  obtain ⟨a1_5, e1_5, _, w1_5⟩ := DataW.trod_int Try.underlying2 z1_5
  simp at e1_5; subst e1_5
  clear hA0 hval0
  refine (ar_law W A0 cap0 xs0 rd0 wf0 ml0 a1_0 w1_0 a1_1 w1_1 a1_2 w1_2 a1_3 w1_3 a1_4 w1_4 a1_5 w1_5).mono fun e W' ⟨he, bel⟩ => ?_
  subst he
  exact ⟨_, rfl, _, _, _, [], _, [], hW', trodAll_mk1 (shut_bool Try.underlying4 _), (trodAll_cons_mk (Below.trod laidOut (by kernel_rfl) (of_decide_eq_true (by kernel_rfl)) k0 bel lt0) (trodAll_cons_mk (Below.trod laidOut (by kernel_rfl) (of_decide_eq_true (by kernel_rfl)) k1 bel lt1) trodAll_mk0)), rfl, bel.frame _, fun h => by cases h⟩

theorem proved : Rows.FnExactAddRequestSaid :=
  OpenClaim.holds_of_wide 5 Try.f5 rfl rfl rfl rfl rfl rfl rfl ⟨rfl, rfl, rfl, rfl, rfl⟩ rfl rfl rfl rfl rfl (by kernel_rfl) Try.func5 (by kernel_rfl)
    (of_decide_eq_true (by kernel_rfl)) (by unfold Func.isWrapper; first | (rw [if_pos (by decide +kernel)]; kernel_rfl) | (rw [if_neg (by decide +kernel)]; exact ⟨rfl, rfl⟩))
    (fun os started H enc _ => lifted os started H enc)
#print axioms proved
end fnExactAddRequest
end Go.Proofs.Ytckgbdenofghnaa

