/- Contracts: the rules for facts, in the program and in the reference. -/
import Derived.Test.YtmjapoolmadmpaaC18v
import Derived.Test.YtmjapoolmadmpaaCIdx
namespace Go.Proofs.Ytmjapoolmadmpaa
open Go.RowKit
set_option linter.unusedVariables false
def rfB (xs : List Ru) (f : Fa) (i : Nat) : Bool := match xs[i]? with | some x => mtB x f | none => false
theorem rfB_at {xs : List Ru} {f : Fa} {i : Nat} {p : Ru} (h : xs[i]? = some p) : rfB xs f i = mtB p f := by unfold rfB; rw [h]
def rfV (xs : List Ru) (f : Fa) : List Int := if c18 xs f = 0 then idxW (rfB xs f) xs.length else []
theorem rfV_len (xs : List Ru) (f : Fa) : (rfV xs f).length ≤ xs.length := by
  unfold rfV
  split
  · exact idxW_len _ _
  · simp
set_option maxRecDepth 20000 in
set_option maxHeartbeats 2000000 in
theorem specRulesFor_any (A : Option Addr) (c : Nat) (xs : List Ru) (f : Fa) (w : World) (h : Rd encRu 6 w w.heap.size A xs) (hn : xs.length ≤ 1048576) (wf : ∀ x ∈ xs, x.s.size ≤ maxLen) :
    Calls Try.prog 11 #[.slice A xs.length c, .agg #[.int .i64 f.a, .int .i64 f.p, .int .i64 f.s]] w (OwnTup 2 1 encI (rfV xs f) (c18 xs f) w) := by
  by_cases hc : c18 xs f = 0
  rotate_left
  · have HV : Hid (rfV xs f = []) := by simp [Hid, rfV, hc]
    have HN : (c18 xs f != 0) = true := by simp [hc]
    clear hc
    go_enter Try.func11, Try.ntmps11
    go_wp2_with (go_at_call 18; refine (l18Code_any A c xs f _ ((h.below (B' := w.heap.size) (by repeat (first | assumption | exact Below.refl _ _ | apply Below.al | apply Below.drewN' | apply Below.drew | (apply Below.tr; assumption))) (Nat.le_refl _)).more (by first | (simp; done) | (simp; omega))) hn wf).mono ?_; rintro e w1 ⟨rfl, hb1⟩; obtain ⟨hc_w1, hf_w1⟩ := bcell hb1; have hz_w1 := hb1.size; (try simp at hz_w1); (try have g_w1 : w.heap.size < w1.heap.size := (by omega)))
    go_ret2
    exact ⟨none, 0, by rw [HV.out]; rfl, by rw [HV.out]; exact World.ownsRow_nil _ _ _ _, (by repeat (first | assumption | exact Below.refl _ _ | apply Below.al | apply Below.drewN' | apply Below.drew | (apply Below.tr; assumption)))⟩
  have HV : Hid (rfV xs f = idxW (rfB xs f) xs.length) := by simp [Hid, rfV, hc]
  have HN : (c18 xs f != 0) = false := by simp [hc]
  have HC := hid hc
  clear hc
  obtain ⟨i0, hi0, iz0, iz1, iz2⟩ := info_parts (P := Try.prog) (e := 2) (z := .int .i64 0) (size := 1) (bytes := 8) (by kernel_rfl)
  go_enter Try.func11, Try.ntmps11
  go_wp2_with (go_at_call 18; refine (l18Code_any A c xs f _ ((h.below (B' := w.heap.size) (by repeat (first | assumption | exact Below.refl _ _ | apply Below.al | apply Below.drewN' | apply Below.drew | (apply Below.tr; assumption))) (Nat.le_refl _)).more (by first | (simp; done) | (simp; omega))) hn wf).mono ?_; rintro e w1 ⟨rfl, hb1⟩; obtain ⟨hc_w1, hf_w1⟩ := bcell hb1; have hz_w1 := hb1.size; (try simp at hz_w1); (try have g_w1 : w.heap.size < w1.heap.size := (by omega)))
  go_loopw [7, 8] (fun v i wr => ∃ k : Nat, k ≤ xs.length ∧ i = .int .i64 k ∧ Below (World.heap (w.alloc (.cells #[.int .i64 f.a, .int .i64 f.p, .int .i64 f.s] 30))).size (w.alloc (.cells #[.int .i64 f.a, .int .i64 f.p, .int .i64 f.s] 30)) wr ∧ wr.ownsRow (w.heap.size + 1) 2 1 v (idxW (rfB xs f) k).length ((idxW (rfB xs f) k).flatMap encI)) (fun _ i _ => xs.length - (intOf i).toNat)
  case atStart => exact ⟨0, Nat.zero_le _, rfl, (by repeat (first | assumption | exact Below.refl _ _ | apply Below.al | apply Below.drewN' | apply Below.drew | (apply Below.tr; assumption))), own_lit0 _ _ _ (by omega)⟩
  case round =>
    obtain ⟨k, hk, rfl, hb, hown⟩ := hrel
    have hbw : Below w.heap.size w wr := Below.tr hb (by repeat (first | assumption | exact Below.refl _ _ | apply Below.al | apply Below.drewN' | apply Below.drew | (apply Below.tr; assumption)))
    have hsz := hb.size
    simp at hsz
    have g0 : w.heap.size < wr.heap.size := by omega
    have e0 : wr.cell? ⟨w.heap.size, 0, none⟩ = some (.int .i64 f.a) := by rw [(bcell hb).1 (w.heap.size) 0 (by first | (simp; done) | (simp; omega))]; simp [go_sem]
    have e1 : wr.cell? ⟨w.heap.size, 1, none⟩ = some (.int .i64 f.p) := by rw [(bcell hb).1 (w.heap.size) 1 (by first | (simp; done) | (simp; omega))]; simp [go_sem]
    have e2 : wr.cell? ⟨w.heap.size, 2, none⟩ = some (.int .i64 f.s) := by rw [(bcell hb).1 (w.heap.size) 2 (by first | (simp; done) | (simp; omega))]; simp [go_sem]
    by_cases hlt : k < xs.length
    · obtain ⟨p, hp⟩ := getx hlt
      obtain ⟨bb, o, rfl, hbB, c0, c1, c2, c3, c4, c5⟩ := (h.below hbw (Nat.le_refl _)).at6 hp rfl
      have b0 : bb < wr.heap.size := by omega
      have hl := idxW_len (rfB xs f) k
      have HP : Hid ((rfB xs f) k = mtB p f) := hid (rfB_at hp)
      have H0 := hid hown
      clear hp hown
      cases h1 : mtB p f
      · have HF : Hid ((rfB xs f) k = false) := hid (by rw [HP.out, h1])
        go_wp2
        refine wp_region_ext (by kernel_rfl) (by kernel_rfl) ?_
        repeat (go_big_quiet_step ((first | (go_at_call 25; exact ext_below (l18Match_eq h1 bb (o + k * 6) _ (Nat.lt_of_lt_of_le b0 (Below.size (Ext.h _))) ((Ext.cell _ b0).trans c1) ((Ext.cell _ b0).trans c2) ((Ext.cell _ b0).trans c3) ((Ext.cell _ b0).trans c4) ((Ext.cell _ b0).trans c5))))))
        refine wpQuiet_nil ?_
        intro w3 hb3
        obtain ⟨hc_w3, hf_w3⟩ := bcell hb3
        have hz_w3 := hb3.size
        have H3 := hid (own_below H0.out hb3 (Nat.le_refl _))
        go_wp2
        go_roundw
        case rel => exact ⟨k + 1, by omega, by go_num, (by repeat (first | assumption | exact Below.refl _ _ | apply Below.al | apply Below.drewN' | apply Below.drew | (apply Below.tr; assumption))), by rw [idxW_no HF.out]; exact H3.out⟩
        case measure => simp [intOf]; omega
      · have HF : Hid ((rfB xs f) k = true) := hid (by rw [HP.out, h1])
        go_wp2
        refine wp_region_ext (by kernel_rfl) (by kernel_rfl) ?_
        repeat (go_big_quiet_step ((first | (go_at_call 25; exact ext_below (l18Match_eq h1 bb (o + k * 6) _ (Nat.lt_of_lt_of_le b0 (Below.size (Ext.h _))) ((Ext.cell _ b0).trans c1) ((Ext.cell _ b0).trans c2) ((Ext.cell _ b0).trans c3) ((Ext.cell _ b0).trans c4) ((Ext.cell _ b0).trans c5))))))
        refine wpQuiet_nil ?_
        intro w3 hb3
        obtain ⟨hc_w3, hf_w3⟩ := bcell hb3
        have hz_w3 := hb3.size
        have H3 := hid (own_below H0.out hb3 (Nat.le_refl _))
        have hb9 := Below.tr hb3 hb
        have hz9 := hb9.size
        simp at hz9
        go_wp2_with (at_builtin; go_must (refine wpList_append_own _ rfl _ _ 34 rfl (w.heap.size + 1) 2 i0 _ 1 8 Try.underlying34 hi0 iz0 iz1 iz2 rfl (by decide) _ _ _ rfl (H3.out.alloc _) ⟨(w3).heap.size, 0, none⟩ 1 1 [.int .i64 (k : Nat)] rfl rfl (news_at w3 [.int .i64 (k : Nat)] 2) (by simp [Value.oneCell']) (by unfold maxLen; omega) (by omega) (by first | omega | (simp; done) | (simp; omega)) ?_); intro v2 w4 own_w4 grow_w4 _)
        go_roundw
        case rel => exact ⟨k + 1, by omega, by go_num, Below.ap hb9 hb9.size H3.out (by first | (simp; done) | (simp; omega)) grow_w4, by rw [idxW_yes HF.out]; simpa [encI] using own_w4⟩
        case measure => simp [intOf]; omega
    · obtain rfl : k = xs.length := by omega
      have H0 := hid hown
      obtain ⟨Ar, cr, rfl⟩ := own_shape hown
      clear hown
      go_wp2
      go_ret2
      exact ⟨Ar, cr, by rw [HV.out, HC.out]; simp, by rw [HV.out]; exact own_lo H0.out (Nat.le_succ _), hbw⟩
theorem specRulesFor_3 (A : Option Addr) (c : Nat) (xs : List Ru) (a p s : Int) (w : World) (h : Rd encRu 6 w w.heap.size A xs) (hn : xs.length ≤ 1048576) (wf : ∀ x ∈ xs, x.s.size ≤ maxLen) :
    Calls Try.prog 11 #[.slice A xs.length c, .agg #[.int .i64 a, .int .i64 p, .int .i64 s]] w (OwnTup 2 1 encI (rfV xs ⟨a, p, s⟩) (c18 xs ⟨a, p, s⟩) w) := specRulesFor_any A c xs ⟨a, p, s⟩ w h hn wf
theorem rulesFor1_any (A : Option Addr) (c : Nat) (xs : List Ru) (f : Fa) (i : Nat) (g g' : Nat) (w : World) (h : Rd encRu 6 w w.heap.size A xs) (hi : i < xs.length) (hg : g < w.heap.size) (hg' : g' < w.heap.size)
    (e : w.cell? ⟨g, 0, none⟩ = some (.slice A xs.length c)) (e0 : w.cell? ⟨g', 0, none⟩ = some (.int .i64 f.a)) (e1 : w.cell? ⟨g', 1, none⟩ = some (.int .i64 f.p)) (e2 : w.cell? ⟨g', 2, none⟩ = some (.int .i64 f.s)) :
    Calls Try.prog 27 #[.int .i64 i, .pointer (some ⟨g, 0, none⟩), .pointer (some ⟨g', 0, none⟩)] w fun e w' => e = .returned (.bool ((rfB xs f) i)) ∧ Below w.heap.size w w' := by
  obtain ⟨p, hp⟩ := getx hi
  obtain ⟨b, o, rfl, hbB, c0, c1, c2, c3, c4, c5⟩ := h.at6 hp rfl
  have HP : Hid ((rfB xs f) i = mtB p f) := hid (rfB_at hp)
  clear hp
  go_enter Try.func27, Try.ntmps27
  go_wp2
  refine wp_region_ext (by kernel_rfl) (by kernel_rfl) ?_
  repeat (go_big_quiet_step ((first | (go_at_call 28; exact ext_below (matches_any p f _)))))
  refine wpQuiet_nil ?_
  intro w3 hb3
  obtain ⟨hc_w3, hf_w3⟩ := bcell hb3
  have hz_w3 := hb3.size
  go_wp2
  go_ret
  exact ⟨ret_bool HP.out.symm, (by repeat (first | assumption | exact Below.refl _ _ | apply Below.al | apply Below.drewN' | apply Below.drew | (apply Below.tr; assumption)))⟩
set_option maxRecDepth 20000 in
set_option maxHeartbeats 2000000 in
theorem implRulesFor_any (A : Option Addr) (c : Nat) (xs : List Ru) (f : Fa) (w : World) (h : Rd encRu 6 w w.heap.size A xs) (hn : xs.length ≤ 1048576) (wf : ∀ x ∈ xs, x.s.size ≤ maxLen) :
    Calls Try.prog 12 #[.slice A xs.length c, .agg #[.int .i64 f.a, .int .i64 f.p, .int .i64 f.s]] w (OwnTup 2 1 encI (rfV xs f) (c18 xs f) w) := by
  by_cases hc : c18 xs f = 0
  rotate_left
  · have HV : Hid (rfV xs f = []) := by simp [Hid, rfV, hc]
    cases h1 : ruL xs <;> cases h2 : faB f
    all_goals
      first
        | (exfalso; apply hc; unfold c18; rw [h1, h2]; rfl)
        | (have HC2 := hid (show c18 xs f = _ by unfold c18; rw [h1, h2])
           clear hc
           go_enter Try.func12, Try.ntmps12
           go_wp2_with (first | (go_at_call 21; refine (validRules_any A c xs _ ((h.below (B' := w.heap.size) (by repeat (first | assumption | exact Below.refl _ _ | apply Below.al | apply Below.drewN' | apply Below.drew | (apply Below.tr; assumption))) (Nat.le_refl _)).more (by first | (simp; done) | (simp; omega))) hn wf).mono ?_; rintro e w1 ⟨rfl, hb1⟩; obtain ⟨hc_w1, hf_w1⟩ := bcell hb1; have hz_w1 := hb1.size; (try simp at hz_w1); (try have g_w1 : w.heap.size < w1.heap.size := (by omega))) | (go_at_call 22; refine (areFacts_any f.a f.p f.s _).mono ?_; rintro e w2 ⟨rfl, hb2⟩; obtain ⟨hc_w2, hf_w2⟩ := bcell hb2; have hz_w2 := hb2.size; (try simp at hz_w2); (try have g_w2 : w.heap.size < w2.heap.size := (by omega))))
           go_ret2
           exact ⟨none, 0, by rw [HV.out, HC2.out]; rfl, by rw [HV.out]; exact World.ownsRow_nil _ _ _ _, (by repeat (first | assumption | exact Below.refl _ _ | apply Below.al | apply Below.drewN' | apply Below.drew | (apply Below.tr; assumption)))⟩)
  have HV : Hid (rfV xs f = idxW (rfB xs f) xs.length) := by simp [Hid, rfV, hc]
  obtain ⟨h1, h2⟩ := c18_zero hc
  have HC := hid hc
  clear hc
  go_enter Try.func12, Try.ntmps12
  go_wp2_with (first | (go_at_call 21; refine (validRules_any A c xs _ ((h.below (B' := w.heap.size) (by repeat (first | assumption | exact Below.refl _ _ | apply Below.al | apply Below.drewN' | apply Below.drew | (apply Below.tr; assumption))) (Nat.le_refl _)).more (by first | (simp; done) | (simp; omega))) hn wf).mono ?_; rintro e w1 ⟨rfl, hb1⟩; obtain ⟨hc_w1, hf_w1⟩ := bcell hb1; have hz_w1 := hb1.size; (try simp at hz_w1); (try have g_w1 : w.heap.size < w1.heap.size := (by omega))) | (go_at_call 22; refine (areFacts_any f.a f.p f.s _).mono ?_; rintro e w2 ⟨rfl, hb2⟩; obtain ⟨hc_w2, hf_w2⟩ := bcell hb2; have hz_w2 := hb2.size; (try simp at hz_w2); (try have g_w2 : w.heap.size < w2.heap.size := (by omega))))
  have hw : Below w.heap.size w w2 := (by repeat (first | assumption | exact Below.refl _ _ | apply Below.al | apply Below.drewN' | apply Below.drew | (apply Below.tr; assumption)))
  clear h1 h2
  refine (indicesWhere_any 27 _ (rfB xs f) xs.length _ hn (callFunc_enter Try.func27 (by kernel_rfl) (by kernel_rfl)) ?_).mono ?_
  · intro i w3 hi hb3
    refine (rulesFor1_any A c xs f i w.heap.size (w.heap.size + 1) w3 ((h.below (Below.tr hb3 hw) (Nat.le_refl _)).more (by have := hb3.size; have := hw.size; omega)) hi (by have := hb3.size; omega) (by have := hb3.size; omega) ?_ ?_ ?_ ?_).mono fun e w4 he => he
    all_goals (rw [(bcell hb3).1 _ _ (by omega), hc_w2 _ _ (by omega), hc_w1 _ _ (by first | (simp; done) | (simp; omega))]; simp [go_sem])
  · rintro e w5 ⟨Ar, cr, rfl, o5, hb5⟩
    go_wp2
    go_ret2
    exact ⟨Ar, cr, by rw [HV.out, HC.out]; simp, by rw [HV.out]; exact own_lo o5 hw.size, (by repeat (first | assumption | exact Below.refl _ _ | apply Below.al | apply Below.drewN' | apply Below.drew | (apply Below.tr; assumption)))⟩
theorem implRulesFor_3 (A : Option Addr) (c : Nat) (xs : List Ru) (a p s : Int) (w : World) (h : Rd encRu 6 w w.heap.size A xs) (hn : xs.length ≤ 1048576) (wf : ∀ x ∈ xs, x.s.size ≤ maxLen) :
    Calls Try.prog 12 #[.slice A xs.length c, .agg #[.int .i64 a, .int .i64 p, .int .i64 s]] w (OwnTup 2 1 encI (rfV xs ⟨a, p, s⟩) (c18 xs ⟨a, p, s⟩) w) := implRulesFor_any A c xs ⟨a, p, s⟩ w h hn wf
end Go.Proofs.Ytmjapoolmadmpaa
