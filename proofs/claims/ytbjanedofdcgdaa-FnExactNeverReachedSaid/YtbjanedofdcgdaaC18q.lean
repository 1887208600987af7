/- Contracts: the corners of rules, the facts that are searched, in the program. -/
import Derived.Test.YtbjanedofdcgdaaC18n
import Derived.Test.YtbjanedofdcgdaaC18m
import Derived.Deep.RegionHeld3
import Derived.BigRegion
namespace Go.Proofs.Ytbjanedofdcgdaa
open Go.RowKit
set_option linter.unusedVariables false
set_option maxRecDepth 20000 in
set_option maxHeartbeats 1000000 in
theorem chosen_any (F : FuncId) (caps : Array Value) (fb : Int → Bool) (A : Option Addr) (c : Nat) (xs : List Int) (w : World) (h : Rd encI 1 w w.heap.size A xs) (hn : xs.length ≤ 1048576)
    (hF : ∀ (args : Array Value) (w : World), (callFunc F args).run Try.prog w = .ok (.enter F args) w)
    (hcl : ∀ (x : Int) (w1 : World), x ∈ xs → Below w.heap.size w w1 → Calls Try.prog F (#[.int .i64 x] ++ caps) w1 fun e w2 => e = .returned (.bool (fb x)) ∧ Below w1.heap.size w1 w2) :
    Calls Try.prog 50 #[.slice A xs.length c, .func (.func F) #[] caps] w (OwnRes 2 1 encI (xs.filter fb) w) := by
  obtain ⟨i0, hi0, iz0, iz1, iz2⟩ := info_parts (P := Try.prog) (e := 2) (z := .int .i64 0) (size := 1) (bytes := 8) (by kernel_rfl)
  have HC := hid hcl
  clear hcl
  go_enter Try.func50, Try.ntmps50
  go_wp2
  go_loopw [5, 11] (fun v i wr => ∃ k : Nat, k ≤ xs.length ∧ i = .int .i64 k ∧ Below w.heap.size w wr ∧ wr.ownsRow w.heap.size 2 1 v ((xs.take k).filter fb).length (((xs.take k).filter fb).flatMap encI)) (fun _ i _ => xs.length - (intOf i).toNat)
  case atStart => exact ⟨0, Nat.zero_le _, rfl, (by repeat (first | assumption | exact Below.refl _ _ | apply Below.al | apply Below.drewN' | apply Below.drew | (apply Below.tr; assumption))), own_lit0 _ _ _ (Nat.le_refl _)⟩
  case round =>
    obtain ⟨k, hk, rfl, hb, hown⟩ := hrel
    by_cases hlt : k < xs.length
    · obtain ⟨p, hp⟩ := getx hlt
      obtain ⟨b, o, rfl, hbB, c0⟩ := (h.below hb (Nat.le_refl _)).at1 hp rfl
      have hsz := hb.size
      have H0 := hid hown
      have hl : ((xs.take k).filter fb).length ≤ k := Nat.le_trans (List.length_filter_le _ _) (by rw [List.length_take]; omega)
      have HC1 := HC.out p _ (List.mem_of_getElem? hp) hb
      have HP := hid hp
      clear hown hp
      cases h1 : fb p
      · have HE : Hid ((xs.take (k+1)).filter fb = (xs.take k).filter fb) := hid (by rw [List.take_add_one, HP.out, List.filter_append]; simp [h1])
        rw [h1] at HC1
        go_wp2_with fail
        refine HC1.mono ?_
        rintro e w1 ⟨rfl, hb1⟩
        have hb' := Below.tr hb1 hb
        have H1 := hid (own_below H0.out hb1 (Nat.le_refl _))
        clear HC1
        go_wp2
        go_roundw
        case rel => exact ⟨k + 1, by omega, by go_num, hb', by rw [HE.out]; exact H1.out⟩
        case measure => simp [intOf]; omega
      · have HE : Hid ((xs.take (k+1)).filter fb = (xs.take k).filter fb ++ [p]) := hid (by rw [List.take_add_one, HP.out, List.filter_append]; simp [h1])
        rw [h1] at HC1
        go_wp2_with fail
        refine HC1.mono ?_
        rintro e w1 ⟨rfl, hb1⟩
        have hb' := Below.tr hb1 hb
        have H1 := hid (own_below H0.out hb1 (Nat.le_refl _))
        have hz' := hb'.size
        clear HC1
        go_wp2_with (at_builtin; go_must (refine wpList_append_own _ rfl _ _ 35 rfl (w.heap.size) 2 i0 _ 1 8 Try.underlying35 hi0 iz0 iz1 iz2 rfl (by decide) _ _ _ rfl (H1.out.alloc _) ⟨(w1).heap.size, 0, none⟩ 1 1 [.int .i64 p] rfl rfl (news_at w1 [.int .i64 p] 2) (by simp [Value.oneCell']) (by unfold maxLen; omega) (by omega) (by first | omega | (simp; done) | (simp; omega)) ?_); intro v2 w2 own_w2 grow_w2 _)
        go_roundw
        case rel => exact ⟨k + 1, by omega, by go_num, Below.ap hb' hb'.size H1.out (Nat.le_refl _) grow_w2, by rw [HE.out]; simpa [encI] using own_w2⟩
        case measure => simp [intOf]; omega
    · obtain rfl : k = xs.length := by omega
      have H0 := hid hown
      obtain ⟨Ar, cr, rfl⟩ := own_shape hown
      clear hown
      go_wp2
      go_ret
      exact ⟨Ar, cr, by rw [List.take_length]; rfl, by have := H0.out; rwa [List.take_length] at this, hb⟩
theorem ends1_any (x : Ru) (w : World) :
    Calls Try.prog 42 #[.agg #[.string x.s, .int .i64 x.fa, .int .i64 x.ta, .int .i64 x.fp, .int .i64 x.tp, .int .i64 x.sh]] w fun e w' => e = .returned (.tuple #[.int .i64 x.fa, .int .i64 x.ta]) ∧ Below w.heap.size w w' := by
  go_enter Try.func42, Try.ntmps42
  go_wp2
  refine wp_region_ext (by kernel_rfl) (by kernel_rfl) ?_
  repeat (go_big_quiet_step ((first | fail)))
  refine wpQuiet_nil ?_
  intro w3 hb3
  obtain ⟨hc_w3, hf_w3⟩ := bcell hb3
  have hz_w3 := hb3.size
  go_wp2
  go_ret2
  exact ⟨rfl, (by repeat (first | assumption | exact Below.refl _ _ | apply Below.al | apply Below.drewN' | apply Below.drew | (apply Below.tr; assumption)))⟩
theorem ends2_any (x : Ru) (w : World) :
    Calls Try.prog 43 #[.agg #[.string x.s, .int .i64 x.fa, .int .i64 x.ta, .int .i64 x.fp, .int .i64 x.tp, .int .i64 x.sh]] w fun e w' => e = .returned (.tuple #[.int .i64 x.fp, .int .i64 x.tp]) ∧ Below w.heap.size w w' := by
  go_enter Try.func43, Try.ntmps43
  go_wp2
  refine wp_region_ext (by kernel_rfl) (by kernel_rfl) ?_
  repeat (go_big_quiet_step ((first | fail)))
  refine wpQuiet_nil ?_
  intro w3 hb3
  obtain ⟨hc_w3, hf_w3⟩ := bcell hb3
  have hz_w3 := hb3.size
  go_wp2
  go_ret2
  exact ⟨rfl, (by repeat (first | assumption | exact Below.refl _ _ | apply Below.al | apply Below.drewN' | apply Below.drew | (apply Below.tr; assumption)))⟩
theorem corn1_any (x most : Int) (b : Nat) (w : World) (hc : w.cell? ⟨b, 0, none⟩ = some (.int .i64 most)) :
    Calls Try.prog 51 #[.int .i64 x, .pointer (some ⟨b, 0, none⟩)] w fun e w' => e = .returned (.bool (decide (x ≤ most))) ∧ Below w.heap.size w w' := by
  go_enter Try.func51, Try.ntmps51
  go_wp2
  go_ret
  exact ⟨rfl, (by repeat (first | assumption | exact Below.refl _ _ | apply Below.al | apply Below.drewN' | apply Below.drew | (apply Below.tr; assumption)))⟩
theorem own_one18 (w : World) (e : TypeId) (n : Int) {lo g : Nat} (hg : g = w.heap.size) (hl : lo ≤ g) : (w.alloc (.cells #[.int .i64 n] e)).ownsRow lo e 1 (.slice (some ⟨g, 0, none⟩) 1 1) 1 [.int .i64 n] := by
  subst hg; exact World.ownsRow_lit w #[.int .i64 n] 1 hl (by decide) (by simp)
set_option maxRecDepth 20000 in
set_option maxHeartbeats 2000000 in
theorem corners_any (F : FuncId) (g1 g2 : Ru → Int) (most : Int) (A : Option Addr) (c : Nat) (xs : List Ru) (w : World) (h : Rd encRu 6 w w.heap.size A xs) (hn : xs.length ≤ 12) (hm : 0 ≤ most)
    (hg : ∀ x ∈ xs, 0 ≤ g1 x ∧ g1 x ≤ 1000000 ∧ 0 ≤ g2 x ∧ g2 x ≤ 1000000)
    (hF : ∀ (args : Array Value) (w : World), (callFunc F args).run Try.prog w = .ok (.enter F args) w)
    (hcl : ∀ (x : Ru) (w1 : World), Calls Try.prog F #[.agg #[.string x.s, .int .i64 x.fa, .int .i64 x.ta, .int .i64 x.fp, .int .i64 x.tp, .int .i64 x.sh]] w1 fun e w2 => e = .returned (.tuple #[.int .i64 (g1 x), .int .i64 (g2 x)]) ∧ Below w1.heap.size w1 w2) :
    Calls Try.prog 41 #[.slice A xs.length c, .int .i64 most, .func (.func F) #[] #[]] w fun e w' => ∃ L A5 c5, e = .returned (.slice A5 L.length c5) ∧ CorI g1 g2 most xs L ∧ Rd encI 1 w' w'.heap.size A5 L ∧ Below w.heap.size w w' := by
  obtain ⟨i0, hi0, iz0, iz1, iz2⟩ := info_parts (P := Try.prog) (e := 2) (z := .int .i64 0) (size := 1) (bytes := 8) (by kernel_rfl)
  have HC := hid hcl
  have HG := hid hg
  clear hcl hg
  go_enter Try.func41, Try.ntmps41
  go_wp2
  go_loopw [7, 15] (fun v i wr => ∃ (k : Nat) (L : List Int), k ≤ xs.length ∧ i = .int .i64 k ∧ L.length ≤ 1 + 2 * k ∧ Below w.heap.size w wr ∧ wr.cell? ⟨w.heap.size, 0, none⟩ = some (.int .i64 most) ∧ w.heap.size < wr.heap.size ∧ Hid (wr.ownsRow (w.heap.size + 1) 2 1 v L.length (L.flatMap encI)) ∧ Hid (∀ n, n ∈ L ↔ n = 0 ∨ ∃ x ∈ xs.take k, n = g1 x ∨ n = g2 x + 1)) (fun _ i _ => xs.length - (intOf i).toNat)
  case atStart => exact ⟨0, [0], Nat.zero_le _, rfl, by simp, (by repeat (first | assumption | exact Below.refl _ _ | apply Below.al | apply Below.drewN' | apply Below.drew | (apply Below.tr; assumption))), by simp [go_sem], by simp; omega, hid (own_one18 (w.alloc (.cells #[.int .i64 most] 2)) 2 0 (by simp) (Nat.le_refl _)), hid (by intro n; simp)⟩
  case round =>
    obtain ⟨k, L, hk, rfl, hl, hb, hc, hz, H0, HM⟩ := hrel
    by_cases hlt : k < xs.length
    · obtain ⟨p, hp⟩ := getx hlt
      obtain ⟨bb, o, rfl, hbB, x0, x1, x2, x3, x4, x5⟩ := (h.below hb (Nat.le_refl _)).at6 hp rfl
      obtain ⟨p1, p2, p3, p4⟩ := HG.out p (List.mem_of_getElem? hp)
      have b0 : bb < wr.heap.size := by omega
      have HP := hid hp
      clear hp
      go_wp2_with fail
      refine (HC.out p _).mono ?_
      rintro e w1 ⟨rfl, hb1⟩
      have hbX : Below wr.heap.size wr w1 := Below.tr hb1 (Below.al (Below.refl _ _) _)
      have hbY : Below w.heap.size w w1 := Below.tr hbX hb
      have H1 := hid (own_below H0.out hbX (Nat.le_refl _))
      have hc1 := ((bcell hbX).1 w.heap.size 0 hz).trans hc
      have zX := hbX.size
      have y1 : IntKind.i64.wrap (g2 p + 1) = g2 p + 1 := IntWalk.i64_in _ ⟨by omega, by omega⟩
      clear hbX hb1 hc x0 x1 x2 x3 x4 x5 H0
      go_wp2_with (at_builtin; go_must (refine wpList_append_own _ rfl _ _ 35 rfl (w.heap.size + 1) 2 i0 _ 1 8 Try.underlying35 hi0 iz0 iz1 iz2 rfl (by decide) _ _ _ rfl (H1.out.alloc _) ⟨w1.heap.size, 0, none⟩ 2 2 [.int .i64 (g1 p), .int .i64 (g2 p + 1)] rfl rfl (news_at w1 [.int .i64 (g1 p), .int .i64 (g2 p + 1)] 2) (by simp [Value.oneCell']) (by unfold maxLen; omega) (by omega) (by first | omega | (simp; done) | (simp; omega)) ?_); intro v2 w2 own_w2 grow_w2 _)
      have hc2 := grow_box grow_w2 (g := w.heap.size) (fun hx => by have := (H1.out.lt _ hx).1; omega) (by omega) hc1
      have hb2 := Below.ap hbY hbY.size H1.out (by omega) grow_w2
      have hz2 : w.heap.size < w2.heap.size := by have := grow_w2.size; simp at this; omega
      go_roundw
      case rel => exact ⟨k + 1, L ++ [g1 p, g2 p + 1], by omega, by go_num, by simp; omega, hb2, hc2, hz2, hid (by simpa [encI] using own_w2), hid (by
        intro n
        rw [List.take_add_one, HP.out, List.mem_append, HM.out n]
        simp only [Option.toList_some, List.mem_append, List.mem_cons, List.not_mem_nil, or_false, or_and_right, exists_or, exists_eq_left, or_assoc])⟩
      case measure => simp [intOf]; omega
    · obtain rfl : k = xs.length := by omega
      rw [List.take_length] at HM
      obtain ⟨A1, c1, rfl⟩ := own_shape H0.out
      have r0 := rd_of_own (enc := encI) (k := 1) (fun _ => rfl) H0.out
      go_wp2_with fail
      refine (chosen_any 51 #[.pointer (some ⟨w.heap.size, 0, none⟩)] (fun x => decide (x ≤ most)) A1 c1 L wr r0 (by omega) (callFunc_enter Try.func51 (by kernel_rfl) (by kernel_rfl)) ?_).mono ?_
      · intro x w4 hx hb4
        exact corn1_any x most w.heap.size w4 (((bcell hb4).1 _ _ hz).trans hc)
      · rintro e w4 ⟨A4, c4, rfl, own4, hb4⟩
        have hb4' := Below.tr hb4 hb
        have zz4 := hb4'.size
        have h0m : (0 : Int) ∈ L.filter fun x => decide (x ≤ most) := List.mem_filter.2 ⟨(HM.out 0).2 (.inl rfl), by simpa using hm⟩
        have hlf : 0 < (L.filter fun x => decide (x ≤ most)).length := List.length_pos_of_mem h0m
        have hle := List.length_filter_le (fun x => decide (x ≤ most)) L
        have HMF : Hid (∀ n, n ∈ (L.filter fun x => decide (x ≤ most)) ↔ n ∈ L ∧ decide (n ≤ most) = true) := hid fun n => List.mem_filter
        generalize (L.filter fun x => decide (x ≤ most)) = M at *
        have O4 := hid own4
        clear own4 h0m
        go_wp2_with fail
        refine (sortI_own w4 O4.out hlf (by omega)).mono ?_
        rintro e w5 ⟨rfl, own5, hb5⟩
        have hb5' : Below w.heap.size w w5 := hb4'.trans (hb5 _ (by omega) (by omega))
        have zz5 := hb5'.size
        have hls := hid (srt_len M).symm
        have hls1 : (srt M).length ≤ M.length := Nat.le_of_eq (srt_len M)
        have hls2 : M.length ≤ (srt M).length := Nat.le_of_eq (srt_len M).symm
        have so := srt_sorted M
        have sm := srt_mem M
        have O5 := hid own5
        clear own5 hb5
        generalize srt M = S at *
        go_wp2_with fail
        refine (compI_own w5 hls.out O5.out (by omega) (by omega)).mono ?_
        rintro e w6 ⟨rfl, rd6, hb6⟩
        have hb6' : Below w.heap.size w w6 := hb5'.trans (hb6 _ (by omega) (by omega))
        have cl := comp_len S
        obtain ⟨q1, q2⟩ := comp_rise so
        have R6 := hid rd6
        clear rd6
        go_wp2
        go_ret
        refine ⟨_, _, _, rfl, ⟨q1, by omega, fun n => ?_⟩, R6.out, hb6'⟩
        rw [q2, sm, HMF.out, HM.out]
        simp
set_option maxRecDepth 20000 in
set_option maxHeartbeats 2000000 in
theorem factsFor_any (A : Option Addr) (c : Nat) (xs : List Ru) (k : Int) (w : World) (h : Rd encRu 6 w w.heap.size A xs) (hr : ruL xs = true) :
    Calls Try.prog 26 #[.slice A xs.length c, .int .i64 k] w fun e w' => e = .returned (.tuple #[.agg #[.int .i64 (fdF (fndR xs k)).a, .int .i64 (fdF (fndR xs k)).p, .int .i64 (fdF (fndR xs k)).s], .bool (fndR xs k).isSome]) ∧ Below w.heap.size w w' := by
  have hn := ruL_len hr
  have hi := ruL_in hr
  have hb0 : Below w.heap.size w (w.alloc (.cells #[.int .i64 0, .int .i64 0, .int .i64 0] 25)) := (by repeat (first | assumption | exact Below.refl _ _ | apply Below.al | apply Below.drewN' | apply Below.drew | (apply Below.tr; assumption)))
  go_enter Try.func26, Try.ntmps26
  go_wp2_with fail
  refine (corners_any 42 (·.fa) (·.ta) 20000 A c xs _ ((h.below hb0 (Nat.le_refl _)).more hb0.size) hn (by omega) (fun x hx => by have := hi x hx; omega) (callFunc_enter Try.func42 (by kernel_rfl) (by kernel_rfl)) ends1_any).mono ?_
  rintro e w1 ⟨L1, A1, c1, rfl, C1, r1, hb1⟩
  have hb1' := Below.tr hb1 hb0
  have hz1 := hb1.size
  simp at hz1
  go_wp2_with fail
  refine (corners_any 43 (·.fp) (·.tp) 1000000 A c xs _ ((h.below hb1' (Nat.le_refl _)).more hb1'.size) hn (by omega) (fun x hx => by have := hi x hx; omega) (callFunc_enter Try.func43 (by kernel_rfl) (by kernel_rfl)) ends2_any).mono ?_
  rintro e w2 ⟨L2, A2, c2, rfl, C2, r2, hb2⟩
  have l1 := C1.2.1
  have l2 := C2.2.1
  have HF : Hid (fndR xs k = (allF L2 L1).find? (hitB xs k)) := hid (fnd_same k hr C1 C2).symm
  have R1 := hid ((r1.below hb2 (Nat.le_refl _)).more hb2.size)
  have R2 := hid r2
  have hbb : Below (World.heap (w.alloc (.cells #[.int .i64 0, .int .i64 0, .int .i64 0] 25))).size (w.alloc (.cells #[.int .i64 0, .int .i64 0, .int .i64 0] 25)) w2 := Below.tr hb2 hb1
  have hbw : Below w.heap.size w w2 := Below.tr hb2 hb1'
  have hsz := hb2.size
  have g0 : w.heap.size < w2.heap.size := by omega
  have e0 : w2.cell? ⟨w.heap.size, 0, none⟩ = some (.int .i64 0) := by rw [(bcell hbb).1 (w.heap.size) 0 (by simp <;> omega)]; simp [go_sem]
  have f0 : w2.frozen? ⟨w.heap.size, 0, none⟩ = false := by rw [(bcell hbb).2 (w.heap.size) 0 (by simp <;> omega)]; simp [go_sem]
  have e1 : w2.cell? ⟨w.heap.size, 1, none⟩ = some (.int .i64 0) := by rw [(bcell hbb).1 (w.heap.size) 1 (by simp <;> omega)]; simp [go_sem]
  have f1 : w2.frozen? ⟨w.heap.size, 1, none⟩ = false := by rw [(bcell hbb).2 (w.heap.size) 1 (by simp <;> omega)]; simp [go_sem]
  have e2 : w2.cell? ⟨w.heap.size, 2, none⟩ = some (.int .i64 0) := by rw [(bcell hbb).1 (w.heap.size) 2 (by simp <;> omega)]; simp [go_sem]
  have f2 : w2.frozen? ⟨w.heap.size, 2, none⟩ = false := by rw [(bcell hbb).2 (w.heap.size) 2 (by simp <;> omega)]; simp [go_sem]
  have h0 := hid ((h.below hbw (Nat.le_refl _)).more hbw.size)
  have hbw0 := hid hbw
  clear hbb hbw h hb0 hb1 hb1' hb2 C1 C2 r1 r2 hi
  obtain ⟨w0, rfl⟩ : ∃ w0, w0 = w2 := ⟨_, rfl⟩
  generalize hq : w.heap.size = q at *
  have HQ := hid hq
  clear hq
  go_wp2
  go_loopw [20] (fun i wr => ∃ a : Nat, a ≤ L1.length ∧ i = .int .i64 a ∧ Below w0.heap.size w0 wr ∧ Hid (fndR xs k = (allF L2 (L1.drop a)).find? (hitB xs k))) (fun i _ => L1.length - (intOf i).toNat)
  case atStart => exact ⟨0, Nat.zero_le _, rfl, Below.refl _ _, HF⟩
  case round =>
    obtain ⟨a, ha, rfl, hb, HA⟩ := hrel
    by_cases hlta : a < L1.length
    · obtain ⟨x, hx⟩ := getx hlta
      have HX : Hid (allF L2 (L1.drop a) = rowF x L2 ++ allF L2 (L1.drop (a+1))) := hid (by rw [dropx hx]; rfl)
      obtain ⟨ba, oa, rfl, hbBa, ca⟩ := (R1.out.below hb (Nat.le_refl _)).at1 hx rfl
      obtain ⟨w1, rfl⟩ : ∃ w1, w1 = wr := ⟨_, rfl⟩
      go_wp2
      go_loopw [26] (fun i wr => ∃ b : Nat, b ≤ L2.length ∧ i = .int .i64 b ∧ Below w0.heap.size w0 wr ∧ Hid (fndR xs k = (rowF x (L2.drop b) ++ allF L2 (L1.drop (a+1))).find? (hitB xs k))) (fun i _ => L2.length - (intOf i).toNat)
      case atStart => exact ⟨0, Nat.zero_le _, rfl, hb, hid (by rw [HA.out, HX.out]; rfl)⟩
      case round =>
        clear hb
        obtain ⟨b, hbl, rfl, hb, HB⟩ := hrel
        by_cases hltb : b < L2.length
        · obtain ⟨y, hy⟩ := getx hltb
          have HY : Hid (rowF x (L2.drop b) = shp x y ++ rowF x (L2.drop (b+1))) := hid (by rw [dropx hy]; rfl)
          obtain ⟨bp, op, rfl, hbBp, cp⟩ := (R2.out.below hb (Nat.le_refl _)).at1 hy rfl
          obtain ⟨w2, rfl⟩ : ∃ w2, w2 = wr := ⟨_, rfl⟩
          go_wp2
          go_loopw [12] (fun i wr => ∃ n : Nat, n ≤ 3 ∧ i = .int .i64 (1 + n) ∧ Below w0.heap.size w0 wr ∧ Hid (fndR xs k = ((shp x y).drop n ++ rowF x (L2.drop (b+1)) ++ allF L2 (L1.drop (a+1))).find? (hitB xs k))) (fun i _ => 5 - (intOf i).toNat)
          case atStart => exact ⟨0, Nat.zero_le _, rfl, hb, hid (by rw [HB.out, HY.out]; rfl)⟩
          case round =>
            clear hb
            obtain ⟨n, hn3, rfl, hb, HN⟩ := hrel
            by_cases hltn : n < 3
            · have HS : Hid ((shp x y).drop n = ⟨x, y, 1 + n⟩ :: (shp x y).drop (n+1)) := hid (by match n, hltn with | 0, _ => rfl | 1, _ => rfl | 2, _ => rfl)
              have hzr := hb.size
              have zq : q < wr.heap.size := by omega
              have hbW : Below w0.heap.size w0 (wr.alloc (.cells #[.int .i64 x, .int .i64 y, .int .i64 (1 + (n : Int))] 25)) := (by repeat (first | assumption | exact Below.refl _ _ | apply Below.al | apply Below.drewN' | apply Below.drew | (apply Below.tr; assumption)))
              have x0 : (wr.alloc (.cells #[.int .i64 x, .int .i64 y, .int .i64 (1 + (n : Int))] 25)).cell? ⟨wr.heap.size, 0, none⟩ = some (.int .i64 x) := by simp [go_sem]
              have x1 : (wr.alloc (.cells #[.int .i64 x, .int .i64 y, .int .i64 (1 + (n : Int))] 25)).cell? ⟨wr.heap.size, 1, none⟩ = some (.int .i64 y) := by simp [go_sem]
              have x2 : (wr.alloc (.cells #[.int .i64 x, .int .i64 y, .int .i64 (1 + (n : Int))] 25)).cell? ⟨wr.heap.size, 2, none⟩ = some (.int .i64 (1 + (n : Int))) := by simp [go_sem]
              have zW : wr.heap.size < (World.heap (wr.alloc (.cells #[.int .i64 x, .int .i64 y, .int .i64 (1 + (n : Int))] 25))).size := by simp
              have C2 : Calls Try.prog 44 #[.slice A xs.length c, .agg #[.int .i64 x, .int .i64 y, .int .i64 (1 + (n : Int))]] (wr.alloc (.cells #[.int .i64 x, .int .i64 y, .int .i64 (1 + (n : Int))] 25)) fun e w' => e = .returned (.int .i64 (idxF (fun r => mtB r ⟨x, y, 1 + (n : Int)⟩) 0 xs)) ∧ Below (World.heap (wr.alloc (.cells #[.int .i64 x, .int .i64 y, .int .i64 (1 + (n : Int))] 25))).size (wr.alloc (.cells #[.int .i64 x, .int .i64 y, .int .i64 (1 + (n : Int))] 25)) w' := first_any A c xs ⟨x, y, 1 + (n : Int)⟩ (wr.alloc (.cells #[.int .i64 x, .int .i64 y, .int .i64 (1 + (n : Int))] 25)) (((h0.out.below hbW (Nat.le_refl _)).more hbW.size)) (by omega)
              have HI : Hid (hitB xs k ⟨x, y, 1 + (n : Int)⟩ = ((idxF (fun r => mtB r ⟨x, y, 1 + (n : Int)⟩) 0 xs) == k)) := hid rfl
              generalize (idxF (fun r => mtB r ⟨x, y, 1 + (n : Int)⟩) 0 xs) = I at *
              by_cases hk : I = k
              · have hk1 : (I == k) = true := by simpa using hk
                have HE : Hid (fndR xs k = some ⟨x, y, 1 + (n : Int)⟩) := hid (by rw [HN.out, HS.out, List.cons_append, List.cons_append, List.find?_cons]; simp [HI.out, hk1])
                clear HI HN hk
                go_wp2_with (go_at_call 44; refine C2.mono ?_; rintro e w6 ⟨rfl, hb6⟩; have x6 := fun j => (bcell hb6).1 wr.heap.size j zW; have t0 := (x6 0).trans x0; have t1 := (x6 1).trans x1; have t2 := (x6 2).trans x2; have hbF := Below.tr hb6 hbW; have re0 := ((bcell hbF).1 q 0 g0).trans e0; have re1 := ((bcell hbF).1 q 1 g0).trans e1; have re2 := ((bcell hbF).1 q 2 g0).trans e2; have rf0 := ((bcell hbF).2 q 0 g0).trans f0; have rf1 := ((bcell hbF).2 q 1 g0).trans f1; have rf2 := ((bcell hbF).2 q 2 g0).trans f2; have zw6 := hbF.size)
                exact bodyPost_ret (v := .tuple #[.agg #[.int .i64 (fdF (fndR xs k)).a, .int .i64 (fdF (fndR xs k)).p, .int .i64 (fdF (fndR xs k)).s], .bool (fndR xs k).isSome]) (by rw [HE.out]; simp [fdF, results, Try.results26, go_sem, *]) rfl ⟨rfl, by rw [HQ.out]; have H6 := Below.trans hbw0.out (hbF.mono (by omega)); exact ((H6.setCell (by simp) _).setCell (by simp) _).setCell (by simp) _⟩
              · have hk1 : (I == k) = false := by simpa using hk
                go_wp2_with (go_at_call 44; refine C2.mono ?_; rintro e w6 ⟨rfl, hb6⟩; have x6 := fun j => (bcell hb6).1 wr.heap.size j zW; have t0 := (x6 0).trans x0; have t1 := (x6 1).trans x1; have t2 := (x6 2).trans x2; have hbF := Below.tr hb6 hbW; have re0 := ((bcell hbF).1 q 0 g0).trans e0; have re1 := ((bcell hbF).1 q 1 g0).trans e1; have re2 := ((bcell hbF).1 q 2 g0).trans e2; have rf0 := ((bcell hbF).2 q 0 g0).trans f0; have rf1 := ((bcell hbF).2 q 1 g0).trans f1; have rf2 := ((bcell hbF).2 q 2 g0).trans f2; have zw6 := hbF.size)
                go_roundw
                case rel => exact ⟨n + 1, by omega, by go_num, hbF, hid (by rw [HN.out, HS.out, List.cons_append, List.cons_append, List.find?_cons]; simp [HI.out, hk1])⟩
                case measure => simp [intOf]; omega
            · obtain rfl : n = 3 := by omega
              have HE : Hid (fndR xs k = (rowF x (L2.drop (b+1)) ++ allF L2 (L1.drop (a+1))).find? (hitB xs k)) := hid (by rw [HN.out]; rfl)
              clear hltn HN
              go_wp2
              go_roundw
              case rel => exact ⟨b + 1, by omega, by go_num, hb, HE⟩
              case measure => simp [intOf]; omega
        · obtain rfl : b = L2.length := by omega
          have HE : Hid (fndR xs k = (allF L2 (L1.drop (a+1))).find? (hitB xs k)) := hid (by rw [HB.out, List.drop_length]; rfl)
          clear hltb HB
          go_wp2
          go_roundw
          case rel => exact ⟨a + 1, by omega, by go_num, hb, HE⟩
          case measure => simp [intOf]; omega
    · obtain rfl : a = L1.length := by omega
      have HE : Hid (fndR xs k = none) := hid (by rw [HA.out, List.drop_length]; rfl)
      have zq : q < wr.heap.size := by have := hb.size; omega
      have re0 := ((bcell hb).1 q 0 g0).trans e0
      have rf0 := ((bcell hb).2 q 0 g0).trans f0
      have re1 := ((bcell hb).1 q 1 g0).trans e1
      have rf1 := ((bcell hb).2 q 1 g0).trans f1
      have re2 := ((bcell hb).1 q 2 g0).trans e2
      have rf2 := ((bcell hb).2 q 2 g0).trans f2
      go_wp2
      exact bodyPost_ret (v := .tuple #[.agg #[.int .i64 (fdF (fndR xs k)).a, .int .i64 (fdF (fndR xs k)).p, .int .i64 (fdF (fndR xs k)).s], .bool (fndR xs k).isSome]) (by rw [HE.out]; simp [fdF, results, Try.results26, go_sem, *]) rfl ⟨rfl, by rw [HQ.out]; have H6 := Below.trans hbw0.out (hb.mono (by omega)); exact ((H6.setCell (by simp) _).setCell (by simp) _).setCell (by simp) _⟩
end Go.Proofs.Ytbjanedofdcgdaa
