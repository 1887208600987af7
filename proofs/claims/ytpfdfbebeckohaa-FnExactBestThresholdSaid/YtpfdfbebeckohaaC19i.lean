/- Contracts of the lists of alerts, in the program. (Not done: it holds a gap.) -/
import Derived.Test.YtpfdfbebeckohaaC19l
import Derived.StillTailTactics
namespace Go.Proofs.Ytpfdfbebeckohaa
open Go.RowKit
set_option linter.unusedVariables false
theorem lesser_any (a m : Int) (w : World) :
    Calls Try.prog 102 #[.int .i64 a, .int .i64 m] w fun e w' => e = .returned (.int .i64 (wl a m)) ∧ w = w' := by
  go_enter Try.func102, Try.ntmps102
  go_wp2
  all_goals (go_ret; exact ⟨ret_int (by unfold wl; (repeat' split) <;> omega), rfl⟩)
theorem greater_any (a m : Int) (w : World) :
    Calls Try.prog 83 #[.int .i64 a, .int .i64 m] w fun e w' => e = .returned (.int .i64 (wg a m)) ∧ w = w' := by
  go_enter Try.func83, Try.ntmps83
  go_wp2
  all_goals (go_ret; exact ⟨ret_int (by unfold wg; (repeat' split) <;> omega), rfl⟩)
set_option maxRecDepth 20000 in
set_option maxHeartbeats 6000000 in
theorem alerts_any (Fw : FuncId) (wo : Int → Int → Int) (A : Option Addr) (c : Nat) (xs : List Pt) (A2 : Option Addr) (c2 : Nat) (ss : List Bool) (w : World) (h : Rd encPt 2 w w.heap.size A xs) (hn : xs.length ≤ 1048576) (hs : Rd encBo 1 w w.heap.size A2 ss) (hl : ss.length = xs.length)
    (V : Hid (∀ (k : Nat) (p : Pt), xs[k]? = some p → 0 ≤ p.t ∧ p.t ≤ 10000000 ∧ -2000 ≤ p.m ∧ p.m ≤ 20000))
    (hF : ∀ (args : Array Value) (w : World), (callFunc Fw args).run Try.prog w = .ok (.enter Fw args) w)
    (hcw : ∀ (a m : Int) (w1 : World), Calls Try.prog Fw #[.int .i64 a, .int .i64 m] w1 fun e w2 => e = .returned (.int .i64 (wo a m)) ∧ w1 = w2) (hwo : ∀ m, wo m m = m) (hw2 : ∀ a m, wo a m = a ∨ wo a m = m) :
    Calls Try.prog 82 #[.slice A xs.length c, .slice A2 ss.length c2, .func (.func Fw) #[] #[]] w (OwnRes 78 3 encAl (alRun wo [] none xs ss) w) := by
  have HL := hid hl
  have HW := hid hcw
  have HM := hid hwo
  have HB := hid hw2
  clear hl hcw hwo hw2
  obtain ⟨i0, hi0, iz0, iz1, iz2⟩ := info_parts (P := Try.prog) (e := 78) (z := .agg #[.int .i64 0, .int .i64 0, .int .i64 0]) (size := 3) (bytes := 24) (by kernel_rfl)
  go_enter Try.func82, Try.ntmps82
  go_wp2
  go_loopw [7, 8] (fun v i wr => ∃ (k : Nat) (done : List Al), k ≤ xs.length + 1 ∧ i = .int .i64 k ∧ Below w.heap.size w wr ∧ wr.ownsRow w.heap.size 78 3 v done.length (done.flatMap encAl) ∧ done.length ≤ k ∧
      Hid (alRun wo [] none xs ss = alRun wo done none (xs.drop k) (ss.drop k))) (fun _ i _ => xs.length - (intOf i).toNat)
  case atStart => exact ⟨0, [], Nat.zero_le _, rfl, (by repeat (first | assumption | exact Below.refl _ _ | apply Below.al | apply Below.drewN' | apply Below.drew | (apply Below.tr; assumption))), own_lit0 _ _ _ (Nat.le_refl _), Nat.zero_le _, hid rfl⟩
  case round =>
    obtain ⟨k, done, hk, rfl, hb, hown, hlen, H⟩ := hrel
    obtain ⟨Ar, cr, rfl⟩ := own_shape hown
    by_cases hlt : k < xs.length
    · obtain ⟨p, hp⟩ := getx hlt
      obtain ⟨b, o, rfl, hbB, c0, c1⟩ := (h.below hb (Nat.le_refl _)).at2 hp rfl
      have hsz := hb.size
      obtain ⟨p1, p2, p3, p4⟩ := V.out k p hp
      obtain ⟨s, hsk⟩ : ∃ s, ss[k]? = some s := getx (by have := HL.out; omega)
      obtain ⟨b', o', rfl, hbB', e0⟩ := (hs.below hb (Nat.le_refl _)).at1 hsk rfl
      have b0 : b < wr.heap.size := by omega
      have b1 : b' < wr.heap.size := by omega
      have ky : k < ss.length := by have := HL.out; omega
      have HS : Hid (alRun wo done none (xs.drop k) (ss.drop k) = alRun wo (alStep wo done none p s).1 (alStep wo done none p s).2 (xs.drop (k+1)) (ss.drop (k+1))) := by rw [dropx hp, dropx hsk]; rfl
      have H0 := hid hown
      have HK := hid hsk
      have HP := hid hp
      clear hown hp hsk
      cases s
      · go_wp2
        go_roundw
        case rel => exact ⟨k + 1, done, by omega, by go_num, hb, H0.out, by omega, hid (by rw [H.out, HS.out]; rfl)⟩
        case measure => simp [intOf]; omega
      · obtain ⟨w0, rfl⟩ : ∃ w0, w0 = wr := ⟨_, rfl⟩
        go_wp2
        go_region_held3 (fun w' => w'.cell? ⟨b, o + k * 2, none⟩ = some (.int .i64 p.t) ∧ w'.cell? ⟨b, o + k * 2 + 1, none⟩ = some (.int .i64 p.m)) (go_keep) (fail)
        go_wp2
        go_loopw [8] (fun i wr => ∃ (j : Nat) (pk : Int), k ≤ j ∧ j ≤ xs.length ∧ i = .int .i64 j ∧ Below w0.heap.size w0 wr ∧ w0.heap.size < wr.heap.size ∧ wr.cell? ⟨w0.heap.size, 0, none⟩ = some (.int .i64 p.t) ∧ wr.cell? ⟨w0.heap.size, 1, none⟩ = some (.int .i64 (-1)) ∧ wr.cell? ⟨w0.heap.size, 2, none⟩ = some (.int .i64 pk) ∧
            wr.frozen? ⟨w0.heap.size, 1, none⟩ = false ∧ wr.frozen? ⟨w0.heap.size, 2, none⟩ = false ∧ -2000 ≤ pk ∧ pk ≤ 20000 ∧ Hid ((j = k ∧ pk = p.m) ∨ (k < j ∧ alRun wo [] none xs ss = alRun wo done (some ⟨p.t, -1, pk⟩) (xs.drop j) (ss.drop j)))) (fun i _ => xs.length - (intOf i).toNat)
        case atStart => exact ⟨k, p.m, Nat.le_refl _, by omega, rfl, (by repeat (first | assumption | exact Below.refl _ _ | apply Below.al | apply Below.drewN' | apply Below.drew | (apply Below.tr; assumption))), by simp, by simp [go_sem], by simp [go_sem], by simp [go_sem], by simp [go_sem], by simp [go_sem], p3, p4, hid (.inl ⟨rfl, rfl⟩)⟩
        case round =>
          obtain ⟨j, pk, hkj, hj, rfl, hb2, hz2, x0, x1, x2, f1, f2, q1, q2, HI⟩ := hrel
          have hbw : Below w.heap.size w wr := Below.tr hb2 hb
          by_cases hlj : j < xs.length
          · obtain ⟨q, hq⟩ := getx hlj
            obtain ⟨_, _, e1, _, c2', c3'⟩ := (h.below hbw (Nat.le_refl _)).at2 hq rfl
            simp at e1; obtain ⟨rfl, rfl⟩ := e1
            obtain ⟨r1, r2, r3, r4⟩ := V.out j q hq
            obtain ⟨s', hsj⟩ : ∃ s', ss[j]? = some s' := getx (by have := HL.out; omega)
            obtain ⟨_, _, e1, _, e3⟩ := (hs.below hbw (Nat.le_refl _)).at1 hsj rfl
            simp at e1; obtain ⟨rfl, rfl⟩ := e1
            have b2 : b < wr.heap.size := by omega
            have b3 : b' < wr.heap.size := by omega
            have nb : ¬ b = w0.heap.size := by omega
            have nb' : ¬ w0.heap.size = b := by omega
            have kj : j < ss.length := by have := HL.out; omega
            have HJ : Hid (∀ cur, alRun wo done cur (xs.drop j) (ss.drop j) = alRun wo (alStep wo done cur q s').1 (alStep wo done cur q s').2 (xs.drop (j+1)) (ss.drop (j+1))) := fun cur => by rw [dropx hq, dropx hsj]; rfl
            have HJS := hid hsj
            have HJQ := hid hq
            clear hq hsj
            cases s'
            · have HN : alRun wo [] none xs ss = alRun wo (done ++ [⟨p.t, q.t, pk⟩]) none (xs.drop (j+1)) (ss.drop (j+1)) := by
                rcases HI.out with ⟨ej, rfl⟩ | ⟨_, hi⟩
                · subst ej
                  have hq9 := HJS.out
                  rw [HK.out] at hq9
                  cases hq9
                · rw [hi, HJ.out]; rfl
              have HN := hid HN
              have hbS : Below w0.heap.size w0 (wr.setCell ⟨w0.heap.size, 1, none⟩ (.int .i64 q.t)) := (by repeat (first | assumption | exact Below.refl _ _ | apply Below.al | apply Below.drewN' | apply Below.drew | (refine Below.sc ?_ (by first | omega | (simp; done) | (simp; omega)) _) | (apply Below.tr; assumption)))
              have H4 := hid (own_below H0.out hbS (Nat.le_refl _))
              have hbW := Below.tr hbS hb
              have hz9 := hbW.size
              go_wp2_with (at_builtin; go_must (refine wpList_append_own _ rfl _ _ 26 rfl (w.heap.size) 78 i0 _ 3 24 Try.underlying26 hi0 iz0 iz1 iz2 rfl (by decide) _ _ _ rfl (H4.out.alloc _) ⟨wr.heap.size, 0, none⟩ 1 1 [.int .i64 p.t, .int .i64 q.t, .int .i64 pk] rfl rfl (by have hh := news_at (wr.setCell ⟨w0.heap.size, 1, none⟩ (.int .i64 q.t)) [.int .i64 p.t, .int .i64 q.t, .int .i64 pk] 78; simp only [World.size_setCell] at hh; exact hh) (by simp [Value.oneCell']) (by unfold maxLen; omega) (by omega) (by first | omega | (simp; done) | (simp; omega)) ?_); intro v2 w4 own_w4 grow_w4 _)
              go_roundw
              case rel => exact ⟨j + 1, done ++ [⟨p.t, q.t, pk⟩], by omega, by go_num, Below.ap hbW hbW.size H4.out (Nat.le_refl _) grow_w4, by simpa [encAl] using own_w4, by simp; omega, HN⟩
              case measure => simp [intOf]; omega
            · have HN : alRun wo [] none xs ss = alRun wo done (some ⟨p.t, -1, wo pk q.m⟩) (xs.drop (j+1)) (ss.drop (j+1)) := by
                rcases HI.out with ⟨ej, rfl⟩ | ⟨_, hi⟩
                · subst ej
                  have hq9 := HJQ.out
                  rw [HP.out] at hq9
                  cases hq9
                  rw [H.out, HS.out, HM.out]; rfl
                · rw [hi, HJ.out]; rfl
              have HN := hid HN
              go_wp2
              refine wp_region_still_tail 10 (by kernel_rfl) (by kernel_rfl) ?_
              simp only [List.take_succ_cons, List.take_zero, List.drop_succ_cons, List.drop_zero]
              repeat still_step
              still_call ((HW.out pk q.m _).mono fun e w2 h => ⟨h.1, h.2.symm⟩)
              repeat still_step
              refine wpStill_nil ?_
              change wpList _ _ _ _ _ wr.drew
              go_wp2
              go_roundw
              case rel => exact ⟨j + 1, wo pk q.m, by omega, by omega, by go_num, (by repeat (first | assumption | exact Below.refl _ _ | apply Below.al | apply Below.drewN' | apply Below.drew | (refine Below.sc ?_ (by first | omega | (simp; done) | (simp; omega)) _) | (apply Below.tr; assumption))), by simp; omega, by simp [go_sem, x0], by simp [go_sem, x1], by simp [go_sem, x2, f2], by simp [go_sem, f1], by simp [go_sem, f2], by (rcases HB.out pk q.m with hx | hx <;> rw [hx] <;> assumption), by (rcases HB.out pk q.m with hx | hx <;> rw [hx] <;> assumption), hid (.inr ⟨by omega, HN.out⟩)⟩
              case measure => simp [intOf]; omega
          · have HN : alRun wo [] none xs ss = done ++ [⟨p.t, -1, pk⟩] := by
              rcases HI.out with ⟨ej, rfl⟩ | ⟨_, hi⟩
              · omega
              · rw [hi, List.drop_eq_nil_of_le (by omega)]; simp [alRun]
            have HN := hid HN
            have H4 := hid (own_below H0.out hb2 (Nat.le_refl _))
            have hz9 := hbw.size
            go_wp2_with (at_builtin; go_must (refine wpList_append_own _ rfl _ _ 26 rfl (w.heap.size) 78 i0 _ 3 24 Try.underlying26 hi0 iz0 iz1 iz2 rfl (by decide) _ _ _ rfl (H4.out.alloc _) ⟨(wr).heap.size, 0, none⟩ 1 1 [.int .i64 p.t, .int .i64 (-1), .int .i64 pk] rfl rfl (news_at wr [.int .i64 p.t, .int .i64 (-1), .int .i64 pk] 78) (by simp [Value.oneCell']) (by unfold maxLen; omega) (by omega) (by first | omega | (simp; done) | (simp; omega)) ?_); intro v2 w4 own_w4 grow_w4 _)
            go_roundw
            case rel => exact ⟨j + 1, done ++ [⟨p.t, -1, pk⟩], by omega, by go_num, Below.ap hbw hbw.size H4.out (Nat.le_refl _) grow_w4, by simpa [encAl] using own_w4, by simp; omega, hid (by rw [HN.out, List.drop_eq_nil_of_le (by omega)]; simp [alRun])⟩
            case measure => simp [intOf]; omega
    · have HE : Hid (alRun wo [] none xs ss = done) := hid (by rw [H.out, List.drop_eq_nil_of_le (by omega)]; simp [alRun])
      have H0 := hid hown
      clear hown
      go_wp2
      go_ret
      exact ⟨Ar, cr, by rw [HE.out]; simp, by rw [HE.out]; exact H0.out, hb⟩
end Go.Proofs.Ytpfdfbebeckohaa
