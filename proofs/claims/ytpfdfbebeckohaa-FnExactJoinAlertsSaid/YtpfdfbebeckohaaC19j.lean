/- Contracts of JoinAlerts, in the program and in the reference. -/
import Derived.Test.YtpfdfbebeckohaaC19b
import Derived.Test.YtpfdfbebeckohaaCGrow
import Derived.StillTailTactics
import Derived.BigRegion
namespace Go.Proofs.Ytpfdfbebeckohaa
open Go.RowKit
set_option linter.unusedVariables false
def mnI (a b : Int) : Int := if a < b then a else b
theorem mnI_lo {a b : Int} (h1 : -2000 ≤ a) (h2 : -2000 ≤ b) : -2000 ≤ mnI a b := by unfold mnI; split <;> assumption
theorem mnI_hi {a b : Int} (h1 : a ≤ 20000) : mnI a b ≤ 20000 := by unfold mnI; split <;> omega
def jaStep (ap : Int) (done : List Al) (cur : Option Al) (a : Al) : List Al × Option Al :=
  match cur with
  | none => (done, some a)
  | some q => if a.b - q.e ≤ ap then (done, some ⟨q.b, a.e, mnI q.p a.p⟩) else (done ++ [q], some a)
def jaRun (ap : Int) (done : List Al) (cur : Option Al) : List Al → List Al
  | [] => done ++ cur.toList
  | a :: r => jaRun ap (jaStep ap done cur a).1 (jaStep ap done cur a).2 r
theorem jaStep_len (ap : Int) (done : List Al) (cur : Option Al) (a : Al) : (jaStep ap done cur a).1.length + (jaStep ap done cur a).2.toList.length ≤ done.length + cur.toList.length + 1 := by
  cases cur with
  | none => simp [jaStep]
  | some q => simp only [jaStep]; split <;> simp
theorem jaRun_len (ap : Int) : ∀ (xs : List Al) (done : List Al) (cur : Option Al), (jaRun ap done cur xs).length ≤ done.length + cur.toList.length + xs.length
  | [], done, cur => by simp [jaRun]
  | a :: r, done, cur => by
    have h1 := jaRun_len ap r (jaStep ap done cur a).1 (jaStep ap done cur a).2
    have h2 := jaStep_len ap done cur a
    simp only [jaRun, List.length_cons]
    omega
def jaC (xs : List Al) (ap : Int) : Int := if alB xs = true then (if inB ap 0 10000000 = true then 0 else 2) else 1
def jaV (xs : List Al) (ap : Int) : List Al := if jaC xs ap = 0 then jaRun ap [] none xs else []
theorem jaV_len (xs : List Al) (ap : Int) : (jaV xs ap).length ≤ xs.length := by
  unfold jaV
  split
  · have := jaRun_len ap xs [] none; simpa using this
  · simp
theorem own_setEP {W : World} {lo g cap n : Nat} {e : TypeId} {size : Nat} {X : List Value} {z0 z1 z2 : Value} {j : Nat} (h : W.ownsRow lo e size (.slice (some ⟨g, 0, none⟩) n cap) n (X ++ [z0, z1, z2])) (hj : j = X.length) (u1 u2 : Value) :
    ((W.setCell ⟨g, j + 1, none⟩ u1).setCell ⟨g, j + 2, none⟩ u2).ownsRow lo e size (.slice (some ⟨g, 0, none⟩) n cap) n (X ++ [z0, u1, u2]) := by
  have h1 := own_set (X := X ++ [z0]) (z := z1) (R := [z2]) (by simpa using h) (j := j + 1) (by simp [hj]) u1
  have h2 := own_set (X := X ++ [z0, u1]) (z := z2) (R := []) (by simpa using h1) (j := j + 2) (by simp [hj]) u2
  simpa using h2
theorem l00Min_any (a b : Int) (w : World) :
    Calls Try.prog 71 #[.int .i64 a, .int .i64 b] w fun e w' => e = .returned (.int .i64 (mnI a b)) ∧ w = w' := by
  go_enter Try.func71, Try.ntmps71
  go_wp2
  all_goals (go_ret; exact ⟨ret_int (by simp [mnI, *] <;> omega), rfl⟩)
set_option maxRecDepth 20000 in
set_option maxHeartbeats 6000000 in
theorem specJoinAlerts_any (A : Option Addr) (c : Nat) (xs : List Al) (ap : Int) (w : World) (h : Rd encAl 3 w w.heap.size A xs) (hn : xs.length ≤ 1048576) :
    Calls Try.prog 30 #[.slice A xs.length c, .int .i64 ap] w (OwnTup 78 3 encAl (jaV xs ap) (jaC xs ap) w) := by
  cases hv : alB xs
  · have HC : Hid (jaC xs ap = 1) := by simp [Hid, jaC, hv]
    have HV : Hid (jaV xs ap = []) := by simp [Hid, jaV, HC.out]
    go_enter Try.func30, Try.ntmps30
    go_wp2_with (first | (go_at_call 58; refine (l19List_any A c xs _ h hn).mono ?_; rintro e w1 ⟨rfl, hb1⟩; obtain ⟨hc_w1, hf_w1⟩ := bcell hb1; have hz_w1 := hb1.size; (try simp at hz_w1); (try have g_w1 : w.heap.size < w1.heap.size := (by omega))) | (go_at_call 64; refine (l00In_any _ _ _ _).mono ?_; rintro e w' ⟨rfl, rfl⟩))
    go_ret2
    exact ⟨none, 0, by rw [HV.out, HC.out]; rfl, by rw [HV.out]; exact World.ownsRow_nil _ _ _ _, (by repeat (first | assumption | exact Below.refl _ _ | apply Below.al | apply Below.drewN' | apply Below.drew | (apply Below.tr; assumption)))⟩
  cases h1 : inB ap 0 10000000
  · have HC : Hid (jaC xs ap = 2) := by simp [Hid, jaC, hv, h1]
    have HV : Hid (jaV xs ap = []) := by simp [Hid, jaV, HC.out]
    go_enter Try.func30, Try.ntmps30
    go_wp2_with (first | (go_at_call 58; refine (l19List_any A c xs _ h hn).mono ?_; rintro e w1 ⟨rfl, hb1⟩; obtain ⟨hc_w1, hf_w1⟩ := bcell hb1; have hz_w1 := hb1.size; (try simp at hz_w1); (try have g_w1 : w.heap.size < w1.heap.size := (by omega))) | (go_at_call 64; refine (l00In_any _ _ _ _).mono ?_; rintro e w' ⟨rfl, rfl⟩))
    go_ret2
    exact ⟨none, 0, by rw [HV.out, HC.out]; rfl, by rw [HV.out]; exact World.ownsRow_nil _ _ _ _, (by repeat (first | assumption | exact Below.refl _ _ | apply Below.al | apply Below.drewN' | apply Below.drew | (apply Below.tr; assumption)))⟩
  have HC : Hid (jaC xs ap = 0) := by simp [Hid, jaC, hv, h1]
  have HV : Hid (jaV xs ap = jaRun ap [] none xs) := by simp [Hid, jaV, HC.out]
  have V := hid (alB_at hv)
  obtain ⟨ap1, ap2⟩ := inB_true.1 h1
  obtain ⟨i0, hi0, iz0, iz1, iz2⟩ := info_parts (P := Try.prog) (e := 78) (z := .agg #[.int .i64 0, .int .i64 0, .int .i64 0]) (size := 3) (bytes := 24) (by kernel_rfl)
  go_enter Try.func30, Try.ntmps30
  go_wp2_with (first | (go_at_call 58; refine (l19List_any A c xs _ h hn).mono ?_; rintro e w1 ⟨rfl, hb1⟩; obtain ⟨hc_w1, hf_w1⟩ := bcell hb1; have hz_w1 := hb1.size; (try simp at hz_w1); (try have g_w1 : w.heap.size < w1.heap.size := (by omega))) | (go_at_call 64; refine (l00In_any _ _ _ _).mono ?_; rintro e w' ⟨rfl, rfl⟩))
  clear hv h1
  go_loopw [6, 7] (fun v i wr => ∃ (k m : Nat) (done : List Al) (cur : Option Al), k ≤ xs.length ∧ i = .int .i64 k ∧ m = (done ++ cur.toList).length ∧ Below w.heap.size w wr ∧ wr.ownsRow w.heap.size 78 3 v m ((done ++ cur.toList).flatMap encAl) ∧ m ≤ k ∧
      Hid (jaRun ap [] none xs = jaRun ap done cur (xs.drop k)) ∧ (∀ a, cur = some a → 0 ≤ a.b ∧ a.b ≤ 10000000 ∧ -1 ≤ a.e ∧ a.e ≤ 10000000 ∧ -2000 ≤ a.p ∧ a.p ≤ 20000) ∧ Hid (cur = none → done = [])) (fun _ i _ => xs.length - (intOf i).toNat)
  case atStart => exact ⟨0, 0, [], none, Nat.zero_le _, rfl, rfl, (by repeat (first | assumption | exact Below.refl _ _ | apply Below.al | apply Below.drewN' | apply Below.drew | (apply Below.tr; assumption))), own_lit0 _ _ _ hb1.size, Nat.zero_le _, hid rfl, (fun a ha => by cases ha), hid (fun _ => rfl)⟩
  case round =>
    obtain ⟨k, m, done, cur, hk, rfl, hm, hb, hown, hlen, H, hcur, hnn⟩ := hrel
    obtain ⟨Ar, cr, rfl⟩ := own_shape hown
    by_cases hlt : k < xs.length
    · obtain ⟨p, hp⟩ := getx hlt
      obtain ⟨b, o, rfl, hbB, c0, c1, c2⟩ := (h.below hb (Nat.le_refl _)).at3 hp rfl
      have hsz := hb.size
      obtain ⟨p1, p2, p3, p4, p5, p6⟩ := V.out k p hp
      have b0 : b < wr.heap.size := by omega
      have HS : Hid (jaRun ap done cur (xs.drop k) = jaRun ap (jaStep ap done cur p).1 (jaStep ap done cur p).2 (xs.drop (k+1))) := by rw [dropx hp]; rfl
      clear hp
      cases cur with
      | none =>
        obtain rfl : m = done.length := by simpa using hm
        have H0 : Hid (wr.ownsRow w.heap.size 78 3 (.slice Ar done.length cr) done.length (done.flatMap encAl)) := hid (by simpa using hown)
        obtain rfl : done = [] := hnn.out rfl
        clear hm hown hcur hnn
        go_wp2
        refine wp_region_ext (by kernel_rfl) (by kernel_rfl) ?_
        repeat (go_big_quiet_step ((first | fail)))
        refine wpQuiet_nil ?_
        intro w3 hb3
        obtain ⟨hc_w3, hf_w3⟩ := bcell hb3
        have hz_w3 := hb3.size
        have hbX : Below w.heap.size w w3 := (by repeat (first | assumption | exact Below.refl _ _ | apply Below.al | apply Below.drewN' | apply Below.drew | (apply Below.tr; assumption)))
        have hzX := hbX.size
        have HX := hid (own_below H0.out hb3 (Nat.le_refl _))
        have b3 : b < w3.heap.size := by omega
        go_wp2_with (at_builtin; go_must (refine wpList_append_own _ rfl _ _ 26 rfl (w.heap.size) 78 i0 _ 3 24 Try.underlying26 hi0 iz0 iz1 iz2 rfl (by decide) _ _ _ rfl (HX.out.alloc _) ⟨(w3).heap.size, 0, none⟩ 1 1 [.int .i64 p.b, .int .i64 p.e, .int .i64 p.p] rfl rfl (news_at w3 [.int .i64 p.b, .int .i64 p.e, .int .i64 p.p] 78) (by simp [Value.oneCell']) (by unfold maxLen; omega) (by omega) (by first | omega | (simp; done) | (simp; omega)) ?_); intro v2 w4 own_w4 grow_w4 _)
        go_roundw
        case rel => exact ⟨k + 1, ([] : List Al).length + 1, ([] : List Al), some p, by omega, by go_num, by simp, Below.ap hbX hbX.size HX.out (Nat.le_refl _) grow_w4, by simpa [encAl] using own_w4, (by first | omega | (simp; omega) | simp), hid (by rw [H.out, HS.out]; rfl), (fun z hz => by cases hz; exact ⟨p1, p2, p3, p4, p5, p6⟩), hid (fun hz => by cases hz)⟩
        case measure => simp [intOf]; omega
      | some a =>
        obtain ⟨a1, a2, a3, a4, a5, a6⟩ := hcur a rfl
        obtain rfl : m = done.length + 1 := by simpa using hm
        have H0 : Hid (wr.ownsRow w.heap.size 78 3 (.slice Ar (done.length + 1) cr) (done.length + 1) (done.flatMap encAl ++ [.int .i64 a.b, .int .i64 a.e, .int .i64 a.p])) := hid (by simpa [encAl] using hown)
        have hown1 := H0.out
        clear hm hnn
        obtain ⟨g, rfl, hlo, hgw⟩ := own_form hown1 (by omega)
        have hfl : (done.flatMap encAl).length = done.length * 3 := flat_len (k := 3) (fun _ => rfl) done
        have x0 : wr.cell? ⟨g, done.length * 3, none⟩ = some (.int .i64 a.b) := by have := hown1.cellAt (done.length * 3) (by omega); rw [List.getElem?_append_right (by omega)] at this; simpa [hfl] using this
        have x1 : wr.cell? ⟨g, done.length * 3 + 1, none⟩ = some (.int .i64 a.e) := by have := hown1.cellAt (done.length * 3 + 1) (by omega); rw [List.getElem?_append_right (by omega)] at this; simpa [hfl] using this
        have x2 : wr.cell? ⟨g, done.length * 3 + 2, none⟩ = some (.int .i64 a.p) := by have := hown1.cellAt (done.length * 3 + 2) (by omega); rw [List.getElem?_append_right (by omega)] at this; simpa [hfl] using this
        have y0 : wr.frozen? ⟨g, done.length * 3, none⟩ = false := hown1.frozenAt _
        have y1 : wr.frozen? ⟨g, done.length * 3 + 1, none⟩ = false := hown1.frozenAt _
        have y2 : wr.frozen? ⟨g, done.length * 3 + 2, none⟩ = false := hown1.frozenAt _
        clear hown hown1 hcur hfl
        by_cases hj : p.b - a.e ≤ ap
        · have hj' : decide (p.b - a.e ≤ ap) = true := by simpa using hj
          have HG : Hid (jaRun ap (jaStep ap done (some a) p).1 (jaStep ap done (some a) p).2 (xs.drop (k+1)) = jaRun ap done (some ⟨a.b, p.e, mnI a.p p.p⟩) (xs.drop (k+1))) := by unfold Hid; simp only [jaStep]; rw [if_pos hj]
          go_wp2
          refine wp_region_ext (by kernel_rfl) (by kernel_rfl) ?_
          repeat (go_big_quiet_step ((first | fail)))
          refine wpQuiet_nil ?_
          intro w3 hb3
          obtain ⟨hc_w3, hf_w3⟩ := bcell hb3
          have hz_w3 := hb3.size
          have hbX : Below w.heap.size w w3 := (by repeat (first | assumption | exact Below.refl _ _ | apply Below.al | apply Below.drewN' | apply Below.drew | (apply Below.tr; assumption)))
          have hzX := hbX.size
          have HX := hid (own_below H0.out hb3 (Nat.le_refl _))
          have b3 : b < w3.heap.size := by omega
          have gX : g < w3.heap.size := by omega
          have r0 : w3.cell? ⟨g, done.length * 3, none⟩ = some (.int .i64 a.b) := ((bcell hb3).1 g _ hgw).trans x0
          have r1 : w3.cell? ⟨g, done.length * 3 + 1, none⟩ = some (.int .i64 a.e) := ((bcell hb3).1 g _ hgw).trans x1
          have r2 : w3.cell? ⟨g, done.length * 3 + 2, none⟩ = some (.int .i64 a.p) := ((bcell hb3).1 g _ hgw).trans x2
          have s0 : w3.frozen? ⟨g, done.length * 3, none⟩ = false := ((bcell hb3).2 g _ hgw).trans y0
          have s1 : w3.frozen? ⟨g, done.length * 3 + 1, none⟩ = false := ((bcell hb3).2 g _ hgw).trans y1
          have s2 : w3.frozen? ⟨g, done.length * 3 + 2, none⟩ = false := ((bcell hb3).2 g _ hgw).trans y2
          go_wp2
          have hbA : Below w3.heap.size w3 (w3.alloc (.cells #[.int .i64 a.b, .int .i64 p.e, .int .i64 a.p] 78)) := Below.al (Below.refl _ _) _
          have hbx : Below wr.heap.size wr (w3.alloc (.cells #[.int .i64 a.b, .int .i64 p.e, .int .i64 a.p] 78)) := Below.tr hbA hb3
          have k0 : (w3.alloc (.cells #[.int .i64 a.b, .int .i64 p.e, .int .i64 a.p] 78)).cell? ⟨w3.heap.size, 0, none⟩ = some (.int .i64 a.b) := by simp [go_sem]
          have k1 : (w3.alloc (.cells #[.int .i64 a.b, .int .i64 p.e, .int .i64 a.p] 78)).cell? ⟨w3.heap.size, 1, none⟩ = some (.int .i64 p.e) := by simp [go_sem]
          have k2 : (w3.alloc (.cells #[.int .i64 a.b, .int .i64 p.e, .int .i64 a.p] 78)).cell? ⟨w3.heap.size, 2, none⟩ = some (.int .i64 a.p) := by simp [go_sem]
          have k3 : (w3.alloc (.cells #[.int .i64 a.b, .int .i64 p.e, .int .i64 a.p] 78)).frozen? ⟨w3.heap.size, 2, none⟩ = false := by simp [go_sem]
          have l2 := ((bcell hbx).1 b _ b0).trans c2
          have r0 := ((bcell hbA).1 g _ gX).trans r0
          have r1 := ((bcell hbA).1 g _ gX).trans r1
          have r2 := ((bcell hbA).1 g _ gX).trans r2
          have s0 := ((bcell hbA).2 g _ gX).trans s0
          have s1 := ((bcell hbA).2 g _ gX).trans s1
          have s2 := ((bcell hbA).2 g _ gX).trans s2
          have ng : ¬ g = w3.heap.size := by omega
          have ng' : ¬ w3.heap.size = g := by omega
          generalize hwx : w3.alloc (.cells #[.int .i64 a.b, .int .i64 p.e, .int .i64 a.p] 78) = wx at hbA hbx k0 k1 k2 k3 l2 r0 r1 r2 s0 s1 s2 ⊢
          clear hwx
          refine wp_region_still_tail 9 (by kernel_rfl) (by kernel_rfl) ?_
          simp only [List.take_succ_cons, List.take_zero, List.drop_succ_cons, List.drop_zero]
          repeat still_step
          still_call ((l00Min_any _ _ _).mono fun e w2 h => ⟨h.1, h.2.symm⟩)
          repeat still_step
          refine wpStill_nil ?_
          change wpList _ _ _ _ _ wx.drew
          go_wp2
          go_roundw
          case rel =>
            refine ⟨k + 1, done.length + 1, done, some ⟨a.b, p.e, mnI a.p p.p⟩, by omega, by go_num, by simp, (by repeat (first | assumption | exact Below.refl _ _ | apply Below.al | apply Below.drewN' | apply Below.drew | (refine Below.sc ?_ (by first | omega | (simp; done) | (simp; omega)) _) | (apply Below.tr; assumption))), ?_, by omega, hid (by rw [H.out, HS.out, HG.out]), (fun z hz => by cases hz; exact ⟨a1, a2, p3, p4, mnI_lo a5 p5, mnI_hi a6⟩), hid (fun hz => by cases hz)⟩
            have hy := fun (W4 : World) (hW : Below wr.heap.size wr W4) => own_set3 (j := done.length * 3) (own_below H0.out hW (Nat.le_refl _)) (by rw [flat_len (k := 3) (fun _ => rfl)]) (.int .i64 a.b) (.int .i64 p.e) (.int .i64 (mnI a.p p.p))
            have e9 : (done ++ (some (⟨a.b, p.e, mnI a.p p.p⟩ : Al)).toList).flatMap encAl = done.flatMap encAl ++ [.int .i64 a.b, .int .i64 p.e, .int .i64 (mnI a.p p.p)] := by simp [encAl]
            rw [e9]
            exact hy _ (by repeat (first | assumption | exact Below.refl _ _ | apply Below.al | apply Below.drewN' | apply Below.drew | (refine Below.sc ?_ (by first | omega | (simp; done) | (simp; omega)) _) | (apply Below.tr; assumption)))
          case measure => simp [intOf]; omega
        · have hj' : decide (p.b - a.e ≤ ap) = false := by simpa using hj
          have HG : Hid (jaRun ap (jaStep ap done (some a) p).1 (jaStep ap done (some a) p).2 (xs.drop (k+1)) = jaRun ap (done ++ [a]) (some p) (xs.drop (k+1))) := by unfold Hid; simp only [jaStep]; rw [if_neg hj]
          go_wp2
          refine wp_region_ext (by kernel_rfl) (by kernel_rfl) ?_
          repeat (go_big_quiet_step ((first | fail)))
          refine wpQuiet_nil ?_
          intro w3 hb3
          obtain ⟨hc_w3, hf_w3⟩ := bcell hb3
          have hz_w3 := hb3.size
          have hbX : Below w.heap.size w w3 := (by repeat (first | assumption | exact Below.refl _ _ | apply Below.al | apply Below.drewN' | apply Below.drew | (apply Below.tr; assumption)))
          have hzX := hbX.size
          have HX := hid (own_below H0.out hb3 (Nat.le_refl _))
          have b3 : b < w3.heap.size := by omega
          go_wp2_with (at_builtin; go_must (refine wpList_append_own _ rfl _ _ 26 rfl (w.heap.size) 78 i0 _ 3 24 Try.underlying26 hi0 iz0 iz1 iz2 rfl (by decide) _ _ _ rfl (HX.out.alloc _) ⟨(w3).heap.size, 0, none⟩ 1 1 [.int .i64 p.b, .int .i64 p.e, .int .i64 p.p] rfl rfl (news_at w3 [.int .i64 p.b, .int .i64 p.e, .int .i64 p.p] 78) (by simp [Value.oneCell']) (by unfold maxLen; omega) (by omega) (by first | omega | (simp; done) | (simp; omega)) ?_); intro v2 w4 own_w4 grow_w4 _)
          go_roundw
          case rel => exact ⟨k + 1, (done ++ [a]).length + 1, (done ++ [a]), some p, by omega, by go_num, by simp, Below.ap hbX hbX.size HX.out (Nat.le_refl _) grow_w4, by simpa [encAl] using own_w4, (by first | omega | (simp; omega) | simp), hid (by rw [H.out, HS.out, HG.out]), (fun z hz => by cases hz; exact ⟨p1, p2, p3, p4, p5, p6⟩), hid (fun hz => by cases hz)⟩
          case measure => simp [intOf]; omega
    · obtain rfl : k = xs.length := by omega
      have HE : Hid (jaRun ap [] none xs = done ++ cur.toList) := hid (by rw [H.out, List.drop_eq_nil_of_le (by omega)]; rfl)
      subst hm
      have H0 := hid hown
      clear hown
      go_wp2
      go_ret2
      exact ⟨Ar, cr, by rw [HV.out, HC.out, HE.out]; simp, by rw [HV.out, HE.out]; exact H0.out, hb⟩
set_option maxRecDepth 20000 in
set_option maxHeartbeats 6000000 in
theorem implJoinAlerts_any (A : Option Addr) (c : Nat) (xs : List Al) (ap : Int) (w : World) (h : Rd encAl 3 w w.heap.size A xs) (hn : xs.length ≤ 1048576) :
    Calls Try.prog 31 #[.slice A xs.length c, .int .i64 ap] w (OwnTup 78 3 encAl (jaV xs ap) (jaC xs ap) w) := by
  cases hv : alB xs
  · have HC : Hid (jaC xs ap = 1) := by simp [Hid, jaC, hv]
    have HV : Hid (jaV xs ap = []) := by simp [Hid, jaV, HC.out]
    go_enter Try.func31, Try.ntmps31
    go_wp2_with (first | (go_at_call 60; refine (areAlerts_any A c xs _ h hn).mono ?_; rintro e w1 ⟨rfl, hb1⟩; obtain ⟨hc_w1, hf_w1⟩ := bcell hb1; have hz_w1 := hb1.size; (try simp at hz_w1); (try have g_w1 : w.heap.size < w1.heap.size := (by omega))) | (go_at_call 67; refine (in_any _ _ _ _).mono ?_; rintro e w' ⟨rfl, rfl⟩))
    go_ret2
    exact ⟨none, 0, by rw [HV.out, HC.out]; rfl, by rw [HV.out]; exact World.ownsRow_nil _ _ _ _, (by repeat (first | assumption | exact Below.refl _ _ | apply Below.al | apply Below.drewN' | apply Below.drew | (apply Below.tr; assumption)))⟩
  cases h1 : inB ap 0 10000000
  · have HC : Hid (jaC xs ap = 2) := by simp [Hid, jaC, hv, h1]
    have HV : Hid (jaV xs ap = []) := by simp [Hid, jaV, HC.out]
    go_enter Try.func31, Try.ntmps31
    go_wp2_with (first | (go_at_call 60; refine (areAlerts_any A c xs _ h hn).mono ?_; rintro e w1 ⟨rfl, hb1⟩; obtain ⟨hc_w1, hf_w1⟩ := bcell hb1; have hz_w1 := hb1.size; (try simp at hz_w1); (try have g_w1 : w.heap.size < w1.heap.size := (by omega))) | (go_at_call 67; refine (in_any _ _ _ _).mono ?_; rintro e w' ⟨rfl, rfl⟩))
    go_ret2
    exact ⟨none, 0, by rw [HV.out, HC.out]; rfl, by rw [HV.out]; exact World.ownsRow_nil _ _ _ _, (by repeat (first | assumption | exact Below.refl _ _ | apply Below.al | apply Below.drewN' | apply Below.drew | (apply Below.tr; assumption)))⟩
  have HC : Hid (jaC xs ap = 0) := by simp [Hid, jaC, hv, h1]
  have HV : Hid (jaV xs ap = jaRun ap [] none xs) := by simp [Hid, jaV, HC.out]
  have V := hid (alB_at hv)
  obtain ⟨ap1, ap2⟩ := inB_true.1 h1
  obtain ⟨i0, hi0, iz0, iz1, iz2⟩ := info_parts (P := Try.prog) (e := 78) (z := .agg #[.int .i64 0, .int .i64 0, .int .i64 0]) (size := 3) (bytes := 24) (by kernel_rfl)
  go_enter Try.func31, Try.ntmps31
  go_wp2_with (first | (go_at_call 60; refine (areAlerts_any A c xs _ h hn).mono ?_; rintro e w1 ⟨rfl, hb1⟩; obtain ⟨hc_w1, hf_w1⟩ := bcell hb1; have hz_w1 := hb1.size; (try simp at hz_w1); (try have g_w1 : w.heap.size < w1.heap.size := (by omega))) | (go_at_call 67; refine (in_any _ _ _ _).mono ?_; rintro e w' ⟨rfl, rfl⟩))
  clear hv h1
  go_loopw [6, 21] (fun v i wr => ∃ (k m : Nat) (done : List Al) (cur : Option Al), k ≤ xs.length ∧ i = .int .i64 k ∧ m = (done ++ cur.toList).length ∧ Below w.heap.size w wr ∧ wr.ownsRow w.heap.size 78 3 v m ((done ++ cur.toList).flatMap encAl) ∧ m ≤ k ∧
      Hid (jaRun ap [] none xs = jaRun ap done cur (xs.drop k)) ∧ (∀ a, cur = some a → 0 ≤ a.b ∧ a.b ≤ 10000000 ∧ -1 ≤ a.e ∧ a.e ≤ 10000000 ∧ -2000 ≤ a.p ∧ a.p ≤ 20000) ∧ Hid (cur = none → done = [])) (fun _ i _ => xs.length - (intOf i).toNat)
  case atStart => exact ⟨0, 0, [], none, Nat.zero_le _, rfl, rfl, (by repeat (first | assumption | exact Below.refl _ _ | apply Below.al | apply Below.drewN' | apply Below.drew | (apply Below.tr; assumption))), own_lit0 _ _ _ hb1.size, Nat.zero_le _, hid rfl, (fun a ha => by cases ha), hid (fun _ => rfl)⟩
  case round =>
    obtain ⟨k, m, done, cur, hk, rfl, hm, hb, hown, hlen, H, hcur, hnn⟩ := hrel
    obtain ⟨Ar, cr, rfl⟩ := own_shape hown
    by_cases hlt : k < xs.length
    · obtain ⟨p, hp⟩ := getx hlt
      obtain ⟨b, o, rfl, hbB, c0, c1, c2⟩ := (h.below hb (Nat.le_refl _)).at3 hp rfl
      have hsz := hb.size
      obtain ⟨p1, p2, p3, p4, p5, p6⟩ := V.out k p hp
      have b0 : b < wr.heap.size := by omega
      have HS : Hid (jaRun ap done cur (xs.drop k) = jaRun ap (jaStep ap done cur p).1 (jaStep ap done cur p).2 (xs.drop (k+1))) := by rw [dropx hp]; rfl
      clear hp
      cases cur with
      | none =>
        obtain rfl : m = done.length := by simpa using hm
        have H0 : Hid (wr.ownsRow w.heap.size 78 3 (.slice Ar done.length cr) done.length (done.flatMap encAl)) := hid (by simpa using hown)
        obtain rfl : done = [] := hnn.out rfl
        clear hm hown hcur hnn
        have hd : decide (0 ≤ (0 : Int) - 1) = false := by simp
        go_wp2
        refine wp_region_ext (by kernel_rfl) (by kernel_rfl) ?_
        repeat (go_big_quiet_step ((first | fail)))
        refine wpQuiet_nil ?_
        intro w3 hb3
        obtain ⟨hc_w3, hf_w3⟩ := bcell hb3
        have hz_w3 := hb3.size
        have hbX : Below w.heap.size w w3 := (by repeat (first | assumption | exact Below.refl _ _ | apply Below.al | apply Below.drewN' | apply Below.drew | (apply Below.tr; assumption)))
        have hzX := hbX.size
        have hb3' : Below wr.heap.size wr w3 := Below.tr hb3 (Below.al (Below.refl _ _) _)
        have hz3' := hb3'.size
        have HX := hid (own_below H0.out hb3' (Nat.le_refl _))
        have q0 : w3.cell? ⟨wr.heap.size, 0, none⟩ = some (.int .i64 p.b) := (hc_w3 (wr.heap.size) 0 (by first | (simp; done) | (simp; omega))).trans (by simp [go_sem])
        have q1 : w3.cell? ⟨wr.heap.size, 1, none⟩ = some (.int .i64 p.e) := (hc_w3 (wr.heap.size) 1 (by first | (simp; done) | (simp; omega))).trans (by simp [go_sem])
        have q2 : w3.cell? ⟨wr.heap.size, 2, none⟩ = some (.int .i64 p.p) := (hc_w3 (wr.heap.size) 2 (by first | (simp; done) | (simp; omega))).trans (by simp [go_sem])
        go_wp2_with (at_builtin; go_must (refine wpList_append_own _ rfl _ _ 26 rfl (w.heap.size) 78 i0 _ 3 24 Try.underlying26 hi0 iz0 iz1 iz2 rfl (by decide) _ _ _ rfl (HX.out.alloc _) ⟨(w3).heap.size, 0, none⟩ 1 1 [.int .i64 p.b, .int .i64 p.e, .int .i64 p.p] rfl rfl (news_at w3 [.int .i64 p.b, .int .i64 p.e, .int .i64 p.p] 78) (by simp [Value.oneCell']) (by unfold maxLen; omega) (by omega) (by first | omega | (simp; done) | (simp; omega)) ?_); intro v2 w4 own_w4 grow_w4 _)
        go_roundw
        case rel => exact ⟨k + 1, ([] : List Al).length + 1, ([] : List Al), some p, by omega, by go_num, by simp, Below.ap hbX hbX.size HX.out (Nat.le_refl _) grow_w4, by simpa [encAl] using own_w4, (by first | omega | (simp; omega) | simp), hid (by rw [H.out, HS.out]; rfl), (fun z hz => by cases hz; exact ⟨p1, p2, p3, p4, p5, p6⟩), hid (fun hz => by cases hz)⟩
        case measure => simp [intOf]; omega
      | some a =>
        obtain ⟨a1, a2, a3, a4, a5, a6⟩ := hcur a rfl
        obtain rfl : m = done.length + 1 := by simpa using hm
        have H0 : Hid (wr.ownsRow w.heap.size 78 3 (.slice Ar (done.length + 1) cr) (done.length + 1) (done.flatMap encAl ++ [.int .i64 a.b, .int .i64 a.e, .int .i64 a.p])) := hid (by simpa [encAl] using hown)
        have hown1 := H0.out
        clear hm hnn
        obtain ⟨g, rfl, hlo, hgw⟩ := own_form hown1 (by omega)
        have hfl : (done.flatMap encAl).length = done.length * 3 := flat_len (k := 3) (fun _ => rfl) done
        have x0 : wr.cell? ⟨g, done.length * 3, none⟩ = some (.int .i64 a.b) := by have := hown1.cellAt (done.length * 3) (by omega); rw [List.getElem?_append_right (by omega)] at this; simpa [hfl] using this
        have x1 : wr.cell? ⟨g, done.length * 3 + 1, none⟩ = some (.int .i64 a.e) := by have := hown1.cellAt (done.length * 3 + 1) (by omega); rw [List.getElem?_append_right (by omega)] at this; simpa [hfl] using this
        have x2 : wr.cell? ⟨g, done.length * 3 + 2, none⟩ = some (.int .i64 a.p) := by have := hown1.cellAt (done.length * 3 + 2) (by omega); rw [List.getElem?_append_right (by omega)] at this; simpa [hfl] using this
        have y0 : wr.frozen? ⟨g, done.length * 3, none⟩ = false := hown1.frozenAt _
        have y1 : wr.frozen? ⟨g, done.length * 3 + 1, none⟩ = false := hown1.frozenAt _
        have y2 : wr.frozen? ⟨g, done.length * 3 + 2, none⟩ = false := hown1.frozenAt _
        clear hown hown1 hcur hfl
        by_cases hj : p.b - a.e ≤ ap
        · have hj' : decide (p.b - a.e ≤ ap) = true := by simpa using hj
          have HG : Hid (jaRun ap (jaStep ap done (some a) p).1 (jaStep ap done (some a) p).2 (xs.drop (k+1)) = jaRun ap done (some ⟨a.b, p.e, mnI a.p p.p⟩) (xs.drop (k+1))) := by unfold Hid; simp only [jaStep]; rw [if_pos hj]
          go_wp2
          refine wp_region_ext (by kernel_rfl) (by kernel_rfl) ?_
          repeat (go_big_quiet_step ((first | fail)))
          refine wpQuiet_nil ?_
          intro w3 hb3
          obtain ⟨hc_w3, hf_w3⟩ := bcell hb3
          have hz_w3 := hb3.size
          have hbX : Below w.heap.size w w3 := (by repeat (first | assumption | exact Below.refl _ _ | apply Below.al | apply Below.drewN' | apply Below.drew | (apply Below.tr; assumption)))
          have hzX := hbX.size
          have hb3' : Below wr.heap.size wr w3 := Below.tr hb3 (Below.al (Below.refl _ _) _)
          have hz3' := hb3'.size
          have HX := hid (own_below H0.out hb3' (Nat.le_refl _))
          have q0 : w3.cell? ⟨wr.heap.size, 0, none⟩ = some (.int .i64 p.b) := (hc_w3 (wr.heap.size) 0 (by first | (simp; done) | (simp; omega))).trans (by simp [go_sem])
          have q1 : w3.cell? ⟨wr.heap.size, 1, none⟩ = some (.int .i64 p.e) := (hc_w3 (wr.heap.size) 1 (by first | (simp; done) | (simp; omega))).trans (by simp [go_sem])
          have q2 : w3.cell? ⟨wr.heap.size, 2, none⟩ = some (.int .i64 p.p) := (hc_w3 (wr.heap.size) 2 (by first | (simp; done) | (simp; omega))).trans (by simp [go_sem])
          have gX : g < w3.heap.size := by omega
          have r0 : w3.cell? ⟨g, done.length * 3, none⟩ = some (.int .i64 a.b) := ((bcell hb3').1 g _ hgw).trans x0
          have r1 : w3.cell? ⟨g, done.length * 3 + 1, none⟩ = some (.int .i64 a.e) := ((bcell hb3').1 g _ hgw).trans x1
          have r2 : w3.cell? ⟨g, done.length * 3 + 2, none⟩ = some (.int .i64 a.p) := ((bcell hb3').1 g _ hgw).trans x2
          have s0 : w3.frozen? ⟨g, done.length * 3, none⟩ = false := ((bcell hb3').2 g _ hgw).trans y0
          have s1 : w3.frozen? ⟨g, done.length * 3 + 1, none⟩ = false := ((bcell hb3').2 g _ hgw).trans y1
          have s2 : w3.frozen? ⟨g, done.length * 3 + 2, none⟩ = false := ((bcell hb3').2 g _ hgw).trans y2
          have ng : ¬ g = wr.heap.size := by omega
          have ng' : ¬ wr.heap.size = g := by omega
          go_wp2
          go_region
          go_wp2
          go_roundw
          case rel =>
            refine ⟨k + 1, done.length + 1, done, some ⟨a.b, p.e, mnI a.p p.p⟩, by omega, by go_num, by simp, (by repeat (first | assumption | exact Below.refl _ _ | apply Below.al | apply Below.drewN' | apply Below.drew | (refine Below.sc ?_ (by first | omega | (simp; done) | (simp; omega)) _) | (apply Below.tr; assumption))), ?_, by omega, hid (by rw [H.out, HS.out, HG.out]), (fun z hz => by cases hz; exact ⟨a1, a2, p3, p4, mnI_lo a5 p5, mnI_hi a6⟩), hid (fun hz => by cases hz)⟩
            have hy := fun (W4 : World) (hW : Below wr.heap.size wr W4) => own_setEP (j := done.length * 3) (own_below H0.out hW (Nat.le_refl _)) (by rw [flat_len (k := 3) (fun _ => rfl)]) (.int .i64 p.e) (.int .i64 (mnI a.p p.p))
            have e9 : (done ++ (some (⟨a.b, p.e, mnI a.p p.p⟩ : Al)).toList).flatMap encAl = done.flatMap encAl ++ [.int .i64 a.b, .int .i64 p.e, .int .i64 (mnI a.p p.p)] := by simp [encAl]
            rw [e9]
            have hm : (if p.p < a.p then p.p else a.p) = mnI a.p p.p := by unfold mnI; (repeat' split) <;> omega
            rw [hm]
            first
              | exact hy _ (by repeat (first | assumption | exact Below.refl _ _ | apply Below.al | apply Below.drewN' | apply Below.drew | (refine Below.sc ?_ (by first | omega | (simp; done) | (simp; omega)) _) | (apply Below.tr; assumption)))
              | exact own_below (hy _ (by repeat (first | assumption | exact Below.refl _ _ | apply Below.al | apply Below.drewN' | apply Below.drew | (refine Below.sc ?_ (by first | omega | (simp; done) | (simp; omega)) _) | (apply Below.tr; assumption)))) (Below.drew (Below.refl _ _)) (Nat.le_refl _)
          case measure => simp [intOf]; omega
        · have hj' : decide (p.b - a.e ≤ ap) = false := by simpa using hj
          have HG : Hid (jaRun ap (jaStep ap done (some a) p).1 (jaStep ap done (some a) p).2 (xs.drop (k+1)) = jaRun ap (done ++ [a]) (some p) (xs.drop (k+1))) := by unfold Hid; simp only [jaStep]; rw [if_neg hj]
          go_wp2
          refine wp_region_ext (by kernel_rfl) (by kernel_rfl) ?_
          repeat (go_big_quiet_step ((first | fail)))
          refine wpQuiet_nil ?_
          intro w3 hb3
          obtain ⟨hc_w3, hf_w3⟩ := bcell hb3
          have hz_w3 := hb3.size
          have hbX : Below w.heap.size w w3 := (by repeat (first | assumption | exact Below.refl _ _ | apply Below.al | apply Below.drewN' | apply Below.drew | (apply Below.tr; assumption)))
          have hzX := hbX.size
          have hb3' : Below wr.heap.size wr w3 := Below.tr hb3 (Below.al (Below.refl _ _) _)
          have hz3' := hb3'.size
          have HX := hid (own_below H0.out hb3' (Nat.le_refl _))
          have q0 : w3.cell? ⟨wr.heap.size, 0, none⟩ = some (.int .i64 p.b) := (hc_w3 (wr.heap.size) 0 (by first | (simp; done) | (simp; omega))).trans (by simp [go_sem])
          have q1 : w3.cell? ⟨wr.heap.size, 1, none⟩ = some (.int .i64 p.e) := (hc_w3 (wr.heap.size) 1 (by first | (simp; done) | (simp; omega))).trans (by simp [go_sem])
          have q2 : w3.cell? ⟨wr.heap.size, 2, none⟩ = some (.int .i64 p.p) := (hc_w3 (wr.heap.size) 2 (by first | (simp; done) | (simp; omega))).trans (by simp [go_sem])
          go_wp2_with (at_builtin; go_must (refine wpList_append_own _ rfl _ _ 26 rfl (w.heap.size) 78 i0 _ 3 24 Try.underlying26 hi0 iz0 iz1 iz2 rfl (by decide) _ _ _ rfl (HX.out.alloc _) ⟨(w3).heap.size, 0, none⟩ 1 1 [.int .i64 p.b, .int .i64 p.e, .int .i64 p.p] rfl rfl (news_at w3 [.int .i64 p.b, .int .i64 p.e, .int .i64 p.p] 78) (by simp [Value.oneCell']) (by unfold maxLen; omega) (by omega) (by first | omega | (simp; done) | (simp; omega)) ?_); intro v2 w4 own_w4 grow_w4 _)
          go_roundw
          case rel => exact ⟨k + 1, (done ++ [a]).length + 1, (done ++ [a]), some p, by omega, by go_num, by simp, Below.ap hbX hbX.size HX.out (Nat.le_refl _) grow_w4, by simpa [encAl] using own_w4, (by first | omega | (simp; omega) | simp), hid (by rw [H.out, HS.out, HG.out]), (fun z hz => by cases hz; exact ⟨p1, p2, p3, p4, p5, p6⟩), hid (fun hz => by cases hz)⟩
          case measure => simp [intOf]; omega
    · obtain rfl : k = xs.length := by omega
      have HE : Hid (jaRun ap [] none xs = done ++ cur.toList) := hid (by rw [H.out, List.drop_eq_nil_of_le (by omega)]; rfl)
      subst hm
      have H0 := hid hown
      clear hown
      go_wp2
      go_ret2
      exact ⟨Ar, cr, by rw [HV.out, HC.out, HE.out]; simp, by rw [HV.out, HE.out]; exact H0.out, hb⟩
end Go.Proofs.Ytpfdfbebeckohaa
