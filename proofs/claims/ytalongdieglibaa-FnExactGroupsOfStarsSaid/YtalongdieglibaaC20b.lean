/- Contract: the reference's walk through the lists of links. -/
import Derived.Test.YtalongdieglibaaC20z
import Derived.Deep.RegionHeld3
import Derived.BigRegion
import Derived.StillTailTactics
import Derived.Deep.RegionWith
namespace Go.Proofs.Ytalongdieglibaa
open Go.RowKit
set_option linter.unusedVariables false
set_option maxHeartbeats 1000000 in
theorem l00Own_any (A : Option Addr) (c : Nat) (xs : List Int) (w : World) (h : Rd encI 1 w w.heap.size A xs) (hn : xs.length ≤ 1048576) (hz : A = none → c = 0) :
    Calls Try.prog 46 #[.slice A xs.length c] w (OwnRes 2 1 encI xs w) := by
  obtain ⟨i0, hi0, iz0, iz1, iz2⟩ := info_parts (P := Try.prog) (e := 2) (z := .int .i64 0) (size := 1) (bytes := 8) (by kernel_rfl)
  have h2 : Rd encI 1 (w.alloc (.cells #[] 2)) (World.heap (w.alloc (.cells #[] 2))).size A xs := (h.below (B' := w.heap.size) (by repeat (first | assumption | exact Below.refl _ _ | apply Below.al | apply Below.drewN' | apply Below.drew | (apply Below.tr; assumption))) (Nat.le_refl _)).more (by simp)
  have o0 := own_lit0 w 2 1 (lo := w.heap.size) (Nat.le_refl _)
  go_enter Try.func46, Try.ntmps46
  go_wp2_with (at_builtin; go_must (refine wpList_append_rd rfl _ _ 36 rfl (w.heap.size) 2 i0 _ 1 8 Try.underlying36 hi0 iz0 iz1 iz2 rfl (by decide) _ 0 _ rfl (o0) _ (xs.length) _ ((xs).flatMap encI) rfl (rd_n0 (h2) (hz)) (flat_len (k := 1) (fun _ => rfl) _) (rd_flat' (k := 1) (fun _ => rfl) (by decide) (h2)) (flat_one (by simp [encI, Value.oneCell']) _) (by unfold maxLen; omega) (by omega) (by first | omega | (simp; done) | (simp; omega)) ?_); intro v2 w2 own_w2 grow_w2 at_w2)
  obtain ⟨Ar, cr, rfl⟩ := own_shape own_w2
  have hb := Below.gr (v := .slice (some ⟨w.heap.size, 0, none⟩) 0 0) (Below.al (Below.refl w.heap.size w) (.cells #[] 2)) (by simp) o0 (Nat.le_refl _) grow_w2
  rw [Nat.zero_add, List.nil_append] at own_w2
  go_ret
  exact ⟨Ar, cr, by simp, own_w2, hb⟩
theorem own_off {w : World} {lo n c p : Nat} {A : Option Addr} {e : TypeId} {size : Nat} {ys : List Value} (h : w.ownsRow lo e size (.slice A n c) n ys) (hp : p < lo) {b o : Nat} (e : A = some ⟨b, o, none⟩) : b ≠ p := by
  subst e
  have := (h.lt b rfl).1
  omega
theorem AscW.take {m : Nat} {g : List Int} (h : AscW m g) (k : Nat) : AscW m (g.take k) := ⟨h.1.sublist (List.take_sublist _ _), fun x hx => h.2 x (List.mem_of_mem_take hx)⟩
def WalkRes (p lo n m : Nat) (AL : Option Addr) (cL : Nat) (st : Wn) (w : World) (e : Ending) (w' : World) : Prop := e = .returned (.tuple #[]) ∧ SW w' p lo n m AL cL st ∧ w.grownBy w' (some p)
set_option maxRecDepth 20000 in
set_option maxHeartbeats 4000000 in
theorem walk0_any (n lo p : Nat) (AL : Option Addr) (cL : Nat) (xs : List Lk) (G : Option Addr) (cG : Nat) (pre : List Int) (i : Int) (st : Wn) (w : World) (n1 : 1 ≤ n) (n2 : n ≤ 10) (hn : xs.length ≤ 12) (V : Hid (∀ (k : Nat) (p : Lk), xs[k]? = some p → 0 ≤ p.a ∧ p.a < p.b ∧ p.b < n ∧ -5000 ≤ p.d ∧ p.d ≤ 5000))
    (hlo : lo ≤ p) (h : Rd encLk 3 w lo AL xs) (hG : Rd encI 1 w w.heap.size G pre) (hz : G = none → cG = 0) (hne : ∀ b o, G = some ⟨b, o, none⟩ → b ≠ p) (ha : AscW xs.length pre) (hs : AscW xs.length st.s) (m0 : 0 ≤ st.m) (m1 : st.m ≤ 100000000000000)
    (hS : SW w p lo n xs.length AL cL st) :
    Calls Try.prog 39 #[.pointer (some ⟨p, 0, none⟩), .slice G pre.length cG, .int .i64 i, .int .i64 0] w (WalkRes p lo n xs.length AL cL (stW (okW n xs) st pre) w) := by
  obtain ⟨AF, cF, AU, cU, S⟩ := hS
  have lp := ha.len
  have CJ : ∀ W, Below w.heap.size w W → Calls Try.prog 32 #[.int .i64 (n : Int), .slice AL xs.length cL, .slice G pre.length cG] W fun e w' => ∃ g, e = .returned (.pointer (some ⟨g, 0, none⟩)) ∧ JnW w' W.heap.size g n (jnGo pre (jn0 n) 0 xs) ∧ Below W.heap.size W w' := fun W hW => l20Join_any n AL cL xs G cG pre W ((h.below hW (by have := S.lp; omega)).more (by have := S.lp; have := hW.size; omega)) ((hG.below hW (Nat.le_refl _)).more hW.size) n1 n2 hn (by omega) V
  have e0 := S.c0
  have e1 := S.c1
  have zp := S.lp
  have hloW : lo ≤ w.heap.size := by omega
  cases hok : okW n xs pre
  · have HE : Hid (stW (okW n xs) st pre = st) := hid (by simp [stW, hok])
    go_enter Try.func39, Try.ntmps39
    go_wp2
    refine wp_region_still_tail 9 (by kernel_rfl) (by kernel_rfl) ?_
    simp only [List.take_succ_cons, List.take_zero, List.drop_succ_cons, List.drop_zero]
    repeat still_step
    refine wpStill_nil ?_
    change wpList _ _ _ _ _ w.drew
    go_wp2_with (go_at_call 32; refine (CJ _ (by repeat (first | assumption | exact Below.refl _ _ | apply Below.al | apply Below.drew))).mono ?_; rintro e w1 ⟨g, rfl, hJ, hb1⟩; have hb1' : Below w.heap.size w w1 := Below.trans (by repeat (first | assumption | exact Below.refl _ _ | apply Below.al | apply Below.drew)) (hb1.mono (by simp)); obtain ⟨gF, cF', gN, cN', JX⟩ := hJ; have j2 := JX.c2; rw [okW_go, hok] at j2; have S1 := S.below hb1'; have y2 := S1.c2; have y3 := S1.c3; have y4 := S1.c4; have q2 := S1.f2; have q3 := S1.f3; have q4 := S1.f4; have zp1 := S1.lp; clear JX)
    refine bodyPost_ret (results_none rfl _ _ _) rfl ?_
    exact ⟨rfl, by rw [HE.out]; exact ⟨_, _, _, _, S1⟩, grown_all hb1'⟩
  · by_cases hm0 : st.m = 0
    · have d0 : (st.m == 0) = true := by simpa using hm0
      have HE : Hid (stW (okW n xs) st pre = ⟨(⟨pre, st.s, st.m + 1⟩ : Wn).f, susW st.s pre, st.m + 1⟩) := hid (by simp [stW, hok, hm0])
      clear hm0
      go_enter Try.func39, Try.ntmps39
      go_wp2
      refine wp_region_still_tail 9 (by kernel_rfl) (by kernel_rfl) ?_
      simp only [List.take_succ_cons, List.take_zero, List.drop_succ_cons, List.drop_zero]
      repeat still_step
      refine wpStill_nil ?_
      change wpList _ _ _ _ _ w.drew
      go_wp2_with (first | (go_at_call 32; refine (CJ _ (by repeat (first | assumption | exact Below.refl _ _ | apply Below.al | apply Below.drew))).mono ?_; rintro e w1 ⟨g, rfl, hJ, hb1⟩; have hb1' : Below w.heap.size w w1 := Below.trans (by repeat (first | assumption | exact Below.refl _ _ | apply Below.al | apply Below.drew)) (hb1.mono (by simp)); obtain ⟨gF, cF', gN, cN', JX⟩ := hJ; have j2 := JX.c2; rw [okW_go, hok] at j2; have S1 := S.below hb1'; have y2 := S1.c2; have y3 := S1.c3; have y4 := S1.c4; have q2 := S1.f2; have q3 := S1.f3; have q4 := S1.f4; have zp1 := S1.lp; clear JX) | (go_at_call 46; refine (l00Own_any G cG pre _ ((hG.below hb1' (Nat.le_refl _)).more hb1'.size) (by omega) hz).mono ?_; rintro e w2 ⟨A5, c5, rfl, own5, hb2⟩; have S2 := S1.below hb2; have T2 := S2.set.1 (own_lo own5 (by omega)) (fun b o e => own_off (p := p) own5 (by omega) e); have y2 := S2.c2; have y3 := S2.c3; have y4 := S2.c4; have q2 := S2.f2; have q3 := S2.f3; have q4 := S2.f4; have zp1 := S2.lp; have T3 := T2.set.2.2 (st.m + 1)))
      have hg : w.grownBy ((w2.setCell ⟨p, 2, none⟩ (.slice A5 pre.length c5)).setCell ⟨p, 4, none⟩ (.int .i64 (st.m + 1))) (some p) := grown_trans' (grown_trans' (grown_all (Below.tr hb2 hb1')) (grown_set _ p 2 _)) (grown_set _ p 4 _)
      have T4 : SW ((w2.setCell ⟨p, 2, none⟩ (.slice A5 pre.length c5)).setCell ⟨p, 4, none⟩ (.int .i64 (st.m + 1))) p lo n xs.length AL cL ⟨pre, st.s, st.m + 1⟩ := ⟨_, _, _, _, T3⟩
      have HT := hid T4
      have HG := hid hg
      clear T3 T4 hg
      generalize ((w2.setCell ⟨p, 2, none⟩ (.slice A5 pre.length c5)).setCell ⟨p, 4, none⟩ (.int .i64 (st.m + 1))) = W4 at *
      go_loopw [8] (fun i wr => ∃ k : Nat, k ≤ pre.length ∧ i = .int .i64 k ∧ Hid (w.grownBy wr (some p)) ∧ Hid (SW wr p lo n xs.length AL cL ⟨(⟨pre, st.s, st.m + 1⟩ : Wn).f, susW st.s (pre.take k), st.m + 1⟩)) (fun i _ => pre.length - (intOf i).toNat)
      case atStart => exact ⟨0, Nat.zero_le _, rfl, HG, HT⟩
      case round =>
        clear HG HT
        obtain ⟨k, hk, rfl, HG, HT⟩ := hrel
        by_cases hlt : k < pre.length
        · obtain ⟨x, hx⟩ := getx hlt
          obtain ⟨AF2, cF2, AU2, cU2, S5⟩ := HT.out
          have e3 := S5.c3
          have e5 := S5.f3
          have zp5 := S5.lp
          have gz5 := HG.out.size
          have hG5 := hG.grown HG.out (Nat.le_refl _) hne
          obtain ⟨gb, go', rfl, hbG, x0⟩ := hG5.at1 hx rfl
          have zgb : gb < wr.heap.size := by omega
          have hul := (AscW.len (susW_asc hs (AscW.take ha k)))
          have rdU := rd_of_own (enc := encI) (k := 1) (fun _ => rfl) S5.oU
          have HX : Hid (susW st.s (pre.take (k+1)) = putS (susW st.s (pre.take k)) x) := hid (by unfold susW; rw [List.take_add_one, hx, List.foldl_append]; rfl)
          have HS := hid S5
          clear S5 hx HT
          simp only at e3 rdU hul
          generalize susW st.s (pre.take k) = su at *
          go_wp2
          go_region_with (go_at_call 47; refine (l00Put_any AU2 cU2 su x _ ((rdU.below (Below.drew (Below.refl _ _)) (Nat.le_refl _)).more (by simp)) (by omega)).mono ?_; rintro e w6 ⟨A6, c6, rfl, own6, hb6⟩; have hb6' : Below wr.heap.size wr w6 := Below.trans (Below.drew (Below.refl _ _)) (hb6.mono (by simp)); have S6 := HS.out.below hb6'; have z3 := S6.c3; have q6 := S6.f3; have zp6 := S6.lp; have T6 := S6.set.2.1 (own_lo own6 (by simp; omega)) (fun b o e => own_off (p := p) own6 (by simp; omega) e))
          all_goals
            have hg6 : w.grownBy (w6.setCell ⟨p, 3, none⟩ (.slice A6 (putS su x).length c6)) (some p) := grown_trans' (grown_trans' HG.out (grown_all hb6')) (grown_set _ p 3 _)
            have HG6 := hid hg6
            have HT6 := hid T6
            clear hg6 T6
            go_wp2
            go_roundw
            case rel => exact ⟨k + 1, by omega, by go_num, HG6, hid (by rw [HX.out]; exact ⟨_, _, _, _, HT6.out⟩)⟩
            case measure => simp [intOf]; omega
        · obtain rfl : k = pre.length := by omega
          go_wp2
          refine bodyPost_ret (results_none rfl _ _ _) rfl ?_
          exact ⟨rfl, by rw [HE.out]; have := HT.out; rwa [List.take_length] at this, HG.out⟩
    · have d0 : (st.m == 0) = false := by simpa using hm0
      have HE : Hid (stW (okW n xs) st pre = ⟨(⟨st.f, st.s, st.m + 1⟩ : Wn).f, susW st.s pre, st.m + 1⟩) := hid (by simp [stW, hok, hm0])
      clear hm0
      go_enter Try.func39, Try.ntmps39
      go_wp2
      refine wp_region_still_tail 9 (by kernel_rfl) (by kernel_rfl) ?_
      simp only [List.take_succ_cons, List.take_zero, List.drop_succ_cons, List.drop_zero]
      repeat still_step
      refine wpStill_nil ?_
      change wpList _ _ _ _ _ w.drew
      go_wp2_with (go_at_call 32; refine (CJ _ (by repeat (first | assumption | exact Below.refl _ _ | apply Below.al | apply Below.drew))).mono ?_; rintro e w1 ⟨g, rfl, hJ, hb1⟩; have hb1' : Below w.heap.size w w1 := Below.trans (by repeat (first | assumption | exact Below.refl _ _ | apply Below.al | apply Below.drew)) (hb1.mono (by simp)); obtain ⟨gF, cF', gN, cN', JX⟩ := hJ; have j2 := JX.c2; rw [okW_go, hok] at j2; have S1 := S.below hb1'; have y2 := S1.c2; have y3 := S1.c3; have y4 := S1.c4; have q2 := S1.f2; have q3 := S1.f3; have q4 := S1.f4; have zp1 := S1.lp; clear JX; have T3 := S1.set.2.2 (st.m + 1))
      have hg : w.grownBy (w1.setCell ⟨p, 4, none⟩ (.int .i64 (st.m + 1))) (some p) := grown_trans' (grown_all hb1') (grown_set _ p 4 _)
      have T4 : SW (w1.setCell ⟨p, 4, none⟩ (.int .i64 (st.m + 1))) p lo n xs.length AL cL ⟨st.f, st.s, st.m + 1⟩ := ⟨_, _, _, _, T3⟩
      have HT := hid T4
      have HG := hid hg
      clear T3 T4 hg
      generalize (w1.setCell ⟨p, 4, none⟩ (.int .i64 (st.m + 1))) = W4 at *
      go_loopw [8] (fun i wr => ∃ k : Nat, k ≤ pre.length ∧ i = .int .i64 k ∧ Hid (w.grownBy wr (some p)) ∧ Hid (SW wr p lo n xs.length AL cL ⟨(⟨st.f, st.s, st.m + 1⟩ : Wn).f, susW st.s (pre.take k), st.m + 1⟩)) (fun i _ => pre.length - (intOf i).toNat)
      case atStart => exact ⟨0, Nat.zero_le _, rfl, HG, HT⟩
      case round =>
        clear HG HT
        obtain ⟨k, hk, rfl, HG, HT⟩ := hrel
        by_cases hlt : k < pre.length
        · obtain ⟨x, hx⟩ := getx hlt
          obtain ⟨AF2, cF2, AU2, cU2, S5⟩ := HT.out
          have e3 := S5.c3
          have e5 := S5.f3
          have zp5 := S5.lp
          have gz5 := HG.out.size
          have hG5 := hG.grown HG.out (Nat.le_refl _) hne
          obtain ⟨gb, go', rfl, hbG, x0⟩ := hG5.at1 hx rfl
          have zgb : gb < wr.heap.size := by omega
          have hul := (AscW.len (susW_asc hs (AscW.take ha k)))
          have rdU := rd_of_own (enc := encI) (k := 1) (fun _ => rfl) S5.oU
          have HX : Hid (susW st.s (pre.take (k+1)) = putS (susW st.s (pre.take k)) x) := hid (by unfold susW; rw [List.take_add_one, hx, List.foldl_append]; rfl)
          have HS := hid S5
          clear S5 hx HT
          simp only at e3 rdU hul
          generalize susW st.s (pre.take k) = su at *
          go_wp2
          go_region_with (go_at_call 47; refine (l00Put_any AU2 cU2 su x _ ((rdU.below (Below.drew (Below.refl _ _)) (Nat.le_refl _)).more (by simp)) (by omega)).mono ?_; rintro e w6 ⟨A6, c6, rfl, own6, hb6⟩; have hb6' : Below wr.heap.size wr w6 := Below.trans (Below.drew (Below.refl _ _)) (hb6.mono (by simp)); have S6 := HS.out.below hb6'; have z3 := S6.c3; have q6 := S6.f3; have zp6 := S6.lp; have T6 := S6.set.2.1 (own_lo own6 (by simp; omega)) (fun b o e => own_off (p := p) own6 (by simp; omega) e))
          all_goals
            have hg6 : w.grownBy (w6.setCell ⟨p, 3, none⟩ (.slice A6 (putS su x).length c6)) (some p) := grown_trans' (grown_trans' HG.out (grown_all hb6')) (grown_set _ p 3 _)
            have HG6 := hid hg6
            have HT6 := hid T6
            clear hg6 T6
            go_wp2
            go_roundw
            case rel => exact ⟨k + 1, by omega, by go_num, HG6, hid (by rw [HX.out]; exact ⟨_, _, _, _, HT6.out⟩)⟩
            case measure => simp [intOf]; omega
        · obtain rfl : k = pre.length := by omega
          go_wp2
          refine bodyPost_ret (results_none rfl _ _ _) rfl ?_
          exact ⟨rfl, by rw [HE.out]; have := HT.out; rwa [List.take_length] at this, HG.out⟩
set_option maxRecDepth 20000 in
set_option maxHeartbeats 4000000 in
theorem walk_any (n lo p : Nat) (AL : Option Addr) (cL : Nat) (xs : List Lk) (n1 : 1 ≤ n) (n2 : n ≤ 10) (hn : xs.length ≤ 12) (V : Hid (∀ (k : Nat) (p : Lk), xs[k]? = some p → 0 ≤ p.a ∧ p.a < p.b ∧ p.b < n ∧ -5000 ≤ p.d ∧ p.d ≤ 5000)) (hlo : lo ≤ p) :
    ∀ (more i : Nat) (mv iv : Int) (G : Option Addr) (cG : Nat) (pre : List Int) (st : Wn) (w : World), more ≤ 12 → mv = (more : Int) → iv = (i : Int) → i ≤ xs.length → Rd encLk 3 w lo AL xs → Rd encI 1 w w.heap.size G pre → (G = none → cG = 0) → (∀ b o, G = some ⟨b, o, none⟩ → b ≠ p) → AscW i pre → AscW xs.length st.s → 0 ≤ st.m → st.m + ((combW xs.length more pre i).length : Int) ≤ 100000000000000 → SW w p lo n xs.length AL cL st →
    Calls Try.prog 39 #[.pointer (some ⟨p, 0, none⟩), .slice G pre.length cG, .int .i64 iv, .int .i64 mv] w (WalkRes p lo n xs.length AL cL (runW (okW n xs) st (combW xs.length more pre i)) w) := by
  intro more
  induction more with
  | zero =>
    rintro i mv iv G cG pre st w h12 rfl rfl hi h hG hz hne ha hs m0 m1 hS
    rw [combW, runW_one]
    exact walk0_any n lo p AL cL xs G cG pre _ st w n1 n2 hn V hlo h hG hz hne (ha.wider hi) hs m0 (by simp [combW] at m1; omega) hS
  | succ k ih =>
    rintro i mv iv G cG pre st w h12 hmv rfl hi h hG hz hne ha hs m0 m1 hS
    have hk0 : (mv == 0) = false := by simp; omega
    have hv1 : 1 ≤ mv := by omega
    have hv2 : mv ≤ 12 := by omega
    have HMV := hid hmv
    clear hmv
    have hpl := ha.len
    have hloW : lo ≤ w.heap.size := by obtain ⟨_, _, _, _, S⟩ := hS; have := S.lp; omega
    have hpW : p < w.heap.size := by obtain ⟨_, _, _, _, S⟩ := hS; exact S.lp
    have HS0 := hid hS
    clear hS
    obtain ⟨i0, hi0, iz0, iz1, iz2⟩ := info_parts (P := Try.prog) (e := 2) (z := .int .i64 0) (size := 1) (bytes := 8) (by kernel_rfl)
    go_enter Try.func39, Try.ntmps39
    go_wp2
    go_loopw [9] (fun v wr => ∃ (j : Nat) (st' : Wn), i ≤ j ∧ j ≤ xs.length ∧ v = .int .i64 (j : Int) ∧ Hid (w.grownBy wr (some p)) ∧ Hid (SW wr p lo n xs.length AL cL st') ∧ Hid (runW (okW n xs) st (combW xs.length (k + 1) pre i) = runW (okW n xs) st' (combW xs.length (k + 1) pre j)) ∧ AscW xs.length st'.s ∧ 0 ≤ st'.m ∧ st'.m + ((combW xs.length (k + 1) pre j).length : Int) ≤ 100000000000000) (fun v _ => xs.length - (intOf v).toNat)
    case atStart => exact ⟨i, st, Nat.le_refl _, hi, rfl, hid (World.grownBy.refl w _), HS0, hid rfl, hs, m0, m1⟩
    case round =>
      clear HS0 hs m0 m1
      obtain ⟨j, st', hij, hj, rfl, HG, HT, HR, hs', m0', m1'⟩ := hrel
      obtain ⟨AF2, cF2, AU2, cU2, S5⟩ := HT.out
      have e1 := S5.c1
      have gz5 := HG.out.size
      by_cases hlt : j < xs.length
      · have hG5 := ((hG.grown HG.out (Nat.le_refl _) hne).more gz5)
        have h5 := h.grown HG.out hloW (fun b o e => by obtain ⟨b', o', e', hb', _⟩ := h (by intro e0; rw [e0] at hlt; simp at hlt); rw [e] at e'; cases e'; omega)
        have HC := hid (combW_step (k := k) (pre := pre) hlt)
        have hgl : ((combW xs.length (k + 1) pre j).length : Int) = (combW xs.length k (pre ++ [(j : Int)]) (j + 1)).length + (combW xs.length (k + 1) pre (j + 1)).length := by rw [HC.out, List.length_append]; simp
        have hbd := runW_bd (ok := okW n xs) (combW xs.length k (pre ++ [(j : Int)]) (j + 1)) st'
        have hasc : AscW (j + 1) (pre ++ [(j : Int)]) := (ha.wider hij).snoc (m := j + 1) (by omega)
        have hs2 := runW_asc (ok := okW n xs) hs' (fun g hg => (combW_asc k (pre ++ [(j : Int)]) (j + 1) hasc (by omega) g hg).1)
        have HGL := hid hgl
        have M1 : st'.m + ((combW xs.length k (pre ++ [(j : Int)]) (j + 1)).length : Int) ≤ 100000000000000 := by omega
        have M2 : 0 ≤ (runW (okW n xs) st' (combW xs.length k (pre ++ [(j : Int)]) (j + 1))).m := by omega
        have M3 : (runW (okW n xs) st' (combW xs.length k (pre ++ [(j : Int)]) (j + 1))).m + ((combW xs.length (k + 1) pre (j + 1)).length : Int) ≤ 100000000000000 := by omega
        clear hgl hbd m1'
        go_wp2_with (first
          | (go_at_call 46; refine (l00Own_any G cG pre _ hG5 (by omega) hz).mono ?_; rintro e w1 ⟨A5, c5, rfl, own5, hb1⟩; have zb1 := hb1.size)
          | ((at_builtin; (refine wpList_append_own _ rfl _ _ 36 rfl (wr.heap.size) 2 i0 _ 1 8 Try.underlying36 hi0 iz0 iz1 iz2 rfl (by decide) _ _ _ rfl (own5.alloc _) ⟨(w1).heap.size, 0, none⟩ 1 1 [.int .i64 (j : Int)] rfl rfl (news_at w1 [.int .i64 (j : Int)] 2) (by simp [Value.oneCell']) (by unfold maxLen; omega) (by omega) (by first | omega | (simp; done) | (simp; omega)) ?_); intro v2 w2 own_w2 grow_w2 _); obtain ⟨Ar, cr, rfl⟩ := own_shape own_w2; obtain ⟨g, rfl, hgl, hgz⟩ := own_form own_w2 (by omega); have hbF : Below wr.heap.size wr w2 := Below.ap hb1 hb1.size own5 (Nat.le_refl _) grow_w2; have own_w3 : w2.ownsRow wr.heap.size 2 1 (.slice (some ⟨g, 0, none⟩) (pre ++ [(j : Int)]).length cr) (pre ++ [(j : Int)]).length ((pre ++ [(j : Int)]).flatMap encI) := (by simpa [encI] using own_w2); have rdG := rd_of_own (enc := encI) (k := 1) (fun _ => rfl) own_w3; clear own_w2 own_w3 grow_w2 own5)
          | (go_at_call 39; have CC := ih (j + 1) (mv - 1) ((j : Int) + 1) (some ⟨g, 0, none⟩) cr (pre ++ [(j : Int)]) st' w2 (by omega) (by have := HMV.out; omega) (by simp) (by omega) ((h5.below hbF (by omega))) rdG (fun e => by cases e) (fun b o e => by cases e; omega) hasc hs' m0' M1 ⟨_, _, _, _, S5.below hbF⟩; rw [List.length_append, List.length_singleton] at CC; refine CC.mono ?_; rintro e w3 ⟨rfl, hS3, hg3⟩; clear CC))
        have HG3 := hid (grown_trans' (grown_trans' HG.out (grown_all hbF)) hg3)
        have HS3 := hid hS3
        clear hS3 hg3 hbF rdG
        go_roundw
        case rel => exact ⟨j + 1, _, by omega, by omega, by go_num, HG3, HS3, hid (by rw [HR.out, HC.out, runW_app]), hs2, M2, M3⟩
        case measure => simp [intOf]; omega
      · obtain rfl : j = xs.length := by omega
        have HE : Hid (runW (okW n xs) st (combW xs.length (k + 1) pre i) = st') := hid (by rw [HR.out, combW_end (Nat.le_refl _)]; rfl)
        go_wp2
        go_end0
        exact ⟨rfl, by rw [HE.out]; exact HT.out, HG.out⟩
end Go.Proofs.Ytalongdieglibaa
