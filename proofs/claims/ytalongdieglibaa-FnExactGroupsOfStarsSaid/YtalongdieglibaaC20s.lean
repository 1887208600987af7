/- Contracts: the reference's noting of links. -/
import Derived.Test.YtalongdieglibaaC20k
import Derived.Test.YtalongdieglibaaCGrow
import Derived.BigRegion
namespace Go.Proofs.Ytalongdieglibaa
open Go.RowKit
set_option linter.unusedVariables false
theorem l00Has_any (A : Option Addr) (c : Nat) (xs : List Int) (n : Int) (w : World) (h : Rd encI 1 w w.heap.size A xs) (hn : xs.length ≤ 1048576) :
    Calls Try.prog 44 #[.slice A xs.length c, .int .i64 n] w fun e w' => e = .returned (.bool (xs.contains n)) ∧ Below w.heap.size w w' := by
  go_enter Try.func44, Try.ntmps44
  go_wp2
  go_loopw [5] (fun i wr => ∃ k : Nat, k ≤ xs.length ∧ i = .int .i64 k ∧ Below w.heap.size w wr ∧ Hid (xs.contains n = (xs.drop k).contains n)) (fun i _ => xs.length - (intOf i).toNat)
  case atStart => exact ⟨0, Nat.zero_le _, rfl, (by repeat (first | assumption | exact Below.refl _ _ | apply Below.al | apply Below.drewN' | apply Below.drew | (apply Below.tr; assumption))), hid rfl⟩
  case round =>
    obtain ⟨k, hk, rfl, hb, H⟩ := hrel
    by_cases hlt : k < xs.length
    · obtain ⟨p, hp⟩ := getx hlt
      obtain ⟨bb, o, rfl, hbB, c0⟩ := (h.below hb (Nat.le_refl _)).at1 hp rfl
      have hsz := hb.size
      have HS : Hid ((xs.drop k).contains n = (p == n || (xs.drop (k+1)).contains n)) := by unfold Hid; rw [dropx hp, List.contains_cons, Bool.beq_comm]
      clear hp
      cases h1 : p == n
      all_goals
        go_wp2
        first
          | (go_ret
             exact ⟨ret_bool (by rw [H.out, HS.out, h1]; rfl), (by repeat (first | assumption | exact Below.refl _ _ | apply Below.al | apply Below.drewN' | apply Below.drew | (apply Below.tr; assumption)))⟩)
          | (go_roundw
             case rel => exact ⟨k + 1, by omega, by go_num, (by repeat (first | assumption | exact Below.refl _ _ | apply Below.al | apply Below.drewN' | apply Below.drew | (apply Below.tr; assumption))), hid (by rw [H.out, HS.out, h1]; rfl)⟩
             case measure => simp [intOf]; omega)
    · have HE : Hid (xs.contains n = false) := hid (by rw [H.out, List.drop_eq_nil_of_le (by omega)]; rfl)
      go_wp2
      go_ret
      exact ⟨ret_bool HE.out.symm, (by repeat (first | assumption | exact Below.refl _ _ | apply Below.al | apply Below.drewN' | apply Below.drew | (apply Below.tr; assumption)))⟩
/-- The reference's notes lie in block g, its two rows in blocks gF and gN. -/
structure JnX (w : World) (lo g n gF cF gN cN : Nat) (LF LN : List Value) (ok : Bool) : Prop where
  hg : lo ≤ g
  lg : g < w.heap.size
  nF : ¬ g = gF
  nN : ¬ g = gN
  nFN : ¬ gF = gN
  c0 : w.cell? ⟨g, 0, none⟩ = some (.slice (some ⟨gF, 0, none⟩) n cF)
  c1 : w.cell? ⟨g, 1, none⟩ = some (.slice (some ⟨gN, 0, none⟩) n cN)
  c2 : w.cell? ⟨g, 2, none⟩ = some (.bool ok)
  f2 : w.frozen? ⟨g, 2, none⟩ = false
  oF : w.ownsRow lo 2 1 (.slice (some ⟨gF, 0, none⟩) n cF) n LF
  oN : w.ownsRow lo 2 1 (.slice (some ⟨gN, 0, none⟩) n cN) n LN
def JnW (w : World) (lo g n : Nat) (p : Jn) : Prop := ∃ gF cF gN cN, JnX w lo g n gF cF gN cN (fI p.F) (fI p.N) p.ok
theorem JnX.below {w w' : World} {lo g n gF cF gN cN : Nat} {LF LN : List Value} {ok : Bool} (h : JnX w lo g n gF cF gN cN LF LN ok) (hb : Below w.heap.size w w') : JnX w' lo g n gF cF gN cN LF LN ok := by
  obtain ⟨hc, hf⟩ := bcell hb
  exact ⟨h.hg, Nat.lt_of_lt_of_le h.lg hb.size, h.nF, h.nN, h.nFN, (hc _ _ h.lg).trans h.c0, (hc _ _ h.lg).trans h.c1, (hc _ _ h.lg).trans h.c2, (hf _ _ h.lg).trans h.f2, own_below h.oF hb (Nat.le_refl _), own_below h.oN hb (Nat.le_refl _)⟩
theorem grown_set (w : World) (g o : Nat) (u : Value) : w.grownBy (w.setCell ⟨g, o, none⟩ u) (some g) :=
  ⟨rfl, rfl, rfl, by simp [World.setCell], fun i hi hne => Below.heap_setCell w ⟨g, o, none⟩ u i (fun e => hne (by rw [e]))⟩
theorem JnX.flag {w : World} {lo g n gF cF gN cN : Nat} {LF LN : List Value} {ok : Bool} (h : JnX w lo g n gF cF gN cN LF LN ok) (b : Bool) : JnX (w.setCell ⟨g, 2, none⟩ (.bool b)) lo g n gF cF gN cN LF LN b := by
  have hg := grown_set w g 2 (.bool b)
  have c0 := h.c0
  have c1 := h.c1
  have c2 := h.c2
  have f2 := h.f2
  exact ⟨h.hg, Nat.lt_of_lt_of_le h.lg hg.size, h.nF, h.nN, h.nFN, by simp [go_sem, c0], by simp [go_sem, c1], by simp [go_sem, c2], by simp [go_sem, f2],
    h.oF.kept hg (.inr (by simp [Value.ownBlock]; exact fun e => h.nF e.symm)), h.oN.kept hg (.inr (by simp [Value.ownBlock]; exact fun e => h.nN e.symm))⟩
theorem JnX.two {w : World} {lo g n gF cF gN cN j : Nat} {LF LN X R Y S : List Value} {x y : Value} {ok : Bool} (h : JnX w lo g n gF cF gN cN LF LN ok)
    (eF : LF = X ++ x :: R) (eN : LN = Y ++ y :: S) (lF : X.length = j) (lN : Y.length = j) (u v : Value) :
    JnX ((w.setCell ⟨gF, j, none⟩ u).setCell ⟨gN, j, none⟩ v) lo g n gF cF gN cN (X ++ u :: R) (Y ++ v :: S) ok := by
  have g1 := (h.oF.stored j u).2
  have n1 := h.oN.kept g1 (.inr (by simp [Value.ownBlock]; exact fun e => h.nFN e.symm))
  have g2 := (n1.stored j v).2
  have far : ∀ (o : Nat) (z : Value), w.cell? ⟨g, o, none⟩ = some z → ((w.setCell ⟨gF, j, none⟩ u).setCell ⟨gN, j, none⟩ v).cell? ⟨g, o, none⟩ = some z :=
    fun o z hz => g2.cell (g1.cell hz (by simp; exact h.nF)) (by simp; exact h.nN)
  have e1 := eF
  have e2 := eN
  subst eF eN
  have r1 := own_set h.oF lF.symm u
  exact ⟨h.hg, Nat.lt_of_lt_of_le h.lg (Nat.le_trans g1.size g2.size), h.nF, h.nN, h.nFN, far _ _ h.c0, far _ _ h.c1, far _ _ h.c2, by
      rw [World.frozen?_setCell, World.frozen?_setCell]; exact h.f2,
    r1.kept g2 (.inr (by simp [Value.ownBlock]; exact h.nFN)), own_set n1 lN.symm v⟩
theorem JnX.sizeF {w : World} {lo g n gF cF gN cN : Nat} {LF LN : List Value} {ok : Bool} (h : JnX w lo g n gF cF gN cN LF LN ok) : lo ≤ gF ∧ gF < w.heap.size ∧ lo ≤ gN ∧ gN < w.heap.size :=
  ⟨(h.oF.lt gF rfl).1, (h.oF.lt gF rfl).2, (h.oN.lt gN rfl).1, (h.oN.lt gN rfl).2⟩
theorem below_lo {lo : Nat} {w W : World} (h : Below w.heap.size w W) (hl : lo ≤ w.heap.size) : Below lo w W := h.mono hl
def AddRes (lo g n : Nat) (q : Jn) (w : World) (e : Ending) (w' : World) : Prop := e = .returned (.tuple #[]) ∧ JnW w' lo g n q ∧ Below lo w w'
theorem Below.alo {lo : Nat} {a w : World} (h : Below lo a w) (hl : lo ≤ w.heap.size) (o : Obj) : Below lo a (w.alloc o) := h.alloc hl o
theorem Below.sc' {lo : Nat} {a w : World} (h : Below lo a w) {p : Addr} (hp : lo ≤ p.block) (u : Value) : Below lo a (w.setCell p u) := h.setCell hp u
set_option maxRecDepth 20000 in
set_option maxHeartbeats 8000000 in
theorem l20Add_any (n lo g : Nat) (p : Jn) (M : Int) (a b : Nat) (d : Int) (w : World) (JW : JnW w lo g n p) (hlo : lo ≤ w.heap.size) (JK : Hid (JnOk n M p)) (M0 : 0 ≤ M) (M1 : M ≤ 1500000000) (hab : a < b) (hbn : b < n) (d1 : -5000 ≤ d) (d2 : d ≤ 5000) (n2 : n ≤ 10) :
    Calls Try.prog 45 #[.pointer (some ⟨g, 0, none⟩), .agg #[.int .i64 (a : Int), .int .i64 (b : Int), .int .i64 d]] w (AddRes lo g n (jnStep p ⟨a, b, d⟩) w) := by
  obtain ⟨gF, cF, gN, cN, JX⟩ := JW
  obtain ⟨x, u, hx, hu, x1, x2, u1, u2⟩ := jn_read JK.out (i := a) (by omega)
  obtain ⟨y, v, hy, hv, y1, y2, v1, v2⟩ := jn_read JK.out (i := b) (by omega)
  have lf := JK.out.lf
  have ln := JK.out.ln
  obtain ⟨z1, zF, z3, zN⟩ := JX.sizeF
  have ex : w.cell? ⟨gF, a, none⟩ = some (.int .i64 x) := by (have := JX.oF.cellAt a (by omega); rw [this]; simp [fI, hx])
  have ey : w.cell? ⟨gF, b, none⟩ = some (.int .i64 y) := by (have := JX.oF.cellAt b (by omega); rw [this]; simp [fI, hy])
  have eu : w.cell? ⟨gN, a, none⟩ = some (.int .i64 u) := by (have := JX.oN.cellAt a (by omega); rw [this]; simp [fI, hu])
  have ev : w.cell? ⟨gN, b, none⟩ = some (.int .i64 v) := by (have := JX.oN.cellAt b (by omega); rw [this]; simp [fI, hv])
  have k0 := JX.c0
  have k1 := JX.c1
  have k2 := JX.c2
  have k3 := JX.f2
  have kg := JX.hg
  have kl := JX.lg
  have ne1 := JX.nF
  have ne2 := JX.nN
  have ne3 := JX.nFN
  have ne1' : ¬ gF = g := fun e => ne1 e.symm
  have ne2' : ¬ gN = g := fun e => ne2 e.symm
  have ne3' : ¬ gN = gF := fun e => ne3 e.symm
  have k4 : (w.alloc (.cells #[.int .i64 (a : Int), .int .i64 (b : Int), .int .i64 d] 47)).frozen? ⟨g, 2, none⟩ = false := (World.frozen?_alloc_old w _ _ (by simp; omega)).trans k3
  have la : a < n := by omega
  have hJX := hid JX
  clear JX
  have JX := hJX
  clear hJX
  by_cases he : x = y
  · have he' : (x == y) = true := by simpa using he
    have HJ : Hid (jnStep p ⟨a, b, d⟩ = ⟨p.F, p.N, p.ok && decide (u + d - v = 0)⟩) := hid (by rw [jnStep_eq hx hy hu hv, if_pos he])
    clear hx hy hu hv
    cases hok : p.ok
    · rw [hok] at HJ k2
      have HJ2 : Hid (jnStep p ⟨a, b, d⟩ = ⟨p.F, p.N, false⟩) := hid (by rw [HJ.out]; rfl)
      clear HJ
      have HJ := HJ2
      go_enter Try.func45, Try.ntmps45
      go_wp2_with fail
      go_region
      go_wp2_with fail
      go_region
      go_wp2_with fail
      go_region
      go_wp2
      first
        | go_end0
        | refine bodyPost_ret (v := .tuple #[]) (by simp [results, Try.results45, go_sem]) rfl ?_
      refine ⟨rfl, ⟨gF, cF, gN, cN, ?_⟩, ?_⟩
      · rw [HJ.out]
        exact (JX.out.flag (false)).below (by repeat (first | assumption | exact Below.refl _ _ | apply Below.al | apply Below.drewN' | apply Below.drew | (refine Below.sc ?_ (by omega) _)))
      · (repeat (first | apply Below.drew | (refine Below.alo ?_ (by first | exact hlo | (simp; omega)) _) | (refine Below.sc' ?_ (by omega) _) | exact Below.refl _ _))
    · rw [hok] at HJ k2
      have HJ2 : Hid (jnStep p ⟨a, b, d⟩ = ⟨p.F, p.N, v - u == d⟩) := hid (by rw [HJ.out, Bool.true_and]; congr 1; rw [Bool.eq_iff_iff]; simp; omega)
      clear HJ
      have HJ := HJ2
      go_enter Try.func45, Try.ntmps45
      go_wp2_with fail
      go_region
      go_wp2_with fail
      go_region
      go_wp2_with fail
      go_region
      go_wp2
      first
        | go_end0
        | refine bodyPost_ret (v := .tuple #[]) (by simp [results, Try.results45, go_sem]) rfl ?_
      refine ⟨rfl, ⟨gF, cF, gN, cN, ?_⟩, ?_⟩
      · rw [HJ.out]
        exact (JX.out.flag (v - u == d)).below (by repeat (first | assumption | exact Below.refl _ _ | apply Below.al | apply Below.drewN' | apply Below.drew | (refine Below.sc ?_ (by omega) _)))
      · (repeat (first | apply Below.drew | (refine Below.alo ?_ (by first | exact hlo | (simp; omega)) _) | (refine Below.sc' ?_ (by omega) _) | exact Below.refl _ _))
  · have he' : (x == y) = false := by simpa using he
    by_cases hl : y < x
    · go_enter Try.func45, Try.ntmps45
      have HJ : Hid (jnStep p ⟨a, b, d⟩ = ⟨upF x y p.F, upN x (-(u + d - v)) p.F p.N, p.ok⟩) := hid (by rw [jnStep_eq hx hy hu hv]; rw [if_neg he, if_pos hl])
      clear hx hy hu hv
      have a_0 : g < w.heap.size + 1 := by omega
      have b_0 : gF < w.heap.size + 1 := by omega
      have c_0 : gN < w.heap.size + 1 := by omega
      go_wp2_with fail
      refine wp_region_ext (by kernel_rfl) (by kernel_rfl) ?_
      repeat (go_big_quiet_step ((first | fail)))
      refine wpQuiet_nil ?_
      intro w3 hb_w3
      obtain ⟨hc_w3, hf_w3⟩ := bcell hb_w3
      have hz_w3 := hb_w3.size
      simp at hz_w3
      have a_w3 : g < w3.heap.size := by omega
      have b_w3 : gF < w3.heap.size := by omega
      have c_w3 : gN < w3.heap.size := by omega
      have d_w3 : w.heap.size < w3.heap.size := by omega
      go_wp2_with fail
      refine wp_region_ext (by kernel_rfl) (by kernel_rfl) ?_
      repeat (go_big_quiet_step ((first | fail)))
      refine wpQuiet_nil ?_
      intro w4 hb_w4
      obtain ⟨hc_w4, hf_w4⟩ := bcell hb_w4
      have hz_w4 := hb_w4.size
      have a_w4 : g < w4.heap.size := by omega
      have b_w4 : gF < w4.heap.size := by omega
      have c_w4 : gN < w4.heap.size := by omega
      have d_w4 : w.heap.size < w4.heap.size := by omega
      go_wp2_with fail
      refine wp_region_ext (by kernel_rfl) (by kernel_rfl) ?_
      repeat (go_big_quiet_step ((first | fail)))
      refine wpQuiet_nil ?_
      intro w5 hb_w5
      obtain ⟨hc_w5, hf_w5⟩ := bcell hb_w5
      have hz_w5 := hb_w5.size
      have a_w5 : g < w5.heap.size := by omega
      have b_w5 : gF < w5.heap.size := by omega
      have c_w5 : gN < w5.heap.size := by omega
      have d_w5 : w.heap.size < w5.heap.size := by omega
      have bW : Below w.heap.size w w5 := Below.tr hb_w5 (Below.tr hb_w4 (Below.tr hb_w3 (Below.al (Below.refl _ _) _)))
      have JX0 := hid (JX.out.below bW)
      have hb0 : Hid (Below lo w w5) := hid (below_lo bW hlo)
      clear JX ex ey eu ev k0 k1 k2 k3 k4 zF zN kl a_0 b_0 c_0 hc_w3 hf_w3 hc_w4 hf_w4 hc_w5 hf_w5 a_w3 b_w3 c_w3 d_w3 a_w4 b_w4 c_w4 d_w4 a_w5 b_w5 c_w5 d_w5 hb_w3 hb_w4 hb_w5 bW
      go_wp2
      go_loopw [9] (fun i wr => ∃ j : Nat, j ≤ n ∧ i = .int .i64 j ∧ Below lo w wr ∧ JnX wr lo g n gF cF gN cN (fI (mixF x y p.F j)) (fI (mixN x (-(u + d - v)) p.F p.N j)) p.ok) (fun i _ => n - (intOf i).toNat)
      case atStart => exact ⟨0, Nat.zero_le _, rfl, hb0.out, by rw [mixF_zero, mixN_zero]; exact JX0.out⟩
      case round =>
        clear JX0 hb0
        obtain ⟨j, hj, rfl, hb2, JX2⟩ := hrel
        obtain ⟨z1, z2, z3, z4⟩ := JX2.sizeF
        have k0 := JX2.c0
        have k1 := JX2.c1
        have k9 := JX2.lg
        by_cases hlj : j < n
        · obtain ⟨x', y', hx', hy', x1', x2', y1', y2'⟩ := jn_read JK.out hlj
          have f0 : wr.cell? ⟨gF, j, none⟩ = some (.int .i64 x') := by
            have := JX2.oF.cellAt j (by omega)
            rw [mixF_split hx', List.getElem?_append_right (by rw [upF_take_len (by omega)]; omega), upF_take_len (by omega)] at this
            simpa using this
          have n0 : wr.cell? ⟨gN, j, none⟩ = some (.int .i64 y') := by
            have := JX2.oN.cellAt j (by omega)
            rw [mixN_split hy', List.getElem?_append_right (by rw [upN_take_len (by omega) (by omega)]; omega), upN_take_len (by omega) (by omega)] at this
            simpa using this
          have f1 : wr.frozen? ⟨gF, j, none⟩ = false := JX2.oF.frozenAt _
          have n1' : wr.frozen? ⟨gN, j, none⟩ = false := JX2.oN.frozenAt _
          have EF : Hid (fI (mixF x y p.F j) = fI (upF x y (p.F.take j)) ++ .int .i64 x' :: fI (p.F.drop (j + 1))) := hid (mixF_split hx')
          have EN : Hid (fI (mixN x (-(u + d - v)) p.F p.N j) = fI (upN x (-(u + d - v)) (p.F.take j) (p.N.take j)) ++ .int .i64 y' :: fI (p.N.drop (j + 1))) := hid (mixN_split hy')
          have EF2 := hid (mixF_succ (g := x) (kp := y) hx')
          have EN2 := hid (mixN_succ (g := x) (s := -(u + d - v)) hx' hy')
          have LF := hid (upF_take_len (g := x) (kp := y) (F := p.F) (k := j) (by omega))
          have LN := hid (upN_take_len (g := x) (s := -(u + d - v)) (F := p.F) (N := p.N) (k := j) (by omega) (by omega))
          have JH := hid JX2
          clear hx' hy' JX2
          by_cases hg : x' = x
          · have hg' : (x' == x) = true := by simpa using hg
            go_wp2
            go_roundw
            case rel =>
              have t := JH.out.two EF.out EN.out LF.out LN.out (.int .i64 y) (.int .i64 (y' + (-(u + d - v))))
              refine ⟨j + 1, by omega, by go_num, (by repeat (first | assumption | (refine Below.sc' ?_ (by omega) _))), ?_⟩
              rw [EF2.out, if_pos hg, EN2.out, if_pos hg]; exact t
            case measure => simp [intOf]; omega
          · have hg' : (x' == x) = false := by simpa using hg
            go_wp2
            go_roundw
            case rel => exact ⟨j + 1, by omega, by go_num, hb2, by rw [EF2.out, if_neg hg, ← EF.out, EN2.out, if_neg hg, ← EN.out]; exact JH.out⟩
            case measure => simp [intOf]; omega
        · obtain rfl : j = n := by omega
          have JH := hid JX2
          clear JX2
          go_wp2
          first
            | go_end0
            | refine bodyPost_ret (v := .tuple #[]) (by simp [results, Try.results45, go_sem]) rfl ?_
          refine ⟨rfl, ⟨gF, cF, gN, cN, ?_⟩, hb2⟩
          rw [HJ.out]
          have t := JH.out
          rw [mixF_end (by omega), mixN_end (by omega) (by omega)] at t
          exact t
    · go_enter Try.func45, Try.ntmps45
      have HJ : Hid (jnStep p ⟨a, b, d⟩ = ⟨upF y x p.F, upN y (u + d - v) p.F p.N, p.ok⟩) := hid (by rw [jnStep_eq hx hy hu hv]; rw [if_neg he, if_neg hl])
      clear hx hy hu hv
      have a_0 : g < w.heap.size + 1 := by omega
      have b_0 : gF < w.heap.size + 1 := by omega
      have c_0 : gN < w.heap.size + 1 := by omega
      go_wp2_with fail
      refine wp_region_ext (by kernel_rfl) (by kernel_rfl) ?_
      repeat (go_big_quiet_step ((first | fail)))
      refine wpQuiet_nil ?_
      intro w3 hb_w3
      obtain ⟨hc_w3, hf_w3⟩ := bcell hb_w3
      have hz_w3 := hb_w3.size
      simp at hz_w3
      have a_w3 : g < w3.heap.size := by omega
      have b_w3 : gF < w3.heap.size := by omega
      have c_w3 : gN < w3.heap.size := by omega
      have d_w3 : w.heap.size < w3.heap.size := by omega
      go_wp2_with fail
      refine wp_region_ext (by kernel_rfl) (by kernel_rfl) ?_
      repeat (go_big_quiet_step ((first | fail)))
      refine wpQuiet_nil ?_
      intro w4 hb_w4
      obtain ⟨hc_w4, hf_w4⟩ := bcell hb_w4
      have hz_w4 := hb_w4.size
      have a_w4 : g < w4.heap.size := by omega
      have b_w4 : gF < w4.heap.size := by omega
      have c_w4 : gN < w4.heap.size := by omega
      have d_w4 : w.heap.size < w4.heap.size := by omega
      go_wp2_with fail
      refine wp_region_ext (by kernel_rfl) (by kernel_rfl) ?_
      repeat (go_big_quiet_step ((first | fail)))
      refine wpQuiet_nil ?_
      intro w5 hb_w5
      obtain ⟨hc_w5, hf_w5⟩ := bcell hb_w5
      have hz_w5 := hb_w5.size
      have a_w5 : g < w5.heap.size := by omega
      have b_w5 : gF < w5.heap.size := by omega
      have c_w5 : gN < w5.heap.size := by omega
      have d_w5 : w.heap.size < w5.heap.size := by omega
      have bW : Below w.heap.size w w5 := Below.tr hb_w5 (Below.tr hb_w4 (Below.tr hb_w3 (Below.al (Below.refl _ _) _)))
      have JX0 := hid (JX.out.below bW)
      have hb0 : Hid (Below lo w w5) := hid (below_lo bW hlo)
      clear JX ex ey eu ev k0 k1 k2 k3 k4 zF zN kl a_0 b_0 c_0 hc_w3 hf_w3 hc_w4 hf_w4 hc_w5 hf_w5 a_w3 b_w3 c_w3 d_w3 a_w4 b_w4 c_w4 d_w4 a_w5 b_w5 c_w5 d_w5 hb_w3 hb_w4 hb_w5 bW
      go_wp2
      go_loopw [9] (fun i wr => ∃ j : Nat, j ≤ n ∧ i = .int .i64 j ∧ Below lo w wr ∧ JnX wr lo g n gF cF gN cN (fI (mixF y x p.F j)) (fI (mixN y (u + d - v) p.F p.N j)) p.ok) (fun i _ => n - (intOf i).toNat)
      case atStart => exact ⟨0, Nat.zero_le _, rfl, hb0.out, by rw [mixF_zero, mixN_zero]; exact JX0.out⟩
      case round =>
        clear JX0 hb0
        obtain ⟨j, hj, rfl, hb2, JX2⟩ := hrel
        obtain ⟨z1, z2, z3, z4⟩ := JX2.sizeF
        have k0 := JX2.c0
        have k1 := JX2.c1
        have k9 := JX2.lg
        by_cases hlj : j < n
        · obtain ⟨x', y', hx', hy', x1', x2', y1', y2'⟩ := jn_read JK.out hlj
          have f0 : wr.cell? ⟨gF, j, none⟩ = some (.int .i64 x') := by
            have := JX2.oF.cellAt j (by omega)
            rw [mixF_split hx', List.getElem?_append_right (by rw [upF_take_len (by omega)]; omega), upF_take_len (by omega)] at this
            simpa using this
          have n0 : wr.cell? ⟨gN, j, none⟩ = some (.int .i64 y') := by
            have := JX2.oN.cellAt j (by omega)
            rw [mixN_split hy', List.getElem?_append_right (by rw [upN_take_len (by omega) (by omega)]; omega), upN_take_len (by omega) (by omega)] at this
            simpa using this
          have f1 : wr.frozen? ⟨gF, j, none⟩ = false := JX2.oF.frozenAt _
          have n1' : wr.frozen? ⟨gN, j, none⟩ = false := JX2.oN.frozenAt _
          have EF : Hid (fI (mixF y x p.F j) = fI (upF y x (p.F.take j)) ++ .int .i64 x' :: fI (p.F.drop (j + 1))) := hid (mixF_split hx')
          have EN : Hid (fI (mixN y (u + d - v) p.F p.N j) = fI (upN y (u + d - v) (p.F.take j) (p.N.take j)) ++ .int .i64 y' :: fI (p.N.drop (j + 1))) := hid (mixN_split hy')
          have EF2 := hid (mixF_succ (g := y) (kp := x) hx')
          have EN2 := hid (mixN_succ (g := y) (s := u + d - v) hx' hy')
          have LF := hid (upF_take_len (g := y) (kp := x) (F := p.F) (k := j) (by omega))
          have LN := hid (upN_take_len (g := y) (s := u + d - v) (F := p.F) (N := p.N) (k := j) (by omega) (by omega))
          have JH := hid JX2
          clear hx' hy' JX2
          by_cases hg : x' = y
          · have hg' : (x' == y) = true := by simpa using hg
            go_wp2
            go_roundw
            case rel =>
              have t := JH.out.two EF.out EN.out LF.out LN.out (.int .i64 x) (.int .i64 (y' + (u + d - v)))
              refine ⟨j + 1, by omega, by go_num, (by repeat (first | assumption | (refine Below.sc' ?_ (by omega) _))), ?_⟩
              rw [EF2.out, if_pos hg, EN2.out, if_pos hg]; exact t
            case measure => simp [intOf]; omega
          · have hg' : (x' == y) = false := by simpa using hg
            go_wp2
            go_roundw
            case rel => exact ⟨j + 1, by omega, by go_num, hb2, by rw [EF2.out, if_neg hg, ← EF.out, EN2.out, if_neg hg, ← EN.out]; exact JH.out⟩
            case measure => simp [intOf]; omega
        · obtain rfl : j = n := by omega
          have JH := hid JX2
          clear JX2
          go_wp2
          first
            | go_end0
            | refine bodyPost_ret (v := .tuple #[]) (by simp [results, Try.results45, go_sem]) rfl ?_
          refine ⟨rfl, ⟨gF, cF, gN, cN, ?_⟩, hb2⟩
          rw [HJ.out]
          have t := JH.out
          rw [mixF_end (by omega), mixN_end (by omega) (by omega)] at t
          exact t
end Go.Proofs.Ytalongdieglibaa
