/- Contract: the program's function that tells the sets of linked stars and their numbers. -/
import Derived.Test.YtalongdieglibaaC20k
import Derived.BigRegion
namespace Go.Proofs.Ytalongdieglibaa
open Go.RowKit
set_option linter.unusedVariables false
/-- What the program's offsets ends in. -/
def OffRes (n : Nat) (p : Jn) (w : World) (e : Ending) (w' : World) : Prop :=
  ∃ gF cF gN cN, e = .returned (.tuple #[.slice (some ⟨gF, 0, none⟩) n cF, .slice (some ⟨gN, 0, none⟩) n cN, .bool p.ok]) ∧ w'.ownsRow w.heap.size 2 1 (.slice (some ⟨gF, 0, none⟩) n cF) n (fI p.F) ∧ w'.ownsRow w.heap.size 2 1 (.slice (some ⟨gN, 0, none⟩) n cN) n (fI p.N) ∧ Below w.heap.size w w'
theorem two_made (w : World) (n : Nat) (hn : n ≤ 10) : ((w.alloc (.cells (madeCells #[.int .i64 0] n) 2)).alloc (.cells (madeCells #[.int .i64 0] n) 2)).drew.ownsRow w.heap.size 2 1 (.slice (some ⟨w.heap.size, 0, none⟩) n n) n (List.replicate n (.int .i64 0)) ∧ ((w.alloc (.cells (madeCells #[.int .i64 0] n) 2)).alloc (.cells (madeCells #[.int .i64 0] n) 2)).drew.ownsRow w.heap.size 2 1 (.slice (some ⟨w.heap.size + 1, 0, none⟩) n n) n (List.replicate n (.int .i64 0)) ∧ Below w.heap.size w ((w.alloc (.cells (madeCells #[.int .i64 0] n) 2)).alloc (.cells (madeCells #[.int .i64 0] n) 2)).drew := by
  have m : n ≤ maxLen := by unfold maxLen; omega
  have s : (madeCells #[.int .i64 0] n).size = n * 1 := by simp [madeCells]
  have e0 := World.ownsRow_lit (base := w.heap.size) (e := 2) (size := 1) w (madeCells #[.int .i64 0] n) n (Nat.le_refl _) m s
  have e1 := World.ownsRow_lit (base := w.heap.size) (e := 2) (size := 1) (w.alloc (.cells (madeCells #[.int .i64 0] n) 2)) (madeCells #[.int .i64 0] n) n (by simp) m s
  rw [toList_madeCells_one] at e0 e1
  have hz : (World.heap (w.alloc (.cells (madeCells #[.int .i64 0] n) 2))).size = w.heap.size + 1 := by simp
  rw [hz] at e1
  exact ⟨(e0.alloc _).drew, e1.drew, (by repeat (first | assumption | exact Below.refl _ _ | apply Below.al | apply Below.drewN' | apply Below.drew | (apply Below.tr; assumption)))⟩
/-- A store into each of two rows. -/
theorem own_two {w : World} {lo n gF cF gN cN j : Nat} {LF LN : List Value} {X R Y S : List Value} {x y : Value} (oF : w.ownsRow lo 2 1 (.slice (some ⟨gF, 0, none⟩) n cF) n LF) (oN : w.ownsRow lo 2 1 (.slice (some ⟨gN, 0, none⟩) n cN) n LN) (hne : ¬ gF = gN)
    (eF : LF = X ++ x :: R) (eN : LN = Y ++ y :: S) (lF : X.length = j) (lN : Y.length = j) (u v : Value) :
    ((w.setCell ⟨gF, j, none⟩ u).setCell ⟨gN, j, none⟩ v).ownsRow lo 2 1 (.slice (some ⟨gF, 0, none⟩) n cF) n (X ++ u :: R) ∧ ((w.setCell ⟨gF, j, none⟩ u).setCell ⟨gN, j, none⟩ v).ownsRow lo 2 1 (.slice (some ⟨gN, 0, none⟩) n cN) n (Y ++ v :: S) := by
  subst eF eN
  have f1 := own_set oF lF.symm u
  have n1 := oN.kept (oF.stored j u).2 (.inr (by simp [Value.ownBlock]; omega))
  exact ⟨f1.kept (n1.stored j v).2 (.inr (by simp [Value.ownBlock]; omega)), own_set n1 lN.symm v⟩
set_option maxRecDepth 20000 in
set_option maxHeartbeats 8000000 in
theorem offsets_any (n : Nat) (A : Option Addr) (c : Nat) (xs : List Lk) (w : World) (h : Rd encLk 3 w w.heap.size A xs) (n1 : 1 ≤ n) (n2 : n ≤ 10) (hn : xs.length ≤ 12) (V : Hid (∀ (k : Nat) (p : Lk), xs[k]? = some p → 0 ≤ p.a ∧ p.a < p.b ∧ p.b < n ∧ -5000 ≤ p.d ∧ p.d ≤ 5000)) :
    Calls Try.prog 33 #[.int .i64 (n : Int), .slice A xs.length c] w (OffRes n (jnRun (jn0 n) xs) w) := by
  obtain ⟨i0, hi0, iz0, iz1, iz2⟩ := info_parts (P := Try.prog) (e := 2) (z := .int .i64 0) (size := 1) (bytes := 8) (by kernel_rfl)
  have hmk : ∀ W : World, (Instr.makeSlice 36 (.int .i64 (n : Int)) (.int .i64 (n : Int))).run Try.prog W = .ok (.slice (some ⟨W.heap.size, 0, none⟩) n n) (W.alloc (.cells (madeCells #[.int .i64 0] n) 2)) := fun W => by
    have h0 := run_make (P := Try.prog) (w := W) 36 2 i0 (.int .i64 0) Try.underlying36 hi0 iz0 .i64 .i64 n n (by omega) (Int.le_refl _) (by rw [iz2]; omega) (by omega)
    rw [iz1] at h0
    simpa [Value.cells] using h0
  obtain ⟨o1, o2, hb00⟩ := two_made w n n2
  go_enter Try.func33, Try.ntmps33
  go_wp2
  go_region
  · obtain ⟨gF, hgF⟩ : ∃ g, g = w.heap.size := ⟨_, rfl⟩
    obtain ⟨gN, hgN⟩ : ∃ g, g = w.heap.size + 1 := ⟨_, rfl⟩
    have OF : Hid (((w.alloc (.cells (madeCells #[.int .i64 0] n) 2)).alloc (.cells (madeCells #[.int .i64 0] n) 2)).drew.ownsRow w.heap.size 2 1 (.slice (some ⟨gF, 0, none⟩) n n) n (List.replicate n (.int .i64 0))) := hid (by rw [hgF]; exact o1)
    have ON : Hid (((w.alloc (.cells (madeCells #[.int .i64 0] n) 2)).alloc (.cells (madeCells #[.int .i64 0] n) 2)).drew.ownsRow w.heap.size 2 1 (.slice (some ⟨gN, 0, none⟩) n n) n (List.replicate n (.int .i64 0))) := hid (by rw [hgN]; exact o2)
    have HB := hid hb00
    clear o1 o2 hb00 hmk
    rw [← hgN, ← hgF]
    generalize ((w.alloc (.cells (madeCells #[.int .i64 0] n) 2)).alloc (.cells (madeCells #[.int .i64 0] n) 2)).drew = W0 at *
    have hne : ¬ gF = gN := by omega
    have hne' : ¬ gN = gF := by omega
    have hb0 : Below w.heap.size w W0 := HB.out
    have gF0 : w.heap.size ≤ gF := by omega
    have gN0 : w.heap.size ≤ gN := by omega
    clear hgF hgN
    go_wp2
    go_loopw [23] (fun i wr => ∃ k : Nat, k ≤ n ∧ i = .int .i64 k ∧ Below w.heap.size w wr ∧ wr.ownsRow w.heap.size 2 1 (.slice (some ⟨gF, 0, none⟩) n n) n (fI ((List.range k).map fun (i : Nat) => (i : Int)) ++ List.replicate (n - k) (.int .i64 0)) ∧ wr.ownsRow w.heap.size 2 1 (.slice (some ⟨gN, 0, none⟩) n n) n (List.replicate n (.int .i64 0))) (fun i _ => n - (intOf i).toNat)
    case atStart => exact ⟨0, Nat.zero_le _, rfl, hb0, by simpa [fI] using OF.out, ON.out⟩
    case round =>
      obtain ⟨k, hk, rfl, hb, oF, oN⟩ := hrel
      by_cases hlt : k < n
      · have hml : (fI ((List.range k).map fun (i : Nat) => (i : Int))).length = k := by simp [fI]
        have hrp : List.replicate (n - k) (Value.int .i64 0) = .int .i64 0 :: List.replicate (n - (k + 1)) (.int .i64 0) := by rw [← List.replicate_succ]; congr 1; omega
        have f0 : wr.cell? ⟨gF, k, none⟩ = some (.int .i64 0) := by
          have := oF.cellAt k (by omega)
          rw [List.getElem?_append_right (by omega), hml, Nat.sub_self, hrp] at this
          simpa using this
        have f1 : wr.frozen? ⟨gF, k, none⟩ = false := oF.frozenAt _
        have HF := hid oF
        have HN := hid oN
        have HR := hid hrp
        have HL := hid hml
        clear oF oN hrp hml
        go_wp2
        go_roundw
        case rel =>
          have h1 := HF.out
          rw [HR.out] at h1
          have t := own_set h1 HL.out.symm (.int .i64 k)
          refine ⟨k + 1, by omega, by go_num, Below.sc hb gF0 _, ?_, HN.out.kept (h1.stored k _).2 (.inr (by simp [Value.ownBlock]; omega))⟩
          rw [List.range_succ]
          simpa [fI] using t
        case measure => simp [intOf]; omega
      · obtain rfl : k = n := by omega
        have HF : Hid (wr.ownsRow w.heap.size 2 1 (.slice (some ⟨gF, 0, none⟩) k k) k (fI (jn0 k).F)) := hid (by simpa [jn0] using oF)
        have HN : Hid (wr.ownsRow w.heap.size 2 1 (.slice (some ⟨gN, 0, none⟩) k k) k (fI (jn0 k).N)) := hid (by simpa [jn0, fI] using oN)
        clear oF oN hk hlt OF ON HB hb0
        go_wp2
        obtain ⟨n, rfl⟩ : ∃ n, n = k := ⟨_, rfl⟩
        go_loopw [10, 33] (fun fv i wr => ∃ (k : Nat) (p : Jn), k ≤ xs.length ∧ i = .int .i64 k ∧ fv = .bool p.ok ∧ Below w.heap.size w wr ∧ wr.ownsRow w.heap.size 2 1 (.slice (some ⟨gF, 0, none⟩) n n) n (fI p.F) ∧ wr.ownsRow w.heap.size 2 1 (.slice (some ⟨gN, 0, none⟩) n n) n (fI p.N) ∧ Hid (JnOk n (bdN k) p) ∧ Hid (jnRun (jn0 n) xs = jnRun p (xs.drop k))) (fun _ i _ => xs.length - (intOf i).toNat)
        case atStart => exact ⟨0, jn0 n, Nat.zero_le _, rfl, rfl, hb, HF.out, HN.out, hid (jn0_ok n), hid rfl⟩
        case round =>
          clear hb HF HN
          obtain ⟨k, p, hk, rfl, rfl, hb, oF, oN, JK, H⟩ := hrel
          have hsz := hb.size
          by_cases hlt : k < xs.length
          · obtain ⟨q, hq⟩ := getx hlt
            obtain ⟨a, b, d⟩ := q
            obtain ⟨bb, o, rfl, hbB, c0, c1, c2⟩ := (h.below hb (Nat.le_refl _)).at3 hq rfl
            obtain ⟨q1, q2, q3, q4, q5⟩ := V.out k _ hq
            simp only at q1 q2 q3 q4 q5 c0 c1 c2
            obtain ⟨a, rfl⟩ : ∃ n : Nat, a = n := ⟨a.toNat, by omega⟩
            obtain ⟨b, rfl⟩ : ∃ n : Nat, b = n := ⟨b.toNat, by omega⟩
            have HS : Hid (jnRun p (xs.drop k) = jnRun (jnStep p ⟨a, b, d⟩) (xs.drop (k+1))) := by rw [dropx hq]; rfl
            obtain ⟨M0, M1⟩ := bdN_le (k := k) (by omega)
            have HO : Hid (JnOk n (bdN (k + 1)) (jnStep p ⟨a, b, d⟩)) := hid (jnStep_ok JK.out M0 (V.out k _ hq))
            obtain ⟨x, u, hx, hu, x1, x2, u1, u2⟩ := jn_read JK.out (i := a) (by omega)
            obtain ⟨y, v, hy, hv, y1, y2, v1, v2⟩ := jn_read JK.out (i := b) (by omega)
            have lf := JK.out.lf
            have ln := JK.out.ln
            have ex : wr.cell? ⟨gF, a, none⟩ = some (.int .i64 x) := by (have := oF.cellAt a (by omega); rw [this]; simp [fI, hx])
            have ey : wr.cell? ⟨gF, b, none⟩ = some (.int .i64 y) := by (have := oF.cellAt b (by omega); rw [this]; simp [fI, hy])
            have eu : wr.cell? ⟨gN, a, none⟩ = some (.int .i64 u) := by (have := oN.cellAt a (by omega); rw [this]; simp [fI, hu])
            have ev : wr.cell? ⟨gN, b, none⟩ = some (.int .i64 v) := by (have := oN.cellAt b (by omega); rw [this]; simp [fI, hv])
            have zF : gF < wr.heap.size := (oF.lt gF rfl).2
            have zN : gN < wr.heap.size := (oN.lt gN rfl).2
            have zb : bb < wr.heap.size := by omega
            have la : a < n := by omega
            have lb : b < n := by omega
            have HF := hid oF
            have HN := hid oN
            generalize bdN k = M at *
            clear hq oF oN
            by_cases he : x = y
            · have he' : (x == y) = true := by simpa using he
              have HJ : Hid (jnStep p ⟨a, b, d⟩ = ⟨p.F, p.N, p.ok && decide (u + d - v = 0)⟩) := hid (by rw [jnStep_eq hx hy hu hv, if_pos he])
              clear hx hy hu hv
              cases hok : p.ok
              · have a_0 : gF < wr.heap.size + 1 := by omega
                have b_0 : gN < wr.heap.size + 1 := by omega
                go_wp2_with fail
                refine wp_region_ext (by kernel_rfl) (by kernel_rfl) ?_
                repeat (go_big_quiet_step ((first | fail)))
                refine wpQuiet_nil ?_
                intro w3 hb_w3
                obtain ⟨hc_w3, hf_w3⟩ := bcell hb_w3
                have hz_w3 := hb_w3.size
                simp at hz_w3
                have a_w3 : gF < w3.heap.size := by omega
                have b_w3 : gN < w3.heap.size := by omega
                have d_w3 : wr.heap.size < w3.heap.size := by omega
                go_wp2_with fail
                refine wp_region_ext (by kernel_rfl) (by kernel_rfl) ?_
                repeat (go_big_quiet_step ((first | fail)))
                refine wpQuiet_nil ?_
                intro w4 hb_w4
                obtain ⟨hc_w4, hf_w4⟩ := bcell hb_w4
                have hz_w4 := hb_w4.size
                have a_w4 : gF < w4.heap.size := by omega
                have b_w4 : gN < w4.heap.size := by omega
                have d_w4 : wr.heap.size < w4.heap.size := by omega
                have bW : Below wr.heap.size wr w4 := Below.tr hb_w4 (Below.tr hb_w3 (Below.al (Below.refl _ _) _))
                go_wp2
                go_roundw
                case rel => exact ⟨k + 1, jnStep p ⟨a, b, d⟩, by omega, by go_num, by rw [HJ.out, hok]; rfl, Below.tr bW hb, by rw [HJ.out]; exact own_below HF.out bW (Nat.le_refl _), by rw [HJ.out]; exact own_below HN.out bW (Nat.le_refl _), HO, hid (by rw [H.out, HS.out])⟩
                case measure => simp [intOf]; omega
              · have a_0 : gF < wr.heap.size + 1 := by omega
                have b_0 : gN < wr.heap.size + 1 := by omega
                go_wp2_with fail
                refine wp_region_ext (by kernel_rfl) (by kernel_rfl) ?_
                repeat (go_big_quiet_step ((first | fail)))
                refine wpQuiet_nil ?_
                intro w3 hb_w3
                obtain ⟨hc_w3, hf_w3⟩ := bcell hb_w3
                have hz_w3 := hb_w3.size
                simp at hz_w3
                have a_w3 : gF < w3.heap.size := by omega
                have b_w3 : gN < w3.heap.size := by omega
                have d_w3 : wr.heap.size < w3.heap.size := by omega
                go_wp2_with fail
                refine wp_region_ext (by kernel_rfl) (by kernel_rfl) ?_
                repeat (go_big_quiet_step ((first | fail)))
                refine wpQuiet_nil ?_
                intro w4 hb_w4
                obtain ⟨hc_w4, hf_w4⟩ := bcell hb_w4
                have hz_w4 := hb_w4.size
                have a_w4 : gF < w4.heap.size := by omega
                have b_w4 : gN < w4.heap.size := by omega
                have d_w4 : wr.heap.size < w4.heap.size := by omega
                have bW : Below wr.heap.size wr w4 := Below.tr hb_w4 (Below.tr hb_w3 (Below.al (Below.refl _ _) _))
                go_wp2
                go_roundw
                case rel => exact ⟨k + 1, jnStep p ⟨a, b, d⟩, by omega, by go_num, by rw [HJ.out, hok]; simp [Bool.beq_eq_decide_eq], Below.tr bW hb, by rw [HJ.out]; exact own_below HF.out bW (Nat.le_refl _), by rw [HJ.out]; exact own_below HN.out bW (Nat.le_refl _), HO, hid (by rw [H.out, HS.out])⟩
                case measure => simp [intOf]; omega
            · have he' : (x == y) = false := by simpa using he
              by_cases hl : y < x
              · have HJ : Hid (jnStep p ⟨a, b, d⟩ = ⟨upF x y p.F, upN x (-(u + d - v)) p.F p.N, p.ok⟩) := hid (by rw [jnStep_eq hx hy hu hv]; rw [if_neg he, if_pos hl])
                obtain ⟨w0, rfl⟩ : ∃ w0, w0 = wr := ⟨_, rfl⟩
                clear hx hy hu hv
                have a_0 : gF < w0.heap.size + 1 := by omega
                have b_0 : gN < w0.heap.size + 1 := by omega
                go_wp2_with fail
                refine wp_region_ext (by kernel_rfl) (by kernel_rfl) ?_
                repeat (go_big_quiet_step ((first | fail)))
                refine wpQuiet_nil ?_
                intro w3 hb_w3
                obtain ⟨hc_w3, hf_w3⟩ := bcell hb_w3
                have hz_w3 := hb_w3.size
                simp at hz_w3
                have a_w3 : gF < w3.heap.size := by omega
                have b_w3 : gN < w3.heap.size := by omega
                have d_w3 : w0.heap.size < w3.heap.size := by omega
                go_wp2_with fail
                refine wp_region_ext (by kernel_rfl) (by kernel_rfl) ?_
                repeat (go_big_quiet_step ((first | fail)))
                refine wpQuiet_nil ?_
                intro w4 hb_w4
                obtain ⟨hc_w4, hf_w4⟩ := bcell hb_w4
                have hz_w4 := hb_w4.size
                have a_w4 : gF < w4.heap.size := by omega
                have b_w4 : gN < w4.heap.size := by omega
                have d_w4 : w0.heap.size < w4.heap.size := by omega
                have bW : Below w0.heap.size w0 w4 := Below.tr hb_w4 (Below.tr hb_w3 (Below.al (Below.refl _ _) _))
                have hbW := Below.tr bW hb
                have HF4 := hid (own_below HF.out bW (Nat.le_refl _))
                have HN4 := hid (own_below HN.out bW (Nat.le_refl _))
                clear ex ey eu ev a_0 b_0 hc_w3 hf_w3 hc_w4 hf_w4 a_w3 b_w3 d_w3 a_w4 b_w4 d_w4 hb_w3 hb_w4 bW
                go_wp2
                go_loopw [78] (fun i wr => ∃ j : Nat, j ≤ n ∧ i = .int .i64 j ∧ Below w.heap.size w wr ∧ wr.ownsRow w.heap.size 2 1 (.slice (some ⟨gF, 0, none⟩) n n) n (fI (mixF x y p.F j)) ∧ wr.ownsRow w.heap.size 2 1 (.slice (some ⟨gN, 0, none⟩) n n) n (fI (mixN x (-(u + d - v)) p.F p.N j))) (fun i _ => n - (intOf i).toNat)
                case atStart => exact ⟨0, Nat.zero_le _, rfl, hbW, by rw [mixF_zero]; exact HF4.out, by rw [mixN_zero]; exact HN4.out⟩
                case round =>
                  obtain ⟨j, hj, rfl, hb2, oF2, oN2⟩ := hrel
                  by_cases hlj : j < n
                  · obtain ⟨x', y', hx', hy', x1', x2', y1', y2'⟩ := jn_read JK.out hlj
                    have f0 : wr.cell? ⟨gF, j, none⟩ = some (.int .i64 x') := by
                      have := oF2.cellAt j (by omega)
                      rw [mixF_split hx', List.getElem?_append_right (by rw [upF_take_len (by omega)]; omega), upF_take_len (by omega)] at this
                      simpa using this
                    have n0 : wr.cell? ⟨gN, j, none⟩ = some (.int .i64 y') := by
                      have := oN2.cellAt j (by omega)
                      rw [mixN_split hy', List.getElem?_append_right (by rw [upN_take_len (by omega) (by omega)]; omega), upN_take_len (by omega) (by omega)] at this
                      simpa using this
                    have f1 : wr.frozen? ⟨gF, j, none⟩ = false := oF2.frozenAt _
                    have n1' : wr.frozen? ⟨gN, j, none⟩ = false := oN2.frozenAt _
                    have EF : Hid (fI (mixF x y p.F j) = fI (upF x y (p.F.take j)) ++ .int .i64 x' :: fI (p.F.drop (j + 1))) := hid (mixF_split hx')
                    have EN : Hid (fI (mixN x (-(u + d - v)) p.F p.N j) = fI (upN x (-(u + d - v)) (p.F.take j) (p.N.take j)) ++ .int .i64 y' :: fI (p.N.drop (j + 1))) := hid (mixN_split hy')
                    have EF2 := hid (mixF_succ (g := x) (kp := y) hx')
                    have EN2 := hid (mixN_succ (g := x) (s := -(u + d - v)) hx' hy')
                    have LF := hid (upF_take_len (g := x) (kp := y) (F := p.F) (k := j) (by omega))
                    have LN := hid (upN_take_len (g := x) (s := -(u + d - v)) (F := p.F) (N := p.N) (k := j) (by omega) (by omega))
                    have HF2 := hid oF2
                    have HN2 := hid oN2
                    clear hx' hy' oF2 oN2
                    by_cases hg : x' = x
                    · have hg' : (x' == x) = true := by simpa using hg
                      go_wp2
                      go_roundw
                      case rel =>
                        have t := own_two HF2.out HN2.out hne EF.out EN.out LF.out LN.out (.int .i64 y) (.int .i64 (y' + (-(u + d - v))))
                        refine ⟨j + 1, by omega, by go_num, (by repeat (first | assumption | (refine Below.sc ?_ (by omega) _))), ?_, ?_⟩
                        · rw [EF2.out, if_pos hg]; exact t.1
                        · rw [EN2.out, if_pos hg]; exact t.2
                      case measure => simp [intOf]; omega
                    · have hg' : (x' == x) = false := by simpa using hg
                      go_wp2
                      go_roundw
                      case rel => exact ⟨j + 1, by omega, by go_num, hb2, by rw [EF2.out, if_neg hg, ← EF.out]; exact HF2.out, by rw [EN2.out, if_neg hg, ← EN.out]; exact HN2.out⟩
                      case measure => simp [intOf]; omega
                  · obtain rfl : j = n := by omega
                    have HF2 := hid oF2
                    have HN2 := hid oN2
                    clear oF2 oN2
                    go_wp2
                    go_roundw
                    case rel => exact ⟨k + 1, jnStep p ⟨a, b, d⟩, by omega, by go_num, by rw [HJ.out], hb2, by rw [HJ.out]; have t := HF2.out; rw [mixF_end (by omega)] at t; exact t, by rw [HJ.out]; have t := HN2.out; rw [mixN_end (by omega) (by omega)] at t; exact t, hid HO.out, hid (by rw [H.out, HS.out])⟩
                    case measure => simp [intOf]; omega
              · have HJ : Hid (jnStep p ⟨a, b, d⟩ = ⟨upF y x p.F, upN y (u + d - v) p.F p.N, p.ok⟩) := hid (by rw [jnStep_eq hx hy hu hv]; rw [if_neg he, if_neg hl])
                obtain ⟨w0, rfl⟩ : ∃ w0, w0 = wr := ⟨_, rfl⟩
                clear hx hy hu hv
                have a_0 : gF < w0.heap.size + 1 := by omega
                have b_0 : gN < w0.heap.size + 1 := by omega
                go_wp2_with fail
                refine wp_region_ext (by kernel_rfl) (by kernel_rfl) ?_
                repeat (go_big_quiet_step ((first | fail)))
                refine wpQuiet_nil ?_
                intro w3 hb_w3
                obtain ⟨hc_w3, hf_w3⟩ := bcell hb_w3
                have hz_w3 := hb_w3.size
                simp at hz_w3
                have a_w3 : gF < w3.heap.size := by omega
                have b_w3 : gN < w3.heap.size := by omega
                have d_w3 : w0.heap.size < w3.heap.size := by omega
                go_wp2_with fail
                refine wp_region_ext (by kernel_rfl) (by kernel_rfl) ?_
                repeat (go_big_quiet_step ((first | fail)))
                refine wpQuiet_nil ?_
                intro w4 hb_w4
                obtain ⟨hc_w4, hf_w4⟩ := bcell hb_w4
                have hz_w4 := hb_w4.size
                have a_w4 : gF < w4.heap.size := by omega
                have b_w4 : gN < w4.heap.size := by omega
                have d_w4 : w0.heap.size < w4.heap.size := by omega
                have bW : Below w0.heap.size w0 w4 := Below.tr hb_w4 (Below.tr hb_w3 (Below.al (Below.refl _ _) _))
                have hbW := Below.tr bW hb
                have HF4 := hid (own_below HF.out bW (Nat.le_refl _))
                have HN4 := hid (own_below HN.out bW (Nat.le_refl _))
                clear ex ey eu ev a_0 b_0 hc_w3 hf_w3 hc_w4 hf_w4 a_w3 b_w3 d_w3 a_w4 b_w4 d_w4 hb_w3 hb_w4 bW
                go_wp2
                go_loopw [78] (fun i wr => ∃ j : Nat, j ≤ n ∧ i = .int .i64 j ∧ Below w.heap.size w wr ∧ wr.ownsRow w.heap.size 2 1 (.slice (some ⟨gF, 0, none⟩) n n) n (fI (mixF y x p.F j)) ∧ wr.ownsRow w.heap.size 2 1 (.slice (some ⟨gN, 0, none⟩) n n) n (fI (mixN y (u + d - v) p.F p.N j))) (fun i _ => n - (intOf i).toNat)
                case atStart => exact ⟨0, Nat.zero_le _, rfl, hbW, by rw [mixF_zero]; exact HF4.out, by rw [mixN_zero]; exact HN4.out⟩
                case round =>
                  obtain ⟨j, hj, rfl, hb2, oF2, oN2⟩ := hrel
                  by_cases hlj : j < n
                  · obtain ⟨x', y', hx', hy', x1', x2', y1', y2'⟩ := jn_read JK.out hlj
                    have f0 : wr.cell? ⟨gF, j, none⟩ = some (.int .i64 x') := by
                      have := oF2.cellAt j (by omega)
                      rw [mixF_split hx', List.getElem?_append_right (by rw [upF_take_len (by omega)]; omega), upF_take_len (by omega)] at this
                      simpa using this
                    have n0 : wr.cell? ⟨gN, j, none⟩ = some (.int .i64 y') := by
                      have := oN2.cellAt j (by omega)
                      rw [mixN_split hy', List.getElem?_append_right (by rw [upN_take_len (by omega) (by omega)]; omega), upN_take_len (by omega) (by omega)] at this
                      simpa using this
                    have f1 : wr.frozen? ⟨gF, j, none⟩ = false := oF2.frozenAt _
                    have n1' : wr.frozen? ⟨gN, j, none⟩ = false := oN2.frozenAt _
                    have EF : Hid (fI (mixF y x p.F j) = fI (upF y x (p.F.take j)) ++ .int .i64 x' :: fI (p.F.drop (j + 1))) := hid (mixF_split hx')
                    have EN : Hid (fI (mixN y (u + d - v) p.F p.N j) = fI (upN y (u + d - v) (p.F.take j) (p.N.take j)) ++ .int .i64 y' :: fI (p.N.drop (j + 1))) := hid (mixN_split hy')
                    have EF2 := hid (mixF_succ (g := y) (kp := x) hx')
                    have EN2 := hid (mixN_succ (g := y) (s := u + d - v) hx' hy')
                    have LF := hid (upF_take_len (g := y) (kp := x) (F := p.F) (k := j) (by omega))
                    have LN := hid (upN_take_len (g := y) (s := u + d - v) (F := p.F) (N := p.N) (k := j) (by omega) (by omega))
                    have HF2 := hid oF2
                    have HN2 := hid oN2
                    clear hx' hy' oF2 oN2
                    by_cases hg : x' = y
                    · have hg' : (x' == y) = true := by simpa using hg
                      go_wp2
                      go_roundw
                      case rel =>
                        have t := own_two HF2.out HN2.out hne EF.out EN.out LF.out LN.out (.int .i64 x) (.int .i64 (y' + (u + d - v)))
                        refine ⟨j + 1, by omega, by go_num, (by repeat (first | assumption | (refine Below.sc ?_ (by omega) _))), ?_, ?_⟩
                        · rw [EF2.out, if_pos hg]; exact t.1
                        · rw [EN2.out, if_pos hg]; exact t.2
                      case measure => simp [intOf]; omega
                    · have hg' : (x' == y) = false := by simpa using hg
                      go_wp2
                      go_roundw
                      case rel => exact ⟨j + 1, by omega, by go_num, hb2, by rw [EF2.out, if_neg hg, ← EF.out]; exact HF2.out, by rw [EN2.out, if_neg hg, ← EN.out]; exact HN2.out⟩
                      case measure => simp [intOf]; omega
                  · obtain rfl : j = n := by omega
                    have HF2 := hid oF2
                    have HN2 := hid oN2
                    clear oF2 oN2
                    go_wp2
                    go_roundw
                    case rel => exact ⟨k + 1, jnStep p ⟨a, b, d⟩, by omega, by go_num, by rw [HJ.out], hb2, by rw [HJ.out]; have t := HF2.out; rw [mixF_end (by omega)] at t; exact t, by rw [HJ.out]; have t := HN2.out; rw [mixN_end (by omega) (by omega)] at t; exact t, hid HO.out, hid (by rw [H.out, HS.out])⟩
                    case measure => simp [intOf]; omega
          · have HE : Hid (jnRun (jn0 n) xs = p) := hid (by rw [H.out, List.drop_eq_nil_of_le (by omega)]; rfl)
            have HF := hid oF
            have HN := hid oN
            clear oF oN
            go_wp2
            refine bodyPost_ret (v := .tuple #[.slice (some ⟨gF, 0, none⟩) n n, .slice (some ⟨gN, 0, none⟩) n n, .bool p.ok]) (by simp [results, Try.results33, go_sem]) rfl ?_
            rw [HE.out]
            exact ⟨gF, n, gN, n, rfl, HF.out, HN.out, hb⟩
  · obtain ⟨gF, hgF⟩ : ∃ g, g = w.heap.size + 1 := ⟨_, rfl⟩
    obtain ⟨gN, hgN⟩ : ∃ g, g = w.heap.size := ⟨_, rfl⟩
    have OF : Hid (((w.alloc (.cells (madeCells #[.int .i64 0] n) 2)).alloc (.cells (madeCells #[.int .i64 0] n) 2)).drew.ownsRow w.heap.size 2 1 (.slice (some ⟨gF, 0, none⟩) n n) n (List.replicate n (.int .i64 0))) := hid (by rw [hgF]; exact o2)
    have ON : Hid (((w.alloc (.cells (madeCells #[.int .i64 0] n) 2)).alloc (.cells (madeCells #[.int .i64 0] n) 2)).drew.ownsRow w.heap.size 2 1 (.slice (some ⟨gN, 0, none⟩) n n) n (List.replicate n (.int .i64 0))) := hid (by rw [hgN]; exact o1)
    have HB := hid hb00
    clear o1 o2 hb00 hmk
    rw [← hgF, ← hgN]
    generalize ((w.alloc (.cells (madeCells #[.int .i64 0] n) 2)).alloc (.cells (madeCells #[.int .i64 0] n) 2)).drew = W0 at *
    have hne : ¬ gF = gN := by omega
    have hne' : ¬ gN = gF := by omega
    have hb0 : Below w.heap.size w W0 := HB.out
    have gF0 : w.heap.size ≤ gF := by omega
    have gN0 : w.heap.size ≤ gN := by omega
    clear hgF hgN
    go_wp2
    go_loopw [23] (fun i wr => ∃ k : Nat, k ≤ n ∧ i = .int .i64 k ∧ Below w.heap.size w wr ∧ wr.ownsRow w.heap.size 2 1 (.slice (some ⟨gF, 0, none⟩) n n) n (fI ((List.range k).map fun (i : Nat) => (i : Int)) ++ List.replicate (n - k) (.int .i64 0)) ∧ wr.ownsRow w.heap.size 2 1 (.slice (some ⟨gN, 0, none⟩) n n) n (List.replicate n (.int .i64 0))) (fun i _ => n - (intOf i).toNat)
    case atStart => exact ⟨0, Nat.zero_le _, rfl, hb0, by simpa [fI] using OF.out, ON.out⟩
    case round =>
      obtain ⟨k, hk, rfl, hb, oF, oN⟩ := hrel
      by_cases hlt : k < n
      · have hml : (fI ((List.range k).map fun (i : Nat) => (i : Int))).length = k := by simp [fI]
        have hrp : List.replicate (n - k) (Value.int .i64 0) = .int .i64 0 :: List.replicate (n - (k + 1)) (.int .i64 0) := by rw [← List.replicate_succ]; congr 1; omega
        have f0 : wr.cell? ⟨gF, k, none⟩ = some (.int .i64 0) := by
          have := oF.cellAt k (by omega)
          rw [List.getElem?_append_right (by omega), hml, Nat.sub_self, hrp] at this
          simpa using this
        have f1 : wr.frozen? ⟨gF, k, none⟩ = false := oF.frozenAt _
        have HF := hid oF
        have HN := hid oN
        have HR := hid hrp
        have HL := hid hml
        clear oF oN hrp hml
        go_wp2
        go_roundw
        case rel =>
          have h1 := HF.out
          rw [HR.out] at h1
          have t := own_set h1 HL.out.symm (.int .i64 k)
          refine ⟨k + 1, by omega, by go_num, Below.sc hb gF0 _, ?_, HN.out.kept (h1.stored k _).2 (.inr (by simp [Value.ownBlock]; omega))⟩
          rw [List.range_succ]
          simpa [fI] using t
        case measure => simp [intOf]; omega
      · obtain rfl : k = n := by omega
        have HF : Hid (wr.ownsRow w.heap.size 2 1 (.slice (some ⟨gF, 0, none⟩) k k) k (fI (jn0 k).F)) := hid (by simpa [jn0] using oF)
        have HN : Hid (wr.ownsRow w.heap.size 2 1 (.slice (some ⟨gN, 0, none⟩) k k) k (fI (jn0 k).N)) := hid (by simpa [jn0, fI] using oN)
        clear oF oN hk hlt OF ON HB hb0
        go_wp2
        obtain ⟨n, rfl⟩ : ∃ n, n = k := ⟨_, rfl⟩
        go_loopw [10, 33] (fun fv i wr => ∃ (k : Nat) (p : Jn), k ≤ xs.length ∧ i = .int .i64 k ∧ fv = .bool p.ok ∧ Below w.heap.size w wr ∧ wr.ownsRow w.heap.size 2 1 (.slice (some ⟨gF, 0, none⟩) n n) n (fI p.F) ∧ wr.ownsRow w.heap.size 2 1 (.slice (some ⟨gN, 0, none⟩) n n) n (fI p.N) ∧ Hid (JnOk n (bdN k) p) ∧ Hid (jnRun (jn0 n) xs = jnRun p (xs.drop k))) (fun _ i _ => xs.length - (intOf i).toNat)
        case atStart => exact ⟨0, jn0 n, Nat.zero_le _, rfl, rfl, hb, HF.out, HN.out, hid (jn0_ok n), hid rfl⟩
        case round =>
          clear hb HF HN
          obtain ⟨k, p, hk, rfl, rfl, hb, oF, oN, JK, H⟩ := hrel
          have hsz := hb.size
          by_cases hlt : k < xs.length
          · obtain ⟨q, hq⟩ := getx hlt
            obtain ⟨a, b, d⟩ := q
            obtain ⟨bb, o, rfl, hbB, c0, c1, c2⟩ := (h.below hb (Nat.le_refl _)).at3 hq rfl
            obtain ⟨q1, q2, q3, q4, q5⟩ := V.out k _ hq
            simp only at q1 q2 q3 q4 q5 c0 c1 c2
            obtain ⟨a, rfl⟩ : ∃ n : Nat, a = n := ⟨a.toNat, by omega⟩
            obtain ⟨b, rfl⟩ : ∃ n : Nat, b = n := ⟨b.toNat, by omega⟩
            have HS : Hid (jnRun p (xs.drop k) = jnRun (jnStep p ⟨a, b, d⟩) (xs.drop (k+1))) := by rw [dropx hq]; rfl
            obtain ⟨M0, M1⟩ := bdN_le (k := k) (by omega)
            have HO : Hid (JnOk n (bdN (k + 1)) (jnStep p ⟨a, b, d⟩)) := hid (jnStep_ok JK.out M0 (V.out k _ hq))
            obtain ⟨x, u, hx, hu, x1, x2, u1, u2⟩ := jn_read JK.out (i := a) (by omega)
            obtain ⟨y, v, hy, hv, y1, y2, v1, v2⟩ := jn_read JK.out (i := b) (by omega)
            have lf := JK.out.lf
            have ln := JK.out.ln
            have ex : wr.cell? ⟨gF, a, none⟩ = some (.int .i64 x) := by (have := oF.cellAt a (by omega); rw [this]; simp [fI, hx])
            have ey : wr.cell? ⟨gF, b, none⟩ = some (.int .i64 y) := by (have := oF.cellAt b (by omega); rw [this]; simp [fI, hy])
            have eu : wr.cell? ⟨gN, a, none⟩ = some (.int .i64 u) := by (have := oN.cellAt a (by omega); rw [this]; simp [fI, hu])
            have ev : wr.cell? ⟨gN, b, none⟩ = some (.int .i64 v) := by (have := oN.cellAt b (by omega); rw [this]; simp [fI, hv])
            have zF : gF < wr.heap.size := (oF.lt gF rfl).2
            have zN : gN < wr.heap.size := (oN.lt gN rfl).2
            have zb : bb < wr.heap.size := by omega
            have la : a < n := by omega
            have lb : b < n := by omega
            have HF := hid oF
            have HN := hid oN
            generalize bdN k = M at *
            clear hq oF oN
            by_cases he : x = y
            · have he' : (x == y) = true := by simpa using he
              have HJ : Hid (jnStep p ⟨a, b, d⟩ = ⟨p.F, p.N, p.ok && decide (u + d - v = 0)⟩) := hid (by rw [jnStep_eq hx hy hu hv, if_pos he])
              clear hx hy hu hv
              cases hok : p.ok
              · have a_0 : gF < wr.heap.size + 1 := by omega
                have b_0 : gN < wr.heap.size + 1 := by omega
                go_wp2_with fail
                refine wp_region_ext (by kernel_rfl) (by kernel_rfl) ?_
                repeat (go_big_quiet_step ((first | fail)))
                refine wpQuiet_nil ?_
                intro w3 hb_w3
                obtain ⟨hc_w3, hf_w3⟩ := bcell hb_w3
                have hz_w3 := hb_w3.size
                simp at hz_w3
                have a_w3 : gF < w3.heap.size := by omega
                have b_w3 : gN < w3.heap.size := by omega
                have d_w3 : wr.heap.size < w3.heap.size := by omega
                go_wp2_with fail
                refine wp_region_ext (by kernel_rfl) (by kernel_rfl) ?_
                repeat (go_big_quiet_step ((first | fail)))
                refine wpQuiet_nil ?_
                intro w4 hb_w4
                obtain ⟨hc_w4, hf_w4⟩ := bcell hb_w4
                have hz_w4 := hb_w4.size
                have a_w4 : gF < w4.heap.size := by omega
                have b_w4 : gN < w4.heap.size := by omega
                have d_w4 : wr.heap.size < w4.heap.size := by omega
                have bW : Below wr.heap.size wr w4 := Below.tr hb_w4 (Below.tr hb_w3 (Below.al (Below.refl _ _) _))
                go_wp2
                go_roundw
                case rel => exact ⟨k + 1, jnStep p ⟨a, b, d⟩, by omega, by go_num, by rw [HJ.out, hok]; rfl, Below.tr bW hb, by rw [HJ.out]; exact own_below HF.out bW (Nat.le_refl _), by rw [HJ.out]; exact own_below HN.out bW (Nat.le_refl _), HO, hid (by rw [H.out, HS.out])⟩
                case measure => simp [intOf]; omega
              · have a_0 : gF < wr.heap.size + 1 := by omega
                have b_0 : gN < wr.heap.size + 1 := by omega
                go_wp2_with fail
                refine wp_region_ext (by kernel_rfl) (by kernel_rfl) ?_
                repeat (go_big_quiet_step ((first | fail)))
                refine wpQuiet_nil ?_
                intro w3 hb_w3
                obtain ⟨hc_w3, hf_w3⟩ := bcell hb_w3
                have hz_w3 := hb_w3.size
                simp at hz_w3
                have a_w3 : gF < w3.heap.size := by omega
                have b_w3 : gN < w3.heap.size := by omega
                have d_w3 : wr.heap.size < w3.heap.size := by omega
                go_wp2_with fail
                refine wp_region_ext (by kernel_rfl) (by kernel_rfl) ?_
                repeat (go_big_quiet_step ((first | fail)))
                refine wpQuiet_nil ?_
                intro w4 hb_w4
                obtain ⟨hc_w4, hf_w4⟩ := bcell hb_w4
                have hz_w4 := hb_w4.size
                have a_w4 : gF < w4.heap.size := by omega
                have b_w4 : gN < w4.heap.size := by omega
                have d_w4 : wr.heap.size < w4.heap.size := by omega
                have bW : Below wr.heap.size wr w4 := Below.tr hb_w4 (Below.tr hb_w3 (Below.al (Below.refl _ _) _))
                go_wp2
                go_roundw
                case rel => exact ⟨k + 1, jnStep p ⟨a, b, d⟩, by omega, by go_num, by rw [HJ.out, hok]; simp [Bool.beq_eq_decide_eq], Below.tr bW hb, by rw [HJ.out]; exact own_below HF.out bW (Nat.le_refl _), by rw [HJ.out]; exact own_below HN.out bW (Nat.le_refl _), HO, hid (by rw [H.out, HS.out])⟩
                case measure => simp [intOf]; omega
            · have he' : (x == y) = false := by simpa using he
              by_cases hl : y < x
              · have HJ : Hid (jnStep p ⟨a, b, d⟩ = ⟨upF x y p.F, upN x (-(u + d - v)) p.F p.N, p.ok⟩) := hid (by rw [jnStep_eq hx hy hu hv]; rw [if_neg he, if_pos hl])
                obtain ⟨w0, rfl⟩ : ∃ w0, w0 = wr := ⟨_, rfl⟩
                clear hx hy hu hv
                have a_0 : gF < w0.heap.size + 1 := by omega
                have b_0 : gN < w0.heap.size + 1 := by omega
                go_wp2_with fail
                refine wp_region_ext (by kernel_rfl) (by kernel_rfl) ?_
                repeat (go_big_quiet_step ((first | fail)))
                refine wpQuiet_nil ?_
                intro w3 hb_w3
                obtain ⟨hc_w3, hf_w3⟩ := bcell hb_w3
                have hz_w3 := hb_w3.size
                simp at hz_w3
                have a_w3 : gF < w3.heap.size := by omega
                have b_w3 : gN < w3.heap.size := by omega
                have d_w3 : w0.heap.size < w3.heap.size := by omega
                go_wp2_with fail
                refine wp_region_ext (by kernel_rfl) (by kernel_rfl) ?_
                repeat (go_big_quiet_step ((first | fail)))
                refine wpQuiet_nil ?_
                intro w4 hb_w4
                obtain ⟨hc_w4, hf_w4⟩ := bcell hb_w4
                have hz_w4 := hb_w4.size
                have a_w4 : gF < w4.heap.size := by omega
                have b_w4 : gN < w4.heap.size := by omega
                have d_w4 : w0.heap.size < w4.heap.size := by omega
                have bW : Below w0.heap.size w0 w4 := Below.tr hb_w4 (Below.tr hb_w3 (Below.al (Below.refl _ _) _))
                have hbW := Below.tr bW hb
                have HF4 := hid (own_below HF.out bW (Nat.le_refl _))
                have HN4 := hid (own_below HN.out bW (Nat.le_refl _))
                clear ex ey eu ev a_0 b_0 hc_w3 hf_w3 hc_w4 hf_w4 a_w3 b_w3 d_w3 a_w4 b_w4 d_w4 hb_w3 hb_w4 bW
                go_wp2
                go_loopw [78] (fun i wr => ∃ j : Nat, j ≤ n ∧ i = .int .i64 j ∧ Below w.heap.size w wr ∧ wr.ownsRow w.heap.size 2 1 (.slice (some ⟨gF, 0, none⟩) n n) n (fI (mixF x y p.F j)) ∧ wr.ownsRow w.heap.size 2 1 (.slice (some ⟨gN, 0, none⟩) n n) n (fI (mixN x (-(u + d - v)) p.F p.N j))) (fun i _ => n - (intOf i).toNat)
                case atStart => exact ⟨0, Nat.zero_le _, rfl, hbW, by rw [mixF_zero]; exact HF4.out, by rw [mixN_zero]; exact HN4.out⟩
                case round =>
                  obtain ⟨j, hj, rfl, hb2, oF2, oN2⟩ := hrel
                  by_cases hlj : j < n
                  · obtain ⟨x', y', hx', hy', x1', x2', y1', y2'⟩ := jn_read JK.out hlj
                    have f0 : wr.cell? ⟨gF, j, none⟩ = some (.int .i64 x') := by
                      have := oF2.cellAt j (by omega)
                      rw [mixF_split hx', List.getElem?_append_right (by rw [upF_take_len (by omega)]; omega), upF_take_len (by omega)] at this
                      simpa using this
                    have n0 : wr.cell? ⟨gN, j, none⟩ = some (.int .i64 y') := by
                      have := oN2.cellAt j (by omega)
                      rw [mixN_split hy', List.getElem?_append_right (by rw [upN_take_len (by omega) (by omega)]; omega), upN_take_len (by omega) (by omega)] at this
                      simpa using this
                    have f1 : wr.frozen? ⟨gF, j, none⟩ = false := oF2.frozenAt _
                    have n1' : wr.frozen? ⟨gN, j, none⟩ = false := oN2.frozenAt _
                    have EF : Hid (fI (mixF x y p.F j) = fI (upF x y (p.F.take j)) ++ .int .i64 x' :: fI (p.F.drop (j + 1))) := hid (mixF_split hx')
                    have EN : Hid (fI (mixN x (-(u + d - v)) p.F p.N j) = fI (upN x (-(u + d - v)) (p.F.take j) (p.N.take j)) ++ .int .i64 y' :: fI (p.N.drop (j + 1))) := hid (mixN_split hy')
                    have EF2 := hid (mixF_succ (g := x) (kp := y) hx')
                    have EN2 := hid (mixN_succ (g := x) (s := -(u + d - v)) hx' hy')
                    have LF := hid (upF_take_len (g := x) (kp := y) (F := p.F) (k := j) (by omega))
                    have LN := hid (upN_take_len (g := x) (s := -(u + d - v)) (F := p.F) (N := p.N) (k := j) (by omega) (by omega))
                    have HF2 := hid oF2
                    have HN2 := hid oN2
                    clear hx' hy' oF2 oN2
                    by_cases hg : x' = x
                    · have hg' : (x' == x) = true := by simpa using hg
                      go_wp2
                      go_roundw
                      case rel =>
                        have t := own_two HF2.out HN2.out hne EF.out EN.out LF.out LN.out (.int .i64 y) (.int .i64 (y' + (-(u + d - v))))
                        refine ⟨j + 1, by omega, by go_num, (by repeat (first | assumption | (refine Below.sc ?_ (by omega) _))), ?_, ?_⟩
                        · rw [EF2.out, if_pos hg]; exact t.1
                        · rw [EN2.out, if_pos hg]; exact t.2
                      case measure => simp [intOf]; omega
                    · have hg' : (x' == x) = false := by simpa using hg
                      go_wp2
                      go_roundw
                      case rel => exact ⟨j + 1, by omega, by go_num, hb2, by rw [EF2.out, if_neg hg, ← EF.out]; exact HF2.out, by rw [EN2.out, if_neg hg, ← EN.out]; exact HN2.out⟩
                      case measure => simp [intOf]; omega
                  · obtain rfl : j = n := by omega
                    have HF2 := hid oF2
                    have HN2 := hid oN2
                    clear oF2 oN2
                    go_wp2
                    go_roundw
                    case rel => exact ⟨k + 1, jnStep p ⟨a, b, d⟩, by omega, by go_num, by rw [HJ.out], hb2, by rw [HJ.out]; have t := HF2.out; rw [mixF_end (by omega)] at t; exact t, by rw [HJ.out]; have t := HN2.out; rw [mixN_end (by omega) (by omega)] at t; exact t, hid HO.out, hid (by rw [H.out, HS.out])⟩
                    case measure => simp [intOf]; omega
              · have HJ : Hid (jnStep p ⟨a, b, d⟩ = ⟨upF y x p.F, upN y (u + d - v) p.F p.N, p.ok⟩) := hid (by rw [jnStep_eq hx hy hu hv]; rw [if_neg he, if_neg hl])
                obtain ⟨w0, rfl⟩ : ∃ w0, w0 = wr := ⟨_, rfl⟩
                clear hx hy hu hv
                have a_0 : gF < w0.heap.size + 1 := by omega
                have b_0 : gN < w0.heap.size + 1 := by omega
                go_wp2_with fail
                refine wp_region_ext (by kernel_rfl) (by kernel_rfl) ?_
                repeat (go_big_quiet_step ((first | fail)))
                refine wpQuiet_nil ?_
                intro w3 hb_w3
                obtain ⟨hc_w3, hf_w3⟩ := bcell hb_w3
                have hz_w3 := hb_w3.size
                simp at hz_w3
                have a_w3 : gF < w3.heap.size := by omega
                have b_w3 : gN < w3.heap.size := by omega
                have d_w3 : w0.heap.size < w3.heap.size := by omega
                go_wp2_with fail
                refine wp_region_ext (by kernel_rfl) (by kernel_rfl) ?_
                repeat (go_big_quiet_step ((first | fail)))
                refine wpQuiet_nil ?_
                intro w4 hb_w4
                obtain ⟨hc_w4, hf_w4⟩ := bcell hb_w4
                have hz_w4 := hb_w4.size
                have a_w4 : gF < w4.heap.size := by omega
                have b_w4 : gN < w4.heap.size := by omega
                have d_w4 : w0.heap.size < w4.heap.size := by omega
                have bW : Below w0.heap.size w0 w4 := Below.tr hb_w4 (Below.tr hb_w3 (Below.al (Below.refl _ _) _))
                have hbW := Below.tr bW hb
                have HF4 := hid (own_below HF.out bW (Nat.le_refl _))
                have HN4 := hid (own_below HN.out bW (Nat.le_refl _))
                clear ex ey eu ev a_0 b_0 hc_w3 hf_w3 hc_w4 hf_w4 a_w3 b_w3 d_w3 a_w4 b_w4 d_w4 hb_w3 hb_w4 bW
                go_wp2
                go_loopw [78] (fun i wr => ∃ j : Nat, j ≤ n ∧ i = .int .i64 j ∧ Below w.heap.size w wr ∧ wr.ownsRow w.heap.size 2 1 (.slice (some ⟨gF, 0, none⟩) n n) n (fI (mixF y x p.F j)) ∧ wr.ownsRow w.heap.size 2 1 (.slice (some ⟨gN, 0, none⟩) n n) n (fI (mixN y (u + d - v) p.F p.N j))) (fun i _ => n - (intOf i).toNat)
                case atStart => exact ⟨0, Nat.zero_le _, rfl, hbW, by rw [mixF_zero]; exact HF4.out, by rw [mixN_zero]; exact HN4.out⟩
                case round =>
                  obtain ⟨j, hj, rfl, hb2, oF2, oN2⟩ := hrel
                  by_cases hlj : j < n
                  · obtain ⟨x', y', hx', hy', x1', x2', y1', y2'⟩ := jn_read JK.out hlj
                    have f0 : wr.cell? ⟨gF, j, none⟩ = some (.int .i64 x') := by
                      have := oF2.cellAt j (by omega)
                      rw [mixF_split hx', List.getElem?_append_right (by rw [upF_take_len (by omega)]; omega), upF_take_len (by omega)] at this
                      simpa using this
                    have n0 : wr.cell? ⟨gN, j, none⟩ = some (.int .i64 y') := by
                      have := oN2.cellAt j (by omega)
                      rw [mixN_split hy', List.getElem?_append_right (by rw [upN_take_len (by omega) (by omega)]; omega), upN_take_len (by omega) (by omega)] at this
                      simpa using this
                    have f1 : wr.frozen? ⟨gF, j, none⟩ = false := oF2.frozenAt _
                    have n1' : wr.frozen? ⟨gN, j, none⟩ = false := oN2.frozenAt _
                    have EF : Hid (fI (mixF y x p.F j) = fI (upF y x (p.F.take j)) ++ .int .i64 x' :: fI (p.F.drop (j + 1))) := hid (mixF_split hx')
                    have EN : Hid (fI (mixN y (u + d - v) p.F p.N j) = fI (upN y (u + d - v) (p.F.take j) (p.N.take j)) ++ .int .i64 y' :: fI (p.N.drop (j + 1))) := hid (mixN_split hy')
                    have EF2 := hid (mixF_succ (g := y) (kp := x) hx')
                    have EN2 := hid (mixN_succ (g := y) (s := u + d - v) hx' hy')
                    have LF := hid (upF_take_len (g := y) (kp := x) (F := p.F) (k := j) (by omega))
                    have LN := hid (upN_take_len (g := y) (s := u + d - v) (F := p.F) (N := p.N) (k := j) (by omega) (by omega))
                    have HF2 := hid oF2
                    have HN2 := hid oN2
                    clear hx' hy' oF2 oN2
                    by_cases hg : x' = y
                    · have hg' : (x' == y) = true := by simpa using hg
                      go_wp2
                      go_roundw
                      case rel =>
                        have t := own_two HF2.out HN2.out hne EF.out EN.out LF.out LN.out (.int .i64 x) (.int .i64 (y' + (u + d - v)))
                        refine ⟨j + 1, by omega, by go_num, (by repeat (first | assumption | (refine Below.sc ?_ (by omega) _))), ?_, ?_⟩
                        · rw [EF2.out, if_pos hg]; exact t.1
                        · rw [EN2.out, if_pos hg]; exact t.2
                      case measure => simp [intOf]; omega
                    · have hg' : (x' == y) = false := by simpa using hg
                      go_wp2
                      go_roundw
                      case rel => exact ⟨j + 1, by omega, by go_num, hb2, by rw [EF2.out, if_neg hg, ← EF.out]; exact HF2.out, by rw [EN2.out, if_neg hg, ← EN.out]; exact HN2.out⟩
                      case measure => simp [intOf]; omega
                  · obtain rfl : j = n := by omega
                    have HF2 := hid oF2
                    have HN2 := hid oN2
                    clear oF2 oN2
                    go_wp2
                    go_roundw
                    case rel => exact ⟨k + 1, jnStep p ⟨a, b, d⟩, by omega, by go_num, by rw [HJ.out], hb2, by rw [HJ.out]; have t := HF2.out; rw [mixF_end (by omega)] at t; exact t, by rw [HJ.out]; have t := HN2.out; rw [mixN_end (by omega) (by omega)] at t; exact t, hid HO.out, hid (by rw [H.out, HS.out])⟩
                    case measure => simp [intOf]; omega
          · have HE : Hid (jnRun (jn0 n) xs = p) := hid (by rw [H.out, List.drop_eq_nil_of_le (by omega)]; rfl)
            have HF := hid oF
            have HN := hid oN
            clear oF oN
            go_wp2
            refine bodyPost_ret (v := .tuple #[.slice (some ⟨gF, 0, none⟩) n n, .slice (some ⟨gN, 0, none⟩) n n, .bool p.ok]) (by simp [results, Try.results33, go_sem]) rfl ?_
            rw [HE.out]
            exact ⟨gF, n, gN, n, rfl, HF.out, HN.out, hb⟩
end Go.Proofs.Ytalongdieglibaa
