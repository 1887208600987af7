/- Contract: the suspect links, in the program. -/
import Derived.Test.YtalongdieglibaaC20p
import Derived.Test.YtalongdieglibaaCIdx
namespace Go.Proofs.Ytalongdieglibaa
open Go.RowKit
set_option linter.unusedVariables false
theorem own_max {w : World} {lo n c : Nat} {Ad : Option Addr} {e : TypeId} {size : Nat} {ys : List Value} (h : w.ownsRow lo e size (.slice Ad n c) n ys) : n ≤ maxLen := by
  rcases h.2 with ⟨_, h0⟩ | ⟨g, cap, cur, hv, hg, hh, hc, hm, _⟩
  · omega
  · omega
def bmkS (n : Nat) (fb : Nat → Bool) : List Value := (List.range n).map fun i => Value.bool (fb i)
theorem bmkS_none (n : Nat) : bmkS n (inW []) = List.replicate n (Value.bool false) := by
  apply List.ext_getElem
  · simp [bmkS]
  · intro i h1 h2; simp [bmkS, inW]
theorem bmkS_len (n : Nat) (fb : Nat → Bool) : (bmkS n fb).length = n := by simp [bmkS]
theorem bmkS_at {n : Nat} (fb : Nat → Bool) {i : Nat} (h : i < n) : (bmkS n fb)[i]? = some (.bool (fb i)) := by
  simp [bmkS, h]
theorem bmkS_set (n : Nat) (fb fc : Nat → Bool) (j : Nat) (h : ∀ i, fc i = (fb i || decide (i = j))) : (bmkS n fb).set j (.bool true) = bmkS n fc := by
  apply List.ext_getElem
  · simp [bmkS]
  · intro i h1 h2
    simp only [bmkS, List.getElem_map, List.getElem_range, List.getElem_set, h]
    by_cases e : j = i
    · subst e; simp
    · rw [if_neg e]
      have : ¬ i = j := fun e2 => e e2.symm
      simp [this]
theorem susV_len (stars : Int) (xs : List Lk) : (susV stars xs).length ≤ xs.length := by
  unfold susV
  split
  · show (idxW _ _).length ≤ _
    exact idxW_len _ _
  · simp
theorem grown_refl (w : World) (r : Option Nat) : w.grownBy w r := ⟨rfl, rfl, rfl, Nat.le_refl _, fun _ _ _ => rfl⟩
def mwS (Ls : List (List Int)) (L : List Int) (i : Nat) : Bool := inW Ls i || L.contains (i : Int)
theorem mwS_step {Ls : List (List Int)} {L : List Int} {j m : Nat} (h : L[j]? = some (m : Int)) (i : Nat) : mwS Ls (L.take (j + 1)) i = (mwS Ls (L.take j) i || decide (i = m)) := by
  unfold mwS
  rw [List.take_add_one, h, List.contains_eq_any_beq, List.contains_eq_any_beq, List.any_append, Bool.or_assoc]
  congr 2
  by_cases e : i = m
  · subst e; simp
  · have e2 : ((i : Int) == (m : Int)) = false := by simp; omega
    simp [e, e2]
theorem mwS_nil (Ls : List (List Int)) : mwS Ls [] = inW Ls := by funext i; simp [mwS]
theorem inW_step {Ls : List (List Int)} {L : List Int} {k : Nat} (h : Ls[k]? = some L) (i : Nat) : inW (Ls.take (k + 1)) i = mwS (Ls.take k) L i := by
  unfold mwS inW
  rw [List.take_add_one, h, List.any_append]
  simp
set_option maxHeartbeats 1000000 in
theorem sus1_any (g p n i : Nat) (b : Bool) (w : World) (hi : i < n) (hn : n ≤ 12) (e : w.cell? ⟨p, 0, none⟩ = some (.slice (some ⟨g, 0, none⟩) n n)) (e2 : w.cell? ⟨g, i, none⟩ = some (.bool b)) :
    Calls Try.prog 36 #[.int .i64 i, .pointer (some ⟨p, 0, none⟩)] w fun e w' => e = .returned (.bool b) ∧ Below w.heap.size w w' := by
  go_enter Try.func36, Try.ntmps36
  go_wp2
  go_ret
  exact ⟨rfl, (by repeat (first | assumption | exact Below.refl _ _ | apply Below.al | apply Below.drewN' | apply Below.drew | (refine Below.sc ?_ (by first | omega | (simp; done) | (simp; omega)) _) | (apply Below.tr; assumption)))⟩
set_option maxRecDepth 20000 in
set_option maxHeartbeats 2000000 in
theorem implSuspectLinks_any (stars : Int) (A : Option Addr) (c : Nat) (xs : List Lk) (w : World) (h : Rd encLk 3 w w.heap.size A xs) (hn : xs.length ≤ 1048576) :
    Calls Try.prog 24 #[.int .i64 stars, .slice A xs.length c] w (OwnTup 2 1 encI (susV stars xs) (cwC stars xs) w) := by
  have C1 := implValidLinks_any stars A c xs w h hn
  cases hv : vlB stars xs
  · rw [hv] at C1
    have HV : Hid (susV stars xs = []) := hid (by simp [susV, hv])
    have HC : Hid (cwC stars xs = 1) := hid (by simp [cwC, hv])
    go_enter Try.func24, Try.ntmps24
    go_wp2_with (go_at_call 28; refine C1.mono ?_; rintro e w1 ⟨rfl, hb1⟩)
    go_ret2
    exact ⟨none, 0, by rw [HV.out, HC.out]; rfl, by rw [HV.out]; exact World.ownsRow_nil _ _ _ _, hb1⟩
  · rw [hv] at C1
    obtain ⟨i0, hi0, iz0, iz1, iz2⟩ := info_parts (P := Try.prog) (e := 4) (z := .bool false) (size := 1) (bytes := 1) (by kernel_rfl)
    obtain ⟨n, rfl, n1, n2, hl, V⟩ := vlB_n hv
    have V := hid V
    have HV : Hid (susV (n : Int) xs = idxW (inW (wlW n xs)) xs.length) := hid (by simp [susV, hv, FW])
    have HC : Hid (cwC (n : Int) xs = 0) := hid (by simp [cwC, hv])
    have HM : Hid (∀ g ∈ wlW n xs, AscW xs.length g) := hid (fun g hg => by
      obtain ⟨j, hj⟩ := wlGo_mem 13 0 hg
      exact (combW_asc j [] 0 ⟨by simp, by simp⟩ (Nat.zero_le _) g (List.mem_filter.1 hj).1).1)
    clear hv
    go_enter Try.func24, Try.ntmps24
    go_wp2_with (first | (go_at_call 28; refine C1.mono ?_; rintro e w1 ⟨rfl, hb1⟩) | (at_make; refine wpList_make_full _ rfl _ _ 61 rfl w.heap.size 4 i0 _ 1 Try.underlying61 hi0 iz0 iz1 _ _ _ _ xs.length rfl rfl rfl rfl (by rw [iz2]; omega) (by unfold maxLen; omega) hb1.size ?_; intro w2 hown2 hg2))
    have hbA := (hb1.grown hg2 hb1.size (by simp))
    have z2 : w1.heap.size < w2.heap.size := (hown2.lt w1.heap.size rfl).2
    have oB : (w2.alloc (.cells #[.slice (some ⟨w1.heap.size, 0, none⟩) xs.length xs.length] 61)).ownsRow w.heap.size 4 1 (.slice (some ⟨w1.heap.size, 0, none⟩) xs.length xs.length) xs.length (bmkS xs.length (inW [])) := (by
      have t := hown2
      rw [show (madeCells (Value.cells (.bool false)) (xs.length * 1)).toList = List.replicate xs.length (.bool false) from by rw [Nat.mul_one]; exact toList_madeCells_one _ _] at t
      rw [bmkS_none]
      exact t.alloc _)
    have hB : Below w.heap.size w (w2.alloc (.cells #[.slice (some ⟨w1.heap.size, 0, none⟩) xs.length xs.length] 61)) := Below.al hbA _
    have s0 : (w2.alloc (.cells #[.slice (some ⟨w1.heap.size, 0, none⟩) xs.length xs.length] 61)).cell? ⟨w2.heap.size, 0, none⟩ = some (.slice (some ⟨w1.heap.size, 0, none⟩) xs.length xs.length) := by simp [go_sem]
    have z3 : w2.heap.size < (w2.alloc (.cells #[.slice (some ⟨w1.heap.size, 0, none⟩) xs.length xs.length] 61)).heap.size := by simp
    have zw := hb1.size
    clear hown2 hg2 hbA hb1
    generalize (w2.alloc (.cells #[.slice (some ⟨w1.heap.size, 0, none⟩) xs.length xs.length] 61)) = W3 at *
    generalize w1.heap.size = g0 at *
    generalize w2.heap.size = p0 at *
    refine (wrongLists_any n A c xs W3 n1 n2 hl V ((h.below hB (Nat.le_refl _)).more hB.size)).mono ?_
    rintro e w4 ⟨A2, c2, po, hs, rfl, ow, hin, hpos, hb4⟩
    have hm := own_max ow
    unfold maxLen at hm
    obtain ⟨g2, rfl, zg2, zg3⟩ := own_form ow hpos
    have oB := own_below oB hb4 (Nat.le_refl _)
    have s0 := ((bcell hb4).1 p0 0 z3).trans s0
    have hb5 := Below.tr hb4 hB
    have z4 := hb4.size
    have zz := hB.size
    generalize wlW n xs = Ls at *
    have oB := hid oB
    have ow := hid ow
    have hin := hid hin
    clear V
    go_wp2
    go_loopw [22] (fun i wr => ∃ k : Nat, k ≤ Ls.length ∧ i = .int .i64 k ∧ Hid (w4.grownBy wr (some g0)) ∧ Hid (wr.ownsRow w.heap.size 4 1 (.slice (some ⟨g0, 0, none⟩) xs.length xs.length) xs.length (bmkS xs.length (inW (Ls.take k))))) (fun i _ => Ls.length - (intOf i).toNat)
    case atStart => exact ⟨0, Nat.zero_le _, rfl, hid (grown_refl _ _), hid (by simpa using oB.out)⟩
    case round =>
      obtain ⟨k, hk, rfl, hg, hown⟩ := hrel
      have hc0 : wr.cell? ⟨p0, 0, none⟩ = some (.slice (some ⟨g0, 0, none⟩) xs.length xs.length) := hg.out.cell s0 (by simp; omega)
      have zr := hg.out.size
      by_cases hlt : k < Ls.length
      · obtain ⟨L0, hL0⟩ := getx hlt
        obtain ⟨A0, c0, hh, oL, _, hne⟩ := hin.out k L0 hL0
        have x0 := (ow.out.kept hg.out (.inr (by simp [Value.ownBlock]; omega))).cells (g := g2) rfl k _ hh
        have e0 : (⟨g2, 0, none⟩ : Addr).add k = ⟨g2, k, none⟩ := (by simp [Addr.add]; try (intro e; exact e.symm))
        rw [e0] at x0
        have HA := hid (HM.out L0 (List.mem_of_getElem? hL0))
        have hL := HA.out.len
        have HI := hid (fun i => inW_step hL0 i)
        have hgn : Hid (∀ r, wr.grownBy r (some g0) → Rd encI 1 r r.heap.size A0 L0) := hid (fun r hr => rd_of_own (fun _ => rfl) (oL.kept (grown_trans' hg.out hr) (by
          cases A0 with
          | none => left; rfl
          | some q =>
            right
            have q1 := (oL.lt q.block rfl).1
            simp [Value.ownBlock]
            omega)))
        clear oL hL0 hh hne
        go_wp2
        obtain ⟨w6, rfl⟩ : ∃ w6, w6 = wr := ⟨_, rfl⟩
        go_loopw [28] (fun i wr => ∃ j : Nat, j ≤ L0.length ∧ i = .int .i64 j ∧ Hid (w6.grownBy wr (some g0)) ∧ Hid (wr.ownsRow w.heap.size 4 1 (.slice (some ⟨g0, 0, none⟩) xs.length xs.length) xs.length (bmkS xs.length (mwS (Ls.take k) (L0.take j))))) (fun i _ => L0.length - (intOf i).toNat)
        case atStart => exact ⟨0, Nat.zero_le _, rfl, hid (grown_refl _ _), hid (by rw [List.take_zero, mwS_nil]; exact hown.out)⟩
        case round =>
          clear hown
          obtain ⟨j, hj, rfl, hg', hown⟩ := hrel
          have hc1 : wr.cell? ⟨p0, 0, none⟩ = some (.slice (some ⟨g0, 0, none⟩) xs.length xs.length) := hg'.out.cell hc0 (by simp; omega)
          by_cases hlt' : j < L0.length
          · obtain ⟨x, hx⟩ := getx hlt'
            obtain ⟨m, rfl, hm1⟩ : ∃ m : Nat, x = m ∧ m < xs.length := by
              have := HA.out.2 x (List.mem_of_getElem? hx)
              exact ⟨x.toNat, by omega, by omega⟩
            obtain ⟨b, o, rfl, hbB, q0⟩ := (hgn.out wr hg'.out).at1 hx rfl
            have f0 : wr.frozen? ⟨g0, m, none⟩ = false := hown.out.frozenAt _
            have d0 : wr.cell? ⟨g0, m, none⟩ = some (.bool (mwS (Ls.take k) (L0.take j) m)) := by
              have := hown.out.cellAt m (by omega)
              rw [bmkS_at _ hm1] at this
              simpa using this
            have HS := hid (fun i => mwS_step (Ls := Ls.take k) hx i)
            clear hx hn
            go_wp2
            go_roundw
            case rel => exact ⟨j + 1, by omega, by go_num, hid (grown_trans' hg'.out (hown.out.stored m (.bool true)).2), hid (by rw [← bmkS_set _ _ _ m HS.out]; exact (hown.out.stored m (.bool true)).1)⟩
            case measure => simp [intOf]; omega
          · obtain rfl : j = L0.length := by omega
            have HQ : Hid (bmkS xs.length (mwS (Ls.take k) (L0.take L0.length)) = bmkS xs.length (inW (Ls.take (k + 1)))) := hid (by
              rw [List.take_length]; congr 1; funext i; rw [HI.out])
            go_wp2
            go_roundw
            case rel => exact ⟨k + 1, by omega, by go_num, hid (grown_trans' hg.out hg'.out), hid (by rw [← HQ.out]; exact hown.out)⟩
            case measure => simp [intOf]; omega
      · obtain rfl : k = Ls.length := by omega
        have hb6 := hb5.grown hg.out hb5.size (by intro k e; simp at e; omega)
        go_wp2_with fail
        refine (indicesWhere_any 36 _ (inW Ls) xs.length _ hn (callFunc_enter Try.func36 (by kernel_rfl) (by kernel_rfl)) ?_).mono ?_
        · intro i w7 hi hb7
          refine sus1_any g0 p0 xs.length i (inW Ls i) w7 hi hl (((bcell hb7).1 _ _ (by omega)).trans hc0) (((bcell hb7).1 _ _ (by omega)).trans ?_)
          have := hown.out.cellAt i (by omega)
          rw [List.take_length, bmkS_at _ hi] at this
          simpa using this
        · rintro e w8 ⟨Ar, cr, rfl, o8, hb8⟩
          go_wp2
          go_ret2
          exact ⟨Ar, cr, by rw [HV.out, HC.out]; rfl, by rw [HV.out]; exact own_lo o8 hb6.size, Below.tr hb8 hb6⟩
end Go.Proofs.Ytalongdieglibaa
