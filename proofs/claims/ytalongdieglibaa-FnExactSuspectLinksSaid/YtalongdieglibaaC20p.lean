/- Contract: the first list of the fewest wrong links, in the program. -/
import Derived.Test.YtalongdieglibaaC20j
import Derived.Test.YtalongdieglibaaC20d
namespace Go.Proofs.Ytalongdieglibaa
open Go.RowKit
set_option linter.unusedVariables false
theorem wlGo_mem {n : Nat} {xs : List Lk} {g : List Int} : ∀ (f k : Nat), g ∈ wlGo n xs f k → ∃ j, g ∈ outW n xs j
  | 0, _, h => by simp [wlGo] at h
  | f + 1, k, h => by
    unfold wlGo at h
    split at h
    · exact wlGo_mem f (k + 1) h
    · exact ⟨k, h⟩
theorem fewV_len (stars : Int) (xs : List Lk) : (fewV stars xs).length ≤ xs.length := by
  unfold fewV
  split
  · unfold FW
    simp only
    cases hw : wlW stars.toNat xs with
    | nil => simp
    | cons g r =>
      have hm : g ∈ wlGo stars.toNat xs 13 0 := (show g ∈ wlW stars.toNat xs by rw [hw]; exact List.mem_cons_self)
      obtain ⟨j, hj⟩ := wlGo_mem 13 0 hm
      exact (combW_asc j [] 0 ⟨by simp, by simp⟩ (Nat.zero_le _) g (List.mem_filter.1 hj).1).1.len
  · simp
set_option maxRecDepth 20000 in
set_option maxHeartbeats 2000000 in
theorem implFewestWrong_any (stars : Int) (A : Option Addr) (c : Nat) (xs : List Lk) (w : World) (h : Rd encLk 3 w w.heap.size A xs) (hn : xs.length ≤ 1048576) :
    Calls Try.prog 19 #[.int .i64 stars, .slice A xs.length c] w (OwnTup 2 1 encI (fewV stars xs) (cwC stars xs) w) := by
  have C1 := implValidLinks_any stars A c xs w h hn
  cases hv : vlB stars xs
  · rw [hv] at C1
    have HV : Hid (fewV stars xs = []) := hid (by simp [fewV, hv])
    have HC : Hid (cwC stars xs = 1) := hid (by simp [cwC, hv])
    go_enter Try.func19, Try.ntmps19
    go_wp2_with (go_at_call 28; refine C1.mono ?_; rintro e w1 ⟨rfl, hb1⟩)
    go_ret2
    exact ⟨none, 0, by rw [HV.out, HC.out]; rfl, by rw [HV.out]; exact World.ownsRow_nil _ _ _ _, hb1⟩
  · rw [hv] at C1
    obtain ⟨n, rfl, n1, n2, hl, V⟩ := vlB_n hv
    have V := hid V
    have HV : Hid (∀ L0, (wlW n xs)[0]? = some L0 → fewV (n : Int) xs = L0) := hid (fun L0 h0 => by simp [fewV, hv, FW, List.head?_eq_getElem?, h0])
    have HC : Hid (cwC (n : Int) xs = 0) := hid (by simp [cwC, hv])
    clear hv
    go_enter Try.func19, Try.ntmps19
    go_wp2_with (first | (go_at_call 28; refine C1.mono ?_; rintro e w1 ⟨rfl, hb1⟩) | (go_at_call 30; refine (wrongLists_any n A c xs _ n1 n2 hl V ((h.below hb1 (Nat.le_refl _)).more hb1.size)).mono ?_; rintro e w2 ⟨A2, c2, po, hs, rfl, ow, hin, hpos, hb2⟩; obtain ⟨g2, rfl, _, zg2⟩ := own_form ow hpos; obtain ⟨L0, hL0⟩ := getx hpos; obtain ⟨A0, c0, hh, oL, _, _⟩ := hin 0 L0 hL0; have x0 := ow.cells (g := g2) rfl 0 _ hh; have e0 : (⟨g2, 0, none⟩ : Addr).add 0 = ⟨g2, 0, none⟩ := (by simp [Addr.add]); rw [e0] at x0))
    go_ret2
    have e9 := HV.out L0 hL0
    exact ⟨A0, c0, by rw [e9, HC.out]; rfl, by rw [e9]; exact own_lo oL hb1.size, Below.tr hb2 hb1⟩
end Go.Proofs.Ytalongdieglibaa
