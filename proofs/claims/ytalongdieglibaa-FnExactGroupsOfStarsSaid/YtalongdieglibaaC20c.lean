/- Contract: the reference's search for the fewest wrong links. -/
import Derived.Test.YtalongdieglibaaC20b
namespace Go.Proofs.Ytalongdieglibaa
open Go.RowKit
set_option linter.unusedVariables false
def FW (n : Nat) (xs : List Lk) : Wn := ⟨(wlW n xs).head?.getD [], idxW (inW (wlW n xs)) xs.length, ((wlW n xs).length : Int)⟩
theorem FW_end {n : Nat} {xs : List Lk} {k : Nat} (hk : k ≤ xs.length) (hn : xs.length ≤ 12) (h1 : outW n xs k ≠ []) (h2 : ∀ j, j < k → outW n xs j = []) : runW (okW n xs) ⟨[], [], 0⟩ (combW xs.length k [] 0) = FW n xs := by
  have hw := wlW_at h1 (by omega) h2
  have a1 := runW_first (ok := okW n xs) (combW xs.length k [] 0) ⟨[], [], 0⟩ (Int.le_refl _)
  have a2 := runW_end (n := n) (xs := xs) hk
  have a3 := runW_m (ok := okW n xs) (combW xs.length k [] 0) ⟨[], [], 0⟩
  unfold FW
  rw [hw]
  generalize runW (okW n xs) ⟨[], [], 0⟩ (combW xs.length k [] 0) = st at *
  obtain ⟨sf, ss, sm⟩ := st
  simp only at a1 a2 a3
  rw [if_pos trivial] at a1
  rw [a1, a2, a3, Int.zero_add]
  rfl
theorem Rd.grownB {α : Type} {enc : α → List Value} {k B : Nat} {w w' : World} {A : Option Addr} {xs : List α} {p : Nat} (h : Rd enc k w B A xs) (hg : w.grownBy w' (some p)) (hB : B ≤ w.heap.size) (hp : B ≤ p) : Rd enc k w' B A xs := fun hx => by
  obtain ⟨b, o, e, hb, hc⟩ := h hx
  refine ⟨b, o, e, hb, fun i x hi j v hj => ?_⟩
  rw [← hc i x hi j v hj]
  exact World.cell?_of_block (hg.block b (by omega) (by simp; omega))
theorem FW_m {n : Nat} {xs : List Lk} {k : Nat} (hn : xs.length ≤ 12) (hk : k ≤ xs.length) (h1 : outW n xs k ≠ []) (h2 : ∀ j, j < k → outW n xs j = []) : 0 < (FW n xs).m := by
  have hw := wlW_at h1 (by omega) h2
  unfold FW
  rw [hw]
  have := List.length_pos_iff.2 h1
  simp only
  omega
set_option maxRecDepth 20000 in
set_option maxHeartbeats 4000000 in
theorem l20Find_any (n : Nat) (AL : Option Addr) (cL : Nat) (xs : List Lk) (w : World) (n1 : 1 ≤ n) (n2 : n ≤ 10) (hn : xs.length ≤ 12) (V : Hid (∀ (k : Nat) (p : Lk), xs[k]? = some p → 0 ≤ p.a ∧ p.a < p.b ∧ p.b < n ∧ -5000 ≤ p.d ∧ p.d ≤ 5000)) (h : Rd encLk 3 w w.heap.size AL xs) :
    Calls Try.prog 26 #[.int .i64 (n : Int), .slice AL xs.length cL] w fun e w' => ∃ p, e = .returned (.pointer (some ⟨p, 0, none⟩)) ∧ SW w' p w.heap.size n xs.length AL cL (FW n xs) ∧ Below w.heap.size w w' := by
  have hb3 : Below w.heap.size w (((w.alloc (.cells #[] 2)).alloc (.cells #[] 2)).alloc (.cells #[.int .i64 (n : Int), .slice AL xs.length cL, .slice (some ⟨w.heap.size, 0, none⟩) 0 0, .slice (some ⟨w.heap.size + 1, 0, none⟩) 0 0, .int .i64 0] 43)) := (by repeat (first | assumption | exact Below.refl _ _ | apply Below.al | apply Below.drewN' | apply Below.drew | (apply Below.tr; assumption)))
  have hS3 : SW (((w.alloc (.cells #[] 2)).alloc (.cells #[] 2)).alloc (.cells #[.int .i64 (n : Int), .slice AL xs.length cL, .slice (some ⟨w.heap.size, 0, none⟩) 0 0, .slice (some ⟨w.heap.size + 1, 0, none⟩) 0 0, .int .i64 0] 43)) (w.heap.size + 2) w.heap.size n xs.length AL cL ⟨[], [], 0⟩ := by
    refine ⟨some ⟨w.heap.size, 0, none⟩, 0, some ⟨w.heap.size + 1, 0, none⟩, 0, ⟨by simp, by simp [go_sem], by simp [go_sem], ?_, ?_, by simp [go_sem], by simp [go_sem], by simp [go_sem], by simp [go_sem], ?_, ?_, fun b o e => ?_, fun b o e => ?_⟩⟩
    · show _ = some (Value.slice (some ⟨w.heap.size, 0, none⟩) 0 0)
      simp [go_sem]
    · show _ = some (Value.slice (some ⟨w.heap.size + 1, 0, none⟩) 0 0)
      simp [go_sem]
    · exact ((own_lit0 w 2 1 (lo := w.heap.size) (Nat.le_refl _)).alloc _).alloc _
    · exact (own_lit1 (w.alloc (.cells #[] 2)) 2 1 (lo := w.heap.size) (g := w.heap.size + 1) (by simp) (by omega)).alloc _
    · cases e; omega
    · cases e; omega
  have h3 : Rd encLk 3 (((w.alloc (.cells #[] 2)).alloc (.cells #[] 2)).alloc (.cells #[.int .i64 (n : Int), .slice AL xs.length cL, .slice (some ⟨w.heap.size, 0, none⟩) 0 0, .slice (some ⟨w.heap.size + 1, 0, none⟩) 0 0, .int .i64 0] 43)) w.heap.size AL xs := h.below hb3 (Nat.le_refl _)
  have HS3 := hid hS3
  have z3 : w.heap.size + 2 < (World.heap (((w.alloc (.cells #[] 2)).alloc (.cells #[] 2)).alloc (.cells #[.int .i64 (n : Int), .slice AL xs.length cL, .slice (some ⟨w.heap.size, 0, none⟩) 0 0, .slice (some ⟨w.heap.size + 1, 0, none⟩) 0 0, .int .i64 0] 43))).size := by simp
  go_enter Try.func26, Try.ntmps26
  go_wp2
  clear hS3
  generalize hW3 : (((w.alloc (.cells #[] 2)).alloc (.cells #[] 2)).alloc (.cells #[.int .i64 (n : Int), .slice AL xs.length cL, .slice (some ⟨w.heap.size, 0, none⟩) 0 0, .slice (some ⟨w.heap.size + 1, 0, none⟩) 0 0, .int .i64 0] 43)) = W3 at *
  clear hW3
  go_loopw [6] (fun v wr => ∃ (k : Nat) (st : Wn), v = .int .i64 (k : Int) ∧ k ≤ xs.length + 1 ∧ Hid (W3.grownBy wr (some (w.heap.size + 2))) ∧ Hid (SW wr (w.heap.size + 2) w.heap.size n xs.length AL cL st) ∧ Hid ((st = ⟨[], [], 0⟩ ∧ k ≤ xs.length ∧ ∀ j, j < k → outW n xs j = []) ∨ (0 < st.m ∧ st = FW n xs))) (fun v _ => xs.length + 1 - (intOf v).toNat)
  case atStart => exact ⟨0, _, rfl, by omega, hid (World.grownBy.refl _ _), HS3, hid (.inl ⟨rfl, Nat.zero_le _, fun j hj => by omega⟩)⟩
  case round =>
    clear HS3
    obtain ⟨k, st, rfl, hk1, HG, HT, HD⟩ := hrel
    obtain ⟨AF2, cF2, AU2, cU2, S5⟩ := HT.out
    have e4 := S5.c4
    have gz5 := HG.out.size
    rcases HD.out with ⟨rfl, hkm, hno⟩ | ⟨hpos, hst⟩
    · have h5 : Rd encLk 3 wr w.heap.size AL xs := h3.grownB HG.out (by omega) (by omega)
      have hcl := combW_few (m := xs.length) (k := k) (pre := []) (i := 0) hn (by omega)
      have HNO := hid hno
      clear hno HD
      go_wp2_with (go_at_call 39; have CC := walk_any n w.heap.size (w.heap.size + 2) AL cL xs n1 n2 hn V (by omega) k 0 (k : Int) 0 (some ⟨wr.heap.size, 0, none⟩) 0 [] ⟨[], [], 0⟩ (wr.alloc (.cells #[] 2)) (by omega) rfl rfl (Nat.zero_le _) (h5.below (Below.al (Below.refl _ _) _) (by omega)) (fun hx => absurd rfl hx) (fun e => by cases e) (fun b o e => by cases e; omega) ⟨by simp, by simp⟩ ⟨by simp, by simp⟩ (Int.le_refl _) (by simp only; omega) ⟨_, _, _, _, S5.below (Below.al (Below.refl _ _) _)⟩; refine CC.mono ?_; rintro e w3 ⟨rfl, hS3, hg3⟩; clear CC)
      have HG3 := hid (grown_trans' (grown_trans' HG.out (World.grownBy_alloc wr (.cells #[] 2) _)) hg3)
      have HD3 : Hid ((runW (okW n xs) ⟨[], [], 0⟩ (combW xs.length k [] 0) = ⟨[], [], 0⟩ ∧ k + 1 ≤ xs.length ∧ ∀ j, j < k + 1 → outW n xs j = []) ∨ (0 < (runW (okW n xs) ⟨[], [], 0⟩ (combW xs.length k [] 0)).m ∧ runW (okW n xs) ⟨[], [], 0⟩ (combW xs.length k [] 0) = FW n xs)) := hid (by
        by_cases ho : outW n xs k = []
        · refine .inl ⟨runW_none ho, ?_, fun j hj => ?_⟩
          · have := outW_last n xs
            rcases Nat.lt_or_ge k xs.length with hlt | hge
            · omega
            · have : k = xs.length := by omega
              subst this; contradiction
          · rcases Nat.lt_or_ge j k with hlt | hge
            · exact HNO.out j hlt
            · have : j = k := by omega
              subst this; exact ho
        · refine .inr ⟨?_, FW_end hkm hn ho HNO.out⟩
          rw [FW_end hkm hn ho HNO.out]
          exact FW_m hn hkm ho HNO.out)
      have HS3 := hid hS3
      clear hS3 hg3 S5
      go_roundw
      case rel => exact ⟨k + 1, _, by go_num, by omega, HG3, HS3, HD3⟩
      case measure => simp [intOf]; omega
    · have hm : (st.m == 0) = false := by simp; omega
      subst hst
      go_wp2
      go_ret
      exact ⟨_, rfl, HT.out, hb3.grown HG.out (by omega) (fun b hb => by cases hb; omega)⟩
end Go.Proofs.Ytalongdieglibaa
