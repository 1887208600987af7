/- Contracts: rules that are never reached, in the program and in the reference. -/
import Derived.Test.YtbjanedofdcgdaaC18q
import Derived.Test.YtbjanedofdcgdaaC18m
import Derived.Test.YtbjanedofdcgdaaCIdx
namespace Go.Proofs.Ytbjanedofdcgdaa
open Go.RowKit
set_option linter.unusedVariables false
def nvB (xs : List Ru) (i : Nat) : Bool := !(fndR xs i).isSome
def nvV (xs : List Ru) : List Int := if ruL xs = true then idxW (nvB xs) xs.length else []
def nvC (xs : List Ru) : Int := if ruL xs = true then 0 else 1
theorem nvV_len (xs : List Ru) : (nvV xs).length ≤ xs.length := by
  unfold nvV; split
  · exact idxW_len _ _
  · simp
theorem never1_any (A : Option Addr) (c : Nat) (xs : List Ru) (i g : Nat) (w : World) (h : Rd encRu 6 w w.heap.size A xs) (hr : ruL xs = true) (e : w.cell? ⟨g, 0, none⟩ = some (.slice A xs.length c)) :
    Calls Try.prog 32 #[.int .i64 i, .pointer (some ⟨g, 0, none⟩)] w fun e w' => e = .returned (.bool (nvB xs i)) ∧ Below w.heap.size w w' := by
  have CF := factsFor_any A c xs i w h hr
  have HV : Hid (nvB xs i = !(fndR xs i).isSome) := hid rfl
  clear hr
  generalize fndR xs i = O at *
  cases O
  all_goals
    go_enter Try.func32, Try.ntmps32
    go_wp2_with (go_at_call 26; refine CF.mono ?_; rintro e w1 ⟨rfl, hb1⟩)
    go_ret
    exact ⟨ret_bool (by rw [HV.out]; simp), (by repeat (first | assumption | exact Below.refl _ _ | apply Below.al | apply Below.drewN' | apply Below.drew | (refine Below.sc ?_ (by first | omega | (simp; done) | (simp; omega)) _) | (apply Below.tr; assumption)))⟩
set_option maxRecDepth 20000 in
set_option maxHeartbeats 2000000 in
theorem implNeverReached_any (A : Option Addr) (c : Nat) (xs : List Ru) (w : World) (h : Rd encRu 6 w w.heap.size A xs) (hn : xs.length ≤ 1048576) (wf : ∀ x ∈ xs, x.s.size ≤ maxLen) :
    Calls Try.prog 15 #[.slice A xs.length c] w (OwnTup 2 1 encI (nvV xs) (nvC xs) w) := by
  have hb0 : Below w.heap.size w (w.alloc (.cells #[.slice A xs.length c] 28)) := (by repeat (first | assumption | exact Below.refl _ _ | apply Below.al | apply Below.drewN' | apply Below.drew | (apply Below.tr; assumption)))
  have C1 := validRules_any A c xs (w.alloc (.cells #[.slice A xs.length c] 28)) ((h.below hb0 (Nat.le_refl _)).more hb0.size) hn wf
  cases hr : ruL xs
  · rw [hr] at C1
    have HV : Hid (nvV xs = []) := hid (by simp [nvV, hr])
    have HC : Hid (nvC xs = 1) := hid (by simp [nvC, hr])
    go_enter Try.func15, Try.ntmps15
    go_wp2_with (go_at_call 24; refine C1.mono ?_; rintro e w1 ⟨rfl, hb1⟩)
    go_ret2
    exact ⟨none, 0, by rw [HV.out, HC.out]; rfl, by rw [HV.out]; exact World.ownsRow_nil _ _ _ _, (by repeat (first | assumption | exact Below.refl _ _ | apply Below.al | apply Below.drewN' | apply Below.drew | (apply Below.tr; assumption)))⟩
  rw [hr] at C1
  have HV : Hid (nvV xs = idxW (nvB xs) xs.length) := hid (by simp [nvV, hr])
  have HC : Hid (nvC xs = 0) := hid (by simp [nvC, hr])
  go_enter Try.func15, Try.ntmps15
  go_wp2_with ((go_at_call 24; refine C1.mono ?_; rintro e w1 ⟨rfl, hb1⟩); have hcell : w1.cell? ⟨w.heap.size, 0, none⟩ = some (.slice A xs.length c) := ((bcell hb1).1 w.heap.size 0 (by simp)).trans (by simp [go_sem]))
  have hw : Below w.heap.size w w1 := Below.tr hb1 hb0
  have hz1 := hb1.size
  simp at hz1
  refine (indicesWhere_any 32 _ (nvB xs) xs.length _ hn (callFunc_enter Try.func32 (by kernel_rfl) (by kernel_rfl)) ?_).mono ?_
  · intro i w3 hi hb3
    exact never1_any A c xs i w.heap.size w3 ((h.below (Below.tr hb3 hw) (Nat.le_refl _)).more (by have := hb3.size; have := hw.size; omega)) hr (((bcell hb3).1 _ _ (by omega)).trans hcell)
  · rintro e w5 ⟨Ar, cr, rfl, o5, hb5⟩
    go_wp2
    go_ret2
    exact ⟨Ar, cr, by rw [HV.out, HC.out]; rfl, by rw [HV.out]; exact own_lo o5 hw.size, Below.tr hb5 hw⟩
set_option maxRecDepth 20000 in
set_option maxHeartbeats 2000000 in
theorem specNeverReached_any (A : Option Addr) (c : Nat) (xs : List Ru) (w : World) (h : Rd encRu 6 w w.heap.size A xs) (hn : xs.length ≤ 1048576) (wf : ∀ x ∈ xs, x.s.size ≤ maxLen) :
    Calls Try.prog 14 #[.slice A xs.length c] w (OwnTup 2 1 encI (nvV xs) (nvC xs) w) := by
  have hb0 : Below w.heap.size w w := (by repeat (first | assumption | exact Below.refl _ _ | apply Below.al | apply Below.drewN' | apply Below.drew | (apply Below.tr; assumption)))
  have C1 := l18Ok_any A c xs w ((h.below hb0 (Nat.le_refl _)).more hb0.size) hn wf
  cases hr : ruL xs
  · rw [hr] at C1
    have HV : Hid (nvV xs = []) := hid (by simp [nvV, hr])
    have HC : Hid (nvC xs = 1) := hid (by simp [nvC, hr])
    go_enter Try.func14, Try.ntmps14
    go_wp2_with (go_at_call 21; refine C1.mono ?_; rintro e w1 ⟨rfl, hb1⟩)
    go_ret2
    exact ⟨none, 0, by rw [HV.out, HC.out]; rfl, by rw [HV.out]; exact World.ownsRow_nil _ _ _ _, (by repeat (first | assumption | exact Below.refl _ _ | apply Below.al | apply Below.drewN' | apply Below.drew | (apply Below.tr; assumption)))⟩
  rw [hr] at C1
  have HV : Hid (nvV xs = idxW (nvB xs) xs.length) := hid (by simp [nvV, hr])
  have HC : Hid (nvC xs = 0) := hid (by simp [nvC, hr])
  obtain ⟨i0, hi0, iz0, iz1, iz2⟩ := info_parts (P := Try.prog) (e := 2) (z := .int .i64 0) (size := 1) (bytes := 8) (by kernel_rfl)
  go_enter Try.func14, Try.ntmps14
  go_wp2_with (go_at_call 21; refine C1.mono ?_; rintro e w1 ⟨rfl, hb1⟩)
  have hz1 := hb1.size
  go_loopw [4, 5] (fun v i wr => ∃ k : Nat, k ≤ xs.length ∧ i = .int .i64 k ∧ Below w.heap.size w wr ∧ wr.ownsRow w.heap.size 2 1 v (idxW (nvB xs) k).length ((idxW (nvB xs) k).flatMap encI)) (fun _ i _ => xs.length - (intOf i).toNat)
  case atStart => exact ⟨0, Nat.zero_le _, rfl, (by repeat (first | assumption | exact Below.refl _ _ | apply Below.al | apply Below.drewN' | apply Below.drew | (apply Below.tr; assumption))), own_lit0 _ _ _ (by omega)⟩
  case round =>
    obtain ⟨k, hk, rfl, hb, hown⟩ := hrel
    by_cases hlt : k < xs.length
    · have hl := idxW_len (nvB xs) k
      have H0 := hid hown
      have CF := l18Find_any A c xs k wr ((h.below hb (Nat.le_refl _)).more hb.size) hr
      have HN : Hid (nvB xs k = !(fndR xs k).isSome) := hid rfl
      clear hown
      generalize fndR xs k = O at *
      cases O with
      | some fa =>
        have HF : Hid (nvB xs k = false) := hid (by rw [HN.out]; rfl)
        go_wp2_with (go_at_call 22; refine CF.mono ?_; rintro e w2 ⟨rfl, hb2⟩)
        have hb2' := Below.tr hb2 hb
        have H3 := hid (own_below H0.out (Below.al hb2 (.cells #[.int .i64 fa.a, .int .i64 fa.p, .int .i64 fa.s] 25)) (Nat.le_refl _))
        go_roundw
        case rel => exact ⟨k + 1, by omega, by go_num, (by repeat (first | assumption | exact Below.refl _ _ | apply Below.al | apply Below.drewN' | apply Below.drew | (apply Below.tr; assumption))), by rw [idxW_no HF.out]; exact H3.out⟩
        case measure => simp [intOf]; omega
      | none =>
        have HF : Hid (nvB xs k = true) := hid (by rw [HN.out]; rfl)
        go_wp2_with (first | (go_at_call 22; refine CF.mono ?_; rintro e w2 ⟨rfl, hb2⟩; have hb2' := Below.tr hb2 hb; have hz2 := hb2'.size; have H3 := hid (own_below H0.out (Below.al hb2 (.cells #[.int .i64 (fdF none).a, .int .i64 (fdF none).p, .int .i64 (fdF none).s] 25)) (Nat.le_refl _))) | (at_builtin; go_must (refine wpList_append_own _ rfl _ _ 35 rfl (w.heap.size) 2 i0 _ 1 8 Try.underlying35 hi0 iz0 iz1 iz2 rfl (by decide) _ _ _ rfl (H3.out.alloc _) ⟨(w2.heap.size + 1), 0, none⟩ 1 1 [.int .i64 (k : Int)] rfl rfl (by have hh := news_at (w2.alloc (.cells #[.int .i64 (fdF none).a, .int .i64 (fdF none).p, .int .i64 (fdF none).s] 25)) [.int .i64 (k : Int)] 2; simp only [World.size_alloc] at hh; exact hh) (by simp [Value.oneCell']) (by unfold maxLen; omega) (by omega) (by first | omega | (simp; done) | (simp; omega)) ?_); intro v3 w3 own_w3 grow_w3 _))
        go_roundw
        case rel => exact ⟨k + 1, by omega, by go_num, Below.ap (Below.al hb2' _) (by simp; omega) H3.out (Nat.le_refl _) grow_w3, by rw [idxW_yes HF.out]; simpa [encI] using own_w3⟩
        case measure => simp [intOf]; omega
    · obtain rfl : k = xs.length := by omega
      obtain ⟨Ar, cr, rfl⟩ := own_shape hown
      have H0 := hid hown
      clear hown
      go_wp2
      go_ret2
      exact ⟨Ar, cr, by rw [HV.out, HC.out]; rfl, by rw [HV.out]; exact H0.out, hb⟩
end Go.Proofs.Ytbjanedofdcgdaa
