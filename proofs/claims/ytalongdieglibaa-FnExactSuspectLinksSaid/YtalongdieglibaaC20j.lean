/- Contract: the lists of the fewest wrong links, in the program. -/
import Derived.Test.YtalongdieglibaaC20i
import Derived.Test.YtalongdieglibaaC20c
namespace Go.Proofs.Ytalongdieglibaa
open Go.RowKit
set_option linter.unusedVariables false
@[go_sem] theorem run_store_fn {P : Program} {w : World} {a : Addr} {m : Mode} {g : Fn} {bs cs : Array Value} : (store a (.func g bs cs) m).run P w = stored P w a (.func g bs cs) m := run_store P w a _ m rfl
def kOf (v : Value) (w : World) : Nat := match v with
  | .pointer (some a) => (match w.cell? a with | some x => (intOf x).toNat | none => 0)
  | _ => 0
def WlRes (n : Nat) (xs : List Lk) (w : World) (e : Ending) (w' : World) : Prop := ∃ A c po hs, e = .returned (.slice A (wlW n xs).length c) ∧ w'.ownsRow w.heap.size 36 1 (.slice A (wlW n xs).length c) (wlW n xs).length hs ∧ InO w' po w.heap.size (.slice A (wlW n xs).length c) hs (wlW n xs) ∧ 0 < (wlW n xs).length ∧ Below w.heap.size w w'
set_option maxRecDepth 20000 in
set_option maxHeartbeats 4000000 in
theorem wrongLists_any (n : Nat) (AL : Option Addr) (cL : Nat) (xs : List Lk) (w : World) (n1 : 1 ≤ n) (n2 : n ≤ 10) (hn : xs.length ≤ 12) (V : Hid (∀ (k : Nat) (p : Lk), xs[k]? = some p → 0 ≤ p.a ∧ p.a < p.b ∧ p.b < n ∧ -5000 ≤ p.d ∧ p.d ≤ 5000)) (h : Rd encLk 3 w w.heap.size AL xs) :
    Calls Try.prog 30 #[.int .i64 (n : Int), .slice AL xs.length cL] w (WlRes n xs w) := by
  have hb2 : Below w.heap.size w ((w.alloc (.cells #[.int .i64 (n : Int)] 2)).alloc (.cells #[.slice AL xs.length cL] 26)) := (by repeat (first | assumption | exact Below.refl _ _ | apply Below.al | apply Below.drewN' | apply Below.drew | (apply Below.tr; assumption)))
  go_enter Try.func30, Try.ntmps30
  go_wp2
  go_loopw [5] (fun v wr => ∃ (k bn : Nat), v = .pointer (some ⟨bn, 0, none⟩) ∧ k ≤ xs.length ∧ w.heap.size + 2 ≤ bn ∧ bn < wr.heap.size ∧ wr.cell? ⟨bn, 0, none⟩ = some (.int .i64 (k : Int)) ∧ wr.frozen? ⟨bn, 0, none⟩ = false ∧ Hid (Below (World.heap ((w.alloc (.cells #[.int .i64 (n : Int)] 2)).alloc (.cells #[.slice AL xs.length cL] 26))).size ((w.alloc (.cells #[.int .i64 (n : Int)] 2)).alloc (.cells #[.slice AL xs.length cL] 26)) wr) ∧ Hid (∀ j, j < k → outW n xs j = [])) (fun v wr => xs.length + 1 - kOf v wr)
  case atStart => exact ⟨0, w.heap.size + 2, rfl, Nat.zero_le _, Nat.le_refl _, by simp, by simp [go_sem], by simp [go_sem], hid (by repeat (first | assumption | exact Below.refl _ _ | apply Below.al | apply Below.drewN' | apply Below.drew | (apply Below.tr; assumption))), hid (fun j hj => by omega)⟩
  case round =>
    obtain ⟨k, bn, rfl, hk, hbn, zbn, cn, fn', HB, HN⟩ := hrel
    have hz := HB.out.size
    simp at hz
    have hb3 : Below wr.heap.size wr (((wr.alloc (.cells #[] 36)).alloc (.cells #[.slice (some ⟨wr.heap.size, 0, none⟩) 0 0] 30)).alloc (.cells #[.func (.func 42) #[] #[.pointer (some ⟨bn, 0, none⟩), .pointer (some ⟨w.heap.size + 1, 0, none⟩), .pointer (some ⟨w.heap.size, 0, none⟩), .pointer (some ⟨wr.heap.size + 1, 0, none⟩), .pointer (some ⟨wr.heap.size + 1 + 1, 0, none⟩)]] 66)) := (by repeat (first | assumption | exact Below.refl _ _ | apply Below.al | apply Below.drewN' | apply Below.drew | (apply Below.tr; assumption)))
    have b2 := HB.out
    have c1 := ((bcell b2).1 w.heap.size 0 (by simp; omega)).trans (show ((w.alloc (.cells #[.int .i64 (n : Int)] 2)).alloc (.cells #[.slice AL xs.length cL] 26)).cell? ⟨w.heap.size, 0, none⟩ = some (.int .i64 (n : Int)) by simp [go_sem])
    have c2 := ((bcell b2).1 (w.heap.size + 1) 0 (by simp)).trans (show ((w.alloc (.cells #[.int .i64 (n : Int)] 2)).alloc (.cells #[.slice AL xs.length cL] 26)).cell? ⟨w.heap.size + 1, 0, none⟩ = some (.slice AL xs.length cL) by simp [go_sem])
    have hbw : Below w.heap.size w wr := Below.tr b2 hb2
    have hS3 : OutS (((wr.alloc (.cells #[] 36)).alloc (.cells #[.slice (some ⟨wr.heap.size, 0, none⟩) 0 0] 30)).alloc (.cells #[.func (.func 42) #[] #[.pointer (some ⟨bn, 0, none⟩), .pointer (some ⟨w.heap.size + 1, 0, none⟩), .pointer (some ⟨w.heap.size, 0, none⟩), .pointer (some ⟨wr.heap.size + 1, 0, none⟩), .pointer (some ⟨wr.heap.size + 1 + 1, 0, none⟩)]] 66)) (wr.heap.size + 1) w.heap.size (.slice (some ⟨wr.heap.size, 0, none⟩) 0 0) [] := ⟨by simp, by simp [go_sem], by simp [go_sem], by simp [Value.ownBlock], [], ((own_lit0 wr 36 1 (lo := w.heap.size) (by omega)).alloc _).alloc _, fun i L hi => by simp at hi⟩
    have hC3 : CapW (((wr.alloc (.cells #[] 36)).alloc (.cells #[.slice (some ⟨wr.heap.size, 0, none⟩) 0 0] 30)).alloc (.cells #[.func (.func 42) #[] #[.pointer (some ⟨bn, 0, none⟩), .pointer (some ⟨w.heap.size + 1, 0, none⟩), .pointer (some ⟨w.heap.size, 0, none⟩), .pointer (some ⟨wr.heap.size + 1, 0, none⟩), .pointer (some ⟨wr.heap.size + 1 + 1, 0, none⟩)]] 66)) bn (w.heap.size + 1) w.heap.size (wr.heap.size + 1) (wr.heap.size + 1 + 1) (Value.slice (some ⟨wr.heap.size, 0, none⟩) 0 0).ownBlock n xs.length AL cL (k : Int) :=
      ⟨((bcell hb3).1 bn 0 zbn).trans cn, ((bcell hb3).1 _ 0 (by omega)).trans c2, ((bcell hb3).1 _ 0 (by omega)).trans c1, by simp [go_sem], ⟨by simp; omega, by omega, by simp [Value.ownBlock]; omega⟩, ⟨by simp; omega, by omega, by simp [Value.ownBlock]; omega⟩, ⟨by simp; omega, by omega, by simp [Value.ownBlock]; omega⟩, ⟨by simp, by omega, by simp [Value.ownBlock]; omega⟩⟩
    have hpow := combW_pow (m := xs.length) xs.length k [] 0 (by omega)
    have hpow2 : 2 ^ xs.length ≤ 2 ^ 12 := Nat.pow_le_pow_right (by omega) hn
    have CX := ext_any n w.heap.size bn (w.heap.size + 1) w.heap.size (wr.heap.size + 1) (wr.heap.size + 1 + 1) AL cL xs n1 n2 hn V k (by omega) k 0 0 none 0 [] (.slice (some ⟨wr.heap.size, 0, none⟩) 0 0) [] (((wr.alloc (.cells #[] 36)).alloc (.cells #[.slice (some ⟨wr.heap.size, 0, none⟩) 0 0] 30)).alloc (.cells #[.func (.func 42) #[] #[.pointer (some ⟨bn, 0, none⟩), .pointer (some ⟨w.heap.size + 1, 0, none⟩), .pointer (some ⟨w.heap.size, 0, none⟩), .pointer (some ⟨wr.heap.size + 1, 0, none⟩), .pointer (some ⟨wr.heap.size + 1 + 1, 0, none⟩)]] 66)) (by simp) rfl (Nat.zero_le _) ((h.below (Below.tr hb3 hbw) (Nat.le_refl _)).more (Below.tr hb3 hbw).size) (fun hx b o e => by obtain ⟨b', o', e', hb', _⟩ := h hx; rw [e] at e'; cases e'; have := hbw.size; simp [Value.ownBlock]; omega) (fun hx => absurd rfl hx) (fun _ => rfl) (fun b o e => by cases e) ⟨by simp, by simp⟩ hC3 hS3 (by simp; omega) (by simp only [List.length_nil]; omega)
    have HC3 := hid hC3
    clear hS3 hC3 hpow hpow2
    rw [List.nil_append] at CX
    have hL : outO n xs k [] 0 = outW n xs k := rfl
    rw [hL] at CX
    clear hL
    obtain ⟨L, hL⟩ : ∃ L, L = outW n xs k := ⟨_, rfl⟩
    rw [← hL] at CX
    have HL := hid hL
    clear hL
    have arm1 : True := trivial
    rcases L with _ | ⟨g0, L⟩
    · have hkl : k < xs.length := by
        have := outW_last n xs
        rcases Nat.lt_or_ge k xs.length with hlt | hge
        · exact hlt
        · have e : k = xs.length := by omega
          have := HL.out; rw [e] at this; exact absurd this.symm (outW_last n xs)
      have d0 : decide ((0 : Int) < (([] : List (List Int)).length : Int)) = false := by simp
      go_wp2_with (go_at_call 42; refine CX.mono ?_; rintro e w9 ⟨rfl, v9, hS9, hf9, hr9⟩; have k1 := hS9.c; have k2 := (HC3.out.fr hf9 hr9).cn; have k3 := hS9.lp; obtain ⟨hs, ow, hin⟩ := hS9.ex; obtain ⟨A9, c9, rfl⟩ := own_shape ow)
      have hz3 := hb3.size
      have hB9 : Below (World.heap ((w.alloc (.cells #[.int .i64 (n : Int)] 2)).alloc (.cells #[.slice AL xs.length cL] 26))).size ((w.alloc (.cells #[.int .i64 (n : Int)] 2)).alloc (.cells #[.slice AL xs.length cL] 26)) w9 := (Below.trans b2 (hb3.mono (by simp; omega))).trans (hf9.below (by simp at *; omega) (by simp; omega) (fun g hg => by simp [Value.ownBlock] at hg; simp; omega))
      have hz9 := hB9.size
      refine ⟨⟨k + 1, w9.heap.size, rfl, by omega, by simp at hz9; omega, by simp, by simp [go_sem], by simp [go_sem], hid (Below.al hB9 _), hid (fun j hj => by
        rcases Nat.lt_or_ge j k with hlt | hge
        · exact HN.out j hlt
        · have e : j = k := by omega
          rw [e]; exact HL.out.symm)⟩, ?_⟩
      simp [kOf, cn, go_sem, intOf]
      omega
    · have d0 : decide ((0 : Int) < ((g0 :: L).length : Int)) = true := by simp
      go_wp2_with (go_at_call 42; refine CX.mono ?_; rintro e w9 ⟨rfl, v9, hS9, hf9, hr9⟩; have k1 := hS9.c; have k2 := (HC3.out.fr hf9 hr9).cn; have k3 := hS9.lp; obtain ⟨hs, ow, hin⟩ := hS9.ex; obtain ⟨A9, c9, rfl⟩ := own_shape ow)
      have hw := wlW_at (n := n) (xs := xs) (k := k) (by rw [← HL.out]; simp) (by omega) HN.out
      rw [← HL.out] at hw
      go_ret
      have hz3 := hb3.size
      have hB9 : Below w.heap.size w w9 := (Below.tr hb3 hbw).trans (hf9.below (by have := hbw.size; simp at *; omega) (by have := hbw.size; omega) (fun g hg => by have := hbw.size; simp [Value.ownBlock] at hg; omega))
      unfold WlRes
      rw [hw]
      exact ⟨A9, c9, wr.heap.size + 1, hs, rfl, ow, hin, by simp, hB9⟩
end Go.Proofs.Ytalongdieglibaa
