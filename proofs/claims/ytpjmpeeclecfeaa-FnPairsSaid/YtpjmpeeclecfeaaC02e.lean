/- Contracts: the stars on both sides of a magnitude, in the program. -/
import Derived.Test.YtpjmpeeclecfeaaC00
import Derived.Test.YtpjmpeeclecfeaaC21a
namespace Go.Proofs.Ytpjmpeeclecfeaa
open Go.RowKit
set_option linter.unusedVariables false
def LowOk (xs : List Int) (m : Int) (k : Nat) (low : Int) : Prop := (low = -1 ∧ ∀ (j : Nat) (x : Int), j < k → xs[j]? = some x → m < x) ∨ ∃ (a : Nat) (xa : Int), low = a ∧ a < k ∧ xs[a]? = some xa ∧ xa ≤ m ∧ ∀ (j : Nat) (x : Int), j < k → xs[j]? = some x → x ≤ m → x ≤ xa
def HighOk (xs : List Int) (m : Int) (k : Nat) (high : Int) : Prop := (high = -1 ∧ ∀ (j : Nat) (x : Int), j < k → xs[j]? = some x → x ≤ m) ∨ ∃ (b : Nat) (xb : Int), high = b ∧ b < k ∧ xs[b]? = some xb ∧ m < xb ∧ ∀ (j : Nat) (x : Int), j < k → xs[j]? = some x → m < x → xb ≤ x
theorem step_lt {j k : Nat} (h : j < k + 1) : j < k ∨ j = k := by omega
theorem low_skip {xs : List Int} {m low x : Int} {k : Nat} (h : LowOk xs m k low) (hx : xs[k]? = some x) (hm : m < x) : LowOk xs m (k + 1) low := by
  rcases h with ⟨h1, h2⟩ | ⟨a, xa, h1, h2, h3, h4, h5⟩
  · refine .inl ⟨h1, fun j y hj hy => ?_⟩
    rcases step_lt hj with hj | rfl
    · exact h2 j y hj hy
    · rw [hx] at hy; cases hy; exact hm
  · refine .inr ⟨a, xa, h1, by omega, h3, h4, fun j y hj hy hl => ?_⟩
    rcases step_lt hj with hj | rfl
    · exact h5 j y hj hy hl
    · rw [hx] at hy; cases hy; omega
theorem low_new {xs : List Int} {m x : Int} {k : Nat} (h : ∀ (j : Nat) (x : Int), j < k → xs[j]? = some x → m < x) (hx : xs[k]? = some x) (hm : x ≤ m) : LowOk xs m (k + 1) k := by
  refine .inr ⟨k, x, rfl, by omega, hx, hm, fun j y hj hy hl => ?_⟩
  rcases step_lt hj with hj | rfl
  · have := h j y hj hy; omega
  · rw [hx] at hy; cases hy; omega
theorem low_up {xs : List Int} {m x xa : Int} {k : Nat} (h : ∀ (j : Nat) (x : Int), j < k → xs[j]? = some x → x ≤ m → x ≤ xa) (hx : xs[k]? = some x) (hm : x ≤ m) (hl : xa < x) : LowOk xs m (k + 1) k := by
  refine .inr ⟨k, x, rfl, by omega, hx, hm, fun j y hj hy hyl => ?_⟩
  rcases step_lt hj with hj | rfl
  · have := h j y hj hy hyl; omega
  · rw [hx] at hy; cases hy; omega
theorem low_keep {xs : List Int} {m x xa : Int} {a k : Nat} (ha : a < k) (hxa : xs[a]? = some xa) (hm : xa ≤ m) (h : ∀ (j : Nat) (x : Int), j < k → xs[j]? = some x → x ≤ m → x ≤ xa) (hx : xs[k]? = some x) (hl : ¬ xa < x) : LowOk xs m (k + 1) a := by
  refine .inr ⟨a, xa, rfl, by omega, hxa, hm, fun j y hj hy hyl => ?_⟩
  rcases step_lt hj with hj | rfl
  · exact h j y hj hy hyl
  · rw [hx] at hy; cases hy; omega
theorem high_skip {xs : List Int} {m high x : Int} {k : Nat} (h : HighOk xs m k high) (hx : xs[k]? = some x) (hm : x ≤ m) : HighOk xs m (k + 1) high := by
  rcases h with ⟨h1, h2⟩ | ⟨a, xa, h1, h2, h3, h4, h5⟩
  · refine .inl ⟨h1, fun j y hj hy => ?_⟩
    rcases step_lt hj with hj | rfl
    · exact h2 j y hj hy
    · rw [hx] at hy; cases hy; exact hm
  · refine .inr ⟨a, xa, h1, by omega, h3, h4, fun j y hj hy hl => ?_⟩
    rcases step_lt hj with hj | rfl
    · exact h5 j y hj hy hl
    · rw [hx] at hy; cases hy; omega
theorem high_new {xs : List Int} {m x : Int} {k : Nat} (h : ∀ (j : Nat) (x : Int), j < k → xs[j]? = some x → x ≤ m) (hx : xs[k]? = some x) (hm : m < x) : HighOk xs m (k + 1) k := by
  refine .inr ⟨k, x, rfl, by omega, hx, hm, fun j y hj hy hl => ?_⟩
  rcases step_lt hj with hj | rfl
  · have := h j y hj hy; omega
  · rw [hx] at hy; cases hy; omega
theorem high_up {xs : List Int} {m x xb : Int} {k : Nat} (h : ∀ (j : Nat) (x : Int), j < k → xs[j]? = some x → m < x → xb ≤ x) (hx : xs[k]? = some x) (hm : m < x) (hl : x < xb) : HighOk xs m (k + 1) k := by
  refine .inr ⟨k, x, rfl, by omega, hx, hm, fun j y hj hy hyl => ?_⟩
  rcases step_lt hj with hj | rfl
  · have := h j y hj hy hyl; omega
  · rw [hx] at hy; cases hy; omega
theorem high_keep {xs : List Int} {m x xb : Int} {a k : Nat} (ha : a < k) (hxa : xs[a]? = some xb) (hm : m < xb) (h : ∀ (j : Nat) (x : Int), j < k → xs[j]? = some x → m < x → xb ≤ x) (hx : xs[k]? = some x) (hl : ¬ x < xb) : HighOk xs m (k + 1) a := by
  refine .inr ⟨a, xb, rfl, by omega, hxa, hm, fun j y hj hy hyl => ?_⟩
  rcases step_lt hj with hj | rfl
  · exact h j y hj hy hyl
  · rw [hx] at hy; cases hy; omega
def EpRes (xs : List Int) (m : Int) (w : World) (e : Ending) (w' : World) : Prop := ∃ a b code : Int, e = .returned (.tuple #[.int .i64 a, .int .i64 b, .int .i64 code]) ∧ Below w.heap.size w w' ∧
  ((code = 3 ∧ ((∀ (j : Nat) (x : Int), xs[j]? = some x → m < x) ∨ (∀ (j : Nat) (x : Int), xs[j]? = some x → x ≤ m))) ∨
   (code = 0 ∧ ∃ (ja jb : Nat) (xa xb : Int), a = ja ∧ b = jb ∧ xs[ja]? = some xa ∧ xs[jb]? = some xb ∧ xa ≤ m ∧ m < xb ∧ (∀ (j : Nat) (x : Int), xs[j]? = some x → x ≤ m → x ≤ xa) ∧ (∀ (j : Nat) (x : Int), xs[j]? = some x → m < x → xb ≤ x)))
set_option maxRecDepth 20000 in
set_option maxHeartbeats 2000000 in
theorem enclosingPair_any (A : Option Addr) (c : Nat) (xs : List Int) (m : Int) (w : World) (h : Rd encI 1 w w.heap.size A xs) (hn : xs.length ≤ 1048576) (h1 : magsB xs = true) (h2 : inB m (-2000) 20000 = true) :
    Calls Try.prog 9 #[.slice A xs.length c, .int .i64 m] w (EpRes xs m w) := by
  go_enter Try.func9, Try.ntmps9
  go_wp2_with (first | (go_at_call 19; refine (areMags_any A c xs _ h hn).mono ?_; rintro e w1 ⟨rfl, hb1⟩; obtain ⟨hc_w1, hf_w1⟩ := bcell hb1; have hz_w1 := hb1.size) | (go_at_call 20; refine (validMag_any _ _).mono ?_; rintro e w' ⟨rfl, rfl⟩))
  go_loopw [7, 8, 21] (fun lv hv i wr => ∃ (k : Nat) (low high : Int), k ≤ xs.length ∧ i = .int .i64 k ∧ lv = .int .i64 low ∧ hv = .int .i64 high ∧ Below w.heap.size w wr ∧ Hid (LowOk xs m k low) ∧ Hid (HighOk xs m k high)) (fun _ _ i _ => xs.length - (intOf i).toNat)
  case atStart => exact ⟨0, -1, -1, Nat.zero_le _, rfl, rfl, rfl, (by repeat (first | assumption | exact Below.refl _ _ | apply Below.al | apply Below.drewN' | apply Below.drew | (apply Below.tr; assumption))), hid (.inl ⟨rfl, fun j x hj => by omega⟩), hid (.inl ⟨rfl, fun j x hj => by omega⟩)⟩
  case round =>
    obtain ⟨k, low, high, hk, rfl, rfl, rfl, hb, LO, HI⟩ := hrel
    by_cases hlt : k < xs.length
    · obtain ⟨x, hx⟩ := getx hlt
      obtain ⟨b, o, rfl, hbB, c0⟩ := (h.below hb (Nat.le_refl _)).at1 hx rfl
      have hsz := hb.size
      have HX := hid hx
      by_cases hm : x ≤ m
      · have t1 : decide (x ≤ m) = true := by simpa using hm
        have t2 : decide (m < x) = false := by simp; omega
        have HI2 := hid (high_skip HI.out HX.out hm)
        rcases LO.out with ⟨rfl, hl⟩ | ⟨a, xa, rfl, ha, hxa, hle, hmx⟩
        · have LN := hid (low_new hl HX.out hm)
          clear hl hx LO
          go_wp2
          go_roundw
          case rel => exact ⟨k + 1, (k : Int), high, by omega, by go_num, rfl, rfl, (by repeat (first | assumption | exact Below.refl _ _ | apply Below.al | apply Below.drewN' | apply Below.drew | (apply Below.tr; assumption))), hid (LN.out), hid (HI2.out)⟩
          case measure => simp [intOf]; omega
        · have d0 : wr.cell? ⟨b, o + a, none⟩ = some (.int .i64 xa) := by (obtain ⟨_, _, e1, _, d0⟩ := (h.below hb (Nat.le_refl _)).at1 hxa rfl; simp at e1; obtain ⟨rfl, rfl⟩ := e1; exact d0)
          have da : decide ((a : Int) < 0) = false := by simp
          have la : a < xs.length := by omega
          by_cases hg : xa < x
          · have LN := hid (low_up hmx HX.out hm hg)
            have t3 : decide (xa < x) = true := by simpa using hg
            clear hmx hxa hx LO
            go_wp2
            go_roundw
            case rel => exact ⟨k + 1, (k : Int), high, by omega, by go_num, rfl, rfl, (by repeat (first | assumption | exact Below.refl _ _ | apply Below.al | apply Below.drewN' | apply Below.drew | (apply Below.tr; assumption))), hid (LN.out), hid (HI2.out)⟩
            case measure => simp [intOf]; omega
          · have LN := hid (low_keep ha hxa hle hmx HX.out hg)
            have t3 : decide (xa < x) = false := by simpa using hg
            clear hmx hxa hx LO
            go_wp2
            go_roundw
            case rel => exact ⟨k + 1, (a : Int), high, by omega, by go_num, rfl, rfl, (by repeat (first | assumption | exact Below.refl _ _ | apply Below.al | apply Below.drewN' | apply Below.drew | (apply Below.tr; assumption))), hid (LN.out), hid (HI2.out)⟩
            case measure => simp [intOf]; omega
      · have t1 : decide (x ≤ m) = false := by simpa using hm
        have t2 : decide (m < x) = true := by simp; omega
        have LO2 := hid (low_skip LO.out HX.out (by omega))
        rcases HI.out with ⟨rfl, hl⟩ | ⟨a, xa, rfl, ha, hxa, hle, hmx⟩
        · have HN := hid (high_new hl HX.out (by omega))
          clear hl hx HI
          go_wp2
          go_roundw
          case rel => exact ⟨k + 1, low, (k : Int), by omega, by go_num, rfl, rfl, (by repeat (first | assumption | exact Below.refl _ _ | apply Below.al | apply Below.drewN' | apply Below.drew | (apply Below.tr; assumption))), hid (LO2.out), hid (HN.out)⟩
          case measure => simp [intOf]; omega
        · have d0 : wr.cell? ⟨b, o + a, none⟩ = some (.int .i64 xa) := by (obtain ⟨_, _, e1, _, d0⟩ := (h.below hb (Nat.le_refl _)).at1 hxa rfl; simp at e1; obtain ⟨rfl, rfl⟩ := e1; exact d0)
          have da : decide ((a : Int) < 0) = false := by simp
          have la : a < xs.length := by omega
          by_cases hg : x < xa
          · have HN := hid (high_up hmx HX.out (by omega) hg)
            have t3 : decide (x < xa) = true := by simpa using hg
            clear hmx hxa hx HI
            go_wp2
            go_roundw
            case rel => exact ⟨k + 1, low, (k : Int), by omega, by go_num, rfl, rfl, (by repeat (first | assumption | exact Below.refl _ _ | apply Below.al | apply Below.drewN' | apply Below.drew | (apply Below.tr; assumption))), hid (LO2.out), hid (HN.out)⟩
            case measure => simp [intOf]; omega
          · have HN := hid (high_keep ha hxa hle hmx HX.out hg)
            have t3 : decide (x < xa) = false := by simpa using hg
            clear hmx hxa hx HI
            go_wp2
            go_roundw
            case rel => exact ⟨k + 1, low, (a : Int), by omega, by go_num, rfl, rfl, (by repeat (first | assumption | exact Below.refl _ _ | apply Below.al | apply Below.drewN' | apply Below.drew | (apply Below.tr; assumption))), hid (LO2.out), hid (HN.out)⟩
            case measure => simp [intOf]; omega
    · obtain rfl : k = xs.length := by omega
      have LT : ∀ (j : Nat) (x : Int), xs[j]? = some x → j < xs.length := fun j x hx => (List.getElem?_eq_some_iff.1 hx).1
      rcases LO.out with ⟨rfl, hl⟩ | ⟨a, xa, rfl, ha, hxa, hle, hmx⟩
      · have R : Hid (∀ (j : Nat) (x : Int), xs[j]? = some x → m < x) := hid fun j x hx => hl j x (LT j x hx) hx
        clear hl LO LT
        go_wp2
        refine bodyPost_ret (v := .tuple #[.int .i64 0, .int .i64 0, .int .i64 3]) (by simp [results, Try.results9, go_sem]) rfl ?_
        exact ⟨0, 0, 3, rfl, hb, .inl ⟨rfl, .inl R.out⟩⟩
      · rcases HI.out with ⟨rfl, hl⟩ | ⟨b, xb, rfl, hb2, hxb, hge, hmn⟩
        · have R : Hid (∀ (j : Nat) (x : Int), xs[j]? = some x → x ≤ m) := hid fun j x hx => hl j x (LT j x hx) hx
          clear hl hmx hxa HI LT LO
          go_wp2
          refine bodyPost_ret (v := .tuple #[.int .i64 0, .int .i64 0, .int .i64 3]) (by simp [results, Try.results9, go_sem]) rfl ?_
          exact ⟨0, 0, 3, rfl, hb, .inl ⟨rfl, .inr R.out⟩⟩
        · have R : Hid (∃ (ja jb : Nat) (xa xb : Int), (a : Int) = ja ∧ (b : Int) = jb ∧ xs[ja]? = some xa ∧ xs[jb]? = some xb ∧ xa ≤ m ∧ m < xb ∧ (∀ (j : Nat) (x : Int), xs[j]? = some x → x ≤ m → x ≤ xa) ∧ (∀ (j : Nat) (x : Int), xs[j]? = some x → m < x → xb ≤ x)) := hid ⟨a, b, xa, xb, rfl, rfl, hxa, hxb, hle, hge, fun j x hx => hmx j x (LT j x hx) hx, fun j x hx => hmn j x (LT j x hx) hx⟩
          clear hmx hmn hxa hxb HI LO LT
          have da : decide ((a : Int) < 0) = false := by simp
          have db : decide ((b : Int) < 0) = false := by simp
          go_wp2
          refine bodyPost_ret (v := .tuple #[.int .i64 a, .int .i64 b, .int .i64 0]) (by simp [results, Try.results9, go_sem]) rfl ?_
          exact ⟨a, b, 0, rfl, hb, .inr ⟨rfl, R.out⟩⟩
end Go.Proofs.Ytpjmpeeclecfeaa
