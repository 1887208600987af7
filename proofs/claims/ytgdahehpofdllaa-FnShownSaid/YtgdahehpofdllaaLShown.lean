/- The phases of a window are in the parts that are shown, and in none that is missing, for every code: the law says yes. No condition. -/
import Derived.Test.YtgdahehpofdllaaRows
import Derived.Test.YtgdahehpofdllaaOpen
import Derived.Test.YtgdahehpofdllaaC16u
import Derived.Test.YtgdahehpofdllaaC16q
import Derived.Test.YtgdahehpofdllaaC09d
import Derived.Test.YtgdahehpofdllaaCA2
import Derived.Test.YtgdahehpofdllaaCLong
namespace Go.Proofs.Ytgdahehpofdllaa
open Go.RowKit
set_option linter.unusedVariables false
set_option maxRecDepth 20000 in
set_option maxHeartbeats 4000000 in
theorem shown_law (w : World) (A0 : Option Addr) (c0 : Nat) (xs0 : List Int) (r0 : Rd encB 1 w w.heap.size A0 xs0) (wf0 : ∀ x ∈ xs0, 0 ≤ x ∧ x < 256) (m0 : xs0.length ≤ maxLen) (A1 : Option Addr) (c1 : Nat) (xs1 : List Int) (r1 : Rd encB 1 w w.heap.size A1 xs1) (wf1 : ∀ x ∈ xs1, 0 ≤ x ∧ x < 256) (m1 : xs1.length ≤ maxLen) :
    Calls Try.prog 3 #[.slice A0 xs0.length c0, .slice A1 xs1.length c1] w fun e w' => e = .returned (.bool true) ∧ Below w.heap.size w w' := by
  by_cases hL : 3000 < xs0.length ∨ 3000 < xs1.length
  · have e : (decide (3000 < xs0.length) || decide (3000 < xs1.length)) = true := by simpa using hL
    go_enter Try.func3, Try.ntmps3
    go_wp2_with fail
    refine (a2Long_any _ _ _ _ _ _ _ m0 m1).mono ?_
    rw [e]
    rintro e w1 ⟨rfl, rfl⟩
    go_wp2
    go_ret
    exact ⟨rfl, (by repeat (first | assumption | exact Below.refl _ _ | apply Below.al | apply Below.drewN' | apply Below.drew | (apply Below.tr; assumption)))⟩
  have e : (decide (3000 < xs0.length) || decide (3000 < xs1.length)) = false := by simp; omega
  have l0 : xs0.length ≤ 3000 := by omega
  have l1 : xs1.length ≤ 3000 := by omega
  clear hL
  go_enter Try.func3, Try.ntmps3
  go_wp2_with fail
  refine (a2Long_any _ _ _ _ _ _ _ m0 m1).mono ?_
  rw [e]
  rintro e w1 ⟨rfl, rfl⟩
  clear e
  go_wp2_with fail
  refine (a2Ephemeris_any A0 c0 xs0 _ r0 wf0 l0).mono ?_
  rintro e w1 ⟨a, b, rfl, a0, a1, p0, p1, hb1⟩
  have hbE : Below w.heap.size w (w1.alloc (.cells #[.int .i64 a, .int .i64 b] 25)) := (by repeat (first | assumption | exact Below.refl _ _ | apply Below.al | apply Below.drewN' | apply Below.drew | (refine Below.sc ?_ (by first | omega | (simp; done) | (simp; omega)) _) | (apply Below.tr; assumption)))
  have x0 : (w1.alloc (.cells #[.int .i64 a, .int .i64 b] 25)).cell? ⟨w1.heap.size, 0, none⟩ = some (.int .i64 a) := by simp [go_sem]
  have x1 : (w1.alloc (.cells #[.int .i64 a, .int .i64 b] 25)).cell? ⟨w1.heap.size, 1, none⟩ = some (.int .i64 b) := by simp [go_sem]
  have zE : w1.heap.size < (World.heap (w1.alloc (.cells #[.int .i64 a, .int .i64 b] 25))).size := by simp
  have r11 : Rd encB 1 (w1.alloc (.cells #[.int .i64 a, .int .i64 b] 25)) (World.heap (w1.alloc (.cells #[.int .i64 a, .int .i64 b] 25))).size A1 xs1 := (r1.below hbE (Nat.le_refl _)).more hbE.size
  clear r0 wf0 m0 r1 hb1
  go_wp2_with fail
  generalize (w1.alloc (.cells #[.int .i64 a, .int .i64 b] 25)) = wE at *
  generalize w1.heap.size = q at *
  refine (a2At_any A1 c1 xs1 0 9 _ r11 wf1 l1 (by omega) (by omega)).mono ?_
  rintro e w2 ⟨⟨z, rfl, z0, z1⟩, rfl⟩
  by_cases hbn : b < 1 + z
  · have hbn' : decide (b < 1 + z) = true := by simpa using hbn
    go_wp2
    go_ret
    exact ⟨rfl, hbE⟩
  have hbn' : decide (b < 1 + z) = false := by simpa using hbn
  obtain ⟨n, hn⟩ : ∃ n : Nat, 1 + z = (n : Int) := ⟨(1 + z).toNat, by omega⟩
  go_wp2_with fail
  refine (a2At_any A1 c1 xs1 1 256 _ r11 wf1 l1 (by omega) (by omega)).mono ?_
  rintro e w2 ⟨⟨u, rfl, u0, u1⟩, rfl⟩
  go_wp2_with fail
  refine (a2At_any A1 c1 xs1 2 256 _ r11 wf1 l1 (by omega) (by omega)).mono ?_
  rintro e w2 ⟨⟨v, rfl, v0, v1⟩, rfl⟩
  have b0 : (n : Int) ≤ b := by omega
  have n0 : (1 : Int) ≤ n := by omega
  have n1 : (n : Int) ≤ 9 := by omega
  clear hbn hbn' hn z0 z1 r11 wf1 l1 m1
  go_wp2_with fail
  obtain ⟨f, hf⟩ : ∃ f, f = 60 * u := ⟨_, rfl⟩
  obtain ⟨t, ht⟩ : ∃ t, t = f + 10 * v := ⟨_, rfl⟩
  rw [← hf, ← ht]
  have f0 : 0 ≤ f := by omega
  have f1 : f ≤ t := by omega
  have t1 : t ≤ 20000 := by omega
  have hbW0 := Below.al (Below.refl _ wE) (.cells #[.int .i64 f, .int .i64 t] 29)
  have x0 := ((bcell hbW0).1 q 0 zE).trans x0
  have x1 := ((bcell hbW0).1 q 1 zE).trans x1
  have x2 : (wE.alloc (.cells #[.int .i64 f, .int .i64 t] 29)).cell? ⟨wE.heap.size, 0, none⟩ = some (.int .i64 f) := by simp [go_sem]
  have x3 : (wE.alloc (.cells #[.int .i64 f, .int .i64 t] 29)).cell? ⟨wE.heap.size, 1, none⟩ = some (.int .i64 t) := by simp [go_sem]
  have zW : wE.heap.size < (World.heap (wE.alloc (.cells #[.int .i64 f, .int .i64 t] 29))).size := by simp
  have zq : q < (World.heap (wE.alloc (.cells #[.int .i64 f, .int .i64 t] 29))).size := by omega
  have hbW := Below.tr hbW0 hbE
  clear hbW0 hf ht u0 u1 v0 v1 hbE zE
  generalize wE.alloc (.cells #[.int .i64 f, .int .i64 t] 29) = wW at *
  generalize wE.heap.size = r at *
  refine (shownBins_any a b f t n _ a0 (by omega) b0 (by omega) f0 f1 (by omega) (by omega) (by omega)).mono ?_
  rintro e w3 ⟨Al, cl, rfl, ol, hb3⟩
  have rl := rd_of_own (enc := encI) (k := 1) (fun _ => rfl) ol
  have hbc := (bcell hb3).1
  have x0 := (hbc q 0 zq).trans x0
  have x1 := (hbc q 1 zq).trans x1
  have x2 := (hbc r 0 zW).trans x2
  have x3 := (hbc r 1 zW).trans x3
  have zq : q < w3.heap.size := by have := hb3.size; omega
  have zr : r < w3.heap.size := by have := hb3.size; omega
  have hbW3 := Below.tr hb3 hbW
  clear hbc ol hb3 hbW zW
  have BA := hid (bitS_at (shB a b f t n) n)
  have MB : ∀ W A c, Rd encWi 2 W W.heap.size A [⟨f, t⟩] → Calls Try.prog 9 #[.agg #[.int .i64 a, .int .i64 b], .slice A 1 c, .int .i64 n] W (OwnTup 2 1 encI (idxW (fun i => !(bitS (shB a b f t n) n).testBit i) n) 0 W) := fun W A c h => missingBins_any A c a b f t n W h a0 (by omega) b0 (by omega) f0 f1 (by omega) (by omega) (by omega)
  generalize bitS (shB a b f t n) n = S at *
  have LB : Hid ((idxW (fun i => S.testBit i) n).length + (idxW (fun i => !S.testBit i) n).length = n) := hid (by
    exact idxW_both (fun i => S.testBit i) n)
  have LR := hid (idxW_rises (fun i => S.testBit i) n)
  have LM : Hid (∀ m : Int, m ∈ idxW (fun i => S.testBit i) n ↔ ∃ i : Nat, i < n ∧ S.testBit i = true ∧ m = i) := hid (fun m => by rw [idxW_mem])
  have MM : Hid (∀ m : Int, m ∈ idxW (fun i => !S.testBit i) n ↔ ∃ i : Nat, i < n ∧ S.testBit i = false ∧ m = i) := hid (fun m => by rw [idxW_mem]; simp)
  have hLl := idxW_len (fun i => S.testBit i) n
  have hMl := idxW_len (fun i => !S.testBit i) n
  generalize idxW (fun i => S.testBit i) n = L at *
  generalize idxW (fun i => !S.testBit i) n = M at *
  have R1 : Rd encWi 2 (w3.alloc (.cells #[.int .i64 f, .int .i64 t] 29)) (World.heap (w3.alloc (.cells #[.int .i64 f, .int .i64 t] 29))).size (some ⟨w3.heap.size, 0, none⟩) [⟨f, t⟩] := by
    intro _
    refine ⟨w3.heap.size, 0, rfl, by simp, fun i x hi j v hj => ?_⟩
    obtain rfl : i = 0 := by
      have := (List.getElem?_eq_some_iff.1 hi).1; simpa using this
    simp at hi
    subst hi
    match j, hj with
    | 0, hj => simp [encWi] at hj; subst hj; simp [go_sem]
    | 1, hj => simp [encWi] at hj; subst hj; simp [go_sem]
    | j + 2, hj => simp [encWi] at hj
  have CM := MB _ _ 1 R1
  have rl3 := rl
  clear MB R1
  go_wp2_with fail
  refine CM.mono ?_
  rintro e w4 ⟨Am, cm, rfl, om, hb4⟩
  have rm := rd_of_own (enc := encI) (k := 1) (fun _ => rfl) om
  have hb34 := Below.tr hb4 (Below.al (Below.refl _ w3) (.cells #[.int .i64 f, .int .i64 t] 29))
  have rl4 := (rl.below hb34 (Nat.le_refl _)).more hb34.size
  have hbc := (bcell hb34).1
  have x0 := (hbc q 0 zq).trans x0
  have x1 := (hbc q 1 zq).trans x1
  have x2 := (hbc r 0 zr).trans x2
  have x3 := (hbc r 1 zr).trans x3
  have zq : q < w4.heap.size := by have := hb34.size; omega
  have zr : r < w4.heap.size := by have := hb34.size; omega
  have hbW4 := Below.tr hb34 hbW3
  have hne : ((L.length : Int) + (M.length : Int) != (n : Int)) = false := by have := LB.out; simp; omega
  have hne2 : (((L.length + M.length : Nat) : Int) != (n : Int)) = false := by have := LB.out; simp; omega
  clear CM hbc om hb4 hb34 hbW3 rl rl3
  go_wp2_with fail
  refine (a2Rises_ok Al cl L n _ rl4 (by omega) LR.out (fun x hx => by obtain ⟨i, hi, _, rfl⟩ := (LM.out x).1 hx; omega)).mono ?_
  rintro e w5 ⟨rfl, hb5⟩
  have rl5 := (rl4.below hb5 (Nat.le_refl _)).more hb5.size
  have rm5 := (rm.below hb5 (Nat.le_refl _)).more hb5.size
  have hbc := (bcell hb5).1
  have x0 := (hbc q 0 zq).trans x0
  have x1 := (hbc q 1 zq).trans x1
  have x2 := (hbc r 0 zr).trans x2
  have x3 := (hbc r 1 zr).trans x3
  have zq : q < w5.heap.size := by have := hb5.size; omega
  have zr : r < w5.heap.size := by have := hb5.size; omega
  have hbW5 := Below.tr hb5 hbW4
  have LB := hid LB.out
  clear hbc hb5 hbW4 rl4 rm LR
  go_wp2_with fail
  go_loopw [13] (fun i wr => ∃ k : Nat, k ≤ 41 ∧ i = .int .i64 k ∧ Below w5.heap.size w5 wr) (fun i _ => 41 - (intOf i).toNat)
  case atStart => exact ⟨0, by omega, rfl, Below.refl _ _⟩
  case round =>
    obtain ⟨k, hk, rfl, hb⟩ := hrel
    have hsz := hb.size
    by_cases hlt : k ≤ 40
    · have hlt' : decide ((k : Int) ≤ 40) = true := by simp; omega
      have hbc := (bcell hb).1
      have y0 := (hbc q 0 zq).trans x0
      have y1 := (hbc q 1 zq).trans x1
      have y2 := (hbc r 0 zr).trans x2
      have y3 := (hbc r 1 zr).trans x3
      have g0 : q < wr.heap.size := by omega
      have g1 : r < wr.heap.size := by omega
      have mk := mul_bds (x := (k : Int)) (y := t - f) (A := 40) (B := 20000) (by omega) (by omega) (by omega) (by omega)
      have mn := Int.mul_nonneg (a := (k : Int)) (b := t - f) (by omega) (by omega)
      have ml : (k : Int) * (t - f) ≤ 40 * (t - f) := Int.mul_le_mul_of_nonneg_right (by omega) (by omega)
      have ed : ((k : Int) * (t - f)).tdiv 40 = ((k : Int) * (t - f)) / 40 := Int.tdiv_eq_ediv_of_nonneg mn
      have T0 : f ≤ f + ((k : Int) * (t - f)).tdiv 40 := by omega
      have T1 : f + ((k : Int) * (t - f)).tdiv 40 ≤ t := by omega
      have HT : Hid (∀ T, T = f + ((k : Int) * (t - f)).tdiv 40 → f ≤ T ∧ T ≤ t) := hid (by rintro T rfl; exact ⟨T0, T1⟩)
      clear hbc ed ml
      go_wp2_with fail
      refine (phaseOf_any a b _ _ a0 (by omega) p0 (by omega) (by omega) (by omega)).mono ?_
      rintro e w6 ⟨rfl, hb6⟩
      have y1 := ((bcell hb6).1 q 1 g0).trans y1
      have z6 : q < w6.heap.size := by have := hb6.size; omega
      have hb56 := Below.tr hb6 hb
      have rl6 := (rl5.below hb56 (Nat.le_refl _)).more hb56.size
      obtain ⟨i, hi, hp, hs⟩ := shown_in (a := a) (b := b) (f := f) (t := t) (n := n) (T := f + ((k : Int) * (t - f)).tdiv 40) (by omega) (by omega) T0 T1
      have me := emod_bd (f + ((k : Int) * (t - f)).tdiv 40 - a) b (by omega)
      generalize (f + ((k : Int) * (t - f)).tdiv 40 - a) % b = ph at *
      have mp := mul_bds (x := (n : Int)) (y := ph) (A := 9) (B := 9000) (by omega) (by omega) (by omega) (by omega)
      have mq := Int.mul_nonneg (a := (n : Int)) (b := ph) (by omega) (by omega)
      have hq : ((n : Int) * ph).tdiv b = i := by rw [Int.tdiv_eq_ediv_of_nonneg mq]; exact hp
      have hmem : (i : Int) ∈ L := (LM.out i).2 ⟨i, by omega, by rw [BA.out, hs]; simp; omega, rfl⟩
      have CH := a2Has_any Al cl L i w6 rl6 (by omega)
      rw [decide_eq_true hmem] at CH
      rw [← hq] at CH
      have b0' : (b == 0) = false := by simp; omega
      have b1' : (b == -1) = false := by simp; omega
      have qb : 0 ≤ ((n : Int) * ph).tdiv b ∧ ((n : Int) * ph).tdiv b ≤ 9 := by omega
      clear hp hs hmem hb6 y0 y2 y3 hq HT T0 T1 me
      go_wp2_with fail
      refine CH.mono ?_
      rintro e w7 ⟨rfl, rfl⟩
      clear CH
      go_wp2
      go_roundw
      case rel => exact ⟨k + 1, by omega, by go_num, hb56⟩
      case measure => simp [intOf]; omega
    · have hlt' : decide ((k : Int) ≤ 40) = false := by simp; omega
      have hb5r := hb
      have rl7 := (rl5.below hb (Nat.le_refl _)).more hb.size
      have rm7 := (rm5.below hb (Nat.le_refl _)).more hb.size
      have hbW7 := Below.tr hb hbW5
      clear x0 x1 x2 x3 hb5r hb hbW5 rl5 rm5
      go_wp2_with fail
      obtain ⟨w8, rfl⟩ : ∃ w8, w8 = wr := ⟨_, rfl⟩
      go_loopw [16] (fun i wr => ∃ k : Nat, k ≤ M.length ∧ i = .int .i64 k ∧ w8 = wr) (fun i _ => M.length - (intOf i).toNat)
      case atStart => exact ⟨0, Nat.zero_le _, rfl, rfl⟩
      case round =>
        obtain ⟨k, hk, rfl, rfl⟩ := hrel
        by_cases hlt : k < M.length
        · obtain ⟨m, hm⟩ := getx hlt
          obtain ⟨bb, o, rfl, hbB, c0⟩ := rm7.at1 hm rfl
          have hmm := (MM.out m).1 (List.mem_of_getElem? hm)
          have hno : ¬ m ∈ L := fun hL => by
            obtain ⟨i, hi, hs, e1⟩ := hmm
            obtain ⟨j, hj, ht, e2⟩ := (LM.out m).1 hL
            have : i = j := by omega
            rw [this, ht] at hs; cases hs
          have CH := a2Has_any Al cl L m w8 rl7 (by omega)
          rw [decide_eq_false hno] at CH
          clear hm hmm hno
          go_wp2_with fail
          refine CH.mono ?_
          rintro e w7 ⟨rfl, rfl⟩
          clear CH
          go_wp2
          go_roundw
          case rel => exact ⟨k + 1, by omega, by go_num, by first | trivial | rfl⟩
          case measure => simp [intOf]; omega
        · go_wp2
          go_ret
          exact ⟨rfl, hbW7⟩
namespace fnShown
open Go.ChangeShapes Go.WideShapes Go.ChangeAt Go.RowKit Go.Deep Go.Joins
set_option linter.unusedVariables false
theorem own : ownKnob Try.prog.godebug = none := by kernel_rfl
theorem laidOut : laidOutB Try.prog = true := by kernel_rfl
set_option maxRecDepth 100000 in
theorem lifted (os : Os) (started : os.Started) (H : Type) (enc : TypeId × Value → H) :
    ReturnsInHanded {} Try.checked os 3 .any (Rows.fnShownSpec.pre6 enc Try.prog Try.f3 Rows.fnShownRow.domain false) (Rows.fnShownSpec.post enc Try.prog Try.f3 false true false false) := by
  refine returnsInHanded_of_change (C := Try.checked) own started (by kernel_rfl) Try.func3
    (ChangeSpec.witness6 (enc := enc) (C := Try.checked) false ⟨#[], #[.slice none 0 0, .slice none 0 0], []⟩ 8 (by kernel_rfl) (by kernel_rfl) (by kernel_rfl) (by kernel_rfl)) ?_
  intro W base args ds gs before hval0 hW hcnd _
  have hval : ∀ (j : Nat) t v, Try.f3.params[j]? = some t → args[j]? = some v → Value.okWide Try.prog W .any base t v := hval0
  have hW' := hW
  obtain ⟨p, q, hA0, hV, rfl, hfz, hnd⟩ := hW
  have hA : DataW.TrodAll enc Try.prog W 0 (fun _ => true) true Try.f3.params.toList args.toList ds p := hA0
  rw [Try.params3] at hA hval
  obtain ⟨v0, vs0, d0, ds0, p0, q0, hargs, rfl, rfl, h0, r0⟩ := trodAll_cons hA
  obtain ⟨v1, vs1, d1, ds1, p1, q1, rfl, rfl, rfl, h1, r1⟩ := trodAll_cons r0
  obtain ⟨rfl, rfl, rfl⟩ := trodAll_nil r1
  obtain rfl : args = #[v0, v1] := by cases args; simp_all
  obtain ⟨rfl, rfl⟩ := trodVars_none hV
  have k0 := h0
  have lt0 : ∀ x ∈ p0, x.block < W.heap.size := by obtain ⟨m, hm⟩ := k0; exact DataW.trod_lt m _ _ _ hm
  have k1 := h1
  have lt1 : ∀ x ∈ p1, x.block < W.heap.size := by obtain ⟨m, hm⟩ := k1; exact DataW.trod_lt m _ _ _ hm
  obtain ⟨A0, len0, cap0, rfl⟩ := okWide_slice Try.underlying22 (hval 0 22 v0 rfl rfl)
  obtain ⟨xs0, rfl, rd0, wf0, ml0⟩ : ∃ xs : List _, xs.length = len0 ∧ Rd encB 1 W W.heap.size A0 xs ∧ (∀ x ∈ xs, 0 ≤ x ∧ x < 256) ∧ len0 ≤ maxLen := by
    obtain ⟨fuel, hf⟩ := h0
    exact rd_open (encA := encB) (wf := fun x => 0 ≤ x ∧ x < 256) (k := 1) (by decide) (fun _ => rfl) Try.underlying22 (by kernel_rfl) (dec_byte Try.underlying5) (by simpa [Value.cells] using hf)
  obtain ⟨A1, len1, cap1, rfl⟩ := okWide_slice Try.underlying22 (hval 1 22 v1 rfl rfl)
  obtain ⟨xs1, rfl, rd1, wf1, ml1⟩ : ∃ xs : List _, xs.length = len1 ∧ Rd encB 1 W W.heap.size A1 xs ∧ (∀ x ∈ xs, 0 ≤ x ∧ x < 256) ∧ len1 ≤ maxLen := by
    obtain ⟨fuel, hf⟩ := h1
    exact rd_open (encA := encB) (wf := fun x => 0 ≤ x ∧ x < 256) (k := 1) (by decide) (fun _ => rfl) Try.underlying22 (by kernel_rfl) (dec_byte Try.underlying5) (by simpa [Value.cells] using hf)
  clear hA0 hval0
  refine (shown_law W A0 cap0 xs0 rd0 wf0 ml0 A1 cap1 xs1 rd1 wf1 ml1).mono fun e W' ⟨he, bel⟩ => ?_
  subst he
  exact ⟨_, rfl, _, _, _, [], _, [], hW', trodAll_mk1 (shut_bool Try.underlying4 _), (trodAll_cons_mk (Below.trod laidOut (by kernel_rfl) (of_decide_eq_true (by kernel_rfl)) k0 bel lt0) (trodAll_cons_mk (Below.trod laidOut (by kernel_rfl) (of_decide_eq_true (by kernel_rfl)) k1 bel lt1) trodAll_mk0)), rfl, bel.frame _, fun h => by cases h⟩

theorem proved : Rows.FnShownSaid :=
  OpenClaim.holds_of_wide 3 Try.f3 rfl rfl rfl rfl rfl rfl rfl ⟨rfl, rfl, rfl, rfl, rfl⟩ rfl rfl rfl rfl rfl (by kernel_rfl) Try.func3 (by kernel_rfl)
    (of_decide_eq_true (by kernel_rfl)) (by unfold Func.isWrapper; first | (rw [if_pos (by decide +kernel)]; kernel_rfl) | (rw [if_neg (by decide +kernel)]; exact ⟨rfl, rfl⟩))
    (fun os started H enc _ => lifted os started H enc)
#print axioms proved
end fnShown
end Go.Proofs.Ytgdahehpofdllaa
