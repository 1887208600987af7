/- Contracts: drawn minima. -/
import Derived.Test.YtlpgnmkhlbddaaaC09d
import Derived.Test.YtlpgnmkhlbddaaaC13t
import Derived.Test.YtlpgnmkhlbddaaaCGrow
namespace Go.Proofs.Ytlpgnmkhlbddaaa
open Go.RowKit
set_option linter.unusedVariables false
def encMn (p : Mn) : List Value := [.int .i64 p.c, .int .i64 p.t]
def NearE (a b : Int) (xs : List Mn) : Prop := ∀ p ∈ xs, -10 ≤ p.t - (a + p.c * b) ∧ p.t - (a + p.c * b) ≤ 10
theorem NearE.snoc {a b : Int} {ys : List Mn} {p : Mn} (h : NearE a b ys) (h1 : -10 ≤ p.t - (a + p.c * b)) (h2 : p.t - (a + p.c * b) ≤ 10) : NearE a b (ys ++ [p]) := fun q hq => by
  rcases List.mem_append.1 hq with hq | hq
  · exact h q hq
  · simp at hq; subst hq; exact ⟨h1, h2⟩
theorem MnOk.snoc {ys : List Mn} {p : Mn} (h : MnOk ys) (hl : ∀ q ∈ ys, q.c < p.c ∧ q.t < p.t) (hp : 0 ≤ p.c ∧ p.c ≤ 51 ∧ 0 ≤ p.t ∧ p.t ≤ 480000) : MnOk (ys ++ [p]) := by
  refine ⟨?_, fun q hq => ?_⟩
  · rw [List.pairwise_append]
    exact ⟨h.1, by simp, fun a ha b hb => by simp at hb; subst hb; exact hl a ha⟩
  · rcases List.mem_append.1 hq with hq | hq
    · exact h.2 q hq
    · simp at hq; subst hq; exact hp
theorem MnOk.last {ys : List Mn} (h : MnOk ys) {q : Mn} {T : Int} (hq : ys[ys.length-1]? = some q) (hT : q.t < T) : ∀ p ∈ ys, p.t < T := fun p hp => by
  obtain ⟨i, hi⟩ := List.mem_iff_getElem?.1 hp
  obtain ⟨h1, rfl⟩ := List.getElem?_eq_some_iff.1 hi
  obtain ⟨h2, rfl⟩ := List.getElem?_eq_some_iff.1 hq
  rcases Nat.lt_or_ge i (ys.length - 1) with hlt | hge
  · have := (List.pairwise_iff_getElem.1 h.1 i (ys.length-1) h1 h2 hlt).2; omega
  · have : i = ys.length - 1 := by omega
    subst this; exact hT
def MinRes (lo : Nat) (a b : Int) (w : World) (e : Ending) (w' : World) : Prop := ∃ (ys : List Mn) (Ad : Option Addr) (c : Nat), e = .returned (.slice Ad ys.length c) ∧ w'.ownsRow lo 34 2 (.slice Ad ys.length c) ys.length (ys.flatMap encMn) ∧ Below lo w w' ∧ ys.length ≤ 8 ∧ MnOk ys ∧ NearE a b ys
set_option maxRecDepth 20000 in
set_option maxHeartbeats 4000000 in
theorem l13Draw_any (lo g : Nat) (w : World) (a b : Int) (h : Src w lo g 0) (a0 : 0 ≤ a) (a1 : a ≤ 19900) (p0 : 1 ≤ b) (p1 : b ≤ 9000) :
    Calls Try.prog 18 #[.pointer (some ⟨g, 0, none⟩), .agg #[.int .i64 a, .int .i64 b], .int .i64 8] w (MinRes lo a b w) := by
  have hg : lo ≤ g := h.1
  have zg : g < w.heap.size := h.2.1
  obtain ⟨i0, hi0, iz0, iz1, iz2⟩ := info_parts (P := Try.prog) (e := 34) (z := .agg #[.int .i64 0, .int .i64 0]) (size := 2) (bytes := 16) (by kernel_rfl)
  go_enter Try.func18, Try.ntmps18
  go_wp2_with fail
  refine (pick00_any lo g 0 4 _ (h.below (Below.al (Below.al (Below.refl _ _) _) _)) (by omega) (by omega) (by omega)).mono ?_
  rintro e w1 ⟨x, rfl, x0, x1, s1, g1⟩
  go_wp2_with fail
  refine (pick00_any lo g 2 9 _ s1 (by omega) (by omega) (by omega)).mono ?_
  rintro e w2 ⟨k0, rfl, k1, k2, s2, g2⟩
  have g12 := grown_trans' g1 g2
  have hb2 : Below lo w w2 := (((Below.refl lo w).alloc (by omega) (.cells #[.int .i64 a, .int .i64 b] 27)).alloc (by simp; omega) (.cells #[] 34)).grown g12 (by simp; omega) (fun q hq => by cases hq; exact hg)
  have o2 : w2.ownsRow lo 34 2 (.slice (some ⟨w.heap.size + 1, 0, none⟩) 0 0) 0 [] := (own_lit1 (w.alloc (.cells #[.int .i64 a, .int .i64 b] 27)) 34 2 (by simp) (by omega)).kept g12 (.inr (by simp [Value.ownBlock]; omega))
  have ne2 : (Value.slice (some ⟨w.heap.size + 1, 0, none⟩) 0 0).ownBlock ≠ some g := by simp [Value.ownBlock]; omega
  have nb2 : (Value.slice (some ⟨w.heap.size + 1, 0, none⟩) 0 0).ownBlock ≠ some w.heap.size := by simp [Value.ownBlock]
  have B2 := ((Bx.new w (.int .i64 a) (.int .i64 b) 27).al (.cells #[] 34)).kept g12 (by simp; omega)
  clear s1 g1 g2 g12 h
  go_wp2_with fail
  generalize Value.slice (some ⟨w.heap.size + 1, 0, none⟩) 0 0 = v2 at *
  go_loopw [7, 8, 9] (fun vv cv kv wr => ∃ (k cyc : Int) (ys : List Mn) (m : Nat), kv = .int .i64 k ∧ cv = .int .i64 cyc ∧ 0 ≤ k ∧ k ≤ 8 ∧ ys.length + k ≤ 8 ∧ 0 ≤ cyc ∧ cyc + 6 * k ≤ 51 ∧ m + 10 * k ≤ 300 ∧ Hid (MnOk ys) ∧ Hid (NearE a b ys) ∧ Hid (∀ p ∈ ys, p.c < cyc) ∧ Src wr lo g m ∧ Below lo w wr ∧ vv.ownBlock ≠ some g ∧ vv.ownBlock ≠ some w.heap.size ∧ Bx wr w.heap.size (.int .i64 a) (.int .i64 b) ∧ wr.ownsRow lo 34 2 vv ys.length (ys.flatMap encMn)) (fun _ _ kv _ => (intOf kv).toNat)
  case atStart => exact ⟨k0, x, [], 4, rfl, rfl, k1, by omega, by simp; omega, by omega, by omega, by omega, hid ⟨by simp, by simp⟩, hid (fun p hp => by cases hp), hid (by simp), s2, hb2, ne2, nb2, B2, o2⟩
  case round =>
    clear s2 hb2 ne2 nb2 B2 o2
    obtain ⟨k, cyc, ys, m, rfl, rfl, q0, q1, q3, q4, q5, q6, OK, NE, LT, s, hb, ne, nb, B, own⟩ := hrel
    obtain ⟨Ar, cr, rfl⟩ := own_shape own
    by_cases hk : 0 < k
    · have OW := hid own
      have NE1 := hid ne
      have NB1 := hid nb
      have HB := hid B
      have hsz := hb.size
      have zgr : lo ≤ wr.heap.size := by have := s.2.1; omega
      obtain ⟨bz, b0, b1, _, _⟩ := B
      have mb := mul_bds (x := cyc) (y := b) (A := 51) (B := 9000) (by omega) (by omega) (by omega) (by omega)
      have mn := Int.mul_nonneg (a := cyc) (b := b) (by omega) (by omega)
      clear own ne nb
      have hgw : ¬ w.heap.size = g := by omega
      have hwg : ¬ g = w.heap.size := by omega
      go_wp2
      go_region_held3 (fun w' => w'.cell? ⟨w.heap.size, 0, none⟩ = some (.int .i64 a) ∧ w'.cell? ⟨w.heap.size, 1, none⟩ = some (.int .i64 b)) (go_keep)
        ((go_at_call 32; refine (pick00_any lo g m 21 _ (s.below (Below.drew (Below.refl _ _))) (by omega) (by omega) (by omega)).mono ?_; rintro e w5 ⟨z, rfl, z0, z1, s5, g5⟩; have x5 : w5.cell? ⟨w.heap.size, 0, none⟩ = some (.int .i64 a) := g5.cell (by simpa using b0) (by simp; omega); have x6 : w5.cell? ⟨w.heap.size, 1, none⟩ = some (.int .i64 b) := g5.cell (by simpa using b1) (by simp; omega)))
      all_goals
        have own5 := (OW.out.drew).kept g5 (.inr NE1.out)
        have hb5 : Below lo w w5 := (Below.drew hb).grown g5 (by simp; omega) (fun q hq => by cases hq; exact hg)
        have B5 := (HB.out.kept (gb_below (Below.drew (Below.refl _ _)) none) (by simp)).kept g5 (by simp; omega)
        have zg5 := s5.2.1
        have zb5 := B5.1
        have zl5 : lo ≤ w5.heap.size := by omega
        have e1 : IntKind.i64.wrap (cyc * b) = cyc * b := IntWalk.i64_in _ ⟨by omega, by omega⟩
        have e2 : IntKind.i64.wrap (a + cyc * b) = a + cyc * b := IntWalk.i64_in _ ⟨by omega, by omega⟩
        have e3 : IntKind.i64.wrap (a + cyc * b + z) = a + cyc * b + z := IntWalk.i64_in _ ⟨by omega, by omega⟩
        have e4 : IntKind.i64.wrap (a + cyc * b + z - 10) = a + cyc * b + z - 10 := IntWalk.i64_in _ ⟨by omega, by omega⟩
        rw [e1, e2, e3, e4]
        obtain ⟨T, hT⟩ : ∃ T, T = a + cyc * b + z - 10 := ⟨_, rfl⟩
        have t1 : -10 ≤ T - (a + cyc * b) := by omega
        have t2 : T - (a + cyc * b) ≤ 10 := by omega
        have t3 : T ≤ 480000 := by omega
        rw [← hT]
        clear hT e1 e2 e3 e4 g5 x5 x6
        have OW5 := hid own5
        have HB5 := hid B5
        cases hT : inB T 0 10000000
        · clear own5
          go_wp2_with (go_at_call 33; refine (l06Time_any _ _).mono ?_; rintro e w' ⟨rfl, rfl⟩)
          refine (pick00_any lo g (m + 2) 6 _ s5 (by omega) (by omega) (by omega)).mono ?_
          rintro e w9 ⟨y, rfl, y0, y1, s9, g9⟩
          have zl9 : lo ≤ w5.heap.size := by have := s5.2.1; omega
          have own9 := OW5.out.kept g9 (.inr NE1.out)
          have hb9 : Below lo w w9 := hb5.grown g9 zl9 (fun q hq => by cases hq; exact hg)
          have B9 := B5.kept g9 (by simp; omega)
          have O9 := hid own9
          have HB9 := hid B9
          have N9 := hid NE1.out
          have M9 := hid NB1.out
          clear own9 B9
          go_wp2
          go_roundw
          case rel => exact ⟨k - 1, cyc + (1 + y), ys, m + 4, by go_num, by first | rfl | go_num, by omega, by omega, by first | omega | (simp; omega), by omega, by omega, by omega, hid OK.out, hid NE.out, hid (fun p hp => by have := LT.out p hp; omega), s9, hb9, N9.out, M9.out, HB9.out, by simpa [encMn] using O9.out⟩
          case measure => simp [intOf]; omega
        · have hT2 := inB_true.1 hT
          by_cases h0 : ys.length = 0
          · have LTT : Hid (∀ q ∈ ys, q.c < cyc ∧ q.t < T) := hid (fun q hq => by rw [List.eq_nil_of_length_eq_zero h0] at hq; cases hq)
            have e0 : ((ys.length : Int) == 0) = true := by simpa using h0
            clear own5 h0
            go_wp2_with (first | (go_at_call 33; refine (l06Time_any _ _).mono ?_; rintro e w' ⟨rfl, rfl⟩) | (at_builtin; go_must (refine wpList_append_own_at _ rfl _ _ 24 rfl (lo) 34 i0 _ 2 16 Try.underlying24 hi0 iz0 iz1 iz2 rfl (by decide) _ _ _ rfl (OW5.out.alloc _) ⟨(w5).heap.size, 0, none⟩ 1 1 [.int .i64 cyc, .int .i64 T] rfl rfl (news_at w5 [.int .i64 cyc, .int .i64 T] 34) (by simp [Value.oneCell']) (by unfold maxLen; omega) (by omega) (by first | omega | (simp; done) | (simp; omega)) ?_); intro v2 w6 own_w6 grow_w6 _ at_w6))
            have s6 := (s5.below (Below.al (Below.refl _ _) (.cells #[.int .i64 cyc, .int .i64 T] 34))).kept grow_w6 (fun q hq => ⟨(OW5.out.lt q hq).1, fun e => NE1.out (e ▸ hq)⟩)
            have hb6 : Below lo w w6 := Below.ap hb5 zl5 OW5.out (Nat.le_refl _) grow_w6
            have ne6 := grow_ne' at_w6 NE1.out zg5
            have nb6 := grow_ne' at_w6 NB1.out zb5
            have B6 := (B5.al (.cells #[.int .i64 cyc, .int .i64 T] 34)).kept grow_w6 NB1.out
            clear s5 hb5 B5
            refine (pick00_any lo g (m + 2) 6 _ s6 (by omega) (by omega) (by omega)).mono ?_
            rintro e w9 ⟨y, rfl, y0, y1, s9, g9⟩
            have zl9 : lo ≤ w6.heap.size := by have := s6.2.1; omega
            have own9 := own_w6.kept g9 (.inr ne6)
            have hb9 : Below lo w w9 := hb6.grown g9 zl9 (fun q hq => by cases hq; exact hg)
            have B9 := B6.kept g9 (by simp; omega)
            have O9 := hid own9
            have HB9 := hid B9
            have N9 := hid ne6
            have M9 := hid nb6
            clear own9 B9
            go_wp2
            go_roundw
            case rel => exact ⟨k - 1, cyc + (1 + y), ys ++ [⟨cyc, T⟩], m + 4, by go_num, by first | rfl | go_num, by omega, by omega, by first | omega | (simp; omega), by omega, by omega, by omega, hid (OK.out.snoc LTT.out ⟨by simp only; omega, by simp only; omega, by simp only; omega, by simp only; omega⟩), hid (NE.out.snoc (by simp only; omega) (by simp only; omega)), hid (fun p hp => by rcases List.mem_append.1 hp with hp | hp; (have := LT.out p hp; omega); (simp at hp; subst hp; simp only; omega)), s9, hb9, N9.out, M9.out, HB9.out, by simpa [encMn] using O9.out⟩
            case measure => simp [intOf]; omega
          · obtain ⟨q, hq⟩ : ∃ q, ys[ys.length-1]? = some q := getx (by omega)
            have RR := rd_of_own (enc := encMn) (k := 2) (fun _ => rfl) own5
            obtain ⟨bb, o, rfl, hbB, c0, c1⟩ := RR.at2 hq rfl
            have e0 : ((ys.length : Int) == 0) = false := by simpa using h0
            have hln : 0 < ys.length := by omega
            clear own5 RR h0
            by_cases hlt : q.t < T
            · have LTT : Hid (∀ p ∈ ys, p.c < cyc ∧ p.t < T) := hid (fun p hp => ⟨LT.out p hp, OK.out.last hq hlt p hp⟩)
              have hlt' : decide (q.t < T) = true := by simpa using hlt
              clear hq
              go_wp2_with (first | (go_at_call 33; refine (l06Time_any _ _).mono ?_; rintro e w' ⟨rfl, rfl⟩) | (at_builtin; go_must (refine wpList_append_own_at _ rfl _ _ 24 rfl (lo) 34 i0 _ 2 16 Try.underlying24 hi0 iz0 iz1 iz2 rfl (by decide) _ _ _ rfl (OW5.out.alloc _) ⟨(w5).heap.size, 0, none⟩ 1 1 [.int .i64 cyc, .int .i64 T] rfl rfl (news_at w5 [.int .i64 cyc, .int .i64 T] 34) (by simp [Value.oneCell']) (by unfold maxLen; omega) (by omega) (by first | omega | (simp; done) | (simp; omega)) ?_); intro v2 w6 own_w6 grow_w6 _ at_w6))
              have s6 := (s5.below (Below.al (Below.refl _ _) (.cells #[.int .i64 cyc, .int .i64 T] 34))).kept grow_w6 (fun q hq => ⟨(OW5.out.lt q hq).1, fun e => NE1.out (e ▸ hq)⟩)
              have hb6 : Below lo w w6 := Below.ap hb5 zl5 OW5.out (Nat.le_refl _) grow_w6
              have ne6 := grow_ne' at_w6 NE1.out zg5
              have nb6 := grow_ne' at_w6 NB1.out zb5
              have B6 := (B5.al (.cells #[.int .i64 cyc, .int .i64 T] 34)).kept grow_w6 NB1.out
              clear s5 hb5 B5
              refine (pick00_any lo g (m + 2) 6 _ s6 (by omega) (by omega) (by omega)).mono ?_
              rintro e w9 ⟨y, rfl, y0, y1, s9, g9⟩
              have zl9 : lo ≤ w6.heap.size := by have := s6.2.1; omega
              have own9 := own_w6.kept g9 (.inr ne6)
              have hb9 : Below lo w w9 := hb6.grown g9 zl9 (fun q hq => by cases hq; exact hg)
              have B9 := B6.kept g9 (by simp; omega)
              have O9 := hid own9
              have HB9 := hid B9
              have N9 := hid ne6
              have M9 := hid nb6
              clear own9 B9
              go_wp2
              go_roundw
              case rel => exact ⟨k - 1, cyc + (1 + y), ys ++ [⟨cyc, T⟩], m + 4, by go_num, by first | rfl | go_num, by omega, by omega, by first | omega | (simp; omega), by omega, by omega, by omega, hid (OK.out.snoc LTT.out ⟨by simp only; omega, by simp only; omega, by simp only; omega, by simp only; omega⟩), hid (NE.out.snoc (by simp only; omega) (by simp only; omega)), hid (fun p hp => by rcases List.mem_append.1 hp with hp | hp; (have := LT.out p hp; omega); (simp at hp; subst hp; simp only; omega)), s9, hb9, N9.out, M9.out, HB9.out, by simpa [encMn] using O9.out⟩
              case measure => simp [intOf]; omega
            · have hlt' : decide (q.t < T) = false := by simpa using hlt
              clear hq
              go_wp2_with (go_at_call 33; refine (l06Time_any _ _).mono ?_; rintro e w' ⟨rfl, rfl⟩)
              refine (pick00_any lo g (m + 2) 6 _ s5 (by omega) (by omega) (by omega)).mono ?_
              rintro e w9 ⟨y, rfl, y0, y1, s9, g9⟩
              have zl9 : lo ≤ w5.heap.size := by have := s5.2.1; omega
              have own9 := OW5.out.kept g9 (.inr NE1.out)
              have hb9 : Below lo w w9 := hb5.grown g9 zl9 (fun q hq => by cases hq; exact hg)
              have B9 := B5.kept g9 (by simp; omega)
              have O9 := hid own9
              have HB9 := hid B9
              have N9 := hid NE1.out
              have M9 := hid NB1.out
              clear own9 B9
              go_wp2
              go_roundw
              case rel => exact ⟨k - 1, cyc + (1 + y), ys, m + 4, by go_num, by first | rfl | go_num, by omega, by omega, by first | omega | (simp; omega), by omega, by omega, by omega, hid OK.out, hid NE.out, hid (fun p hp => by have := LT.out p hp; omega), s9, hb9, N9.out, M9.out, HB9.out, by simpa [encMn] using O9.out⟩
              case measure => simp [intOf]; omega
    · have OW := hid own
      clear own
      go_wp2
      go_ret
      exact ⟨ys, Ar, cr, rfl, OW.out, hb, by omega, OK.out, NE.out⟩
theorem a2Minima_any (A : Option Addr) (c : Nat) (xs : List Int) (a b : Int) (w : World) (h : Rd encB 1 w w.heap.size A xs) (v : ∀ x ∈ xs, 0 ≤ x ∧ x < 256) (l : xs.length ≤ 3000) (a0 : 0 ≤ a) (a1 : a ≤ 19900) (p0 : 1 ≤ b) (p1 : b ≤ 9000) :
    Calls Try.prog 7 #[.slice A xs.length c, .agg #[.int .i64 a, .int .i64 b]] w (MinRes w.heap.size a b w) := by
  obtain ⟨wB, hwB⟩ : ∃ wB, wB = w.alloc (.cells #[.int .i64 a, .int .i64 b] 27) := ⟨_, rfl⟩
  have hbB : Below w.heap.size w wB := by rw [hwB]; exact Below.al (Below.refl _ _) _
  have zB : w.heap.size < wB.heap.size := by rw [hwB]; simp
  have BB : Bx wB w.heap.size (.int .i64 a) (.int .i64 b) := by rw [hwB]; exact Bx.new w _ _ _
  have rB : Rd encB 1 wB wB.heap.size A xs := (h.below hbB (Nat.le_refl _)).more (by omega)
  go_enter Try.func7, Try.ntmps7
  go_wp2
  rw [← hwB]
  obtain ⟨_, b0, b1, _, _⟩ := BB
  clear hwB h
  generalize w.heap.size = p at *
  go_region_held3 (fun w' => w'.cell? ⟨p, 0, none⟩ = some (.int .i64 a) ∧ w'.cell? ⟨p, 1, none⟩ = some (.int .i64 b)) (go_keep)
    (first | (go_at_call 19; refine (l00From_any A c xs _ ((rB.below (Below.drew (Below.refl _ _)) (Nat.le_refl _)).more (by simp)) v l).mono ?_; rintro e w1 ⟨g, rfl, s1, hb1⟩; have x0 : w1.cell? ⟨p, 0, none⟩ = some (.int .i64 a) := ((bcell hb1).1 p 0 (by simpa using zB)).trans (by simpa using b0); have x1 : w1.cell? ⟨p, 1, none⟩ = some (.int .i64 b) := ((bcell hb1).1 p 1 (by simpa using zB)).trans (by simpa using b1)) | (go_at_call 18; refine (l13Draw_any _ g _ a b s1 a0 a1 p0 p1).mono ?_; rintro e w2 ⟨ys, Ad, cd, rfl, o2, hb2, l2, ok, ne⟩; have z0 := ((bcell hb2).1 p 0 (by simpa using zB)).trans x0; have z1 := ((bcell hb2).1 p 1 (by simpa using zB)).trans x1))
  all_goals
    go_wp2
    go_ret
    exact ⟨ys, Ad, cd, rfl, own_lo o2 (by simp; omega), ((Below.drew hbB).trans (hb1.mono (by simp; omega))).trans (hb2.mono (by simp; omega)), l2, ok, ne⟩

end Go.Proofs.Ytlpgnmkhlbddaaa
