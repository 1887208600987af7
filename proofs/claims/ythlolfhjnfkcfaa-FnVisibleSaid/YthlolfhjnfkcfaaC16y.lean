/- Contracts: drawn ephemerides and windows; the phase of a time, in the reference. -/
import Derived.Test.YthlolfhjnfkcfaaC00
import Derived.Test.YthlolfhjnfkcfaaC16x
import Derived.Deep.RegionHeld3
namespace Go.Proofs.Ythlolfhjnfkcfaa
open Go.RowKit
set_option linter.unusedVariables false
/-- A box of two cells. -/
def Bx (W : World) (p : Nat) (v0 v1 : Value) : Prop := p < W.heap.size ∧ W.cell? ⟨p, 0, none⟩ = some v0 ∧ W.cell? ⟨p, 1, none⟩ = some v1 ∧ W.frozen? ⟨p, 0, none⟩ = false ∧ W.frozen? ⟨p, 1, none⟩ = false
theorem Bx.kept {W W' : World} {p : Nat} {v0 v1 : Value} {row : Option Nat} (h : Bx W p v0 v1) (hg : W.grownBy W' row) (hr : row ≠ some p) : Bx W' p v0 v1 := by
  obtain ⟨h1, h2, h3, h4, h5⟩ := h
  have fz : ∀ o, W'.frozen? ⟨p, o, none⟩ = W.frozen? ⟨p, o, none⟩ := fun o => World.frozen?_of_block (hg.block p h1 (Ne.symm hr))
  exact ⟨Nat.lt_of_lt_of_le h1 hg.size, hg.cell h2 (Ne.symm hr), hg.cell h3 (Ne.symm hr), (fz 0).trans h4, (fz 1).trans h5⟩
theorem Bx.set1 {W : World} {p : Nat} {v0 v1 : Value} (h : Bx W p v0 v1) (u : Value) : Bx (W.setCell ⟨p, 1, none⟩ u) p v0 u := by
  obtain ⟨h1, h2, h3, h4, h5⟩ := h
  exact ⟨Nat.lt_of_lt_of_le h1 (gb_set (World.grownBy.refl W _) 1 u).size, by simp [go_sem, h2], by simp [go_sem, h3], by rw [World.frozen?_setCell]; exact h4, by rw [World.frozen?_setCell]; exact h5⟩
theorem Bx.new (w : World) (v0 v1 : Value) (T : TypeId) : Bx (w.alloc (.cells #[v0, v1] T)) w.heap.size v0 v1 := ⟨by simp, by simp [go_sem], by simp [go_sem], by simp [go_sem], by simp [go_sem]⟩
theorem Bx.far {W : World} {p q o : Nat} {v0 v1 : Value} (h : Bx W p v0 v1) (hq : q ≠ p) (u : Value) : Bx (W.setCell ⟨q, o, none⟩ u) p v0 v1 := h.kept (gb_set (World.grownBy.refl W _) o u) (by simp; exact hq)
theorem Bx.al {W : World} {p : Nat} {v0 v1 : Value} (h : Bx W p v0 v1) (o : Obj) : Bx (W.alloc o) p v0 v1 := h.kept (gb_below (Below.al (Below.refl _ _) o) none) (by simp)
def EphRes (lo : Nat) (w : World) (e : Ending) (w' : World) : Prop := ∃ a b : Int, e = .returned (.agg #[.int .i64 a, .int .i64 b]) ∧ 0 ≤ a ∧ a ≤ 19900 ∧ 1 ≤ b ∧ b ≤ 9000 ∧ Below lo w w'
set_option maxRecDepth 20000 in
set_option maxHeartbeats 2000000 in
theorem l09Draw_any (lo g : Nat) (w : World) (h : Src w lo g 0) :
    Calls Try.prog 15 #[.pointer (some ⟨g, 0, none⟩)] w (EphRes lo w) := by
  have hg : lo ≤ g := h.1
  have zg : g < w.heap.size := h.2.1
  go_enter Try.func15, Try.ntmps15
  go_wp2_with fail
  refine (pick00_any lo g 0 200 _ (h.below (Below.al (Below.refl _ _) _)) (by omega) (by omega) (by omega)).mono ?_
  rintro e w1 ⟨x, rfl, x0, x1, s1, g1⟩
  have B2 := (Bx.new w (.int .i64 0) (.int .i64 0) 25).kept g1 (by simp; omega)
  have b1 : Below lo w w1 := ((Below.refl lo w).alloc (by omega) (.cells #[.int .i64 0, .int .i64 0] 25)).grown g1 (by simp; omega) (fun q hq => by cases hq; exact hg)
  have z1 : w.heap.size < w1.heap.size := B2.1
  have B2 := B2.al (.cells #[.int .i64 (100 * x), .int .i64 0] 25)
  have B3 := Bx.new w1 (.int .i64 (100 * x)) (.int .i64 0) 25
  have s1' := s1.below (Below.al (Below.refl _ _) (.cells #[.int .i64 (100 * x), .int .i64 0] 25))
  have zg1 : g < w1.heap.size := s1.2.1
  go_wp2_with fail
  refine (pick00_any lo g 2 60 _ s1' (by omega) (by omega) (by omega)).mono ?_
  rintro e w2 ⟨y, rfl, y0, y1, s2, g2⟩
  have B2 := B2.kept g2 (by simp; omega)
  have B3 := B3.kept g2 (by simp; omega)
  have b2 : Below lo w w2 := (b1.alloc (by omega) (.cells #[.int .i64 (100 * x), .int .i64 0] 25)).grown g2 (by simp; omega) (fun q hq => by cases hq; exact hg)
  obtain ⟨t0, t1, t2, t3, t4⟩ := B3
  have B3 : Bx w2 w1.heap.size (.int .i64 (100 * x)) (.int .i64 0) := ⟨t0, t1, t2, t3, t4⟩
  have B3' := B3.set1 (.int .i64 (100 * (1 + y)))
  have B2' := B2.far (q := w1.heap.size) (o := 1) (by omega) (.int .i64 (100 * (1 + y)))
  have s2' := s2.kept (gb_set (World.grownBy.refl w2 (some w1.heap.size)) 1 (.int .i64 (100 * (1 + y)))) (fun q hq => by cases hq; omega)
  have b2' := b2.setCell (p := ⟨w1.heap.size, 1, none⟩) (by simp only; omega) (.int .i64 (100 * (1 + y)))
  clear B2 B3
  go_wp2_with fail
  refine (one00_any lo g 4 3 _ s2' (by omega) (by omega) (by omega)).mono ?_
  rintro e w3 ⟨bb, rfl, s3, g3⟩
  have B2 := B2'.kept g3 (by simp; omega)
  have B3 := B3'.kept g3 (by simp; omega)
  have b3 : Below lo w w3 := b2'.grown g3 (by have := b2'.size; omega) (fun q hq => by cases hq; exact hg)
  have zz : w1.heap.size < w3.heap.size := B3.1
  clear t0 t1 t2 t3 t4 B2' B3' s2' b2'
  cases bb
  · obtain ⟨y0', y1, y2, y3, y4⟩ := B2
    obtain ⟨u0, u1, u2, u3, u4⟩ := B3
    have hbF := hid b3
    go_wp2_with fail
    refine bodyPost_ret (v := .agg #[.int .i64 (100 * x), .int .i64 (100 * (1 + y))]) (by simp [results, Try.results15, go_sem, y1, y2, y3, y4]) rfl ?_
    exact ⟨100 * x, 100 * (1 + y), rfl, by omega, by omega, by omega, by omega, (hbF.out.setCell (p := ⟨w.heap.size, 0, none⟩) (by simp only; omega) _).setCell (p := ⟨w.heap.size, 1, none⟩) (by simp only; omega) _⟩
  · go_wp2_with fail
    refine (pick00_any lo g 6 9000 _ s3 (by omega) (by omega) (by omega)).mono ?_
    rintro e w4 ⟨z, rfl, z0, z1', s4, g4⟩
    have B2 := B2.kept g4 (by simp; omega)
    have B3 := B3.kept g4 (by simp; omega)
    have b4 : Below lo w w4 := b3.grown g4 (by have := b3.size; omega) (fun q hq => by cases hq; exact hg)
    obtain ⟨y0', y1, y2, y3, y4⟩ := B2.far (q := w1.heap.size) (o := 1) (by omega) (.int .i64 (1 + z))
    obtain ⟨u0', u1', u2', u3', u4'⟩ := B3
    have B3 : Bx w4 w1.heap.size _ _ := ⟨u0', u1', u2', u3', u4'⟩
    obtain ⟨u0, u1, u2, u3, u4⟩ := B3.set1 (.int .i64 (1 + z))
    have hbF := hid (b4.setCell (p := ⟨w1.heap.size, 1, none⟩) (by simp only; omega) (.int .i64 (1 + z)))
    have y5 := B2.2.1
    have y6 := B2.2.2.1
    have y7 := B2.2.2.2.1
    have y8 := B2.2.2.2.2
    have n1 : ¬ w1.heap.size = w.heap.size := by omega
    have n2 : ¬ w.heap.size = w1.heap.size := by omega
    go_wp2_with fail
    refine bodyPost_ret (v := .agg #[.int .i64 (100 * x), .int .i64 (1 + z)]) (by simp [results, Try.results15, go_sem, y5, y6, y7, y8, n1, n2]) rfl ?_
    exact ⟨100 * x, 1 + z, rfl, by omega, by omega, by omega, by omega, (hbF.out.setCell (p := ⟨w.heap.size, 0, none⟩) (by simp only; omega) _).setCell (p := ⟨w.heap.size, 1, none⟩) (by simp only; omega) _⟩
theorem a2Ephemeris_any (A : Option Addr) (c : Nat) (xs : List Int) (w : World) (h : Rd encB 1 w w.heap.size A xs) (v : ∀ x ∈ xs, 0 ≤ x ∧ x < 256) (l : xs.length ≤ 3000) :
    Calls Try.prog 6 #[.slice A xs.length c] w (EphRes w.heap.size w) := by
  go_enter Try.func6, Try.ntmps6
  go_wp2_with fail
  refine (l00From_any A c xs _ ((h.below (B' := w.heap.size) (by repeat (first | assumption | exact Below.refl _ _ | apply Below.al | apply Below.drewN' | apply Below.drew | (apply Below.tr; assumption))) (Nat.le_refl _)).more (by simp)) v l).mono ?_
  rintro e w1 ⟨g, rfl, s1, hb1⟩
  have B1 := (Bx.new w (.int .i64 0) (.int .i64 0) 25).kept (gb_below hb1 none) (by simp)
  go_wp2_with fail
  refine (l09Draw_any _ g _ s1).mono ?_
  rintro e w2 ⟨a, b, rfl, a0, a1, p0, p1, hb2⟩
  obtain ⟨hc2, hf2⟩ := bcell hb2
  have y1 := (hc2 (w.heap.size) 0 (by simp)).trans B1.2.1
  have y2 := (hc2 (w.heap.size) 1 (by simp)).trans B1.2.2.1
  have y3 := (hf2 (w.heap.size) 0 (by simp)).trans B1.2.2.2.1
  have y4 := (hf2 (w.heap.size) 1 (by simp)).trans B1.2.2.2.2
  have hw : Below w.heap.size w w2 := (Below.tr hb1 (Below.al (Below.refl _ _) _)).trans (hb2.mono (by simp))
  clear hc2 hf2 B1
  go_wp2
  refine bodyPost_ret (v := .agg #[.int .i64 a, .int .i64 b]) (by simp [results, Try.results6, go_sem, y1, y2, y3, y4]) rfl ?_
  exact ⟨a, b, rfl, a0, a1, p0, p1, (hw.setCell (p := ⟨w.heap.size, 0, none⟩) (Nat.le_refl _) _).setCell (p := ⟨w.heap.size, 1, none⟩) (Nat.le_refl _) _⟩
def WinsRes (lo : Nat) (w : World) (e : Ending) (w' : World) : Prop := ∃ (ys : List Wi) (Ad : Option Addr) (c : Nat), e = .returned (.slice Ad ys.length c) ∧ w'.ownsRow lo 35 2 (.slice Ad ys.length c) ys.length (ys.flatMap encWi) ∧ Below lo w w' ∧ ys.length ≤ 6 ∧ WsOk ys
set_option maxRecDepth 20000 in
set_option maxHeartbeats 2000000 in
theorem l16Draw_any (lo g : Nat) (w : World) (h : Src w lo g 0) :
    Calls Try.prog 17 #[.pointer (some ⟨g, 0, none⟩), .int .i64 6] w (WinsRes lo w) := by
  have hg : lo ≤ g := h.1
  have zg : g < w.heap.size := h.2.1
  obtain ⟨i0, hi0, iz0, iz1, iz2⟩ := info_parts (P := Try.prog) (e := 35) (z := .agg #[.int .i64 0, .int .i64 0]) (size := 2) (bytes := 16) (by kernel_rfl)
  go_enter Try.func17, Try.ntmps17
  go_wp2_with fail
  refine (pick00_any lo g 0 40 _ (h.below (Below.al (Below.refl _ _) _)) (by omega) (by omega) (by omega)).mono ?_
  rintro e w1 ⟨x, rfl, x0, x1, s1, g1⟩
  go_wp2_with fail
  refine (pick00_any lo g 2 7 _ s1 (by omega) (by omega) (by omega)).mono ?_
  rintro e w2 ⟨k0, rfl, k1, k2, s2, g2⟩
  have g12 := grown_trans' g1 g2
  have hb2 : Below lo w w2 := ((Below.refl lo w).alloc (by omega) (.cells #[] 35)).grown g12 (by simp; omega) (fun q hq => by cases hq; exact hg)
  have o2 : w2.ownsRow lo 35 2 (.slice (some ⟨w.heap.size, 0, none⟩) 0 0) 0 [] := (own_lit0 w 35 2 (by omega)).kept g12 (.inr (by simp [Value.ownBlock]; omega))
  have ne2 : (Value.slice (some ⟨w.heap.size, 0, none⟩) 0 0).ownBlock ≠ some g := by simp [Value.ownBlock]; omega
  clear s1 g1 g2 g12 h
  go_wp2_with fail
  generalize Value.slice (some ⟨w.heap.size, 0, none⟩) 0 0 = v2 at *
  go_loopw [5, 6, 7] (fun vv av kv wr => ∃ (k at_ : Int) (ys : List Wi) (m : Nat), kv = .int .i64 k ∧ av = .int .i64 at_ ∧ 0 ≤ k ∧ k ≤ 6 ∧ ys.length + k ≤ 6 ∧ 0 ≤ at_ ∧ at_ ≤ 4000 + 9000 * ys.length ∧ m + 10 * k ≤ 300 ∧ Hid (WsOk ys) ∧ Hid (∀ p ∈ ys, p.t < at_) ∧ Src wr lo g m ∧ Below lo w wr ∧ vv.ownBlock ≠ some g ∧ wr.ownsRow lo 35 2 vv ys.length (ys.flatMap encWi)) (fun _ _ kv _ => (intOf kv).toNat)
  case atStart => exact ⟨k0, 100 * x, [], 4, rfl, rfl, k1, by omega, by simp; omega, by omega, by simp; omega, by omega, hid ⟨by simp, by simp⟩, hid (by simp), s2, hb2, ne2, o2⟩
  case round =>
    clear s2 hb2 ne2 o2
    obtain ⟨k, at_, ys, m, rfl, rfl, q0, q1, q3, q4, q5, q6, CV, LT, s, hb, ne, own⟩ := hrel
    obtain ⟨Ar, cr, rfl⟩ := own_shape own
    by_cases hk : 0 < k
    · have OW := hid own
      have hsz := hb.size
      have zgr : lo ≤ wr.heap.size := by have := s.2.1; omega
      clear own
      go_wp2_with fail
      refine (pick00_any lo g m 30 _ s (by omega) (by omega) (by omega)).mono ?_
      rintro e w5 ⟨y, rfl, y0, y1, s5, g5⟩
      have own5 := hid ((OW.out.kept g5 (.inr ne)).alloc (.cells #[.int .i64 at_, .int .i64 (at_ + 100 * y)] 35))
      have hb5 : Below lo w w5 := hb.grown g5 zgr (fun q hq => by cases hq; exact hg)
      have zg5 : g < w5.heap.size := s5.2.1
      have zl5 : lo ≤ w5.heap.size := by omega
      have B5 := Bx.new w5 (.int .i64 at_) (.int .i64 (at_ + 100 * y)) 35
      have s5' := s5.below (Below.al (Below.refl _ _) (.cells #[.int .i64 at_, .int .i64 (at_ + 100 * y)] 35))
      have hb5' := hb5.alloc zl5 (.cells #[.int .i64 at_, .int .i64 (at_ + 100 * y)] 35)
      have ag5 : (Value.slice Ar ys.length cr).ownBlock ≠ some w5.heap.size := fun hx => by have := ((OW.out.kept g5 (.inr ne)).lt _ hx).2; omega
      have zB : w5.heap.size < (World.heap (w5.alloc (.cells #[.int .i64 at_, .int .i64 (at_ + 100 * y)] 35))).size := B5.1
      go_wp2_with (at_builtin; go_must (refine wpList_append_own_at _ rfl _ _ 27 rfl (lo) 35 i0 _ 2 16 Try.underlying27 hi0 iz0 iz1 iz2 rfl (by decide) _ _ _ rfl (own5.out.alloc _) ⟨w5.heap.size + 1, 0, none⟩ 1 1 [.int .i64 at_, .int .i64 (at_ + 100 * y)] rfl rfl (by have hh := news_at (w5.alloc (.cells #[.int .i64 at_, .int .i64 (at_ + 100 * y)] 35)) [.int .i64 at_, .int .i64 (at_ + 100 * y)] 35; rw [show (World.heap (w5.alloc (.cells #[.int .i64 at_, .int .i64 (at_ + 100 * y)] 35))).size = w5.heap.size + 1 from by simp] at hh; exact hh) (by simp [Value.oneCell']) (by unfold maxLen; omega) (by omega) (by first | omega | (simp; done) | (simp; omega)) ?_); intro v2 w6 own_w6 grow_w6 _ at_w6)
      have s6 := (s5'.below (Below.al (Below.refl _ _) (.cells #[.int .i64 at_, .int .i64 (at_ + 100 * y)] 35))).kept grow_w6 (fun q hq => ⟨(own5.out.lt q hq).1, fun e => ne (e ▸ hq)⟩)
      have hb6 : Below lo w w6 := Below.ap hb5' (by simp; omega) own5.out (Nat.le_refl _) grow_w6
      have ne6 := grow_ne' at_w6 ne (by simp; omega)
      have B6 := (B5.al (.cells #[.int .i64 at_, .int .i64 (at_ + 100 * y)] 35)).kept grow_w6 ag5
      have zl6 : lo ≤ w6.heap.size := by have := s6.2.1; omega
      have x6 := B6.2.2.1
      have O6 := hid own_w6
      have G6 := hid ne6
      clear B5 own_w6 grow_w6 ne6
      go_region_held3 (fun w' => w'.cell? ⟨w5.heap.size, 1, none⟩ = some (.int .i64 (at_ + 100 * y))) (go_keep)
        ((go_at_call 30; refine (pick00_any lo g (m + 2) 60 _ (s6.below (Below.drew (Below.refl _ _))) (by omega) (by omega) (by omega)).mono ?_; rintro e w7 ⟨z, rfl, z0, z1, s7, g7⟩; have x7 : w7.cell? ⟨w5.heap.size, 1, none⟩ = some (.int .i64 (at_ + 100 * y)) := g7.cell (by simpa using x6) (by simp; omega)))
      all_goals
        have own7 := (O6.out.drew).kept g7 (.inr G6.out)
        have hb7 : Below lo w w7 := (Below.drew hb6).grown g7 (by simp; omega) (fun q hq => by cases hq; exact hg)
        have O7 := hid own7
        clear own7
        have k1 : IntKind.i64.wrap (1 + z) = 1 + z := IntWalk.i64_in _ ⟨by omega, by omega⟩
        have k2 : IntKind.i64.wrap (100 * (1 + z)) = 100 * (1 + z) := IntWalk.i64_in _ ⟨by omega, by omega⟩
        have k3 : IntKind.i64.wrap (at_ + 100 * y + 100 * (1 + z)) = at_ + 100 * y + 100 * (1 + z) := IntWalk.i64_in _ ⟨by omega, by omega⟩
        rw [k1, k2, k3]
        go_wp2
        go_roundw
        case rel => exact ⟨k - 1, at_ + 100 * y + 100 * (1 + z), ys ++ [⟨at_, at_ + 100 * y⟩], m + 4, by go_num, by first | rfl | go_num, by omega, by omega, by simp; omega, by omega, by simp; omega, by omega, hid (CV.out.snoc LT.out ⟨q4, by simp only; omega, by simp only; omega, by simp only; omega⟩), hid (fun p hp => by rcases List.mem_append.1 hp with hp | hp; (have := LT.out p hp; omega); (simp at hp; subst hp; simp only; omega)), s7, hb7, G6.out, by simpa [encWi] using O7.out⟩
        case measure => simp [intOf]; omega
    · have OW := hid own
      clear own
      go_wp2
      go_ret
      exact ⟨ys, Ar, cr, rfl, OW.out, hb, by omega, CV.out⟩
theorem a2Windows_any (A : Option Addr) (c : Nat) (xs : List Int) (w : World) (h : Rd encB 1 w w.heap.size A xs) (v : ∀ x ∈ xs, 0 ≤ x ∧ x < 256) (l : xs.length ≤ 3000) :
    Calls Try.prog 7 #[.slice A xs.length c] w (WinsRes w.heap.size w) := by
  go_enter Try.func7, Try.ntmps7
  go_wp2_with fail
  refine (l00From_any A c xs _ h v l).mono ?_
  rintro e w1 ⟨g, rfl, s1, hb1⟩
  go_wp2_with fail
  refine (l16Draw_any w.heap.size g _ s1).mono ?_
  rintro e w2 ⟨ys, Ad, c, rfl, o2, hb2, l2, cv⟩
  go_wp2
  go_ret
  exact ⟨ys, Ad, c, rfl, o2, hb1.trans hb2, l2, cv⟩
theorem phaseOf_any (a b t : Int) (w : World) (h1 : 0 ≤ a) (h2 : a ≤ 10000000) (h3 : 1 ≤ b) (h4 : b ≤ 1000000) (h5 : 0 ≤ t) (h6 : t ≤ 10000000) :
    Calls Try.prog 9 #[.agg #[.int .i64 a, .int .i64 b], .int .i64 t] w fun e w' => e = .returned (.tuple #[.int .i64 ((t - a) % b), .int .i64 0]) ∧ Below w.heap.size w w' := by
  have hc : codeET a b t = 0 := by
    unfold codeET ephB
    rw [inB_true.2 ⟨h1, h2⟩, inB_true.2 ⟨h3, h4⟩, inB_true.2 ⟨h5, h6⟩]
    rfl
  go_enter Try.func9, Try.ntmps9
  go_wp2_with fail
  refine (l09Code_any a b t _).mono ?_
  rw [hc]
  rintro e w1 ⟨rfl, hb1⟩
  obtain ⟨hc1, _⟩ := bcell hb1
  have hz1 := hb1.size
  simp at hz1
  have x0 := (hc1 (w.heap.size) 0 (by simp)).trans (show (w.alloc (.cells #[.int .i64 a, .int .i64 b] 25)).cell? ⟨w.heap.size, 0, none⟩ = some (.int .i64 a) from by simp [go_sem])
  have x1 := (hc1 (w.heap.size) 1 (by simp)).trans (show (w.alloc (.cells #[.int .i64 a, .int .i64 b] 25)).cell? ⟨w.heap.size, 1, none⟩ = some (.int .i64 b) from by simp [go_sem])
  clear hc hc1
  go_wp2_with fail
  refine (l09Phase_any a b t _ h1 h2 h3 h4 h5 h6).mono ?_
  rintro e w2 ⟨rfl, hb2⟩
  go_wp2
  go_ret2
  exact ⟨rfl, Below.tr hb2 (Below.tr hb1 (Below.al (Below.refl _ _) _))⟩
end Go.Proofs.Ythlolfhjnfkcfaa
