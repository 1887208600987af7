/- Contracts: boxes of two cells; drawn ephemerides. -/
import Derived.Test.YtgdahehpofdllaaC00
import Derived.Deep.RegionHeld3
namespace Go.Proofs.Ytgdahehpofdllaa
open Go.RowKit
set_option linter.unusedVariables false
/-- A box of two cells. -/
def Bx (W : World) (p : Nat) (v0 v1 : Value) : Prop := p < W.heap.size ∧ W.cell? ⟨p, 0, none⟩ = some v0 ∧ W.cell? ⟨p, 1, none⟩ = some v1 ∧ W.frozen? ⟨p, 0, none⟩ = false ∧ W.frozen? ⟨p, 1, none⟩ = false
theorem Bx.kept {W W' : World} {p : Nat} {v0 v1 : Value} {row : Option Nat} (h : Bx W p v0 v1) (hg : W.grownBy W' row) (hr : row ≠ some p) : Bx W' p v0 v1 := by
  obtain ⟨h1, h2, h3, h4, h5⟩ := h
  have fz : ∀ o, W'.frozen? ⟨p, o, none⟩ = W.frozen? ⟨p, o, none⟩ := fun o => World.frozen?_of_block (hg.block p h1 (Ne.symm hr))
  exact ⟨Nat.lt_of_lt_of_le h1 hg.size, hg.cell h2 (Ne.symm hr), hg.cell h3 (Ne.symm hr), (fz 0).trans h4, (fz 1).trans h5⟩
theorem Bx.set1 {W : World} {p : Nat} {v0 v1 : Value} (h : Bx W p v0 v1) (u : Value) : Bx (W.setCell ⟨p, 1, none⟩ u) p v0 u := by
  obtain ⟨h1, h2, h3, h4, h5⟩ := h
  exact ⟨Nat.lt_of_lt_of_le h1 (gb_set (World.grownBy.refl W _) 1 u).size, by simp [go_sem, h2], by simp [go_sem, h3], by rw [World.frozen?_setCell]; exact h4, by rw [World.frozen?_setCell]; exact h5⟩
theorem Bx.new (w : World) (v0 v1 : Value) (T : TypeId) : Bx (w.alloc (.cells #[v0, v1] T)) w.heap.size v0 v1 := ⟨by simp, by simp [go_sem], by simp [go_sem], by simp [go_sem], by simp [go_sem]⟩
theorem Bx.far {W : World} {p q o : Nat} {v0 v1 : Value} (h : Bx W p v0 v1) (hq : q ≠ p) (u : Value) : Bx (W.setCell ⟨q, o, none⟩ u) p v0 v1 := h.kept (gb_set (World.grownBy.refl W _) o u) (by simp; exact hq)
theorem Bx.al {W : World} {p : Nat} {v0 v1 : Value} (h : Bx W p v0 v1) (o : Obj) : Bx (W.alloc o) p v0 v1 := h.kept (gb_below (Below.al (Below.refl _ _) o) none) (by simp)
def EphRes (lo : Nat) (w : World) (e : Ending) (w' : World) : Prop := ∃ a b : Int, e = .returned (.agg #[.int .i64 a, .int .i64 b]) ∧ 0 ≤ a ∧ a ≤ 19900 ∧ 1 ≤ b ∧ b ≤ 9000 ∧ Below lo w w'
set_option maxRecDepth 20000 in
set_option maxHeartbeats 2000000 in
theorem l09Draw_any (lo g : Nat) (w : World) (h : Src w lo g 0) :
    Calls Try.prog 19 #[.pointer (some ⟨g, 0, none⟩)] w (EphRes lo w) := by
  have hg : lo ≤ g := h.1
  have zg : g < w.heap.size := h.2.1
  go_enter Try.func19, Try.ntmps19
  go_wp2_with fail
  refine (pick00_any lo g 0 200 _ (h.below (Below.al (Below.refl _ _) _)) (by omega) (by omega) (by omega)).mono ?_
  rintro e w1 ⟨x, rfl, x0, x1, s1, g1⟩
  have B2 := (Bx.new w (.int .i64 0) (.int .i64 0) 25).kept g1 (by simp; omega)
  have b1 : Below lo w w1 := ((Below.refl lo w).alloc (by omega) (.cells #[.int .i64 0, .int .i64 0] 25)).grown g1 (by simp; omega) (fun q hq => by cases hq; exact hg)
  have z1 : w.heap.size < w1.heap.size := B2.1
  have B2 := B2.al (.cells #[.int .i64 (100 * x), .int .i64 0] 25)
  have B3 := Bx.new w1 (.int .i64 (100 * x)) (.int .i64 0) 25
  have s1' := s1.below (Below.al (Below.refl _ _) (.cells #[.int .i64 (100 * x), .int .i64 0] 25))
  have zg1 : g < w1.heap.size := s1.2.1
  go_wp2_with fail
  refine (pick00_any lo g 2 60 _ s1' (by omega) (by omega) (by omega)).mono ?_
  rintro e w2 ⟨y, rfl, y0, y1, s2, g2⟩
  have B2 := B2.kept g2 (by simp; omega)
  have B3 := B3.kept g2 (by simp; omega)
  have b2 : Below lo w w2 := (b1.alloc (by omega) (.cells #[.int .i64 (100 * x), .int .i64 0] 25)).grown g2 (by simp; omega) (fun q hq => by cases hq; exact hg)
  obtain ⟨t0, t1, t2, t3, t4⟩ := B3
  have B3 : Bx w2 w1.heap.size (.int .i64 (100 * x)) (.int .i64 0) := ⟨t0, t1, t2, t3, t4⟩
  have B3' := B3.set1 (.int .i64 (100 * (1 + y)))
  have B2' := B2.far (q := w1.heap.size) (o := 1) (by omega) (.int .i64 (100 * (1 + y)))
  have s2' := s2.kept (gb_set (World.grownBy.refl w2 (some w1.heap.size)) 1 (.int .i64 (100 * (1 + y)))) (fun q hq => by cases hq; omega)
  have b2' := b2.setCell (p := ⟨w1.heap.size, 1, none⟩) (by simp only; omega) (.int .i64 (100 * (1 + y)))
  clear B2 B3
  go_wp2_with fail
  refine (one00_any lo g 4 3 _ s2' (by omega) (by omega) (by omega)).mono ?_
  rintro e w3 ⟨bb, rfl, s3, g3⟩
  have B2 := B2'.kept g3 (by simp; omega)
  have B3 := B3'.kept g3 (by simp; omega)
  have b3 : Below lo w w3 := b2'.grown g3 (by have := b2'.size; omega) (fun q hq => by cases hq; exact hg)
  have zz : w1.heap.size < w3.heap.size := B3.1
  clear t0 t1 t2 t3 t4 B2' B3' s2' b2'
  cases bb
  · obtain ⟨y0', y1, y2, y3, y4⟩ := B2
    obtain ⟨u0, u1, u2, u3, u4⟩ := B3
    have hbF := hid b3
    go_wp2_with fail
    refine bodyPost_ret (v := .agg #[.int .i64 (100 * x), .int .i64 (100 * (1 + y))]) (by simp [results, Try.results19, go_sem, y1, y2, y3, y4]) rfl ?_
    exact ⟨100 * x, 100 * (1 + y), rfl, by omega, by omega, by omega, by omega, (hbF.out.setCell (p := ⟨w.heap.size, 0, none⟩) (by simp only; omega) _).setCell (p := ⟨w.heap.size, 1, none⟩) (by simp only; omega) _⟩
  · go_wp2_with fail
    refine (pick00_any lo g 6 9000 _ s3 (by omega) (by omega) (by omega)).mono ?_
    rintro e w4 ⟨z, rfl, z0, z1', s4, g4⟩
    have B2 := B2.kept g4 (by simp; omega)
    have B3 := B3.kept g4 (by simp; omega)
    have b4 : Below lo w w4 := b3.grown g4 (by have := b3.size; omega) (fun q hq => by cases hq; exact hg)
    obtain ⟨y0', y1, y2, y3, y4⟩ := B2.far (q := w1.heap.size) (o := 1) (by omega) (.int .i64 (1 + z))
    obtain ⟨u0', u1', u2', u3', u4'⟩ := B3
    have B3 : Bx w4 w1.heap.size _ _ := ⟨u0', u1', u2', u3', u4'⟩
    obtain ⟨u0, u1, u2, u3, u4⟩ := B3.set1 (.int .i64 (1 + z))
    have hbF := hid (b4.setCell (p := ⟨w1.heap.size, 1, none⟩) (by simp only; omega) (.int .i64 (1 + z)))
    have y5 := B2.2.1
    have y6 := B2.2.2.1
    have y7 := B2.2.2.2.1
    have y8 := B2.2.2.2.2
    have n1 : ¬ w1.heap.size = w.heap.size := by omega
    have n2 : ¬ w.heap.size = w1.heap.size := by omega
    go_wp2_with fail
    refine bodyPost_ret (v := .agg #[.int .i64 (100 * x), .int .i64 (1 + z)]) (by simp [results, Try.results19, go_sem, y5, y6, y7, y8, n1, n2]) rfl ?_
    exact ⟨100 * x, 1 + z, rfl, by omega, by omega, by omega, by omega, (hbF.out.setCell (p := ⟨w.heap.size, 0, none⟩) (by simp only; omega) _).setCell (p := ⟨w.heap.size, 1, none⟩) (by simp only; omega) _⟩
theorem a2Ephemeris_any (A : Option Addr) (c : Nat) (xs : List Int) (w : World) (h : Rd encB 1 w w.heap.size A xs) (v : ∀ x ∈ xs, 0 ≤ x ∧ x < 256) (l : xs.length ≤ 3000) :
    Calls Try.prog 6 #[.slice A xs.length c] w (EphRes w.heap.size w) := by
  go_enter Try.func6, Try.ntmps6
  go_wp2_with fail
  refine (l00From_any A c xs _ ((h.below (B' := w.heap.size) (by repeat (first | assumption | exact Below.refl _ _ | apply Below.al | apply Below.drewN' | apply Below.drew | (apply Below.tr; assumption))) (Nat.le_refl _)).more (by simp)) v l).mono ?_
  rintro e w1 ⟨g, rfl, s1, hb1⟩
  have B1 := (Bx.new w (.int .i64 0) (.int .i64 0) 25).kept (gb_below hb1 none) (by simp)
  go_wp2_with fail
  refine (l09Draw_any _ g _ s1).mono ?_
  rintro e w2 ⟨a, b, rfl, a0, a1, p0, p1, hb2⟩
  obtain ⟨hc2, hf2⟩ := bcell hb2
  have y1 := (hc2 (w.heap.size) 0 (by simp)).trans B1.2.1
  have y2 := (hc2 (w.heap.size) 1 (by simp)).trans B1.2.2.1
  have y3 := (hf2 (w.heap.size) 0 (by simp)).trans B1.2.2.2.1
  have y4 := (hf2 (w.heap.size) 1 (by simp)).trans B1.2.2.2.2
  have hw : Below w.heap.size w w2 := (Below.tr hb1 (Below.al (Below.refl _ _) _)).trans (hb2.mono (by simp))
  clear hc2 hf2 B1
  go_wp2
  refine bodyPost_ret (v := .agg #[.int .i64 a, .int .i64 b]) (by simp [results, Try.results6, go_sem, y1, y2, y3, y4]) rfl ?_
  exact ⟨a, b, rfl, a0, a1, p0, p1, (hw.setCell (p := ⟨w.heap.size, 0, none⟩) (Nat.le_refl _) _).setCell (p := ⟨w.heap.size, 1, none⟩) (Nat.le_refl _) _⟩
end Go.Proofs.Ytgdahehpofdllaa
