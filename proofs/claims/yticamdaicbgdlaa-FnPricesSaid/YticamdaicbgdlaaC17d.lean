/- Contracts: the drawn worths, a list of rows of numbers; how such a list reads. -/
import Derived.Test.YticamdaicbgdlaaC00
import Derived.Test.YticamdaicbgdlaaC20u
namespace Go.Proofs.Yticamdaicbgdlaa
open Go.RowKit
set_option linter.unusedVariables false
/-- A list of rows that reads below B. -/
def RL (w : World) (B : Nat) (A : Option Addr) (Ls : List (List Int)) : Prop :=
  ∃ b, A = some ⟨b, 0, none⟩ ∧ b < B ∧ ∀ (i : Nat) (L : List Int), Ls[i]? = some L → ∃ A' c', w.cell? ⟨b, i, none⟩ = some (.slice A' L.length c') ∧ Rd encI 1 w B A' L
theorem RL.below {w w' : World} {B B' : Nat} {A : Option Addr} {Ls : List (List Int)} (h : RL w B A Ls) (hb : Below B' w w') (hB : B ≤ B') : RL w' B A Ls := by
  obtain ⟨b, h1, h2, h3⟩ := h
  refine ⟨b, h1, h2, fun i L hL => ?_⟩
  obtain ⟨A', c', e1, e2⟩ := h3 i L hL
  exact ⟨A', c', by rw [(bcell hb).1 b _ (by omega)]; exact e1, e2.below hb hB⟩
theorem RL.more {w : World} {B B' : Nat} {A : Option Addr} {Ls : List (List Int)} (h : RL w B A Ls) (hB : B ≤ B') : RL w B' A Ls := by
  obtain ⟨b, h1, h2, h3⟩ := h
  refine ⟨b, h1, by omega, fun i L hL => ?_⟩
  obtain ⟨A', c', e1, e2⟩ := h3 i L hL
  exact ⟨A', c', e1, e2.more hB⟩
theorem RL.of {w : World} {lo hi c : Nat} {A : Option Addr} {hs : List Value} {Ls : List (List Int)} (h : LR w lo hi (.slice A Ls.length c) hs Ls) (hh : hi ≤ w.heap.size) (hn : 0 < Ls.length) : RL w w.heap.size A Ls := by
  obtain ⟨g, rfl, zg1, zg2⟩ := own_form h.o hn
  refine ⟨g, rfl, zg2, fun i L hL => ?_⟩
  obtain ⟨A', c', e1, e2⟩ := h.i i L hL
  have x := h.o.cells (g := g) rfl i _ e1
  rw [cell_add] at x
  exact ⟨A', c', x, rd_of_own (fun _ => rfl) e2⟩
/-- Drawn worths: one to four rows of one to four numbers each. -/
structure WOk (n : Nat) (Ls : List (List Int)) : Prop where
  m1 : 1 ≤ Ls.length
  m2 : Ls.length ≤ 4
  n1 : 1 ≤ n
  n2 : n ≤ 4
  row : ∀ L ∈ Ls, L.length = n
  num : ∀ L ∈ Ls, ∀ x ∈ L, 0 ≤ x ∧ x ≤ 11
def LLRes (lo : Nat) (w : World) (e : Ending) (w' : World) : Prop := ∃ (n : Nat) (Ls : List (List Int)) (A : Option Addr) (c : Nat), e = .returned (.slice A Ls.length c) ∧ RL w' w'.heap.size A Ls ∧ Below lo w w' ∧ WOk n Ls
set_option maxRecDepth 20000 in
set_option maxHeartbeats 2000000 in
theorem l17Draw_any (lo g : Nat) (w : World) (h : Src w lo g 0) :
    Calls Try.prog 19 #[.pointer (some ⟨g, 0, none⟩)] w (LLRes lo w) := by
  have hg : lo ≤ g := h.1
  have zg : g < w.heap.size := h.2.1
  obtain ⟨i0, hi0, iz0, iz1, iz2⟩ := info_parts (P := Try.prog) (e := 2) (z := .int .i64 0) (size := 1) (bytes := 8) (by kernel_rfl)
  obtain ⟨j0, hj0, jz0, jz1, jz2⟩ := info_parts (P := Try.prog) (e := 26) (z := .slice none 0 0) (size := 1) (bytes := 24) (by kernel_rfl)
  go_enter Try.func19, Try.ntmps19
  go_wp2_with fail
  refine (pick00_any lo g 0 4 _ (h.below (Below.al (Below.refl _ _) _)) (by omega) (by omega) (by omega)).mono ?_
  rintro e w1 ⟨x, rfl, x0, x1, s1, g1⟩
  go_wp2_with fail
  refine (pick00_any lo g 2 4 _ s1 (by omega) (by omega) (by omega)).mono ?_
  rintro e w2 ⟨y, rfl, y0, y1, s2, g2⟩
  have g12 := grown_trans' g1 g2
  have hb2 : Below lo w w2 := ((Below.refl lo w).alloc (by omega) (.cells #[] 26)).grown g12 (by simp; omega) (fun q hq => by cases hq; exact hg)
  have R2 : Hid (LR w2 w.heap.size w2.heap.size (.slice (some ⟨w.heap.size, 0, none⟩) 0 0) [] []) := hid (((LR.lit (w := w) rfl (Nat.le_refl _)).grow g12 (Nat.le_refl _) (fun k hk => by cases hk; exact .inl zg)).wide g12.size)
  obtain ⟨n, rfl⟩ : ∃ n : Nat, x = (n : Int) := ⟨x.toNat, by omega⟩
  clear s1 g1 g2 g12 h
  go_wp2_with fail
  go_loopw [3, 5] (fun vv kv wr => ∃ (k : Int) (m : Nat) (A9 : Option Addr) (c9 : Nat) (hs : List Value) (Ls : List (List Int)), kv = .int .i64 k ∧ vv = .slice A9 Ls.length c9 ∧ 0 ≤ k ∧ Ls.length + k = 1 + y ∧ m + 10 * k ≤ 100 ∧ Hid (LR wr w.heap.size wr.heap.size (.slice A9 Ls.length c9) hs Ls) ∧ Hid (∀ L ∈ Ls, L.length = n + 1) ∧ Hid (∀ L ∈ Ls, ∀ x ∈ L, 0 ≤ x ∧ x ≤ 11) ∧ Src wr lo g m ∧ Below lo w wr) (fun _ kv _ => (intOf kv).toNat)
  case atStart => exact ⟨1 + y, 4, some ⟨w.heap.size, 0, none⟩, 0, [], [], rfl, rfl, by omega, by simp, by omega, R2, hid (by simp), hid (by simp), s2, hb2⟩
  case round =>
    clear s2 hb2 R2
    obtain ⟨k, m, A9, c9, hs, Ls, rfl, rfl, q0, q1, q2, R, HN, HX, s, hb⟩ := hrel
    obtain ⟨w6, rfl⟩ : ∃ w6, w6 = wr := ⟨_, rfl⟩
    have z6 := hb.size
    have zo := R.out.o.1
    by_cases hk : 0 < k
    · have zg6 : g < w6.heap.size := s.2.1
      have zl6 : w.heap.size ≤ w6.heap.size := z6
      go_wp2
      go_loopw [6, 7] (fun vv iv wr => ∃ (ys : List Int) (m' : Nat), iv = .int .i64 ys.length ∧ ys.length ≤ n + 1 ∧ m' ≤ m + 2 * ys.length ∧ Hid (∀ x ∈ ys, 0 ≤ x ∧ x ≤ 11) ∧ Hid (LR wr w.heap.size w6.heap.size (.slice A9 Ls.length c9) hs Ls) ∧ Src wr lo g m' ∧ Below lo w wr ∧ w6.heap.size ≤ wr.heap.size ∧ wr.ownsRow w6.heap.size 2 1 vv ys.length (ys.flatMap encI)) (fun _ iv _ => n + 1 - (intOf iv).toNat)
      case atStart => exact ⟨[], m, rfl, by simp, by simp, hid (by simp), hid (R.out.below (by repeat (first | assumption | exact Below.refl _ _ | apply Below.al | apply Below.drewN' | apply Below.drew | (apply Below.tr; assumption))) (Nat.le_refl _)), s.below (by repeat (first | assumption | exact Below.refl _ _ | apply Below.al | apply Below.drewN' | apply Below.drew | (apply Below.tr; assumption))), hb.alloc (by omega) _, by simp, own_lit0 _ _ _ (Nat.le_refl _)⟩
      case round =>
        obtain ⟨ys, m', rfl, p0, p1, HY, R6, s', hb', zr, own⟩ := hrel
        obtain ⟨Ar, cr, rfl⟩ := own_shape own
        have OW := hid own
        clear own
        by_cases hi : ys.length < n + 1
        · have ne : (Value.slice Ar ys.length cr).ownBlock ≠ some g := fun hx => by have := (OW.out.lt _ hx).1; omega
          go_wp2_with fail
          refine (pick00_any lo g m' 12 _ s' (by omega) (by omega) (by omega)).mono ?_
          rintro e w5 ⟨x, rfl, x0, x1, s5, g5⟩
          have own5 := hid (OW.out.kept g5 (.inr ne))
          have R5 := R6.out.grow g5 zr (fun k hk => by cases hk; exact .inl zg)
          have hb5 : Below lo w w5 := hb'.grown g5 (by omega) (fun q hq => by cases hq; exact hg)
          have zg5 := g5.size
          go_wp2_with (at_builtin; go_must (refine wpList_append_own_at _ rfl _ _ 26 rfl (w6.heap.size) 2 i0 _ 1 8 Try.underlying26 hi0 iz0 iz1 iz2 rfl (by decide) _ _ _ rfl (own5.out.alloc _) ⟨(w5).heap.size, 0, none⟩ 1 1 [.int .i64 x] rfl rfl (news_at w5 [.int .i64 x] 2) (by simp [Value.oneCell']) (by unfold maxLen; omega) (by omega) (by first | omega | (simp; done) | (simp; omega)) ?_); intro v2 w7 own_w7 grow_w7 _ at_w7)
          have s7 := (s5.below (Below.al (Below.refl _ _) (.cells #[.int .i64 x] 2))).kept grow_w7 (fun q hq => ⟨by have := (own5.out.lt q hq).1; omega, fun e => ne (e ▸ hq)⟩)
          have hb7 : Below lo w w7 := Below.ap hb5 (by omega) own5.out (by omega) grow_w7
          have R7 := (R5.below (Below.al (Below.refl _ _) (.cells #[.int .i64 x] 2)) (by omega)).grow grow_w7 (by simp; omega) (fun q hq => .inr (own5.out.lt q hq).1)
          have z7 := grow_w7.size
          simp at z7
          have O7 := hid own_w7
          clear own_w7
          go_roundw
          case rel => exact ⟨ys ++ [x], m' + 2, by simp; try go_num, by simp; omega, by simp; omega, hid (fun z hz => by rcases List.mem_append.1 hz with hz | hz; (exact HY.out z hz); (simp at hz; subst hz; omega)), hid R7, s7, hb7, by omega, by simpa [encI] using O7.out⟩
          case measure => simp [intOf]; omega
        · have hl : Hid (ys.length = n + 1) := hid (by omega)
          have R5o := hid R6.out.o
          go_wp2_with (at_builtin; go_must (refine wpList_append_own_at _ rfl _ _ 24 rfl (w.heap.size) 26 j0 _ 1 24 Try.underlying24 hj0 jz0 jz1 jz2 rfl (by decide) _ _ _ rfl (R5o.out.alloc _) ⟨(wr).heap.size, 0, none⟩ 1 1 [.slice Ar ys.length cr] rfl rfl (news_at wr [.slice Ar ys.length cr] 26) (by simp [Value.oneCell']) (by unfold maxLen; omega) (by omega) (by first | omega | (simp; done) | (simp; omega)) ?_); intro v8 w8 own_w8 grow_w8 _ at_w8)
          have R8 := R6.out.push zl6 zr OW.out own_w8 grow_w8 at_w8
          obtain ⟨A8, c8, rfl⟩ := own_shape own_w8
          have b8 : Below lo w w8 := (hb'.alloc (by omega) _).grown grow_w8 (by simp; omega) (fun q hq => by have := (R6.out.o.lt q hq).1; omega)
          have s8 := (s'.below (Below.al (Below.refl _ _) (.cells #[.slice Ar ys.length cr] 26))).kept grow_w8 (fun q hq => ⟨by have := (R6.out.o.lt q hq).1; omega, fun e => by have := (R6.out.o.lt q hq).1; omega⟩)
          go_roundw
          case rel => exact ⟨k - 1, m', A8, c8, _, Ls ++ [ys], by go_num, by simp, by omega, by simp; omega, by omega, hid (by simpa using R8), hid (fun L hL => by rcases List.mem_append.1 hL with hL | hL; (exact HN.out L hL); (simp at hL; subst hL; exact hl.out)), hid (fun L hL => by rcases List.mem_append.1 hL with hL | hL; (exact HX.out L hL); (simp at hL; subst hL; exact HY.out)), s8, b8⟩
          case measure => simp [intOf]; omega
    · have hne : 0 < Ls.length := by omega
      go_wp2
      go_ret
      exact ⟨n + 1, Ls, A9, c9, rfl, RL.of R.out (Nat.le_refl _) hne, hb, ⟨by omega, by omega, by omega, by omega, HN.out, HX.out⟩⟩
theorem a2Worths_any (A : Option Addr) (c : Nat) (xs : List Int) (w : World) (h : Rd encB 1 w w.heap.size A xs) (v : ∀ x ∈ xs, 0 ≤ x ∧ x < 256) (l : xs.length ≤ 3000) :
    Calls Try.prog 6 #[.slice A xs.length c] w (LLRes w.heap.size w) := by
  go_enter Try.func6, Try.ntmps6
  go_wp2_with fail
  refine (l00From_any A c xs _ h v l).mono ?_
  rintro e w1 ⟨g, rfl, s1, hb1⟩
  go_wp2_with fail
  refine (l17Draw_any w.heap.size g _ s1).mono ?_
  rintro e w2 ⟨n, Ls, A, c, rfl, o2, hb2, ok⟩
  go_wp2
  go_ret
  exact ⟨n, Ls, A, c, rfl, o2, hb1.trans hb2, ok⟩
end Go.Proofs.Yticamdaicbgdlaa
