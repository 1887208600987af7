/- Contracts: the source of choices. What it chooses is in range; nothing more is said. -/
import Derived.Test.YticamdaicbgdlaaC1
import Derived.Test.YticamdaicbgdlaaOpen
import Derived.Test.YticamdaicbgdlaaCGrow
import Derived.Laws.Bits64b
namespace Go.Proofs.Yticamdaicbgdlaa
open Go.RowKit
set_option linter.unusedVariables false
theorem gb_below {w w' : World} (h : Below w.heap.size w w') (row : Option Nat) : w.grownBy w' row := ⟨h.os, h.tape, h.output, h.size, fun i hi _ => h.block i hi⟩
theorem gb_then {a w w' : World} {row : Option Nat} (h : a.grownBy w row) (k : Below w.heap.size w w') : a.grownBy w' row := grown_trans' h (gb_below k row)
theorem gb_set {a w : World} {g : Nat} (h : a.grownBy w (some g)) (o : Nat) (u : Value) : a.grownBy (w.setCell ⟨g, o, none⟩ u) (some g) :=
  ⟨h.os, h.tape, h.output, by simpa [World.setCell] using h.size, fun i hi hne => (Below.heap_setCell w ⟨g, o, none⟩ u i (fun e => hne (by rw [e]))).trans (h.block i hi hne)⟩
/-- A source of choices that lies in block g, over bytes that lie below lo; it has been asked m times at most. -/
def Src (w : World) (lo g m : Nat) : Prop := lo ≤ g ∧ g < w.heap.size ∧ ∃ (Ad : Option Addr) (xs : List Int) (c at_ : Nat) (seed : Int),
  w.cell? ⟨g, 0, none⟩ = some (.slice Ad xs.length c) ∧ w.cell? ⟨g, 1, none⟩ = some (.int .i64 at_) ∧ w.cell? ⟨g, 2, none⟩ = some (.int .u64 seed) ∧
  w.frozen? ⟨g, 1, none⟩ = false ∧ w.frozen? ⟨g, 2, none⟩ = false ∧ Rd encB 1 w lo Ad xs ∧ (∀ x ∈ xs, 0 ≤ x ∧ x < 256) ∧ xs.length ≤ 3000 ∧ at_ ≤ m
theorem Src.below {w w' : World} {lo g m : Nat} (h : Src w lo g m) (hb : Below w.heap.size w w') : Src w' lo g m := by
  obtain ⟨h1, h2, Ad, xs, c, at_, seed, c0, c1, c2, f1, f2, r, v, l, hm⟩ := h
  have ⟨hc, hf⟩ := bcell hb
  exact ⟨h1, Nat.lt_of_lt_of_le h2 hb.size, Ad, xs, c, at_, seed, by rw [hc _ _ h2]; exact c0, by rw [hc _ _ h2]; exact c1, by rw [hc _ _ h2]; exact c2, by rw [hf _ _ h2]; exact f1, by rw [hf _ _ h2]; exact f2,
    r.below hb (by omega), v, l, hm⟩
theorem Src.kept {w w' : World} {lo g m : Nat} {row : Option Nat} (h : Src w lo g m) (hg : w.grownBy w' row) (hr : ∀ k, row = some k → lo ≤ k ∧ k ≠ g) : Src w' lo g m := by
  obtain ⟨h1, h2, Ad, xs, c, at_, seed, c0, c1, c2, f1, f2, r, v, l, hm⟩ := h
  have ne : some g ≠ row := fun e => (hr g e.symm).2 rfl
  have fz : ∀ o, w'.frozen? ⟨g, o, none⟩ = w.frozen? ⟨g, o, none⟩ := fun o => World.frozen?_of_block (hg.block g h2 ne)
  refine ⟨h1, Nat.lt_of_lt_of_le h2 hg.size, Ad, xs, c, at_, seed, hg.cell c0 ne, hg.cell c1 ne, hg.cell c2 ne, (fz 1).trans f1, (fz 2).trans f2, fun hx => ?_, v, l, hm⟩
  obtain ⟨b, o, e1, e2, e3⟩ := r hx
  exact ⟨b, o, e1, e2, fun i x hi j u hj => hg.cell (e3 i x hi j u hj) (fun e => by have := (hr b e.symm).1; omega)⟩
theorem Src.more {w : World} {lo g m m' : Nat} (h : Src w lo g m) (hm : m ≤ m') : Src w lo g m' := by
  obtain ⟨h1, h2, Ad, xs, c, at_, seed, c0, c1, c2, f1, f2, r, v, l, h3⟩ := h
  exact ⟨h1, h2, Ad, xs, c, at_, seed, c0, c1, c2, f1, f2, r, v, l, by omega⟩
theorem Rd.grown {α : Type} {enc : α → List Value} {k lo g : Nat} {w w' : World} {A : Option Addr} {xs : List α} (r : Rd enc k w lo A xs) (hg : w.grownBy w' (some g)) (hl : lo ≤ g) : Rd enc k w' lo A xs := fun hx => by
  obtain ⟨b, o, e1, e2, e3⟩ := r hx
  exact ⟨b, o, e1, e2, fun i x hi j u hj => hg.cell (e3 i x hi j u hj) (fun e => by simp at e; omega)⟩
theorem u64_rng (n : Int) : 0 ≤ IntKind.u64.wrap n ∧ IntKind.u64.wrap n < 18446744073709551616 := by rw [IntKind.wrap_u64]; omega
theorem low8 {s : Int} (h0 : 0 ≤ s) (h1 : s < 18446744073709551616) : 0 ≤ wrap64 (bits .and .u64 (s / 1099511627776) 255) ∧ wrap64 (bits .and .u64 (s / 1099511627776) 255) ≤ 255 := by
  obtain ⟨q, hq⟩ : ∃ q : Nat, s / 1099511627776 = (q : Int) := ⟨(s / 1099511627776).toNat, by omega⟩
  have hq2 : q < 18446744073709551616 := by omega
  have e := bits_and_u64_nat q 255 hq2 (by omega)
  have l : q &&& 255 ≤ 255 := Nat.and_le_right
  rw [hq, show (255 : Int) = ((255 : Nat) : Int) from rfl, e]
  unfold wrap64
  omega
theorem grow_ne' {W : World} {ob : Obj} {v v2 : Value} {g : Nat} (hat : v2.ownBlock = v.ownBlock ∨ v2.ownBlock = some (W.alloc ob).heap.size) (ag : v.ownBlock ≠ some g) (hlt : g < W.heap.size) : v2.ownBlock ≠ some g := grow_ne hat ag hlt
def SrcRes (lo hi : Int) (l0 g m : Nat) (w : World) (e : Ending) (w' : World) : Prop := ∃ v : Int, e = .returned (.int .i64 v) ∧ lo ≤ v ∧ v ≤ hi ∧ Src w' l0 g m ∧ w.grownBy w' (some g)
set_option maxRecDepth 20000 in
set_option maxHeartbeats 2000000 in
theorem next00_any (lo g m : Nat) (w : World) (h : Src w lo g m) (hm : m ≤ 1000000) :
    Calls Try.prog 49 #[.pointer (some ⟨g, 0, none⟩)] w (SrcRes 0 255 lo g (m + 1) w) := by
  obtain ⟨h1, h2, Ad, xs, c, at_, seed, c0, c1, c2, f1, f2, r, v, l, hat⟩ := h
  have V := hid v
  clear v
  by_cases hlt : at_ < xs.length
  · obtain ⟨p, hp⟩ := getx hlt
    obtain ⟨b, o, rfl, hbB, d0⟩ := r.at1 hp rfl
    obtain ⟨p0, p1⟩ := V.out p (List.mem_of_getElem? hp)
    have hbg : b < w.heap.size := by omega
    have RR := hid r
    clear r hp
    go_enter Try.func49, Try.ntmps49
    go_wp2_with fail
    refine wp_region_ext (by kernel_rfl) (by kernel_rfl) ?_
    repeat (go_big_quiet_step ((first | fail)))
    refine wpQuiet_nil ?_
    intro w3 hb3
    obtain ⟨hc_w3, hf_w3⟩ := bcell hb3
    have hz_w3 := hb3.size
    have y3 : g < w3.heap.size := by omega
    have z3 : b < w3.heap.size := by omega
    go_wp2_with fail
    refine wp_region_ext (by kernel_rfl) (by kernel_rfl) ?_
    repeat (go_big_quiet_step ((first | fail)))
    refine wpQuiet_nil ?_
    intro w4 hb4
    obtain ⟨hc_w4, hf_w4⟩ := bcell hb4
    have hz_w4 := hb4.size
    have y4 : g < w4.heap.size := by omega
    have n0 := (hc_w4 g 0 y3).trans ((hc_w3 g 0 h2).trans c0)
    have n1 := (hc_w4 g 1 y3).trans ((hc_w3 g 1 h2).trans c1)
    have n2 := (hc_w4 g 2 y3).trans ((hc_w3 g 2 h2).trans c2)
    have n3 := (hf_w4 g 1 y3).trans ((hf_w3 g 1 h2).trans f1)
    have n4 := (hf_w4 g 2 y3).trans ((hf_w3 g 2 h2).trans f2)
    clear hc_w3 hf_w3 hc_w4 hf_w4
    go_wp2_with fail
    have b2 := u64_rng (IntKind.u64.wrap (IntKind.u64.wrap (seed * 6364136223846793005) + p) + 1442695040888963407)
    generalize IntKind.u64.wrap (IntKind.u64.wrap (IntKind.u64.wrap (seed * 6364136223846793005) + p) + 1442695040888963407) = s2 at *
    have gX : w.grownBy ((w4.setCell ⟨g, 1, none⟩ (.int .i64 ((at_ : Int) + 1))).setCell ⟨g, 2, none⟩ (.int .u64 s2)) (some g) := gb_set (gb_set (gb_then (gb_below hb3 _) hb4) 1 _) 2 _
    have SX : Src ((w4.setCell ⟨g, 1, none⟩ (.int .i64 ((at_ : Int) + 1))).setCell ⟨g, 2, none⟩ (.int .u64 s2)) lo g (m + 1) := ⟨h1, Nat.lt_of_lt_of_le h2 gX.size, _, xs, c, at_ + 1, s2, by simp [go_sem, n0], by simp [go_sem, n1], by simp [go_sem, n2], by rw [World.frozen?_setCell, World.frozen?_setCell]; exact n3, by rw [World.frozen?_setCell, World.frozen?_setCell]; exact n4, RR.out.grown gX h1, V.out, l, by omega⟩
    have q0 : ((w4.setCell ⟨g, 1, none⟩ (.int .i64 ((at_ : Int) + 1))).setCell ⟨g, 2, none⟩ (.int .u64 s2)).cell? ⟨g, 0, none⟩ = some (.slice (some ⟨b, o, none⟩) xs.length c) := by simp [go_sem, n0]
    have q1 : ((w4.setCell ⟨g, 1, none⟩ (.int .i64 ((at_ : Int) + 1))).setCell ⟨g, 2, none⟩ (.int .u64 s2)).cell? ⟨g, 1, none⟩ = some (.int .i64 ((at_ : Int) + 1)) := by simp [go_sem, n1]
    have q2 : ((w4.setCell ⟨g, 1, none⟩ (.int .i64 ((at_ : Int) + 1))).setCell ⟨g, 2, none⟩ (.int .u64 s2)).cell? ⟨g, 2, none⟩ = some (.int .u64 s2) := by simp [go_sem, n2]
    have yX : g < (World.heap ((w4.setCell ⟨g, 1, none⟩ (.int .i64 ((at_ : Int) + 1))).setCell ⟨g, 2, none⟩ (.int .u64 s2))).size := SX.2.1
    clear n0 n1 n2 n3 n4
    generalize ((w4.setCell ⟨g, 1, none⟩ (.int .i64 ((at_ : Int) + 1))).setCell ⟨g, 2, none⟩ (.int .u64 s2)) = X at *
    go_wp2_with fail
    refine wp_region_ext (by kernel_rfl) (by kernel_rfl) ?_
    repeat (go_big_quiet_step ((first | fail)))
    refine wpQuiet_nil ?_
    intro w5 hb5
    obtain ⟨hc_w5, hf_w5⟩ := bcell hb5
    have hz_w5 := hb5.size
    have k2 := (hc_w5 g 2 yX).trans q2
    have y5 : g < w5.heap.size := by omega
    go_wp2
    go_ret
    exact ⟨p, rfl, p0, by omega, SX.below hb5, gb_then gX hb5⟩
  · have RR := hid r
    clear r
    go_enter Try.func49, Try.ntmps49
    go_wp2_with fail
    refine wp_region_ext (by kernel_rfl) (by kernel_rfl) ?_
    repeat (go_big_quiet_step ((first | fail)))
    refine wpQuiet_nil ?_
    intro w3 hb3
    obtain ⟨hc_w3, hf_w3⟩ := bcell hb3
    have hz_w3 := hb3.size
    have y3 : g < w3.heap.size := by omega
    have n0 := (hc_w3 g 0 h2).trans c0
    have n1 := (hc_w3 g 1 h2).trans c1
    have n2 := (hc_w3 g 2 h2).trans c2
    have n3 := (hf_w3 g 1 h2).trans f1
    have n4 := (hf_w3 g 2 h2).trans f2
    clear hc_w3 hf_w3
    go_wp2_with fail
    have b2 := u64_rng (IntKind.u64.wrap (IntKind.u64.wrap (seed * 6364136223846793005)) + 1442695040888963407)
    generalize IntKind.u64.wrap (IntKind.u64.wrap (IntKind.u64.wrap (seed * 6364136223846793005)) + 1442695040888963407) = s2 at *
    have gX : w.grownBy ((w3.setCell ⟨g, 1, none⟩ (.int .i64 ((at_ : Int) + 1))).setCell ⟨g, 2, none⟩ (.int .u64 s2)) (some g) := gb_set (gb_set (gb_below hb3 _) 1 _) 2 _
    have SX : Src ((w3.setCell ⟨g, 1, none⟩ (.int .i64 ((at_ : Int) + 1))).setCell ⟨g, 2, none⟩ (.int .u64 s2)) lo g (m + 1) := ⟨h1, Nat.lt_of_lt_of_le h2 gX.size, _, xs, c, at_ + 1, s2, by simp [go_sem, n0], by simp [go_sem, n1], by simp [go_sem, n2], by rw [World.frozen?_setCell, World.frozen?_setCell]; exact n3, by rw [World.frozen?_setCell, World.frozen?_setCell]; exact n4, RR.out.grown gX h1, V.out, l, by omega⟩
    have q0 : ((w3.setCell ⟨g, 1, none⟩ (.int .i64 ((at_ : Int) + 1))).setCell ⟨g, 2, none⟩ (.int .u64 s2)).cell? ⟨g, 0, none⟩ = some (.slice Ad xs.length c) := by simp [go_sem, n0]
    have q1 : ((w3.setCell ⟨g, 1, none⟩ (.int .i64 ((at_ : Int) + 1))).setCell ⟨g, 2, none⟩ (.int .u64 s2)).cell? ⟨g, 1, none⟩ = some (.int .i64 ((at_ : Int) + 1)) := by simp [go_sem, n1]
    have q2 : ((w3.setCell ⟨g, 1, none⟩ (.int .i64 ((at_ : Int) + 1))).setCell ⟨g, 2, none⟩ (.int .u64 s2)).cell? ⟨g, 2, none⟩ = some (.int .u64 s2) := by simp [go_sem, n2]
    have yX : g < (World.heap ((w3.setCell ⟨g, 1, none⟩ (.int .i64 ((at_ : Int) + 1))).setCell ⟨g, 2, none⟩ (.int .u64 s2))).size := SX.2.1
    clear n0 n1 n2 n3 n4
    generalize ((w3.setCell ⟨g, 1, none⟩ (.int .i64 ((at_ : Int) + 1))).setCell ⟨g, 2, none⟩ (.int .u64 s2)) = X at *
    go_wp2_with fail
    refine wp_region_ext (by kernel_rfl) (by kernel_rfl) ?_
    repeat (go_big_quiet_step ((first | fail)))
    refine wpQuiet_nil ?_
    intro w5 hb5
    obtain ⟨hc_w5, hf_w5⟩ := bcell hb5
    have hz_w5 := hb5.size
    have k2 := (hc_w5 g 2 yX).trans q2
    have y5 : g < w5.heap.size := by omega
    go_wp2
    go_ret
    exact ⟨_, rfl, (low8 b2.1 b2.2).1, (low8 b2.1 b2.2).2, SX.below hb5, gb_then gX hb5⟩
set_option maxHeartbeats 1000000 in
theorem pick00_any (lo g m : Nat) (n : Int) (w : World) (h : Src w lo g m) (hm : m ≤ 900000) (n1 : 1 ≤ n) (n2 : n ≤ 65536) :
    Calls Try.prog 36 #[.pointer (some ⟨g, 0, none⟩), .int .i64 n] w (SrcRes 0 (n - 1) lo g (m + 2) w) := by
  by_cases h1 : n ≤ 1
  · go_enter Try.func36, Try.ntmps36
    go_wp2
    go_ret
    exact ⟨0, rfl, by omega, by omega, h.more (by omega), World.grownBy.refl w _⟩
  have q0 : (n == 0) = false := by simp; omega
  have q1 : (n == -1) = false := by simp; omega
  by_cases h2 : 200 < n
  · go_enter Try.func36, Try.ntmps36
    go_wp2_with fail
    refine (next00_any lo g m _ h (by omega)).mono ?_
    rintro e w1 ⟨x, rfl, x0, x1, s1, g1⟩
    go_wp2_with fail
    refine (next00_any lo g (m + 1) _ s1 (by omega)).mono ?_
    rintro e w2 ⟨y, rfl, y0, y1, s2, g2⟩
    have t := emod_bd (x * 256 + y) n (by omega)
    go_wp2
    go_ret
    exact ⟨_, rfl, t.1, by omega, s2, grown_trans' g1 g2⟩
  · go_enter Try.func36, Try.ntmps36
    go_wp2_with fail
    refine (next00_any lo g m _ h (by omega)).mono ?_
    rintro e w1 ⟨x, rfl, x0, x1, s1, g1⟩
    have t := emod_bd x n (by omega)
    go_wp2
    go_ret
    exact ⟨_, rfl, t.1, by omega, s1.more (by omega), g1⟩
def SrcBo (l0 g m : Nat) (w : World) (e : Ending) (w' : World) : Prop := ∃ v : Bool, e = .returned (.bool v) ∧ Src w' l0 g m ∧ w.grownBy w' (some g)
theorem one00_any (lo g m : Nat) (n : Int) (w : World) (h : Src w lo g m) (hm : m ≤ 900000) (n1 : 1 ≤ n) (n2 : n ≤ 65536) :
    Calls Try.prog 41 #[.pointer (some ⟨g, 0, none⟩), .int .i64 n] w (SrcBo lo g (m + 2) w) := by
  go_enter Try.func41, Try.ntmps41
  go_wp2_with fail
  refine (pick00_any lo g m n _ h hm n1 n2).mono ?_
  rintro e w1 ⟨x, rfl, x0, x1, h1, g1⟩
  go_wp2
  go_ret
  exact ⟨_, rfl, h1, g1⟩
theorem l00From_any (A : Option Addr) (c : Nat) (xs : List Int) (w : World) (h : Rd encB 1 w w.heap.size A xs) (v : ∀ x ∈ xs, 0 ≤ x ∧ x < 256) (l : xs.length ≤ 3000) :
    Calls Try.prog 20 #[.slice A xs.length c] w fun e w' => ∃ g, e = .returned (.pointer (some ⟨g, 0, none⟩)) ∧ Src w' w.heap.size g 0 ∧ Below w.heap.size w w' := by
  go_enter Try.func20, Try.ntmps20
  go_wp2
  go_ret
  exact ⟨w.heap.size, rfl, ⟨Nat.le_refl _, by simp, A, xs, c, 0, 0, by simp [go_sem], by simp [go_sem], by simp [go_sem], by simp [go_sem], by simp [go_sem], h.below (B' := w.heap.size) (by repeat (first | assumption | exact Below.refl _ _ | apply Below.al | apply Below.drewN' | apply Below.drew | (apply Below.tr; assumption))) (Nat.le_refl _), v, l, Nat.le_refl _⟩, (by repeat (first | assumption | exact Below.refl _ _ | apply Below.al | apply Below.drewN' | apply Below.drew | (apply Below.tr; assumption)))⟩
theorem a2At_any (A : Option Addr) (c : Nat) (xs : List Int) (k : Nat) (n : Int) (w : World) (h : Rd encB 1 w w.heap.size A xs) (v : ∀ x ∈ xs, 0 ≤ x ∧ x < 256) (l : xs.length ≤ 3000) (n1 : 1 ≤ n) (n2 : n ≤ 65536) :
    Calls Try.prog 13 #[.slice A xs.length c, .int .i64 (k : Int), .int .i64 n] w fun e w' => (∃ y : Int, e = .returned (.int .i64 y) ∧ 0 ≤ y ∧ y ≤ n - 1) ∧ w = w' := by
  have V := hid v
  clear v
  have q0 : (n == 0) = false := by simp; omega
  have q1 : (n == -1) = false := by simp; omega
  have q2 : decide (n < 1) = false := by simp; omega
  by_cases hk : k < xs.length
  · obtain ⟨p, hp⟩ := getx hk
    obtain ⟨b, o, rfl, hbB, c0⟩ := h.at1 hp rfl
    obtain ⟨p0, p1⟩ := V.out p (List.mem_of_getElem? hp)
    have t := emod_bd p n (by omega)
    have q3 : decide ((xs.length : Int) ≤ k) = false := by simp; omega
    clear hp
    go_enter Try.func13, Try.ntmps13
    go_wp2
    go_ret
    exact ⟨⟨_, rfl, t.1, by omega⟩, rfl⟩
  · have q3 : decide ((xs.length : Int) ≤ k) = true := by simp; omega
    go_enter Try.func13, Try.ntmps13
    go_wp2
    go_ret
    exact ⟨⟨0, rfl, by omega, by omega⟩, rfl⟩
end Go.Proofs.Yticamdaicbgdlaa
