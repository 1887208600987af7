/- Contracts: the source of choices. What it chooses is in range; nothing more is said. -/
import Derived.Test.YtpjmpeeclecfeaaC1
import Derived.Test.YtpjmpeeclecfeaaOpen
import Derived.Test.YtpjmpeeclecfeaaCGrow
import Derived.Laws.Bits64b
namespace Go.Proofs.Ytpjmpeeclecfeaa
open Go.RowKit
set_option linter.unusedVariables false
theorem gb_below {w w' : World} (h : Below w.heap.size w w') (row : Option Nat) : w.grownBy w' row := ⟨h.os, h.tape, h.output, h.size, fun i hi _ => h.block i hi⟩
theorem gb_then {a w w' : World} {row : Option Nat} (h : a.grownBy w row) (k : Below w.heap.size w w') : a.grownBy w' row := grown_trans' h (gb_below k row)
theorem gb_set {a w : World} {g : Nat} (h : a.grownBy w (some g)) (o : Nat) (u : Value) : a.grownBy (w.setCell ⟨g, o, none⟩ u) (some g) :=
  ⟨h.os, h.tape, h.output, by simpa [World.setCell] using h.size, fun i hi hne => (Below.heap_setCell w ⟨g, o, none⟩ u i (fun e => hne (by rw [e]))).trans (h.block i hi hne)⟩
/-- A source of choices that lies in block g, over bytes that lie below lo; it has been asked m times at most. -/
def Src (w : World) (lo g m : Nat) : Prop := lo ≤ g ∧ g < w.heap.size ∧ ∃ (Ad : Option Addr) (xs : List Int) (c at_ : Nat) (seed : Int),
  w.cell? ⟨g, 0, none⟩ = some (.slice Ad xs.length c) ∧ w.cell? ⟨g, 1, none⟩ = some (.int .i64 at_) ∧ w.cell? ⟨g, 2, none⟩ = some (.int .u64 seed) ∧
  w.frozen? ⟨g, 1, none⟩ = false ∧ w.frozen? ⟨g, 2, none⟩ = false ∧ Rd encB 1 w lo Ad xs ∧ (∀ x ∈ xs, 0 ≤ x ∧ x < 256) ∧ xs.length ≤ 3000 ∧ at_ ≤ m
theorem Src.below {w w' : World} {lo g m : Nat} (h : Src w lo g m) (hb : Below w.heap.size w w') : Src w' lo g m := by
  obtain ⟨h1, h2, Ad, xs, c, at_, seed, c0, c1, c2, f1, f2, r, v, l, hm⟩ := h
  have ⟨hc, hf⟩ := bcell hb
  exact ⟨h1, Nat.lt_of_lt_of_le h2 hb.size, Ad, xs, c, at_, seed, by rw [hc _ _ h2]; exact c0, by rw [hc _ _ h2]; exact c1, by rw [hc _ _ h2]; exact c2, by rw [hf _ _ h2]; exact f1, by rw [hf _ _ h2]; exact f2,
    r.below hb (by omega), v, l, hm⟩
theorem Src.kept {w w' : World} {lo g m : Nat} {row : Option Nat} (h : Src w lo g m) (hg : w.grownBy w' row) (hr : ∀ k, row = some k → lo ≤ k ∧ k ≠ g) : Src w' lo g m := by
  obtain ⟨h1, h2, Ad, xs, c, at_, seed, c0, c1, c2, f1, f2, r, v, l, hm⟩ := h
  have ne : some g ≠ row := fun e => (hr g e.symm).2 rfl
  have fz : ∀ o, w'.frozen? ⟨g, o, none⟩ = w.frozen? ⟨g, o, none⟩ := fun o => World.frozen?_of_block (hg.block g h2 ne)
  refine ⟨h1, Nat.lt_of_lt_of_le h2 hg.size, Ad, xs, c, at_, seed, hg.cell c0 ne, hg.cell c1 ne, hg.cell c2 ne, (fz 1).trans f1, (fz 2).trans f2, fun hx => ?_, v, l, hm⟩
  obtain ⟨b, o, e1, e2, e3⟩ := r hx
  exact ⟨b, o, e1, e2, fun i x hi j u hj => hg.cell (e3 i x hi j u hj) (fun e => by have := (hr b e.symm).1; omega)⟩
theorem Src.more {w : World} {lo g m m' : Nat} (h : Src w lo g m) (hm : m ≤ m') : Src w lo g m' := by
  obtain ⟨h1, h2, Ad, xs, c, at_, seed, c0, c1, c2, f1, f2, r, v, l, h3⟩ := h
  exact ⟨h1, h2, Ad, xs, c, at_, seed, c0, c1, c2, f1, f2, r, v, l, by omega⟩
theorem Rd.grown {α : Type} {enc : α → List Value} {k lo g : Nat} {w w' : World} {A : Option Addr} {xs : List α} (r : Rd enc k w lo A xs) (hg : w.grownBy w' (some g)) (hl : lo ≤ g) : Rd enc k w' lo A xs := fun hx => by
  obtain ⟨b, o, e1, e2, e3⟩ := r hx
  exact ⟨b, o, e1, e2, fun i x hi j u hj => hg.cell (e3 i x hi j u hj) (fun e => by simp at e; omega)⟩
theorem u64_rng (n : Int) : 0 ≤ IntKind.u64.wrap n ∧ IntKind.u64.wrap n < 18446744073709551616 := by rw [IntKind.wrap_u64]; omega
theorem low8 {s : Int} (h0 : 0 ≤ s) (h1 : s < 18446744073709551616) : 0 ≤ wrap64 (bits .and .u64 (s / 1099511627776) 255) ∧ wrap64 (bits .and .u64 (s / 1099511627776) 255) ≤ 255 := by
  obtain ⟨q, hq⟩ : ∃ q : Nat, s / 1099511627776 = (q : Int) := ⟨(s / 1099511627776).toNat, by omega⟩
  have hq2 : q < 18446744073709551616 := by omega
  have e := bits_and_u64_nat q 255 hq2 (by omega)
  have l : q &&& 255 ≤ 255 := Nat.and_le_right
  rw [hq, show (255 : Int) = ((255 : Nat) : Int) from rfl, e]
  unfold wrap64
  omega
theorem grow_ne' {W : World} {ob : Obj} {v v2 : Value} {g : Nat} (hat : v2.ownBlock = v.ownBlock ∨ v2.ownBlock = some (W.alloc ob).heap.size) (ag : v.ownBlock ≠ some g) (hlt : g < W.heap.size) : v2.ownBlock ≠ some g := grow_ne hat ag hlt
def SrcRes (lo hi : Int) (l0 g m : Nat) (w : World) (e : Ending) (w' : World) : Prop := ∃ v : Int, e = .returned (.int .i64 v) ∧ lo ≤ v ∧ v ≤ hi ∧ Src w' l0 g m ∧ w.grownBy w' (some g)
set_option maxRecDepth 20000 in
set_option maxHeartbeats 2000000 in
theorem next00_any (lo g m : Nat) (w : World) (h : Src w lo g m) (hm : m ≤ 1000000) :
    Calls Try.prog 28 #[.pointer (some ⟨g, 0, none⟩)] w (SrcRes 0 255 lo g (m + 1) w) := by
  obtain ⟨h1, h2, Ad, xs, c, at_, seed, c0, c1, c2, f1, f2, r, v, l, hat⟩ := h
  have V := hid v
  clear v
  by_cases hlt : at_ < xs.length
  · obtain ⟨p, hp⟩ := getx hlt
    obtain ⟨b, o, rfl, hbB, d0⟩ := r.at1 hp rfl
    obtain ⟨p0, p1⟩ := V.out p (List.mem_of_getElem? hp)
    have hbg : b < w.heap.size := by omega
    have RR := hid r
    clear r hp
    go_enter Try.func28, Try.ntmps28
    go_wp2_with fail
    refine wp_region_ext (by kernel_rfl) (by kernel_rfl) ?_
    repeat (go_big_quiet_step ((first | fail)))
    refine wpQuiet_nil ?_
    intro w3 hb3
    obtain ⟨hc_w3, hf_w3⟩ := bcell hb3
    have hz_w3 := hb3.size
    have y3 : g < w3.heap.size := by omega
    have z3 : b < w3.heap.size := by omega
    go_wp2_with fail
    refine wp_region_ext (by kernel_rfl) (by kernel_rfl) ?_
    repeat (go_big_quiet_step ((first | fail)))
    refine wpQuiet_nil ?_
    intro w4 hb4
    obtain ⟨hc_w4, hf_w4⟩ := bcell hb4
    have hz_w4 := hb4.size
    have y4 : g < w4.heap.size := by omega
    have n0 := (hc_w4 g 0 y3).trans ((hc_w3 g 0 h2).trans c0)
    have n1 := (hc_w4 g 1 y3).trans ((hc_w3 g 1 h2).trans c1)
    have n2 := (hc_w4 g 2 y3).trans ((hc_w3 g 2 h2).trans c2)
    have n3 := (hf_w4 g 1 y3).trans ((hf_w3 g 1 h2).trans f1)
    have n4 := (hf_w4 g 2 y3).trans ((hf_w3 g 2 h2).trans f2)
    clear hc_w3 hf_w3 hc_w4 hf_w4
    go_wp2_with fail
    have b2 := u64_rng (IntKind.u64.wrap (IntKind.u64.wrap (seed * 6364136223846793005) + p) + 1442695040888963407)
    generalize IntKind.u64.wrap (IntKind.u64.wrap (IntKind.u64.wrap (seed * 6364136223846793005) + p) + 1442695040888963407) = s2 at *
    have gX : w.grownBy ((w4.setCell ⟨g, 1, none⟩ (.int .i64 ((at_ : Int) + 1))).setCell ⟨g, 2, none⟩ (.int .u64 s2)) (some g) := gb_set (gb_set (gb_then (gb_below hb3 _) hb4) 1 _) 2 _
    have SX : Src ((w4.setCell ⟨g, 1, none⟩ (.int .i64 ((at_ : Int) + 1))).setCell ⟨g, 2, none⟩ (.int .u64 s2)) lo g (m + 1) := ⟨h1, Nat.lt_of_lt_of_le h2 gX.size, _, xs, c, at_ + 1, s2, by simp [go_sem, n0], by simp [go_sem, n1], by simp [go_sem, n2], by rw [World.frozen?_setCell, World.frozen?_setCell]; exact n3, by rw [World.frozen?_setCell, World.frozen?_setCell]; exact n4, RR.out.grown gX h1, V.out, l, by omega⟩
    have q0 : ((w4.setCell ⟨g, 1, none⟩ (.int .i64 ((at_ : Int) + 1))).setCell ⟨g, 2, none⟩ (.int .u64 s2)).cell? ⟨g, 0, none⟩ = some (.slice (some ⟨b, o, none⟩) xs.length c) := by simp [go_sem, n0]
    have q1 : ((w4.setCell ⟨g, 1, none⟩ (.int .i64 ((at_ : Int) + 1))).setCell ⟨g, 2, none⟩ (.int .u64 s2)).cell? ⟨g, 1, none⟩ = some (.int .i64 ((at_ : Int) + 1)) := by simp [go_sem, n1]
    have q2 : ((w4.setCell ⟨g, 1, none⟩ (.int .i64 ((at_ : Int) + 1))).setCell ⟨g, 2, none⟩ (.int .u64 s2)).cell? ⟨g, 2, none⟩ = some (.int .u64 s2) := by simp [go_sem, n2]
    have yX : g < (World.heap ((w4.setCell ⟨g, 1, none⟩ (.int .i64 ((at_ : Int) + 1))).setCell ⟨g, 2, none⟩ (.int .u64 s2))).size := SX.2.1
    clear n0 n1 n2 n3 n4
    generalize ((w4.setCell ⟨g, 1, none⟩ (.int .i64 ((at_ : Int) + 1))).setCell ⟨g, 2, none⟩ (.int .u64 s2)) = X at *
    go_wp2_with fail
    refine wp_region_ext (by kernel_rfl) (by kernel_rfl) ?_
    repeat (go_big_quiet_step ((first | fail)))
    refine wpQuiet_nil ?_
    intro w5 hb5
    obtain ⟨hc_w5, hf_w5⟩ := bcell hb5
    have hz_w5 := hb5.size
    have k2 := (hc_w5 g 2 yX).trans q2
    have y5 : g < w5.heap.size := by omega
    go_wp2
    go_ret
    exact ⟨p, rfl, p0, by omega, SX.below hb5, gb_then gX hb5⟩
  · have RR := hid r
    clear r
    go_enter Try.func28, Try.ntmps28
    go_wp2_with fail
    refine wp_region_ext (by kernel_rfl) (by kernel_rfl) ?_
    repeat (go_big_quiet_step ((first | fail)))
    refine wpQuiet_nil ?_
    intro w3 hb3
    obtain ⟨hc_w3, hf_w3⟩ := bcell hb3
    have hz_w3 := hb3.size
    have y3 : g < w3.heap.size := by omega
    have n0 := (hc_w3 g 0 h2).trans c0
    have n1 := (hc_w3 g 1 h2).trans c1
    have n2 := (hc_w3 g 2 h2).trans c2
    have n3 := (hf_w3 g 1 h2).trans f1
    have n4 := (hf_w3 g 2 h2).trans f2
    clear hc_w3 hf_w3
    go_wp2_with fail
    have b2 := u64_rng (IntKind.u64.wrap (IntKind.u64.wrap (seed * 6364136223846793005)) + 1442695040888963407)
    generalize IntKind.u64.wrap (IntKind.u64.wrap (IntKind.u64.wrap (seed * 6364136223846793005)) + 1442695040888963407) = s2 at *
    have gX : w.grownBy ((w3.setCell ⟨g, 1, none⟩ (.int .i64 ((at_ : Int) + 1))).setCell ⟨g, 2, none⟩ (.int .u64 s2)) (some g) := gb_set (gb_set (gb_below hb3 _) 1 _) 2 _
    have SX : Src ((w3.setCell ⟨g, 1, none⟩ (.int .i64 ((at_ : Int) + 1))).setCell ⟨g, 2, none⟩ (.int .u64 s2)) lo g (m + 1) := ⟨h1, Nat.lt_of_lt_of_le h2 gX.size, _, xs, c, at_ + 1, s2, by simp [go_sem, n0], by simp [go_sem, n1], by simp [go_sem, n2], by rw [World.frozen?_setCell, World.frozen?_setCell]; exact n3, by rw [World.frozen?_setCell, World.frozen?_setCell]; exact n4, RR.out.grown gX h1, V.out, l, by omega⟩
    have q0 : ((w3.setCell ⟨g, 1, none⟩ (.int .i64 ((at_ : Int) + 1))).setCell ⟨g, 2, none⟩ (.int .u64 s2)).cell? ⟨g, 0, none⟩ = some (.slice Ad xs.length c) := by simp [go_sem, n0]
    have q1 : ((w3.setCell ⟨g, 1, none⟩ (.int .i64 ((at_ : Int) + 1))).setCell ⟨g, 2, none⟩ (.int .u64 s2)).cell? ⟨g, 1, none⟩ = some (.int .i64 ((at_ : Int) + 1)) := by simp [go_sem, n1]
    have q2 : ((w3.setCell ⟨g, 1, none⟩ (.int .i64 ((at_ : Int) + 1))).setCell ⟨g, 2, none⟩ (.int .u64 s2)).cell? ⟨g, 2, none⟩ = some (.int .u64 s2) := by simp [go_sem, n2]
    have yX : g < (World.heap ((w3.setCell ⟨g, 1, none⟩ (.int .i64 ((at_ : Int) + 1))).setCell ⟨g, 2, none⟩ (.int .u64 s2))).size := SX.2.1
    clear n0 n1 n2 n3 n4
    generalize ((w3.setCell ⟨g, 1, none⟩ (.int .i64 ((at_ : Int) + 1))).setCell ⟨g, 2, none⟩ (.int .u64 s2)) = X at *
    go_wp2_with fail
    refine wp_region_ext (by kernel_rfl) (by kernel_rfl) ?_
    repeat (go_big_quiet_step ((first | fail)))
    refine wpQuiet_nil ?_
    intro w5 hb5
    obtain ⟨hc_w5, hf_w5⟩ := bcell hb5
    have hz_w5 := hb5.size
    have k2 := (hc_w5 g 2 yX).trans q2
    have y5 : g < w5.heap.size := by omega
    go_wp2
    go_ret
    exact ⟨_, rfl, (low8 b2.1 b2.2).1, (low8 b2.1 b2.2).2, SX.below hb5, gb_then gX hb5⟩
set_option maxHeartbeats 1000000 in
theorem pick00_any (lo g m : Nat) (n : Int) (w : World) (h : Src w lo g m) (hm : m ≤ 900000) (n1 : 1 ≤ n) (n2 : n ≤ 65536) :
    Calls Try.prog 18 #[.pointer (some ⟨g, 0, none⟩), .int .i64 n] w (SrcRes 0 (n - 1) lo g (m + 2) w) := by
  by_cases h1 : n ≤ 1
  · go_enter Try.func18, Try.ntmps18
    go_wp2
    go_ret
    exact ⟨0, rfl, by omega, by omega, h.more (by omega), World.grownBy.refl w _⟩
  have q0 : (n == 0) = false := by simp; omega
  have q1 : (n == -1) = false := by simp; omega
  by_cases h2 : 200 < n
  · go_enter Try.func18, Try.ntmps18
    go_wp2_with fail
    refine (next00_any lo g m _ h (by omega)).mono ?_
    rintro e w1 ⟨x, rfl, x0, x1, s1, g1⟩
    go_wp2_with fail
    refine (next00_any lo g (m + 1) _ s1 (by omega)).mono ?_
    rintro e w2 ⟨y, rfl, y0, y1, s2, g2⟩
    have t := emod_bd (x * 256 + y) n (by omega)
    go_wp2
    go_ret
    exact ⟨_, rfl, t.1, by omega, s2, grown_trans' g1 g2⟩
  · go_enter Try.func18, Try.ntmps18
    go_wp2_with fail
    refine (next00_any lo g m _ h (by omega)).mono ?_
    rintro e w1 ⟨x, rfl, x0, x1, s1, g1⟩
    have t := emod_bd x n (by omega)
    go_wp2
    go_ret
    exact ⟨_, rfl, t.1, by omega, s1.more (by omega), g1⟩
def SrcBo (l0 g m : Nat) (w : World) (e : Ending) (w' : World) : Prop := ∃ v : Bool, e = .returned (.bool v) ∧ Src w' l0 g m ∧ w.grownBy w' (some g)
theorem one00_any (lo g m : Nat) (n : Int) (w : World) (h : Src w lo g m) (hm : m ≤ 900000) (n1 : 1 ≤ n) (n2 : n ≤ 65536) :
    Calls Try.prog 27 #[.pointer (some ⟨g, 0, none⟩), .int .i64 n] w (SrcBo lo g (m + 2) w) := by
  go_enter Try.func27, Try.ntmps27
  go_wp2_with fail
  refine (pick00_any lo g m n _ h hm n1 n2).mono ?_
  rintro e w1 ⟨x, rfl, x0, x1, h1, g1⟩
  go_wp2
  go_ret
  exact ⟨_, rfl, h1, g1⟩
theorem l02Draw_any (lo g m : Nat) (w : World) (h : Src w lo g m) (hm : m ≤ 800000) :
    Calls Try.prog 17 #[.pointer (some ⟨g, 0, none⟩)] w (SrcRes (-2000) 20000 lo g (m + 4) w) := by
  go_enter Try.func17, Try.ntmps17
  go_wp2_with fail
  refine (one00_any lo g m 8 _ h (by omega) (by omega) (by omega)).mono ?_
  rintro e w1 ⟨b, rfl, h1, g1⟩
  cases b
  · go_wp2_with fail
    refine (pick00_any lo g (m + 2) 60 _ h1 (by omega) (by omega) (by omega)).mono ?_
    rintro e w2 ⟨x, rfl, x0, x1, h2, g2⟩
    go_wp2
    go_ret
    exact ⟨_, rfl, by omega, by omega, h2, grown_trans' g1 g2⟩
  · go_wp2_with fail
    refine (pick00_any lo g (m + 2) 22001 _ h1 (by omega) (by omega) (by omega)).mono ?_
    rintro e w2 ⟨x, rfl, x0, x1, h2, g2⟩
    go_wp2
    go_ret
    exact ⟨_, rfl, by omega, by omega, h2, grown_trans' g1 g2⟩
theorem l00From_any (A : Option Addr) (c : Nat) (xs : List Int) (w : World) (h : Rd encB 1 w w.heap.size A xs) (v : ∀ x ∈ xs, 0 ≤ x ∧ x < 256) (l : xs.length ≤ 3000) :
    Calls Try.prog 16 #[.slice A xs.length c] w fun e w' => ∃ g, e = .returned (.pointer (some ⟨g, 0, none⟩)) ∧ Src w' w.heap.size g 0 ∧ Below w.heap.size w w' := by
  go_enter Try.func16, Try.ntmps16
  go_wp2
  go_ret
  exact ⟨w.heap.size, rfl, ⟨Nat.le_refl _, by simp, A, xs, c, 0, 0, by simp [go_sem], by simp [go_sem], by simp [go_sem], by simp [go_sem], by simp [go_sem], h.below (B' := w.heap.size) (by repeat (first | assumption | exact Below.refl _ _ | apply Below.al | apply Below.drewN' | apply Below.drew | (apply Below.tr; assumption))) (Nat.le_refl _), v, l, Nat.le_refl _⟩, (by repeat (first | assumption | exact Below.refl _ _ | apply Below.al | apply Below.drewN' | apply Below.drew | (apply Below.tr; assumption)))⟩
def MagsRes (w : World) (e : Ending) (w' : World) : Prop := ∃ (ys : List Int) (Ad : Option Addr) (c : Nat), e = .returned (.slice Ad ys.length c) ∧ w'.ownsRow w.heap.size 2 1 (.slice Ad ys.length c) ys.length (ys.flatMap encI) ∧ Below w.heap.size w w' ∧ 1 ≤ ys.length ∧ ys.length ≤ 8 ∧ (∀ x ∈ ys, -2000 ≤ x ∧ x ≤ 20000)
set_option maxRecDepth 20000 in
set_option maxHeartbeats 2000000 in
theorem a2Mags_any (A : Option Addr) (c : Nat) (xs : List Int) (w : World) (h : Rd encB 1 w w.heap.size A xs) (v : ∀ x ∈ xs, 0 ≤ x ∧ x < 256) (l : xs.length ≤ 3000) :
    Calls Try.prog 7 #[.slice A xs.length c] w (MagsRes w) := by
  obtain ⟨i0, hi0, iz0, iz1, iz2⟩ := info_parts (P := Try.prog) (e := 2) (z := .int .i64 0) (size := 1) (bytes := 8) (by kernel_rfl)
  go_enter Try.func7, Try.ntmps7
  go_wp2_with fail
  refine (l00From_any A c xs _ h v l).mono ?_
  rintro e w1 ⟨g, rfl, s1, hb1⟩
  go_wp2_with fail
  refine (l02Draw_any w.heap.size g 0 _ s1 (by omega)).mono ?_
  rintro e w2 ⟨x, rfl, x0, x1, s2, g2⟩
  go_wp2_with fail
  have s3 : Src (w2.alloc (.cells #[.int .i64 x] 2)) w.heap.size g 4 := s2.below (Below.al (Below.refl _ _) _)
  refine (pick00_any w.heap.size g 4 8 _ s3 (by omega) (by omega) (by omega)).mono ?_
  rintro e w3 ⟨k0, rfl, k1, k2, s4, g3⟩
  have hg : w.heap.size ≤ g := s1.1
  have hb2 : Below w.heap.size w w2 := hb1.grown g2 hb1.size (fun q hq => by cases hq; exact hg)
  have zg : g < w2.heap.size := s2.2.1
  have hb3 : Below w.heap.size w w3 := (Below.al hb2 (.cells #[.int .i64 x] 2)).grown g3 (by have := hb2.size; simp; omega) (fun q hq => by cases hq; exact hg)
  have o3 : w3.ownsRow w.heap.size 2 1 (.slice (some ⟨w2.heap.size, 0, none⟩) 1 1) 1 ([x].flatMap encI) := (World.ownsRow_lit w2 #[.int .i64 x] 1 hb2.size (by decide) (by simp)).kept g3 (.inr (by simp [Value.ownBlock]; omega))
  have ne3 : (Value.slice (some ⟨w2.heap.size, 0, none⟩) 1 1).ownBlock ≠ some g := by simp [Value.ownBlock]; omega
  clear s1 s2 s3 g2 g3 hb1 hb2 zg
  go_wp2_with fail
  generalize Value.slice (some ⟨w2.heap.size, 0, none⟩) 1 1 = v3 at *
  go_loopw [4, 5] (fun vv kv wr => ∃ (k : Int) (ys : List Int) (m : Nat), kv = .int .i64 k ∧ 0 ≤ k ∧ k ≤ 7 ∧ 1 ≤ ys.length ∧ ys.length + k ≤ 8 ∧ (∀ x ∈ ys, -2000 ≤ x ∧ x ≤ 20000) ∧ m + 10 * k ≤ 200 ∧ Src wr w.heap.size g m ∧ Below w.heap.size w wr ∧ vv.ownBlock ≠ some g ∧ wr.ownsRow w.heap.size 2 1 vv ys.length (ys.flatMap encI)) (fun _ kv _ => (intOf kv).toNat)
  case atStart => exact ⟨k0, [x], 6, rfl, k1, by omega, by simp, by simp; omega, by intro y hy; simp at hy; omega, by omega, s4, hb3, ne3, o3⟩
  case round =>
    clear s4 hb3 ne3 o3
    obtain ⟨k, ys, m, rfl, q0, q1, q2, q3, q4, q5, s, hb, ne, own⟩ := hrel
    obtain ⟨Ar, cr, rfl⟩ := own_shape own
    by_cases hk : 0 < k
    · have OW := hid own
      have Q4 := hid q4
      have hsz := hb.size
      clear own q4
      go_wp2_with fail
      refine (l02Draw_any w.heap.size g m _ s (by omega)).mono ?_
      rintro e w5 ⟨y, rfl, y0, y1, s5, g5⟩
      have own5 := hid (OW.out.kept g5 (.inr ne))
      have hb5 : Below w.heap.size w w5 := hb.grown g5 hb.size (fun q hq => by cases hq; exact hg)
      have hz5 := hb5.size
      have zg5 : g < w5.heap.size := s5.2.1
      go_wp2_with (at_builtin; go_must (refine wpList_append_own_at _ rfl _ _ 24 rfl (w.heap.size) 2 i0 _ 1 8 Try.underlying24 hi0 iz0 iz1 iz2 rfl (by decide) _ _ _ rfl (own5.out.alloc _) ⟨(w5).heap.size, 0, none⟩ 1 1 [.int .i64 y] rfl rfl (news_at w5 [.int .i64 y] 2) (by simp [Value.oneCell']) (by unfold maxLen; omega) (by omega) (by first | omega | (simp; done) | (simp; omega)) ?_); intro v2 w6 own_w6 grow_w6 _ at_w6)
      go_roundw
      case rel => exact ⟨k - 1, ys ++ [y], m + 4, by go_num, by omega, by omega, by simp, by simp; omega, by intro z hz; rcases List.mem_append.1 hz with hz | hz; (exact Q4.out z hz); (simp at hz; omega), by omega, (s5.below (Below.al (Below.refl _ _) _)).kept grow_w6 (fun q hq => ⟨(own5.out.lt q hq).1, fun e => ne (e ▸ hq)⟩), Below.ap hb5 hb5.size own5.out (Nat.le_refl _) grow_w6, grow_ne' at_w6 ne zg5, by simpa [encI] using own_w6⟩
      case measure => simp [intOf]; omega
    · have OW := hid own
      have Q4 := hid q4
      clear own q4
      go_wp2
      go_ret
      exact ⟨ys, Ar, cr, rfl, OW.out, hb, q2, by omega, Q4.out⟩
theorem a2At_any (A : Option Addr) (c : Nat) (xs : List Int) (k : Nat) (n : Int) (w : World) (h : Rd encB 1 w w.heap.size A xs) (v : ∀ x ∈ xs, 0 ≤ x ∧ x < 256) (l : xs.length ≤ 3000) (n1 : 1 ≤ n) (n2 : n ≤ 65536) :
    Calls Try.prog 8 #[.slice A xs.length c, .int .i64 (k : Int), .int .i64 n] w fun e w' => (∃ y : Int, e = .returned (.int .i64 y) ∧ 0 ≤ y ∧ y ≤ n - 1) ∧ w = w' := by
  have V := hid v
  clear v
  have q0 : (n == 0) = false := by simp; omega
  have q1 : (n == -1) = false := by simp; omega
  have q2 : decide (n < 1) = false := by simp; omega
  by_cases hk : k < xs.length
  · obtain ⟨p, hp⟩ := getx hk
    obtain ⟨b, o, rfl, hbB, c0⟩ := h.at1 hp rfl
    obtain ⟨p0, p1⟩ := V.out p (List.mem_of_getElem? hp)
    have t := emod_bd p n (by omega)
    have q3 : decide ((xs.length : Int) ≤ k) = false := by simp; omega
    clear hp
    go_enter Try.func8, Try.ntmps8
    go_wp2
    go_ret
    exact ⟨⟨_, rfl, t.1, by omega⟩, rfl⟩
  · have q3 : decide ((xs.length : Int) ≤ k) = true := by simp; omega
    go_enter Try.func8, Try.ntmps8
    go_wp2
    go_ret
    exact ⟨⟨0, rfl, by omega, by omega⟩, rfl⟩
end Go.Proofs.Ytpjmpeeclecfeaa
