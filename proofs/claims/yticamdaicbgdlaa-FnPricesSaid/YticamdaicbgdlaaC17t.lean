/- Contracts: the table of the greatest worths, in the program and in the reference. -/
import Derived.Test.YticamdaicbgdlaaC17v
import Derived.Test.YticamdaicbgdlaaC17p
import Derived.Test.YticamdaicbgdlaaCCopy
import Derived.Laws.BitsLemmas
import Derived.StillTailTactics
namespace Go.Proofs.Yticamdaicbgdlaa
open Go.RowKit
set_option linter.unusedVariables false
def tabL (S n : Nat) (R : List (List Int)) : List Int := (List.range S).map (tab n R)
theorem tabL_len (S n : Nat) (R : List (List Int)) : (tabL S n R).length = S := by simp [tabL]
theorem tabL_at {S : Nat} (n : Nat) (R : List (List Int)) {t : Nat} (h : t < S) : (tabL S n R)[t]? = some (tab n R t) := by simp [tabL, h]
/-- The row while it is being told: the sets below 'told' are done, at 'told' k stars are. -/
def midL (S n : Nat) (r f : Nat → Int) (told k : Nat) : List Int := (List.range S).map fun t => if t < told then bs r f t n else if t = told then bs r f told k else f t
theorem midL_len (S n : Nat) (r f : Nat → Int) (told k : Nat) : (midL S n r f told k).length = S := by simp [midL]
theorem midL_zero (S n : Nat) (r : Nat → Int) (R : List (List Int)) : midL S n r (tab n R) 0 0 = tabL S n R := by
  unfold midL tabL
  apply List.map_congr_left
  intro t _
  by_cases h : t = 0
  · subst h; simp [bs]
  · simp [h]
theorem midL_next (S n : Nat) (r f : Nat → Int) (told : Nat) : midL S n r f told n = midL S n r f (told + 1) 0 := by
  unfold midL
  apply List.map_congr_left
  intro t _
  by_cases h : t < told
  · rw [if_pos h, if_pos (by omega)]
  · by_cases e : t = told
    · subst e; simp
    · rw [if_neg h, if_neg e, if_neg (by omega)]
      by_cases e2 : t = told + 1
      · subst e2; simp [bs]
      · rw [if_neg e2]
theorem midL_done (S n : Nat) (r : List Int) (R : List (List Int)) : midL S n (fun k => r.getD k 0) (tab n R) S 0 = tabL S n (r :: R) := by
  unfold midL tabL
  apply List.map_congr_left
  intro t ht
  rw [if_pos (by simpa using ht)]
  rfl
theorem midL_at {S : Nat} (n : Nat) (r f : Nat → Int) {told : Nat} (k : Nat) (h : told < S) : (midL S n r f told k)[told]? = some (bs r f told k) := by
  simp [midL, h]
theorem midL_set (S n : Nat) (r f : Nat → Int) (told : Nat) (k k' : Nat) : (midL S n r f told k).set told (bs r f told k') = midL S n r f told k' := by
  apply List.ext_getElem
  · simp [midL]
  · intro i h1 h2
    simp only [midL, List.getElem_map, List.getElem_range, List.getElem_set]
    by_cases e : told = i
    · subst e; simp
    · rw [if_neg e]
      have : ¬ i = told := fun h => e h.symm
      simp [this]
theorem midL_same (S n : Nat) (r f : Nat → Int) (told k k' : Nat) (h : bs r f told k = bs r f told k') : midL S n r f told k = midL S n r f told k' := by
  unfold midL; rw [h]
theorem fI_set (L : List Int) (i : Nat) (x : Int) : (L.flatMap encI).set i (.int .i64 x) = (L.set i x).flatMap encI := by
  rw [fI_flat, fI_flat]; simp [fI, List.map_set]
theorem fI_at {L : List Int} {i : Nat} {x : Int} (h : L[i]? = some x) : (L.flatMap encI)[i]? = some (.int .i64 x) := by
  rw [fI_flat]; simp [fI, h]
/-! The bits of a set of stars. -/
theorem wrap_2pow {n : Nat} (h : n ≤ 4) : wrap64 (2 ^ n) = ((1 <<< n : Nat) : Int) := by
  have : n = 0 ∨ n = 1 ∨ n = 2 ∨ n = 3 ∨ n = 4 := by omega
  rcases this with rfl | rfl | rfl | rfl | rfl <;> (unfold wrap64; decide)
theorem wrap64_i64 (x : Int) : IntKind.i64.wrap x = wrap64 x := by rw [IntKind.wrap_i64]; unfold wrap64; rfl
theorem or_bit_lt {n told k : Nat} (h : told < 1 <<< n) (hk : k < n) : told ||| 1 <<< k < 1 <<< n := by
  simp only [Nat.one_shiftLeft] at *
  exact Nat.or_lt_two_pow h (Nat.pow_lt_pow_right (by omega) hk)
theorem i64_in62 (n : Int) (h0 : 0 ≤ n) (h1 : n < 2 ^ 62) : IntKind.i64.wrap n = n := IntWalk.i64_in _ ⟨by omega, by omega⟩
theorem bit_or {a b : Nat} (ha : a < 256) (hb : b < 256) : bits .or .i64 (a : Int) (b : Int) = ((a ||| b : Nat) : Int) :=
  (bits_nat .i64 62 (by decide) i64_in62 a b (by omega) (by omega)).2
theorem bit_tst {told : Nat} (k : Nat) (ht : told < 256) : (bits .and .i64 ((told : Int) / 2 ^ k) 1 == 0) = !told.testBit k := by
  have h := Nat.div_le_self told (2 ^ k)
  have e : ((told : Int) / 2 ^ k) = ((told / 2 ^ k : Nat) : Int) := by push_cast; rfl
  have e2 := (bits_nat .i64 62 (by decide) i64_in62 (told / 2 ^ k) 1 (by omega) (by omega)).1
  rw [e, show (1 : Int) = ((1 : Nat) : Int) from rfl, e2, Nat.and_one_is_mod, Nat.testBit_eq_decide_div_mod_eq]
  rcases Nat.mod_two_eq_zero_or_one (told / 2 ^ k) with h | h <;> simp [h]
/-- The rows of the table from the j-th on lie in memory; out is the block of the table itself. -/
structure TB (w : World) (lo hi g n S m : Nat) (R : List (List Int)) (j : Nat) : Prop where
  z : g < hi
  o : ∃ hs, w.ownsRow lo 26 1 (.slice (some ⟨g, 0, none⟩) (m + 1) (m + 1)) (m + 1) hs ∧ ∀ i, j ≤ i → i ≤ m → ∃ b c, hs[i]? = some (.slice (some ⟨b, 0, none⟩) S c) ∧ b ≠ g ∧ b < hi ∧ ∀ t, t < S → w.cell? ⟨b, t, none⟩ = some (.int .i64 (tab n (R.drop i) t))
section
variable {w w' : World} {lo hi g n S m j : Nat} {R : List (List Int)}
theorem TB.keep (h : TB w lo hi g n S m R j) (K : ∀ k, k < hi → w'.heap[k]? = w.heap[k]?) : TB w' lo hi g n S m R j := by
  obtain ⟨z, hs, o, r⟩ := h
  refine ⟨z, hs, own_keep o (fun k hk => K k (by cases hk; exact z)), fun i h1 h2 => ?_⟩
  obtain ⟨b, c, e1, e2, e3, e4⟩ := r i h1 h2
  refine ⟨b, c, e1, e2, e3, fun t ht => ?_⟩
  have := e4 t ht
  have hk := K b e3
  simp only [World.cell?, hk] at this ⊢
  exact this
theorem TB.below {B : Nat} (h : TB w lo hi g n S m R j) (hb : Below B w w') (hB : hi ≤ B) : TB w' lo hi g n S m R j := h.keep (fun k hk => hb.block k (by omega))
theorem TB.gb {q : Nat} (h : TB w lo hi g n S m R j) (hg : w.grownBy w' (some q)) (hq : hi ≤ q) (hz : hi ≤ w.heap.size) : TB w' lo hi g n S m R j := h.keep (fun k hk => hg.block k (by omega) (by simp; omega))
theorem TB.wide {hi' : Nat} (h : TB w lo hi g n S m R j) (hh : hi ≤ hi') : TB w lo hi' g n S m R j := by
  obtain ⟨z, hs, o, r⟩ := h
  refine ⟨by omega, hs, o, fun i h1 h2 => ?_⟩
  obtain ⟨b, c, e1, e2, e3, e4⟩ := r i h1 h2
  exact ⟨b, c, e1, e2, by omega, e4⟩
theorem TB.at (h : TB w lo hi g n S m R j) {i : Nat} (h1 : j ≤ i) (h2 : i ≤ m) : ∃ b c, w.cell? ⟨g, i, none⟩ = some (.slice (some ⟨b, 0, none⟩) S c) ∧ b ≠ g ∧ b < hi ∧ ∀ t, t < S → w.cell? ⟨b, t, none⟩ = some (.int .i64 (tab n (R.drop i) t)) := by
  obtain ⟨z, hs, o, r⟩ := h
  obtain ⟨b, c, e1, e2, e3, e4⟩ := r i h1 h2
  have x := o.cells (g := g) rfl i _ e1
  rw [cell_add] at x
  exact ⟨b, c, x, e2, e3, e4⟩
theorem TB.frz (h : TB w lo hi g n S m R j) (i : Nat) : w.frozen? ⟨g, i, none⟩ = false := by
  obtain ⟨z, hs, o, r⟩ := h
  exact o.frozenAt i
theorem made_at {w : World} {lo g m i : Nat} {v : Value} {e : TypeId} {c : Nat} (o : w.ownsRow lo e 1 (.slice (some ⟨g, 0, none⟩) m c) m (madeCells #[v] (m * 1)).toList) (hi : i < m) : w.cell? ⟨g, i, none⟩ = some v := by
  have x := o.cellAt i (by omega)
  rw [show (madeCells #[v] (m * 1)).toList = List.replicate m v from by rw [Nat.mul_one]; exact toList_madeCells_one _ _] at x
  rw [x]; simp [hi]
theorem TB.cel (h : TB w lo hi g n S m R j) {i : Nat} (hi : i ≤ m) : ∃ u, w.cell? ⟨g, i, none⟩ = some u := by
  obtain ⟨z, hs, o, r⟩ := h
  have x := o.cellAt i (by omega)
  have hl : hs.length = m + 1 := by have := o.1; omega
  exact ⟨_, x.trans (List.getElem?_eq_getElem (by omega))⟩
theorem TB.cellput_at (h : TB w lo hi g n S m R (j + 1)) (u : Value) (hj : j ≤ m) : (w.setCell ⟨g, j, none⟩ u).cell? ⟨g, j, none⟩ = some u := by
  obtain ⟨z, hs, o, r⟩ := h
  have hl : hs.length = m + 1 := by have := o.1; omega
  have x := (o.stored j u).1.cellAt j (by omega)
  rw [x, List.getElem?_set_self (by omega)]
theorem rd_cells0 {w : World} {b B : Nat} {xs : List Int} (hb : b < B) (h : ∀ t x, xs[t]? = some x → w.cell? ⟨b, t, none⟩ = some (.int .i64 x)) : Rd encI 1 w B (some ⟨b, 0, none⟩) xs := fun _ => by
  refine ⟨b, 0, rfl, hb, fun i x hi j v hj => ?_⟩
  obtain rfl : j = 0 := by have := (List.getElem?_eq_some_iff.1 hj).1; simpa [encI] using this
  simp [encI] at hj
  subst hj
  simpa using h i x hi
/-- The table's cell told anew. -/
theorem TB.cellput (h : TB w lo hi g n S m R (j + 1)) (u : Value) : TB (w.setCell ⟨g, j, none⟩ u) lo hi g n S m R (j + 1) := by
  obtain ⟨z, hs, o, r⟩ := h
  have st := o.stored j u
  refine ⟨z, hs.set j u, st.1, fun i h1 h2 => ?_⟩
  obtain ⟨b', c', e1, e2, e3, e4⟩ := r i (by omega) h2
  refine ⟨b', c', by rw [List.getElem?_set_ne (by omega)]; exact e1, e2, e3, fun t ht => ?_⟩
  have e := Below.heap_setCell w ⟨g, j, none⟩ u b' e2
  rw [show (w.setCell ⟨g, j, none⟩ u).cell? ⟨b', t, none⟩ = w.cell? ⟨b', t, none⟩ from by simp only [World.cell?, e]]
  exact e4 t ht
/-- One more row: it lies in the table's cell, and its numbers are told. -/
theorem TB.more {b c : Nat} (h : TB w lo hi g n S m R (j + 1)) (hb : b ≠ g) (hbh : b < hi) (hc : w.cell? ⟨g, j, none⟩ = some (.slice (some ⟨b, 0, none⟩) S c)) (hj : j ≤ m) (hr : ∀ t, t < S → w.cell? ⟨b, t, none⟩ = some (.int .i64 (tab n (R.drop j) t))) : TB w lo hi g n S m R j := by
  obtain ⟨z, hs, o, r⟩ := h
  refine ⟨z, hs, o, fun i h1 h2 => ?_⟩
  by_cases e : i = j
  · subst e
    have x := o.cellAt i (by omega)
    rw [hc] at x
    exact ⟨b, c, x.symm, hb, hbh, hr⟩
  · exact r i (by omega) h2
end
def maxI (a b : Int) : Int := if b < a then a else b
theorem maxI_eq (a b : Int) : max a b = maxI a b := by unfold maxI; rw [Int.max_def]; split <;> split <;> omega
theorem l00Max_any' (a b : Int) (w : World) :
    Calls Try.prog 38 #[.int .i64 a, .int .i64 b] w fun e w' => e = .returned (.int .i64 (maxI a b)) ∧ w = w' := by
  go_enter Try.func38, Try.ntmps38
  go_wp2
  all_goals (go_ret; exact ⟨ret_int (by simp [maxI, *] <;> omega), rfl⟩)
set_option maxRecDepth 20000 in
set_option maxHeartbeats 2000000 in
theorem table_any (n : Nat) (A : Option Addr) (c : Nat) (Ls : List (List Int)) (w : World) (h : RL w w.heap.size A Ls) (OK : WOk n Ls) :
    Calls Try.prog 22 #[.slice A Ls.length c] w fun e w' => ∃ g, e = .returned (.slice (some ⟨g, 0, none⟩) (Ls.length + 1) (Ls.length + 1)) ∧ TB w' w.heap.size w'.heap.size g n (1 <<< n) Ls.length Ls 0 ∧ Below w.heap.size w w' := by
  have m1 := OK.m1; have m2 := OK.m2; have n1 := OK.n1; have n2 := OK.n2
  obtain ⟨i0, hi0, iz0, iz1, iz2⟩ := info_parts (P := Try.prog) (e := 2) (z := .int .i64 0) (size := 1) (bytes := 8) (by kernel_rfl)
  obtain ⟨j0, hj0, jz0, jz1, jz2⟩ := info_parts (P := Try.prog) (e := 26) (z := .slice none 0 0) (size := 1) (bytes := 24) (by kernel_rfl)
  obtain ⟨L0, hL0, lL0, xL0⟩ := OK.at (i := 0) (by omega)
  obtain ⟨b, rfl, hbB, hr⟩ := h
  obtain ⟨A2, c2, e2, r2⟩ := hr 0 L0 hL0
  rw [lL0] at e2
  have hr := hid hr
  clear hL0 xL0 r2
  have hS : wrap64 (2 ^ n) = ((1 <<< n : Nat) : Int) := wrap_2pow n2
  obtain ⟨S, HS⟩ : ∃ S : Nat, 1 <<< n = S := ⟨_, rfl⟩
  have S1 : 2 ≤ S ∧ S ≤ 16 := by
    have : n = 1 ∨ n = 2 ∨ n = 3 ∨ n = 4 := by omega
    rw [← HS]
    rcases this with rfl | rfl | rfl | rfl <;> decide
  obtain ⟨S1, S2⟩ := S1
  rw [HS] at hS
  have HS := hid HS
  go_enter Try.func22, Try.ntmps22
  go_wp2_with (first | (at_make; refine wpList_make_full _ rfl _ _ 24 rfl w.heap.size 26 j0 _ 1 Try.underlying24 hj0 jz0 jz1 _ _ _ _ (Ls.length + 1) rfl rfl rfl rfl (by rw [jz2]; omega) (by unfold maxLen; omega) (Nat.le_refl _) ?_; intro w1 o1 g1) | (at_make; refine wpList_make_full _ rfl _ _ 26 rfl w1.heap.size 2 i0 _ 1 Try.underlying26 hi0 iz0 iz1 _ _ _ _ S rfl rfl rfl rfl (by rw [iz2]; omega) (by unfold maxLen; omega) (Nat.le_refl _) ?_; intro w2 o2 g2; have fz := (o1.kept g2 (.inr (by simp [Value.ownBlock]))).frozenAt Ls.length; have ce := made_at (o1.kept g2 (.inr (by simp [Value.ownBlock]))) (i := Ls.length) (by omega)))
  have T0 : TB (w2.setCell ⟨w.heap.size, Ls.length, none⟩ (.slice (some ⟨w1.heap.size, 0, none⟩) S S)) w.heap.size w2.heap.size w.heap.size n S Ls.length Ls Ls.length := by
    have z1 : w.heap.size < w1.heap.size := (o1.lt w.heap.size rfl).2
    have z2 : w1.heap.size < w2.heap.size := (o2.lt w1.heap.size rfl).2
    have q1 : TB w2 w.heap.size w2.heap.size w.heap.size n S Ls.length Ls (Ls.length + 1) := ⟨by omega, _, o1.kept g2 (.inr (by simp [Value.ownBlock])), fun i h1 h2 => by omega⟩
    have ne : w1.heap.size ≠ w.heap.size := by omega
    refine (q1.cellput _).more (c := S) ne z2 ?_ (Nat.le_refl _) (fun t ht => ?_)
    · have x := (o1.kept g2 (.inr (by simp [Value.ownBlock]))).stored Ls.length (.slice (some ⟨w1.heap.size, 0, none⟩) S S)
      have := x.1.cellAt Ls.length (by omega)
      rw [this, List.getElem?_set_self (by have := o1.1; omega)]
    · have e := Below.heap_setCell w2 ⟨w.heap.size, Ls.length, none⟩ (.slice (some ⟨w1.heap.size, 0, none⟩) S S) w1.heap.size ne
      have x := o2.cellAt t (by omega)
      rw [show (madeCells (Value.cells (.int .i64 0)) (S * 1)).toList = List.replicate S (.int .i64 0) from by rw [Nat.mul_one]; exact toList_madeCells_one _ _] at x
      simp only [World.cell?, e]
      simp only [World.cell?] at x
      rw [x, List.drop_length]
      simp [tab, ht]
  have B0 : Below w.heap.size w (w2.setCell ⟨w.heap.size, Ls.length, none⟩ (.slice (some ⟨w1.heap.size, 0, none⟩) S S)) := (((Below.refl w.heap.size w).grown g1 (Nat.le_refl _) (by simp)).grown g2 (by have := g1.size; omega) (by simp)).setCell (p := ⟨w.heap.size, Ls.length, none⟩) (Nat.le_refl _) _
  have T0 := hid (T0.wide (hi' := (w2.setCell ⟨w.heap.size, Ls.length, none⟩ (.slice (some ⟨w1.heap.size, 0, none⟩) S S)).heap.size) (by simp))
  clear o1 o2 fz ce
  generalize w2.setCell ⟨w.heap.size, Ls.length, none⟩ (.slice (some ⟨w1.heap.size, 0, none⟩) S S) = w3 at *
  have hr := hr
  go_loopw [5] (fun iv wr => ∃ (j : Nat) (z : Int), j ≤ Ls.length ∧ iv = .int .i64 z ∧ z = j - 1 ∧ Hid (TB wr w.heap.size wr.heap.size w.heap.size n S Ls.length Ls j) ∧ Below w.heap.size w wr) (fun iv _ => (intOf iv + 1).toNat)
  case atStart => exact ⟨Ls.length, Ls.length - 1, Nat.le_refl _, rfl, rfl, T0, B0⟩
  case round =>
    clear T0 B0 hS g1 g2
    obtain ⟨j, z, hj, rfl, hz, T, hb⟩ := hrel
    obtain ⟨wo, rfl⟩ : ∃ wo, wo = wr := ⟨_, rfl⟩
    have zo := hb.size
    have zT := T.out.z
    by_cases hlt : 0 ≤ z
    · obtain ⟨i, rfl⟩ : ∃ i : Nat, z = i := ⟨z.toNat, by omega⟩
      obtain rfl : j = i + 1 := by omega
      clear hz
      obtain ⟨L, hL, lL, xL⟩ := OK.at (i := i) (by omega)
      obtain ⟨b1, c1, e1, d1, z1, r1⟩ := T.out.at (i := i + 1) (Nat.le_refl _) (by omega)
      have RD : Rd encI 1 wo wo.heap.size (some ⟨b1, 0, none⟩) (tabL S n (Ls.drop (i + 1))) := rd_cells0 z1 (fun t x ht => by
        have hlt : t < S := by have := (List.getElem?_eq_some_iff.1 ht).1; rwa [tabL_len] at this
        rw [tabL_at n _ hlt] at ht; cases ht; exact r1 t hlt)
      have C := copyOfInt64_any (some ⟨b1, 0, none⟩) c1 (tabL S n (Ls.drop (i + 1))) wo RD (by rw [tabL_len]; omega) (by simp)
      rw [tabL_len] at C
      have hDR := hid (dropx hL)
      have BT : Hid (∀ t, 0 ≤ tab n (Ls.drop (i + 1)) t ∧ tab n (Ls.drop (i + 1)) t ≤ 44) := hid (fun t => by
        have h := tab_bd n (a := 11) (by omega) (Ls.drop (i + 1)) (fun r hr x hx => OK.num r (List.mem_of_mem_drop hr) x hx) t
        rw [List.length_drop] at h
        have h5 : ((Ls.length - (i + 1) : Nat) : Int) ≤ 4 := by omega
        omega)
      have BB : Hid (∀ t k, 0 ≤ bs (fun k => L.getD k 0) (tab n (Ls.drop (i + 1))) t k ∧ bs (fun k => L.getD k 0) (tab n (Ls.drop (i + 1))) t k ≤ 55) := hid (fun t k => bs_bd (a := 11) (b := 44) t (by omega) (fun k => by
        rw [List.getD_eq_getElem?_getD]
        cases hk : L[k]? with
        | none => simp
        | some x => exact xL k x hk) BT.out k)
      have xL := hid xL
      have hL := hid hL
      have r1 := hid r1
      clear RD
      go_wp2_with (go_at_call 37; refine C.mono ?_; rintro e w5 ⟨Ar, cr, he, o5, hb5⟩; rw [tabL_len] at he o5; subst he; have T5 := T.out.below hb5 (Nat.le_refl _); have fz := T5.frz i; obtain ⟨u, hu⟩ := T5.cel (i := i) (by omega))
      obtain ⟨bi, rfl, zb1, zb2⟩ := own_form o5 (by omega)
      have T6 := hid (T5.cellput (.slice (some ⟨bi, 0, none⟩) S cr))
      have c6 := T5.cellput_at (.slice (some ⟨bi, 0, none⟩) S cr) (by omega)
      have o6 := hid (o5.kept (gb_set (World.grownBy.refl w5 (some w.heap.size)) i (.slice (some ⟨bi, 0, none⟩) S cr)) (.inr (by simp [Value.ownBlock]; omega)))
      have B6 := (Below.tr hb5 hb).setCell (p := ⟨w.heap.size, i, none⟩) (Nat.le_refl _) (.slice (some ⟨bi, 0, none⟩) S cr)
      have z6 : w5.heap.size ≤ (w5.setCell ⟨w.heap.size, i, none⟩ (.slice (some ⟨bi, 0, none⟩) S cr)).heap.size := by simp
      clear C T5 fz hu o5 hb5 T e1
      generalize w5.setCell ⟨w.heap.size, i, none⟩ (.slice (some ⟨bi, 0, none⟩) S cr) = w6 at *
      have zz6 := B6.size
      rw [← midL_zero S n (fun k => L.getD k 0)] at o6
      go_loopw [41] (fun iv wr => ∃ told : Nat, told ≤ S ∧ iv = .int .i64 told ∧ Hid (w6.grownBy wr (some bi)) ∧ Hid (wr.ownsRow wo.heap.size 2 1 (.slice (some ⟨bi, 0, none⟩) S cr) S ((midL S n (fun k => L.getD k 0) (tab n (Ls.drop (i + 1))) told 0).flatMap encI))) (fun iv _ => S - (intOf iv).toNat)
      case atStart => exact ⟨0, Nat.zero_le _, rfl, hid (World.grownBy.refl _ _), o6⟩
      case round =>
        clear o6
        obtain ⟨told, htl, rfl, G, O⟩ := hrel
        have BW : Below w.heap.size w wr := B6.grown G.out zz6 (fun q hq => by cases hq; omega)
        obtain ⟨A1, c1', e3, rL⟩ := hr.out i L hL.out
        have e3 := ((bcell BW).1 b i hbB).trans e3
        rw [lL] at e3
        have zb : b < wr.heap.size := by have := BW.size; omega
        by_cases hlt' : told < S
        · go_wp2
          obtain ⟨wm, rfl⟩ : ∃ wm, wm = wr := ⟨_, rfl⟩
          go_loopw [49] (fun iv wr => ∃ k : Nat, k ≤ n ∧ iv = .int .i64 k ∧ Hid (w6.grownBy wr (some bi)) ∧ Hid (wr.ownsRow wo.heap.size 2 1 (.slice (some ⟨bi, 0, none⟩) S cr) S ((midL S n (fun k => L.getD k 0) (tab n (Ls.drop (i + 1))) told k).flatMap encI))) (fun iv _ => n - (intOf iv).toNat)
          case atStart => exact ⟨0, Nat.zero_le _, rfl, G, O⟩
          case round =>
            clear G O BW
            obtain ⟨k, hk, rfl, G, O⟩ := hrel
            have BW : Below w.heap.size w wr := B6.grown G.out zz6 (fun q hq => by cases hq; omega)
            by_cases hk' : k < n
            · obtain ⟨x, hx⟩ := getx (xs := L) (k := k) (by omega)
              obtain ⟨x0, x1⟩ := xL.out k x hx
              obtain ⟨ba, oa, rfl, zba, q0⟩ := (rL.below BW (Nat.le_refl _)).at1 hx rfl
              have hget : Hid (L.getD k 0 = x) := hid (by rw [List.getD_eq_getElem?_getD, hx]; rfl)
              have TT := T6.out.gb G.out zb1 (by omega)
              obtain ⟨b2, c2, y1, _, zb2', y2⟩ := TT.at (i := i + 1) (Nat.le_refl _) (by omega)
              have y0 : wr.cell? ⟨w.heap.size, i, none⟩ = some (.slice (some ⟨bi, 0, none⟩) S cr) := G.out.cell c6 (by simp; omega)
              have v0 : wr.cell? ⟨bi, told, none⟩ = some (.int .i64 (bs (fun k => L.getD k 0) (tab n (Ls.drop (i + 1))) told k)) := by
                have := O.out.cellAt told (by omega)
                rw [this, fI_at (midL_at n _ _ k hlt')]
              have f0 : wr.frozen? ⟨bi, told, none⟩ = false := O.out.frozenAt _
              have hbt := bit_tst k (told := told) (by omega)
              obtain ⟨K, q, hw2, hw3, hbo, hq, hb5⟩ : ∃ K q : Nat, wrap64 (2 ^ k) = (K : Int) ∧ IntKind.i64.wrap (2 ^ k) = (K : Int) ∧ bits .or .i64 (told : Int) (K : Int) = (q : Int) ∧ q < S ∧ told ||| 1 <<< k = q := by
                have t1 := or_bit_lt (n := n) (told := told) (k := k) (by rw [HS.out]; exact hlt') hk'
                have t2 := or_bit_lt (n := n) (told := 0) (k := k) (by rw [HS.out]; omega) hk'
                rw [HS.out] at t1 t2
                rw [Nat.zero_or] at t2
                exact ⟨1 <<< k, told ||| 1 <<< k, wrap_2pow (by omega), (wrap64_i64 _).trans (wrap_2pow (by omega)), bit_or (by omega) (by omega), t1, rfl⟩
              have y3 := y2 _ hq
              obtain ⟨p1, p2⟩ := BT.out q
              obtain ⟨p3, p4⟩ := BB.out told k
              have ST : Hid (bs (fun k => L.getD k 0) (tab n (Ls.drop (i + 1))) told (k + 1) = if told.testBit k = true then bs (fun k => L.getD k 0) (tab n (Ls.drop (i + 1))) told k else max (bs (fun k => L.getD k 0) (tab n (Ls.drop (i + 1))) told k) (x + tab n (Ls.drop (i + 1)) q)) := hid (by rw [← hget.out, ← hb5]; rfl)
              clear hb5
              clear hx y2 TT
              cases htb : told.testBit k
              · rw [htb] at hbt ST
                simp only [Bool.not_false] at hbt
                go_wp2
                have ib : (i : Int) < (Ls.length : Int) + 1 := by omega
                have ib2 : (i : Int) < (Ls.length : Int) := by omega
                have k1 : IntKind.i64.wrap ((i : Int) + 1) = (i : Int) + 1 := IntWalk.i64_in _ ⟨by omega, by omega⟩
                have k3 : 0 ≤ (i : Int) + 1 := by omega
                have k4 : IntKind.i64.wrap (x + tab n (Ls.drop (i + 1)) q) = x + tab n (Ls.drop (i + 1)) q := IntWalk.i64_in _ ⟨by omega, by omega⟩
                have k5 : ((i : Int) + 1).toNat = i + 1 := by omega
                have ib3 : (q : Int) < (S : Int) := by omega
                have ib4 : (told : Int) < (S : Int) := by omega
                generalize tab n (Ls.drop (i + 1)) q = y at *
                obtain ⟨v, hv⟩ : ∃ v, bs (fun k => L.getD k 0) (tab n (Ls.drop (i + 1))) told k = v := ⟨_, rfl⟩
                rw [hv] at v0 p3 p4 ST
                simp only [Bool.false_eq_true, if_false] at ST
                clear hv
                refine wp_region_still_tail 27 (by kernel_rfl) (by kernel_rfl) ?_
                simp only [List.take_succ_cons, List.take_zero, List.drop_succ_cons, List.drop_zero]
                repeat still_step
                refine wpStill_nil ?_
                change wpList _ _ _ _ _ wr.drew
                go_wp2
                go_roundw
                case rel =>
                  have hst := (O.out.stored told (.int .i64 (if v < x + y then x + y else v))).1
                  rw [fI_set] at hst
                  have he : (if v < x + y then x + y else v) = max v (x + y) := by rw [Int.max_def]; split <;> split <;> omega
                  exact ⟨k + 1, by omega, by go_num, hid (gb_then (gb_set G.out told _) (Below.drew (Below.refl _ _))), hid (by rw [← midL_set S n _ _ told k (k + 1), ST.out, ← he]; exact hst.drew)⟩
                case measure => simp [intOf]; omega
              · rw [htb] at hbt ST
                simp only [Bool.not_true] at hbt
                go_wp2
                go_roundw
                case rel => exact ⟨k + 1, by omega, by go_num, G, by rw [midL_same S n _ _ told (k + 1) k (by rw [ST.out]; rfl)]; exact O⟩
                case measure => simp [intOf]; omega
            · obtain rfl : k = n := by omega
              rw [midL_next] at O
              go_wp2
              go_roundw
              case rel => exact ⟨told + 1, by omega, by go_num, G, O⟩
              case measure => simp [intOf]; omega
        · obtain rfl : told = S := by omega
          go_wp2
          go_roundw
          case rel =>
            rw [midL_done, ← hDR.out] at O
            have zw : bi < wr.heap.size := (O.out.lt bi rfl).2
            have T9 := (T6.out.gb G.out zb1 (by omega)).wide (hi' := wr.heap.size) (by omega)
            have c9 : wr.cell? ⟨w.heap.size, i, none⟩ = some (.slice (some ⟨bi, 0, none⟩) told cr) := G.out.cell c6 (by simp; omega)
            exact ⟨i, (i : Int) - 1, by omega, by go_num, by omega, hid (T9.more (by omega) zw c9 (by omega) (fun t ht => by
              rw [O.out.cellAt t (by omega), fI_at (tabL_at n _ ht)])), BW⟩
          case measure => simp [intOf]; try omega
    · obtain rfl : j = 0 := by omega
      go_wp2
      go_ret
      exact ⟨w.heap.size, rfl, T.out, hb⟩
set_option maxRecDepth 20000 in
set_option maxHeartbeats 2000000 in
theorem l17Table_any (n : Nat) (A : Option Addr) (c : Nat) (Ls : List (List Int)) (w : World) (h : RL w w.heap.size A Ls) (OK : WOk n Ls) :
    Calls Try.prog 24 #[.slice A Ls.length c] w fun e w' => ∃ g, e = .returned (.slice (some ⟨g, 0, none⟩) (Ls.length + 1) (Ls.length + 1)) ∧ TB w' w.heap.size w'.heap.size g n (1 <<< n) Ls.length Ls 0 ∧ Below w.heap.size w w' := by
  have m1 := OK.m1; have m2 := OK.m2; have n1 := OK.n1; have n2 := OK.n2
  obtain ⟨i0, hi0, iz0, iz1, iz2⟩ := info_parts (P := Try.prog) (e := 2) (z := .int .i64 0) (size := 1) (bytes := 8) (by kernel_rfl)
  obtain ⟨j0, hj0, jz0, jz1, jz2⟩ := info_parts (P := Try.prog) (e := 26) (z := .slice none 0 0) (size := 1) (bytes := 24) (by kernel_rfl)
  obtain ⟨L0, hL0, lL0, xL0⟩ := OK.at (i := 0) (by omega)
  obtain ⟨b, rfl, hbB, hr⟩ := h
  obtain ⟨A2, c2, e2, r2⟩ := hr 0 L0 hL0
  rw [lL0] at e2
  have hr := hid hr
  clear hL0 xL0 r2
  have hS : wrap64 (2 ^ n) = ((1 <<< n : Nat) : Int) := wrap_2pow n2
  obtain ⟨S, HS⟩ : ∃ S : Nat, 1 <<< n = S := ⟨_, rfl⟩
  have S1 : 2 ≤ S ∧ S ≤ 16 := by
    have : n = 1 ∨ n = 2 ∨ n = 3 ∨ n = 4 := by omega
    rw [← HS]
    rcases this with rfl | rfl | rfl | rfl <;> decide
  obtain ⟨S1, S2⟩ := S1
  rw [HS] at hS ⊢
  have HS := hid HS
  go_enter Try.func24, Try.ntmps24
  go_wp2_with (first | (at_make; refine wpList_make_full _ rfl _ _ 24 rfl w.heap.size 26 j0 _ 1 Try.underlying24 hj0 jz0 jz1 _ _ _ _ (Ls.length + 1) rfl rfl rfl rfl (by rw [jz2]; omega) (by unfold maxLen; omega) (Nat.le_refl _) ?_; intro w1 o1 g1) | (at_make; refine wpList_make_full _ rfl _ _ 26 rfl w1.heap.size 2 i0 _ 1 Try.underlying26 hi0 iz0 iz1 _ _ _ _ S rfl rfl rfl rfl (by rw [iz2]; omega) (by unfold maxLen; omega) (Nat.le_refl _) ?_; intro w2 o2 g2; have fz := (o1.kept g2 (.inr (by simp [Value.ownBlock]))).frozenAt Ls.length; have ce := made_at (o1.kept g2 (.inr (by simp [Value.ownBlock]))) (i := Ls.length) (by omega)))
  have T0 : TB (w2.setCell ⟨w.heap.size, Ls.length, none⟩ (.slice (some ⟨w1.heap.size, 0, none⟩) S S)) w.heap.size w2.heap.size w.heap.size n S Ls.length Ls Ls.length := by
    have z1 : w.heap.size < w1.heap.size := (o1.lt w.heap.size rfl).2
    have z2 : w1.heap.size < w2.heap.size := (o2.lt w1.heap.size rfl).2
    have q1 : TB w2 w.heap.size w2.heap.size w.heap.size n S Ls.length Ls (Ls.length + 1) := ⟨by omega, _, o1.kept g2 (.inr (by simp [Value.ownBlock])), fun i h1 h2 => by omega⟩
    have ne : w1.heap.size ≠ w.heap.size := by omega
    refine (q1.cellput _).more (c := S) ne z2 (q1.cellput_at _ (Nat.le_refl _)) (Nat.le_refl _) (fun t ht => ?_)
    have e := Below.heap_setCell w2 ⟨w.heap.size, Ls.length, none⟩ (.slice (some ⟨w1.heap.size, 0, none⟩) S S) w1.heap.size ne
    have x := made_at o2 (i := t) ht
    simp only [World.cell?, e]
    simp only [World.cell?] at x
    rw [x, List.drop_length]
    rfl
  have B0 : Below w.heap.size w (w2.setCell ⟨w.heap.size, Ls.length, none⟩ (.slice (some ⟨w1.heap.size, 0, none⟩) S S)) := (((Below.refl w.heap.size w).grown g1 (Nat.le_refl _) (by simp)).grown g2 (by have := g1.size; omega) (by simp)).setCell (p := ⟨w.heap.size, Ls.length, none⟩) (Nat.le_refl _) _
  have T0 := hid (T0.wide (hi' := (w2.setCell ⟨w.heap.size, Ls.length, none⟩ (.slice (some ⟨w1.heap.size, 0, none⟩) S S)).heap.size) (by simp))
  clear o1 o2 fz ce
  generalize w2.setCell ⟨w.heap.size, Ls.length, none⟩ (.slice (some ⟨w1.heap.size, 0, none⟩) S S) = w3 at *
  go_loopw [7] (fun iv wr => ∃ (j : Nat) (z : Int), j ≤ Ls.length ∧ iv = .int .i64 z ∧ z = j - 1 ∧ Hid (TB wr w.heap.size wr.heap.size w.heap.size n S Ls.length Ls j) ∧ Below w.heap.size w wr) (fun iv _ => (intOf iv + 1).toNat)
  case atStart => exact ⟨Ls.length, Ls.length - 1, Nat.le_refl _, rfl, rfl, T0, B0⟩
  case round =>
    clear T0 B0 hS g1 g2
    obtain ⟨j, z, hj, rfl, hz, T, hb⟩ := hrel
    obtain ⟨wo, rfl⟩ : ∃ wo, wo = wr := ⟨_, rfl⟩
    have zo := hb.size
    have zT := T.out.z
    by_cases hlt : 0 ≤ z
    · obtain ⟨i, rfl⟩ : ∃ i : Nat, z = i := ⟨z.toNat, by omega⟩
      obtain rfl : j = i + 1 := by omega
      clear hz
      obtain ⟨L, hL, lL, xL⟩ := OK.at (i := i) (by omega)
      have hDR := hid (dropx hL)
      have BT : Hid (∀ t, 0 ≤ tab n (Ls.drop (i + 1)) t ∧ tab n (Ls.drop (i + 1)) t ≤ 44) := hid (fun t => by
        have h := tab_bd n (a := 11) (by omega) (Ls.drop (i + 1)) (fun r hr x hx => OK.num r (List.mem_of_mem_drop hr) x hx) t
        rw [List.length_drop] at h
        have h5 : ((Ls.length - (i + 1) : Nat) : Int) ≤ 4 := by omega
        omega)
      have BB : Hid (∀ t k, 0 ≤ bs (fun k => L.getD k 0) (tab n (Ls.drop (i + 1))) t k ∧ bs (fun k => L.getD k 0) (tab n (Ls.drop (i + 1))) t k ≤ 55) := hid (fun t k => bs_bd (a := 11) (b := 44) t (by omega) (fun k => by
        rw [List.getD_eq_getElem?_getD]
        cases hk : L[k]? with
        | none => simp
        | some x => exact xL k x hk) BT.out k)
      have xL := hid xL
      have hL := hid hL
      obtain ⟨rf, hrf⟩ : ∃ rf : Nat → Int, Hid (rf = fun k => L.getD k 0) := ⟨_, rfl⟩
      obtain ⟨tf, htf⟩ : ∃ tf : Nat → Int, Hid (tf = tab n (Ls.drop (i + 1))) := ⟨_, rfl⟩
      rw [← hrf.out, ← htf.out] at BB
      rw [← htf.out] at BT
      go_wp2
      go_loopw [8, 9] (fun vv iv wr => ∃ told : Nat, told ≤ S ∧ iv = .int .i64 told ∧ Below wo.heap.size wo wr ∧ wr.ownsRow wo.heap.size 2 1 vv told (((List.range told).map fun t => bs rf tf t n).flatMap encI)) (fun _ iv _ => S - (intOf iv).toNat)
      case atStart => exact ⟨0, Nat.zero_le _, rfl, (by repeat (first | assumption | exact Below.refl _ _ | apply Below.al | apply Below.drewN' | apply Below.drew | (apply Below.tr; assumption))), own_lit0 _ _ _ (Nat.le_refl _)⟩
      case round =>
        obtain ⟨told, htl, rfl, hb1, O⟩ := hrel
        obtain ⟨Ar, cr, rfl⟩ := own_shape O
        have O := hid O
        have BW : Below w.heap.size w wr := Below.tr hb1 hb
        have z1 := hb1.size
        by_cases hlt' : told < S
        · obtain ⟨b1, c1, e1, d1, zb1, r1⟩ := (T.out.below hb1 (Nat.le_refl _)).at (i := i + 1) (Nat.le_refl _) (by omega)
          rw [← htf.out] at r1
          have r0 := r1 told hlt'
          obtain ⟨v00, v01⟩ := BT.out told
          have r1 := hid r1
          have HB0 : Hid (tf told = bs rf tf told 0) := hid rfl
          go_wp2
          generalize tf told = v0 at HB0 v00 v01 r0 ⊢
          obtain ⟨wm, rfl⟩ : ∃ wm, wm = wr := ⟨_, rfl⟩
          go_loopw [10, 11] (fun bv iv wr => ∃ (k : Nat) (v : Int), k ≤ n ∧ iv = .int .i64 k ∧ bv = .int .i64 v ∧ Hid (v = bs rf tf told k) ∧ Below wm.heap.size wm wr) (fun _ iv _ => n - (intOf iv).toNat)
          case atStart => exact ⟨0, v0, Nat.zero_le _, rfl, rfl, HB0, (by repeat (first | assumption | exact Below.refl _ _ | apply Below.al | apply Below.drewN' | apply Below.drew | (apply Below.tr; assumption)))⟩
          case round =>
            obtain ⟨k, v, hk, rfl, rfl, HV, hb2⟩ := hrel
            have z2 := hb2.size
            by_cases hk' : k < n
            · obtain ⟨x, hx⟩ := getx (xs := L) (k := k) (by omega)
              obtain ⟨x0, x1⟩ := xL.out k x hx
              have BW2 : Below w.heap.size w wr := Below.tr hb2 BW
              obtain ⟨A1, c1', e3, rL⟩ := hr.out i L hL.out
              rw [lL] at e3
              have e3 := ((bcell BW2).1 b i hbB).trans e3
              obtain ⟨ba, oa, rfl, zba, q0⟩ := (rL.below BW2 (Nat.le_refl _)).at1 hx rfl
              have hget : Hid (rf k = x) := hid (by rw [hrf.out]; simp only; rw [List.getD_eq_getElem?_getD, hx]; rfl)
              have y1 := ((bcell hb2).1 w.heap.size (i + 1) (by omega)).trans e1
              have hbt := bit_tst k (told := told) (by omega)
              obtain ⟨K, q, hw2, hw3, hbo, hq, hb5⟩ : ∃ K q : Nat, wrap64 (2 ^ k) = (K : Int) ∧ IntKind.i64.wrap (2 ^ k) = (K : Int) ∧ bits .or .i64 (told : Int) (K : Int) = (q : Int) ∧ q < S ∧ told ||| 1 <<< k = q := by
                have t1 := or_bit_lt (n := n) (told := told) (k := k) (by rw [HS.out]; exact hlt') hk'
                have t2 := or_bit_lt (n := n) (told := 0) (k := k) (by rw [HS.out]; omega) hk'
                rw [HS.out] at t1 t2
                rw [Nat.zero_or] at t2
                exact ⟨1 <<< k, told ||| 1 <<< k, wrap_2pow (by omega), (wrap64_i64 _).trans (wrap_2pow (by omega)), bit_or (by omega) (by omega), t1, rfl⟩
              have y3 := ((bcell hb2).1 b1 q (by omega)).trans (r1.out q hq)
              obtain ⟨p1, p2⟩ := BT.out q
              have hbd := BB.out told k
              rw [← HV.out] at hbd
              obtain ⟨p3, p4⟩ := hbd
              have ST : Hid (bs rf tf told (k + 1) = if told.testBit k = true then bs rf tf told k else max (bs rf tf told k) (x + tf q)) := hid (by rw [← hget.out, ← hb5]; rfl)
              generalize tf q = y at *
              have zb : b < wr.heap.size := by have := BW2.size; omega
              have zba' : ba < wr.heap.size := by omega
              have zq : b1 < wr.heap.size := by omega
              have zg : w.heap.size < wr.heap.size := by omega
              clear hb5 hx
              cases htb : told.testBit k
              · rw [htb, ← HV.out] at ST
                rw [htb] at hbt
                simp only [Bool.not_false] at hbt
                simp only [Bool.false_eq_true, if_false] at ST
                have ib2 : (i : Int) < (Ls.length : Int) := by omega
                have ib3 : (q : Int) < (S : Int) := by omega
                go_wp2
                refine wp_region_ext (by kernel_rfl) (by kernel_rfl) ?_
                repeat (go_big_quiet_step ((first | (go_at_call 38; exact ext_same (l00Max_any' _ _ _)))))
                refine wpQuiet_nil ?_
                intro w9 hb9
                obtain ⟨hc_w9, hf_w9⟩ := bcell hb9
                have hz_w9 := hb9.size
                go_wp2
                go_roundw
                case rel => exact ⟨k + 1, maxI v (x + y), by omega, by go_num, rfl, hid (by rw [ST.out, maxI_eq]), (by repeat (first | assumption | exact Below.refl _ _ | apply Below.al | apply Below.drewN' | apply Below.drew | (apply Below.tr; assumption)))⟩
                case measure => simp [intOf]; omega
              · rw [htb, ← HV.out] at ST
                rw [htb] at hbt
                simp only [Bool.not_true] at hbt
                simp only [if_true] at ST
                go_wp2
                go_roundw
                case rel => exact ⟨k + 1, v, by omega, by go_num, rfl, hid ST.out.symm, hb2⟩
                case measure => simp [intOf]; omega
            · obtain rfl : k = n := by omega
              have hb3 := Below.tr hb2 hb1
              have O2 := hid (own_below O.out hb2 (Nat.le_refl _))
              have HM : Hid ((List.range (told + 1)).map (fun t => bs rf tf t k) = ((List.range told).map fun t => bs rf tf t k) ++ [v]) := hid (by rw [List.range_succ, List.map_append, HV.out]; rfl)
              go_wp2_with (at_builtin; go_must (refine wpList_append_own _ rfl _ _ 26 rfl (wo.heap.size) 2 i0 _ 1 8 Try.underlying26 hi0 iz0 iz1 iz2 rfl (by decide) _ _ _ rfl (O2.out.alloc _) ⟨(wr).heap.size, 0, none⟩ 1 1 [.int .i64 v] rfl rfl (news_at wr [.int .i64 v] 2) (by simp [Value.oneCell']) (by unfold maxLen; omega) (by omega) (by first | omega | (simp; done) | (simp; omega)) ?_); intro v8 w8 own_w8 grow_w8 _)
              go_roundw
              case rel => exact ⟨told + 1, by omega, by go_num, Below.ap hb3 hb3.size O2.out (Nat.le_refl _) grow_w8, by rw [HM.out]; simpa [encI] using own_w8⟩
              case measure => simp [intOf]; omega
        · obtain rfl : told = S := by omega
          obtain ⟨bi, rfl, zb1, zb2⟩ := own_form O.out (by omega)
          have T5 := T.out.below hb1 (Nat.le_refl _)
          have fz := T5.frz i
          obtain ⟨u, hu⟩ := T5.cel (i := i) (by omega)
          have T6 := T5.cellput (.slice (some ⟨bi, 0, none⟩) told cr)
          have c6 := T5.cellput_at (.slice (some ⟨bi, 0, none⟩) told cr) (by omega)
          have o6 := O.out.kept (gb_set (World.grownBy.refl wr (some w.heap.size)) i (.slice (some ⟨bi, 0, none⟩) told cr)) (.inr (by simp [Value.ownBlock]; omega))
          have B6 := BW.setCell (p := ⟨w.heap.size, i, none⟩) (Nat.le_refl _) (.slice (some ⟨bi, 0, none⟩) told cr)
          have z6 : wr.heap.size ≤ (wr.setCell ⟨w.heap.size, i, none⟩ (.slice (some ⟨bi, 0, none⟩) told cr)).heap.size := by simp
          have T7 := hid ((T6.wide (hi' := (wr.setCell ⟨w.heap.size, i, none⟩ (.slice (some ⟨bi, 0, none⟩) told cr)).heap.size) (by omega)).more (b := bi) (c := cr) (by omega) (by omega) c6 (by omega) (fun t ht => by
            rw [o6.cellAt t (by omega), hDR.out, fI_at (show ((List.range told).map fun t => bs rf tf t n)[t]? = some (tab n (L :: Ls.drop (i + 1)) t) by rw [hrf.out, htf.out]; simp [ht, tab])]))
          clear T5 T6 c6 o6
          go_wp2
          go_roundw
          case rel => exact ⟨i, (i : Int) - 1, by omega, by go_num, by omega, T7, B6⟩
          case measure => simp [intOf]; try omega
    · obtain rfl : j = 0 := by omega
      go_wp2
      go_ret
      exact ⟨w.heap.size, rfl, T.out, hb⟩
end Go.Proofs.Yticamdaicbgdlaa
