/- Contracts: the groups of linked stars, in the program and in the reference. -/
import Derived.Test.YtalongdieglibaaC20u
import Derived.Test.YtalongdieglibaaC20o
import Derived.Test.YtalongdieglibaaC20d
import Derived.Test.YtalongdieglibaaCIdx
import Derived.Test.YtalongdieglibaaCGrow
namespace Go.Proofs.Ytalongdieglibaa
open Go.RowKit
set_option linter.unusedVariables false
def grB (F : List Int) (k i : Nat) : Bool := F[i]?.getD (-1) == (k : Int)
def grW (F : List Int) : Nat → List (List Int)
  | 0 => []
  | k + 1 => if F[k]? = some (k : Int) then grW F k ++ [idxW (grB F k) F.length] else grW F k
theorem grW_len (F : List Int) : ∀ k, (grW F k).length ≤ k
  | 0 => by simp [grW]
  | k + 1 => by
    have := grW_len F k
    unfold grW
    split
    · simp; omega
    · omega
theorem grW_mem {F : List Int} : ∀ {k : Nat} {L : List Int}, L ∈ grW F k → L.length ≤ F.length
  | 0, L, h => by simp [grW] at h
  | k + 1, L, h => by
    unfold grW at h
    split at h
    · rcases List.mem_append.1 h with h | h
      · exact grW_mem h
      · simp at h; subst h; exact idxW_len _ _
    · exact grW_mem h
theorem jn0_le (n : Nat) : ∀ (i : Nat) (x : Int), (jn0 n).F[i]? = some x → 0 ≤ x ∧ x ≤ i := by
  intro i x h
  simp only [jn0, List.getElem?_map] at h
  by_cases hi : i < n
  · rw [List.getElem?_range hi] at h
    simp at h
    omega
  · rw [List.getElem?_eq_none (by simpa using hi)] at h
    simp at h
theorem upF_le {g k : Int} {F : List Int} (h : ∀ (i : Nat) (x : Int), F[i]? = some x → 0 ≤ x ∧ x ≤ i) (hk : 0 ≤ k ∧ k ≤ g) : ∀ (i : Nat) (x : Int), (upF g k F)[i]? = some x → 0 ≤ x ∧ x ≤ i := by
  intro i x hx
  simp only [upF, List.getElem?_map, Option.map_eq_some_iff] at hx
  obtain ⟨y, hy, rfl⟩ := hx
  have := h i y hy
  split
  · omega
  · exact this
theorem getD_nn {F : List Int} (h : ∀ (i : Nat) (x : Int), F[i]? = some x → 0 ≤ x ∧ x ≤ i) (i : Nat) : 0 ≤ F.getD i 0 := by
  rw [List.getD_eq_getElem?_getD]
  cases hx : F[i]? with
  | none => simp
  | some x => have := h i x hx; simpa using this.1
theorem jnStep_le {p : Jn} {l : Lk} (h : ∀ (i : Nat) (x : Int), p.F[i]? = some x → 0 ≤ x ∧ x ≤ i) : ∀ (i : Nat) (x : Int), (jnStep p l).F[i]? = some x → 0 ≤ x ∧ x ≤ i := by
  have a0 := getD_nn h l.a.toNat
  have b0 := getD_nn h l.b.toNat
  unfold jnStep
  split
  · exact h
  · split
    · exact upF_le h (by omega)
    · exact upF_le h (by omega)
theorem jnRun_le {n : Nat} : ∀ (xs : List Lk) (p : Jn), (∀ (i : Nat) (x : Int), p.F[i]? = some x → 0 ≤ x ∧ x ≤ i) → ∀ (i : Nat) (x : Int), (jnRun p xs).F[i]? = some x → 0 ≤ x ∧ x ≤ i
  | [], p, h => h
  | l :: r, p, h => jnRun_le (n := n) r (jnStep p l) (jnStep_le h)
def grV (stars : Int) (xs : List Lk) : List (List Int) := if vlB stars xs = true then grW (jnP stars xs).F stars.toNat else []
theorem grV_len (stars : Int) (xs : List Lk) : (grV stars xs).length ≤ 10 := by
  cases h : vlB stars xs
  · simp [grV, h]
  · obtain ⟨n, rfl, n1, n2, _, _⟩ := vlB_nat h
    have := grW_len (jnP n xs).F n
    simp [grV, h]
    omega
theorem grV_mem {stars : Int} {xs : List Lk} : ∀ L ∈ grV stars xs, L.length ≤ 10 := by
  intro L hL
  cases h : vlB stars xs
  · simp [grV, h] at hL
  · obtain ⟨n, rfl, n1, n2, _, _⟩ := vlB_nat h
    have h2 := (jnP_ok h).lf
    simp only [grV, h, if_true] at hL
    have := grW_mem hL
    omega
/-- What both functions end in. -/
def OwnLL (Ls : List (List Int)) (code : Int) (w : World) (e : Ending) (w' : World) : Prop :=
  ∃ A c hs, e = .returned (.tuple #[.slice A Ls.length c, .int .i64 code]) ∧ LR w' w.heap.size w'.heap.size (.slice A Ls.length c) hs Ls ∧ Below w.heap.size w w'
theorem grW_yes {F : List Int} {k n : Nat} (h : F[k]? = some (k : Int)) (hn : F.length = n) : grW F (k + 1) = grW F k ++ [idxW (grB F k) n] := by
  subst hn; rw [grW, if_pos h]
theorem grW_no {F : List Int} {k : Nat} (h : F[k]? ≠ some (k : Int)) : grW F (k + 1) = grW F k := by
  rw [grW, if_neg h]
theorem offsets_q {n : Nat} {p : Jn} {xs : List Lk} (hp : jnRun (jn0 n) xs = p) (A : Option Addr) (c : Nat) (w : World) (h : Rd encLk 3 w w.heap.size A xs) (n1 : 1 ≤ n) (n2 : n ≤ 10) (hn : xs.length ≤ 12) (V : Hid (∀ (k : Nat) (p : Lk), xs[k]? = some p → 0 ≤ p.a ∧ p.a < p.b ∧ p.b < n ∧ -5000 ≤ p.d ∧ p.d ≤ 5000)) :
    Calls Try.prog 33 #[.int .i64 (n : Int), .slice A xs.length c] w (OffRes n p w) := by
  subst hp; exact offsets_any n A c xs w h n1 n2 hn V
set_option maxHeartbeats 1000000 in
theorem gr1_any (gF cF n b1 b2 i : Nat) (x y : Int) (w : World) (hi : i < n) (hn : n ≤ 10) (e : w.cell? ⟨b1, 0, none⟩ = some (.slice (some ⟨gF, 0, none⟩) n cF)) (e1 : w.cell? ⟨gF, i, none⟩ = some (.int .i64 x)) (e2 : w.cell? ⟨b2, 0, none⟩ = some (.int .i64 y)) :
    Calls Try.prog 35 #[.int .i64 i, .pointer (some ⟨b1, 0, none⟩), .pointer (some ⟨b2, 0, none⟩)] w fun e w' => e = .returned (.bool (x == y)) ∧ Below w.heap.size w w' := by
  have z1 : b1 < w.heap.size := World.block_lt_of_cell? w _ e
  have z2 : gF < w.heap.size := World.block_lt_of_cell? w _ e1
  have z3 : b2 < w.heap.size := World.block_lt_of_cell? w _ e2
  go_enter Try.func35, Try.ntmps35
  go_wp2
  refine wp_region_ext (by kernel_rfl) (by kernel_rfl) ?_
  repeat (go_big_quiet_step ((first | fail)))
  refine wpQuiet_nil ?_
  intro w3 hb3
  obtain ⟨hc_w3, hf_w3⟩ := bcell hb3
  have hz_w3 := hb3.size
  go_wp2
  go_ret
  exact ⟨ret_bool (by simp), (by repeat (first | assumption | exact Below.refl _ _ | apply Below.al | apply Below.drewN' | apply Below.drew | (refine Below.sc ?_ (by first | omega | (simp; done) | (simp; omega)) _) | (apply Below.tr; assumption)))⟩
set_option maxRecDepth 20000 in
set_option maxHeartbeats 4000000 in
theorem implGroupsOfStars_any (stars : Int) (A : Option Addr) (c : Nat) (xs : List Lk) (w : World) (h : Rd encLk 3 w w.heap.size A xs) (hn : xs.length ≤ 1048576) :
    Calls Try.prog 13 #[.int .i64 stars, .slice A xs.length c] w (OwnLL (grV stars xs) (cwC stars xs) w) := by
  have C1 := implValidLinks_any stars A c xs w h hn
  cases hv : vlB stars xs
  · rw [hv] at C1
    have HV : Hid (grV stars xs = []) := hid (by simp [grV, hv])
    have HC : Hid (cwC stars xs = 1) := hid (by simp [cwC, hv])
    go_enter Try.func13, Try.ntmps13
    go_wp2_with (go_at_call 28; refine C1.mono ?_; rintro e w1 ⟨rfl, hb1⟩)
    go_ret2
    exact ⟨none, 0, [], by rw [HV.out, HC.out]; rfl, by rw [HV.out]; exact LR.nil _ _ _, hb1⟩
  · rw [hv] at C1
    obtain ⟨j0, hj0, jz0, jz1, jz2⟩ := info_parts (P := Try.prog) (e := 36) (z := .slice none 0 0) (size := 1) (bytes := 24) (by kernel_rfl)
    obtain ⟨n, rfl, n1, n2, hl, V⟩ := vlB_n hv
    have V := hid V
    obtain ⟨p, hp⟩ : ∃ p, jnRun (jn0 n) xs = p := ⟨_, rfl⟩
    have JF : Hid (p.F.length = n ∧ (∀ (i : Nat) (x : Int), p.F[i]? = some x → 0 ≤ x ∧ x ≤ i)) := hid (by have h1 := jnP_ok hv; have h2 := jnRun_le (n := n) xs (jn0 n) (jn0_le n); simp only [jnP, Int.toNat_natCast, hp] at h1; rw [hp] at h2; exact ⟨h1.lf, h2⟩)
    have HV : Hid (grV (n : Int) xs = grW p.F n) := hid (by simp [grV, hv, jnP, hp])
    have HC : Hid (cwC (n : Int) xs = 0) := hid (by simp [cwC, hv])
    clear hv
    go_enter Try.func13, Try.ntmps13
    go_wp2_with (first | (go_at_call 28; refine C1.mono ?_; rintro e w1 ⟨rfl, hb1⟩) | (go_at_call 33; refine (offsets_q hp A c _ ((h.below hb1 (Nat.le_refl _)).more hb1.size) n1 n2 hl V).mono ?_; rintro e w2 ⟨gF, cF, gN, cN, rfl, oF, oN, hb2⟩))
    have hB : Below w.heap.size w (w2.alloc (.cells #[.slice (some ⟨gF, 0, none⟩) n cF] 36)) := (by repeat (first | assumption | exact Below.refl _ _ | apply Below.al | apply Below.drewN' | apply Below.drew | (apply Below.tr; assumption)))
    have s0 : (w2.alloc (.cells #[.slice (some ⟨gF, 0, none⟩) n cF] 36)).cell? ⟨w2.heap.size, 0, none⟩ = some (.slice (some ⟨gF, 0, none⟩) n cF) := by simp [go_sem]
    have oF := hid (show (w2.alloc (.cells #[.slice (some ⟨gF, 0, none⟩) n cF] 36)).ownsRow w1.heap.size 2 1 (.slice (some ⟨gF, 0, none⟩) n cF) n (fI p.F) from oF.alloc _)
    have z3 : w2.heap.size < (w2.alloc (.cells #[.slice (some ⟨gF, 0, none⟩) n cF] 36)).heap.size := by simp
    have z4 : Hid (w2.heap.size + 1 = (w2.alloc (.cells #[.slice (some ⟨gF, 0, none⟩) n cF] 36)).heap.size) := hid (by simp)
    have zw := hb1.size
    clear oN hb2 hb1 hp V C1
    generalize (w2.alloc (.cells #[.slice (some ⟨gF, 0, none⟩) n cF] 36)) = W3 at *
    generalize w2.heap.size = b1 at *
    generalize w1.heap.size = lo1 at *
    have zz := hB.size
    go_loopw [9, 26] (fun v i wr => ∃ k : Nat, k ≤ n ∧ i = .int .i64 k ∧ Below W3.heap.size W3 wr ∧ ∃ A9 c9 hs, v = .slice A9 (grW p.F k).length c9 ∧ Hid (LR wr W3.heap.size wr.heap.size (.slice A9 (grW p.F k).length c9) hs (grW p.F k))) (fun _ i _ => n - (intOf i).toNat)
    case atStart => exact ⟨0, Nat.zero_le _, rfl, (by repeat (first | assumption | exact Below.refl _ _ | apply Below.al | apply Below.drewN' | apply Below.drew | (apply Below.tr; assumption))), _, 0, [], rfl, hid (LR.lit (by exact z4.out) (by have := z4.out; omega))⟩
    case round =>
      obtain ⟨k, hk, rfl, hb, A9, c9, hs, rfl, R⟩ := hrel
      have hsz := hb.size
      have oF2 := own_below oF.out hb (Nat.le_refl _)
      have hc0 := ((bcell hb).1 b1 0 z3).trans s0
      have gl := grW_len p.F k
      by_cases hlt : k < n
      · obtain ⟨x, hx⟩ : ∃ x, p.F[k]? = some x := getx (by have := JF.out.1; omega)
        have e1 : wr.cell? ⟨gF, k, none⟩ = some (.int .i64 x) := by (have := oF2.cellAt k (by omega); rw [this]; simp [fI, hx])
        obtain ⟨xl, xu⟩ := JF.out.2 k x hx
        have zF : gF < wr.heap.size := (oF2.lt gF rfl).2
        have zb1 : b1 < wr.heap.size := by omega
        have hbK : Below wr.heap.size wr (wr.alloc (.cells #[.int .i64 x] 2)) := (by repeat (first | assumption | exact Below.refl _ _ | apply Below.al | apply Below.drewN' | apply Below.drew | (apply Below.tr; assumption)))
        have hbT : Below W3.heap.size W3 (wr.alloc (.cells #[.int .i64 x] 2)) := (by repeat (first | assumption | exact Below.refl _ _ | apply Below.al | apply Below.drewN' | apply Below.drew | (apply Below.tr; assumption)))
        by_cases hxk : x = k
        · have HG := hid (grW_yes (F := p.F) (k := k) (n := n) (by rw [hx, hxk]) JF.out.1)
          have oF2 := hid oF2
          have hc9 : (wr.alloc (.cells #[.int .i64 x] 2)).cell? ⟨wr.heap.size, 0, none⟩ = some (.int .i64 k) := by simp [go_sem, hxk]
          have hEq : ((k : Int) == x) = true := by simp [hxk]
          subst hxk
          clear hx
          go_wp2_with (go_at_call 34; refine (indicesWhere_any 35 _ (grB p.F k) n _ (by omega) (callFunc_enter Try.func35 (by kernel_rfl) (by kernel_rfl)) ?_).mono ?_)
          · intro i w7 hi hb7
            obtain ⟨y, hy⟩ : ∃ y, p.F[i]? = some y := getx (by have := JF.out.1; omega)
            have q1 : w7.cell? ⟨gF, i, none⟩ = some (.int .i64 y) := by
              rw [(bcell (Below.tr hb7 hbK)).1 _ _ zF]
              have := oF2.out.cellAt i (by omega); rw [this]; simp [fI, hy]
            have q2 : w7.cell? ⟨b1, 0, none⟩ = some (.slice (some ⟨gF, 0, none⟩) n cF) := by
              rw [(bcell (Below.tr hb7 hbK)).1 _ _ (by omega)]; exact hc0
            have q3 : w7.cell? ⟨wr.heap.size, 0, none⟩ = some (.int .i64 k) := by
              rw [(bcell hb7).1 _ _ (by simp)]; exact hc9
            have e := gr1_any gF cF n b1 wr.heap.size i y k w7 hi n2 q2 q1 q3
            rw [show (y == (k : Int)) = grB p.F k i by simp [grB, hy]] at e
            exact e
          · rintro e w5 ⟨Ar, cr, rfl, o5, hb5⟩
            have hbs : Below wr.heap.size wr w5 := Below.tr hb5 hbK
            have R5 := R.out.below hbs (Nat.le_refl _)
            have hz5 := hbs.size
            have R5o := hid R5.o
            have o5 := hid (own_lo (lo' := wr.heap.size) o5 (by simp))
            clear hb5
            go_wp2_with (at_builtin; go_must (refine wpList_append_own_at _ rfl _ _ 30 rfl (W3.heap.size) 36 j0 _ 1 24 Try.underlying30 hj0 jz0 jz1 jz2 rfl (by decide) _ _ _ rfl (R5o.out.alloc _) ⟨(w5).heap.size, 0, none⟩ 1 1 [.slice Ar (idxW (grB p.F k) n).length cr] rfl rfl (news_at w5 [.slice Ar (idxW (grB p.F k) n).length cr] 36) (by simp [Value.oneCell']) (by unfold maxLen; omega) (by omega) (by first | omega | (simp; done) | (simp; omega)) ?_); intro v8 w8 own_w8 grow_w8 _ at_w8)
            have R8 := R5.push (by omega) hz5 o5.out own_w8 grow_w8 at_w8
            obtain ⟨A8, c8, rfl⟩ := own_shape own_w8
            have b8 : Below W3.heap.size W3 w8 := ((Below.tr hbs hb).alloc (by omega) _).grown grow_w8 (by simp; omega) (fun q hq => (R.out.o.lt q hq).1)
            go_roundw
            case rel => exact ⟨k + 1, by omega, by go_num, b8, A8, c8, _, by rw [HG.out]; simp, hid (by rw [HG.out]; simpa using R8)⟩
            case measure => simp [intOf]; omega
        · have HG := hid (grW_no (F := p.F) (k := k) (by rw [hx]; simp; omega))
          have hEq : ((k : Int) == x) = false := by simp; omega
          have hbn : Below wr.heap.size wr (wr.alloc (.cells #[.int .i64 x] 2)) := hbK
          have R5 := hid ((R.out.below hbn (Nat.le_refl _)).wide hbn.size)
          clear hx
          go_wp2
          go_roundw
          case rel => exact ⟨k + 1, by omega, by go_num, hbT, A9, c9, hs, by rw [HG.out], by rw [HG.out]; exact R5⟩
          case measure => simp [intOf]; omega
      · obtain rfl : n = k := by omega
        go_wp2
        go_ret2
        exact ⟨A9, c9, hs, by rw [HV.out, HC.out]; rfl, by rw [HV.out]; exact R.out.lower zz, Below.tr hb hB⟩
theorem idxW_nil {fb : Nat → Bool} : ∀ {k : Nat}, (∀ i, i < k → fb i = false) → idxW fb k = []
  | 0, _ => rfl
  | k + 1, h => by rw [idxW_no (h k (by omega))]; exact idxW_nil (fun i hi => h i (by omega))
theorem l20Join_q {n : Nat} {p : Jn} {xs : List Lk} (hp : jnRun (jn0 n) xs = p) (A : Option Addr) (c : Nat) (w : World) (h : Rd encLk 3 w w.heap.size A xs) (n1 : 1 ≤ n) (n2 : n ≤ 10) (hn : xs.length ≤ 12) (V : Hid (∀ (k : Nat) (p : Lk), xs[k]? = some p → 0 ≤ p.a ∧ p.a < p.b ∧ p.b < n ∧ -5000 ≤ p.d ∧ p.d ≤ 5000)) :
    Calls Try.prog 32 #[.int .i64 (n : Int), .slice A xs.length c, .slice none 0 0] w fun e w' => ∃ g, e = .returned (.pointer (some ⟨g, 0, none⟩)) ∧ JnW w' w.heap.size g n p ∧ Below w.heap.size w w' := by
  subst hp
  have t := l20Join_any n A c xs none 0 [] w h (fun hx => absurd rfl hx) n1 n2 hn (by decide) V
  rw [jnGo_nil] at t
  exact t
set_option maxRecDepth 20000 in
set_option maxHeartbeats 4000000 in
theorem specGroupsOfStars_any (stars : Int) (A : Option Addr) (c : Nat) (xs : List Lk) (w : World) (h : Rd encLk 3 w w.heap.size A xs) (hn : xs.length ≤ 1048576) :
    Calls Try.prog 12 #[.int .i64 stars, .slice A xs.length c] w (OwnLL (grV stars xs) (cwC stars xs) w) := by
  have C1 := l20Ok_any stars A c xs w h hn
  cases hv : vlB stars xs
  · rw [hv] at C1
    have HV : Hid (grV stars xs = []) := hid (by simp [grV, hv])
    have HC : Hid (cwC stars xs = 1) := hid (by simp [cwC, hv])
    go_enter Try.func12, Try.ntmps12
    go_wp2_with (go_at_call 25; refine C1.mono ?_; rintro e w1 ⟨rfl, hb1⟩)
    go_ret2
    exact ⟨none, 0, [], by rw [HV.out, HC.out]; rfl, by rw [HV.out]; exact LR.nil _ _ _, hb1⟩
  · rw [hv] at C1
    obtain ⟨j0, hj0, jz0, jz1, jz2⟩ := info_parts (P := Try.prog) (e := 36) (z := .slice none 0 0) (size := 1) (bytes := 24) (by kernel_rfl)
    obtain ⟨i0, hi0, iz0, iz1, iz2⟩ := info_parts (P := Try.prog) (e := 2) (z := .int .i64 0) (size := 1) (bytes := 8) (by kernel_rfl)
    obtain ⟨n, rfl, n1, n2, hl, V⟩ := vlB_n hv
    have V := hid V
    obtain ⟨p, hp⟩ : ∃ p, jnRun (jn0 n) xs = p := ⟨_, rfl⟩
    have JF : Hid (p.F.length = n ∧ (∀ (i : Nat) (x : Int), p.F[i]? = some x → 0 ≤ x ∧ x ≤ i)) := hid (by have h1 := jnP_ok hv; have h2 := jnRun_le (n := n) xs (jn0 n) (jn0_le n); simp only [jnP, Int.toNat_natCast, hp] at h1; rw [hp] at h2; exact ⟨h1.lf, h2⟩)
    have HV : Hid (grV (n : Int) xs = grW p.F n) := hid (by simp [grV, hv, jnP, hp])
    have HC : Hid (cwC (n : Int) xs = 0) := hid (by simp [cwC, hv])
    clear hv
    go_enter Try.func12, Try.ntmps12
    go_wp2_with (first | (go_at_call 25; refine C1.mono ?_; rintro e w1 ⟨rfl, hb1⟩) | (go_at_call 32; refine (l20Join_q hp A c _ ((h.below hb1 (Nat.le_refl _)).more hb1.size) n1 n2 hl V).mono ?_; rintro e w5 ⟨g, rfl, ⟨gF, cF, gN, cN, JX⟩, hb5⟩))
    have hB : Below w.heap.size w w5 := Below.tr hb5 hb1
    have zz := hB.size
    have JX := hid JX
    clear hb5 hb1 hp V C1
    go_loopw [7, 8] (fun v i wr => ∃ k : Nat, k ≤ n ∧ i = .int .i64 k ∧ Below w5.heap.size w5 wr ∧ ∃ A9 c9 hs, v = .slice A9 (grW p.F k).length c9 ∧ Hid (LR wr w5.heap.size wr.heap.size (.slice A9 (grW p.F k).length c9) hs (grW p.F k))) (fun _ i _ => n - (intOf i).toNat)
    case atStart => exact ⟨0, Nat.zero_le _, rfl, (by repeat (first | assumption | exact Below.refl _ _ | apply Below.al | apply Below.drewN' | apply Below.drew | (apply Below.tr; assumption))), _, 0, [], rfl, hid (LR.lit rfl (Nat.le_refl _))⟩
    case round =>
      obtain ⟨k, hk, rfl, hb, A9, c9, hs, rfl, R⟩ := hrel
      have hsz := hb.size
      have gl := grW_len p.F k
      by_cases hlt : k < n
      · obtain ⟨x, hx⟩ : ∃ x, p.F[k]? = some x := getx (by have := JF.out.1; omega)
        have J1 := JX.out.below hb
        have k0 := J1.c0
        have kg := J1.lg
        have oF := J1.oF
        have e1 : wr.cell? ⟨gF, k, none⟩ = some (.int .i64 x) := by (have := oF.cellAt k (by omega); rw [this]; simp [fI, hx])
        obtain ⟨xl, xu⟩ := JF.out.2 k x hx
        have zF : gF < wr.heap.size := (oF.lt gF rfl).2
        clear J1 oF
        by_cases hxk : x = k
        · have HG := hid (grW_yes (F := p.F) (k := k) (n := n) (by rw [hx, hxk]) JF.out.1)
          have HZ := hid (idxW_nil (fb := grB p.F k) (k := k) (fun i hi => by
            obtain ⟨y, hy⟩ : ∃ y, p.F[i]? = some y := getx (by have := JF.out.1; omega)
            have := JF.out.2 i y hy
            simp [grB, hy]; omega))
          have hEq : (x != (k : Int)) = false := by simp [hxk]
          subst hxk
          clear hx
          go_wp2
          obtain ⟨w6, rfl⟩ : ∃ w6, w6 = wr := ⟨_, rfl⟩
          go_loopw [9, 10] (fun v i wr => ∃ j : Nat, k ≤ j ∧ j ≤ n ∧ i = .int .i64 j ∧ Below w6.heap.size w6 wr ∧ wr.ownsRow w6.heap.size 2 1 v (idxW (grB p.F k) j).length ((idxW (grB p.F k) j).flatMap encI)) (fun _ i _ => n - (intOf i).toNat)
          case atStart => exact ⟨k, Nat.le_refl _, hk, rfl, (by repeat (first | assumption | exact Below.refl _ _ | apply Below.al | apply Below.drewN' | apply Below.drew | (apply Below.tr; assumption))), by rw [HZ.out]; exact own_lit0 _ _ _ (Nat.le_refl _)⟩
          case round =>
            obtain ⟨j, hkj, hj, rfl, hb6, own⟩ := hrel
            have hbT := Below.tr hb6 hb
            have hl6 := idxW_len (grB p.F k) j
            by_cases hlt' : j < n
            · obtain ⟨y, hy⟩ : ∃ y, p.F[j]? = some y := getx (by have := JF.out.1; omega)
              have J1 := JX.out.below hbT
              have m0 := J1.c0
              have mg := J1.lg
              have oF := J1.oF
              have e2 : wr.cell? ⟨gF, j, none⟩ = some (.int .i64 y) := by (have := oF.cellAt j (by omega); rw [this]; simp [fI, hy])
              have zF2 : gF < wr.heap.size := (oF.lt gF rfl).2
              have hz' := hb6.size
              have H1 := hid own
              clear J1 oF own
              cases hyk : grB p.F k j
              · have HN := hid (idxW_no hyk)
                have hE2 : (y == (k : Int)) = false := by simpa [grB, hy] using hyk
                clear hy hyk
                go_wp2
                go_roundw
                case rel => exact ⟨j + 1, by omega, by omega, by go_num, hb6, by rw [HN.out]; exact H1.out⟩
                case measure => simp [intOf]; omega
              · have HN := hid (idxW_yes hyk)
                have hE2 : (y == (k : Int)) = true := by simpa [grB, hy] using hyk
                clear hy hyk
                go_wp2_with (at_builtin; go_must (refine wpList_append_own _ rfl _ _ 36 rfl (w6.heap.size) 2 i0 _ 1 8 Try.underlying36 hi0 iz0 iz1 iz2 rfl (by decide) _ _ _ rfl (H1.out.alloc _) ⟨(wr).heap.size, 0, none⟩ 1 1 [.int .i64 (j : Nat)] rfl rfl (news_at wr [.int .i64 (j : Nat)] 2) (by simp [Value.oneCell']) (by unfold maxLen; omega) (by omega) (by first | omega | (simp; done) | (simp; omega)) ?_); intro v2 w2 own_w2 grow_w2 _)
                go_roundw
                case rel => exact ⟨j + 1, by omega, by omega, by go_num, Below.ap hb6 hb6.size H1.out (Nat.le_refl _) grow_w2, by rw [HN.out]; simpa [encI] using own_w2⟩
                case measure => simp [intOf]; omega
            · obtain rfl : n = j := by omega
              obtain ⟨Ar, cr, rfl⟩ := own_shape own
              have R5 := R.out.below hb6 (Nat.le_refl _)
              have hz5 := hb6.size
              have R5o := hid R5.o
              have o5 := hid own
              clear own
              go_wp2_with (at_builtin; go_must (refine wpList_append_own_at _ rfl _ _ 30 rfl (w5.heap.size) 36 j0 _ 1 24 Try.underlying30 hj0 jz0 jz1 jz2 rfl (by decide) _ _ _ rfl (R5o.out.alloc _) ⟨(wr).heap.size, 0, none⟩ 1 1 [.slice Ar (idxW (grB p.F k) n).length cr] rfl rfl (news_at wr [.slice Ar (idxW (grB p.F k) n).length cr] 36) (by simp [Value.oneCell']) (by unfold maxLen; omega) (by omega) (by first | omega | (simp; done) | (simp; omega)) ?_); intro v8 w8 own_w8 grow_w8 _ at_w8)
              have R8 := R5.push hsz hz5 o5.out own_w8 grow_w8 at_w8
              obtain ⟨A8, c8, rfl⟩ := own_shape own_w8
              have b8 : Below w5.heap.size w5 w8 := (hbT.alloc (by omega) _).grown grow_w8 (by simp; omega) (fun q hq => (R.out.o.lt q hq).1)
              go_roundw
              case rel => exact ⟨k + 1, by omega, by go_num, b8, A8, c8, _, by rw [HG.out]; simp, hid (by rw [HG.out]; simpa using R8)⟩
              case measure => simp [intOf]; omega
        · have HG := hid (grW_no (F := p.F) (k := k) (by rw [hx]; simp; omega))
          have hEq : (x != (k : Int)) = true := by simp; omega
          clear hx
          go_wp2
          go_roundw
          case rel => exact ⟨k + 1, by omega, by go_num, hb, A9, c9, hs, by rw [HG.out], by rw [HG.out]; exact R⟩
          case measure => simp [intOf]; omega
      · obtain rfl : n = k := by omega
        go_wp2
        go_ret2
        exact ⟨A9, c9, hs, by rw [HV.out, HC.out]; rfl, by rw [HV.out]; exact R.out.lower zz, Below.tr hb hB⟩
end Go.Proofs.Ytalongdieglibaa
