/- Contracts: the greatest worth, the prices, and what prices prove, in the program and in the reference. -/
import Derived.Test.YticamdaicbgdlaaC17t
import Derived.Deep.RegionHeld3
namespace Go.Proofs.Yticamdaicbgdlaa
open Go.RowKit
set_option linter.unusedVariables false
def sumZ : List Int → Int
  | [] => 0
  | x :: r => x + sumZ r
theorem sumZ_app : ∀ (a b : List Int), sumZ (a ++ b) = sumZ a + sumZ b
  | [], b => by simp [sumZ]
  | x :: a, b => by simp only [List.cons_append, sumZ, sumZ_app a b]; omega
theorem sumZ_range (n : Nat) (f : Nat → Int) : sumZ ((List.range n).map f) = Sm n f := by
  induction n with
  | zero => rfl
  | succ n ih => rw [List.range_succ, List.map_append, sumZ_app, ih]; simp [sumZ, Sm]
def obsL (n : Nat) (Ls : List (List Int)) : List Int := (List.range Ls.length).map (obs n Ls)
def prcL (n : Nat) (Ls : List (List Int)) : List Int := (List.range n).map (prc n Ls)
theorem obsL_len (n : Nat) (Ls : List (List Int)) : (obsL n Ls).length = Ls.length := by simp [obsL]
theorem prcL_len (n : Nat) (Ls : List (List Int)) : (prcL n Ls).length = n := by simp [prcL]
theorem WOk.tab_in {n : Nat} {Ls : List (List Int)} (h : WOk n Ls) (t : Nat) : 0 ≤ tab n Ls t ∧ tab n Ls t ≤ 44 := by
  have e := tab_bd n (a := 11) (by omega) Ls h.num t
  have := h.m2
  omega
theorem WOk.wnum_in {n : Nat} {Ls : List (List Int)} (h : WOk n Ls) (i k : Nat) : 0 ≤ wnum Ls i k ∧ wnum Ls i k ≤ 11 := by
  unfold wnum
  rw [List.getD_eq_getElem?_getD, List.getD_eq_getElem?_getD]
  cases hi : Ls[i]? with
  | none => simp
  | some L =>
    simp only [Option.getD_some]
    cases hk : L[k]? with
    | none => simp
    | some x => exact h.num L (List.mem_of_getElem? hi) x (List.mem_of_getElem? hk)
theorem WOk.prc_in {n : Nat} {Ls : List (List Int)} (h : WOk n Ls) (j : Nat) : 0 ≤ prc n Ls j ∧ prc n Ls j ≤ 44 := by
  have := prc_pos n Ls j
  have := h.tab_in 0
  have := h.tab_in (1 <<< j)
  unfold prc at *
  omega
theorem WOk.mx_in {n : Nat} {Ls : List (List Int)} (h : WOk n Ls) (i k : Nat) : 0 ≤ mx (fun k => wnum Ls i k - prc n Ls k) k ∧ mx (fun k => wnum Ls i k - prc n Ls k) k ≤ 11 :=
  ⟨mx_pos _ _, mx_le _ (by omega) fun j _ => by have := h.wnum_in i j; have := h.prc_in j; omega⟩
theorem a2SumZ_any (A : Option Addr) (c : Nat) (xs : List Int) (w : World) (h : Rd encI 1 w w.heap.size A xs) (hn : xs.length ≤ 100) (X : Hid (∀ (k : Nat) (p : Int), xs[k]? = some p → 0 ≤ p ∧ p ≤ 20000)) :
    Calls Try.prog 9 #[.slice A xs.length c] w fun e w' => e = .returned (.int .i64 (sumZ xs)) ∧ Below w.heap.size w w' := by
  go_enter Try.func9, Try.ntmps9
  go_wp2
  go_loopw [3, 4] (fun sv i wr => ∃ (k : Nat) (a : Int), k ≤ xs.length ∧ i = .int .i64 k ∧ sv = .int .i64 a ∧ 0 ≤ a ∧ a ≤ k * 20000 ∧ Below w.heap.size w wr ∧ Hid (sumZ xs = a + sumZ (xs.drop k))) (fun _ i _ => xs.length - (intOf i).toNat)
  case atStart => exact ⟨0, 0, Nat.zero_le _, rfl, rfl, by omega, by omega, (by repeat (first | assumption | exact Below.refl _ _ | apply Below.al | apply Below.drewN' | apply Below.drew | (apply Below.tr; assumption))), hid (by simp)⟩
  case round =>
    obtain ⟨k, a, hk, rfl, rfl, a0, a1, hb, H⟩ := hrel
    by_cases hlt : k < xs.length
    · obtain ⟨p, hp⟩ := getx hlt
      obtain ⟨bb, o, rfl, hbB, c0⟩ := (h.below hb (Nat.le_refl _)).at1 hp rfl
      have hsz := hb.size
      obtain ⟨p1, p2⟩ := X.out k p hp
      have b0 : bb < wr.heap.size := by omega
      have HS : Hid (sumZ (xs.drop k) = p + sumZ (xs.drop (k+1))) := by rw [dropx hp]; rfl
      clear hp
      go_wp2
      go_roundw
      case rel => exact ⟨k + 1, a + p, by omega, by go_num, rfl, by omega, by push_cast; omega, (by repeat (first | assumption | exact Below.refl _ _ | apply Below.al | apply Below.drewN' | apply Below.drew | (apply Below.tr; assumption))), hid (by rw [H.out, HS.out]; omega)⟩
      case measure => simp [intOf]; omega
    · have HE : Hid (sumZ xs = a) := hid (by rw [H.out, List.drop_eq_nil_of_le (by omega)]; simp [sumZ])
      go_wp2
      go_ret
      exact ⟨ret_int HE.out.symm, (by repeat (first | assumption | exact Below.refl _ _ | apply Below.al | apply Below.drewN' | apply Below.drew | (apply Below.tr; assumption)))⟩
theorem l02SumZ_any (A : Option Addr) (c : Nat) (xs : List Int) (w : World) (h : Rd encI 1 w w.heap.size A xs) (hn : xs.length ≤ 100) (X : Hid (∀ (k : Nat) (p : Int), xs[k]? = some p → 0 ≤ p ∧ p ≤ 20000)) :
    Calls Try.prog 27 #[.slice A xs.length c] w fun e w' => e = .returned (.int .i64 (sumZ xs)) ∧ Below w.heap.size w w' := by
  go_enter Try.func27, Try.ntmps27
  go_wp2
  go_loopw [3, 4] (fun sv i wr => ∃ (k : Nat) (a : Int), k ≤ xs.length ∧ i = .int .i64 k ∧ sv = .int .i64 a ∧ 0 ≤ a ∧ a ≤ k * 20000 ∧ Below w.heap.size w wr ∧ Hid (sumZ xs = a + sumZ (xs.drop k))) (fun _ i _ => xs.length - (intOf i).toNat)
  case atStart => exact ⟨0, 0, Nat.zero_le _, rfl, rfl, by omega, by omega, (by repeat (first | assumption | exact Below.refl _ _ | apply Below.al | apply Below.drewN' | apply Below.drew | (apply Below.tr; assumption))), hid (by simp)⟩
  case round =>
    obtain ⟨k, a, hk, rfl, rfl, a0, a1, hb, H⟩ := hrel
    by_cases hlt : k < xs.length
    · obtain ⟨p, hp⟩ := getx hlt
      obtain ⟨bb, o, rfl, hbB, c0⟩ := (h.below hb (Nat.le_refl _)).at1 hp rfl
      have hsz := hb.size
      obtain ⟨p1, p2⟩ := X.out k p hp
      have b0 : bb < wr.heap.size := by omega
      have HS : Hid (sumZ (xs.drop k) = p + sumZ (xs.drop (k+1))) := by rw [dropx hp]; rfl
      clear hp
      go_wp2
      go_roundw
      case rel => exact ⟨k + 1, a + p, by omega, by go_num, rfl, by omega, by push_cast; omega, (by repeat (first | assumption | exact Below.refl _ _ | apply Below.al | apply Below.drewN' | apply Below.drew | (apply Below.tr; assumption))), hid (by rw [H.out, HS.out]; omega)⟩
      case measure => simp [intOf]; omega
    · have HE : Hid (sumZ xs = a) := hid (by rw [H.out, List.drop_eq_nil_of_le (by omega)]; simp [sumZ])
      go_wp2
      go_ret
      exact ⟨ret_int HE.out.symm, (by repeat (first | assumption | exact Below.refl _ _ | apply Below.al | apply Below.drewN' | apply Below.drew | (apply Below.tr; assumption)))⟩
theorem sumZ_any (A : Option Addr) (c : Nat) (xs : List Int) (w : World) (h : Rd encI 1 w w.heap.size A xs) (hn : xs.length ≤ 100) (X : Hid (∀ (k : Nat) (p : Int), xs[k]? = some p → 0 ≤ p ∧ p ≤ 20000)) :
    Calls Try.prog 30 #[.slice A xs.length c] w fun e w' => e = .returned (.int .i64 (sumZ xs)) ∧ Below w.heap.size w w' := by
  go_enter Try.func30, Try.ntmps30
  go_wp2
  go_loopw [3, 8] (fun sv i wr => ∃ (k : Nat) (a : Int), k ≤ xs.length ∧ i = .int .i64 k ∧ sv = .int .i64 a ∧ 0 ≤ a ∧ a ≤ k * 20000 ∧ Below w.heap.size w wr ∧ Hid (sumZ xs = a + sumZ (xs.drop k))) (fun _ i _ => xs.length - (intOf i).toNat)
  case atStart => exact ⟨0, 0, Nat.zero_le _, rfl, rfl, by omega, by omega, (by repeat (first | assumption | exact Below.refl _ _ | apply Below.al | apply Below.drewN' | apply Below.drew | (apply Below.tr; assumption))), hid (by simp)⟩
  case round =>
    obtain ⟨k, a, hk, rfl, rfl, a0, a1, hb, H⟩ := hrel
    by_cases hlt : k < xs.length
    · obtain ⟨p, hp⟩ := getx hlt
      obtain ⟨bb, o, rfl, hbB, c0⟩ := (h.below hb (Nat.le_refl _)).at1 hp rfl
      have hsz := hb.size
      obtain ⟨p1, p2⟩ := X.out k p hp
      have b0 : bb < wr.heap.size := by omega
      have HS : Hid (sumZ (xs.drop k) = p + sumZ (xs.drop (k+1))) := by rw [dropx hp]; rfl
      clear hp
      go_wp2
      go_roundw
      case rel => exact ⟨k + 1, a + p, by omega, by go_num, rfl, by omega, by push_cast; omega, (by repeat (first | assumption | exact Below.refl _ _ | apply Below.al | apply Below.drewN' | apply Below.drew | (apply Below.tr; assumption))), hid (by rw [H.out, HS.out]; omega)⟩
      case measure => simp [intOf]; omega
    · have HE : Hid (sumZ xs = a) := hid (by rw [H.out, List.drop_eq_nil_of_le (by omega)]; simp [sumZ])
      go_wp2
      go_ret
      exact ⟨ret_int HE.out.symm, (by repeat (first | assumption | exact Below.refl _ _ | apply Below.al | apply Below.drewN' | apply Below.drew | (apply Below.tr; assumption)))⟩
set_option maxHeartbeats 1000000 in
theorem specGreatest_any (n : Nat) (A : Option Addr) (c : Nat) (Ls : List (List Int)) (w : World) (h : RL w w.heap.size A Ls) (OK : WOk n Ls) :
    Calls Try.prog 8 #[.slice A Ls.length c] w fun e w' => e = .returned (.tuple #[.int .i64 (tab n Ls 0), .int .i64 0]) ∧ Below w.heap.size w w' := by
  have zS : 0 < 1 <<< n := by rw [Nat.one_shiftLeft]; exact Nat.two_pow_pos n
  go_enter Try.func8, Try.ntmps8
  go_wp2_with (first | (go_at_call 23; refine (l17Ok_any n A c Ls _ h OK).mono ?_; rintro e w1 ⟨rfl, b1⟩) | (go_at_call 24; refine (l17Table_any n A c Ls _ (((h.below b1 (Nat.le_refl _))).more b1.size) OK).mono ?_; rintro e w2 ⟨g, rfl, T, b2⟩; obtain ⟨b, c5, e1, d1, z1, r1⟩ := T.at (i := 0) (Nat.le_refl _) (Nat.zero_le _); have r0 := r1 0 zS; rw [List.drop_zero] at r0; generalize 1 <<< n = S at *; clear r1 T))
  go_ret2
  exact ⟨rfl, Below.tr b2 b1⟩
def PrRes (n : Nat) (Ls : List (List Int)) (w : World) (e : Ending) (w' : World) : Prop := ∃ Ao co As cs, e = .returned (.tuple #[.slice Ao (obsL n Ls).length co, .slice As (prcL n Ls).length cs, .int .i64 0]) ∧ Rd encI 1 w' w'.heap.size Ao (obsL n Ls) ∧ Rd encI 1 w' w'.heap.size As (prcL n Ls) ∧ Below w.heap.size w w'
set_option maxRecDepth 20000 in
set_option maxHeartbeats 2000000 in
theorem prices_any (n : Nat) (A : Option Addr) (c : Nat) (Ls : List (List Int)) (w : World) (h : RL w w.heap.size A Ls) (OK : WOk n Ls) :
    Calls Try.prog 7 #[.slice A Ls.length c] w (PrRes n Ls w) := by
  have m1 := OK.m1; have m2 := OK.m2; have n1 := OK.n1; have n2 := OK.n2
  obtain ⟨i0, hi0, iz0, iz1, iz2⟩ := info_parts (P := Try.prog) (e := 2) (z := .int .i64 0) (size := 1) (bytes := 8) (by kernel_rfl)
  obtain ⟨b, rfl, hbB, hr⟩ := h
  obtain ⟨L0, hL0, lL0, xL0⟩ := OK.at (i := 0) (by omega)
  obtain ⟨A2, c2, e2, _⟩ := hr 0 L0 hL0
  rw [lL0] at e2
  have H : RL w w.heap.size (some ⟨b, 0, none⟩) Ls := ⟨b, rfl, hbB, hr⟩
  have hr := hid hr
  clear hL0 xL0
  obtain ⟨V, hV⟩ : ∃ V, Hid (tab n Ls 0 = V) := ⟨_, rfl⟩
  have V0 := OK.tab_in 0
  rw [hV.out] at V0
  obtain ⟨V0, V1⟩ := V0
  have S1 : 2 ≤ 1 <<< n ∧ 1 <<< n ≤ 16 := by
    have : n = 1 ∨ n = 2 ∨ n = 3 ∨ n = 4 := by omega
    rcases this with rfl | rfl | rfl | rfl <;> decide
  obtain ⟨S, HS⟩ : ∃ S : Nat, Hid (1 <<< n = S) := ⟨_, rfl⟩
  rw [HS.out] at S1
  obtain ⟨S1, S2⟩ := S1
  have CT := fun (W : World) (hW : Below w.heap.size w W) => table_any n (some ⟨b, 0, none⟩) c Ls W ((H.below hW (Nat.le_refl _)).more hW.size) OK
  rw [HS.out] at CT
  have CT := hid CT
  go_enter Try.func7, Try.ntmps7
  go_wp2_with (first | (go_at_call 21; refine (validWorths_any n (some ⟨b, 0, none⟩) c Ls _ H OK).mono ?_; rintro e w1 ⟨rfl, b1⟩) | (go_at_call 22; refine (CT.out _ b1).mono ?_; rintro e w2 ⟨g, rfl, T, b2⟩; obtain ⟨b0, c5, e1, d1, z1, r1⟩ := T.at (i := 0) (Nat.le_refl _) (Nat.zero_le _); have b2' := Below.tr b2 b1; have e2' := ((bcell b2').1 b 0 hbB).trans e2; have zb2 : b < w2.heap.size := (by have := b2'.size; omega); have zb3 : b < w2.heap.size + 1 := (by omega)))
  have zt : g < w2.heap.size := T.z
  have r1 := hid (fun t (ht : t < S) => (r1 t ht).trans (by rw [List.drop_zero]))
  have oS : Hid (((w2.alloc (.cells #[] 2)).alloc (.cells #[] 2)).ownsRow w2.heap.size 2 1 (.slice (some ⟨w2.heap.size, 0, none⟩) 0 0) 0 []) := hid ((own_lit0 w2 _ 1 (Nat.le_refl _)).alloc _)
  have oO : Hid (((w2.alloc (.cells #[] 2)).alloc (.cells #[] 2)).ownsRow w2.heap.size 2 1 (.slice (some ⟨w2.heap.size + 1, 0, none⟩) 0 0) 0 []) := hid (own_lit1 (w2.alloc (.cells #[] 2)) _ 1 (by simp) (by omega))
  have hB : Below w2.heap.size w2 ((w2.alloc (.cells #[] 2)).alloc (.cells #[] 2)) := (by repeat (first | assumption | exact Below.refl _ _ | apply Below.al | apply Below.drewN' | apply Below.drew | (apply Below.tr; assumption)))
  have zB : w2.heap.size + 1 < ((w2.alloc (.cells #[] 2)).alloc (.cells #[] 2)).heap.size := by simp
  clear T e1 d1 b2 b1 e2' e2
  generalize ((w2.alloc (.cells #[] 2)).alloc (.cells #[] 2)) = wA at *
  obtain ⟨bo, hbo⟩ : ∃ bo, w2.heap.size + 1 = bo := ⟨_, rfl⟩
  rw [hbo] at oO zB ⊢
  have z2A := hB.size
  go_loopw [6, 27] (fun vv iv wr => ∃ k : Nat, k ≤ n ∧ iv = .int .i64 k ∧ Below w2.heap.size w2 wr ∧ bo < wr.heap.size ∧ vv.ownBlock ≠ some bo ∧ Hid (wr.ownsRow w2.heap.size 2 1 (.slice (some ⟨bo, 0, none⟩) 0 0) 0 []) ∧ wr.ownsRow w2.heap.size 2 1 vv k (((List.range k).map (prc n Ls)).flatMap encI)) (fun _ iv _ => n - (intOf iv).toNat)
  case atStart => exact ⟨0, Nat.zero_le _, rfl, hB, zB, by simp [Value.ownBlock]; omega, oO, oS.out⟩
  case round =>
    clear oO oS zB
    obtain ⟨k, hk, rfl, hb, zbo, ne, oO, O⟩ := hrel
    obtain ⟨Ar, cr, rfl⟩ := own_shape O
    have O := hid O
    have z2 := hb.size
    by_cases hlt : k < n
    · obtain ⟨K, hK, hw2, hw3, hKS⟩ : ∃ K : Nat, 1 <<< k = K ∧ wrap64 (2 ^ k) = (K : Int) ∧ IntKind.i64.wrap (2 ^ k) = (K : Int) ∧ K < S := by
        have t2 := or_bit_lt (n := n) (told := 0) (k := k) (by rw [HS.out]; omega) hlt
        rw [HS.out, Nat.zero_or] at t2
        exact ⟨1 <<< k, rfl, wrap_2pow (by omega), (wrap64_i64 _).trans (wrap_2pow (by omega)), t2⟩
      obtain ⟨U, hU⟩ : ∃ U, Hid (tab n Ls K = U) := ⟨_, rfl⟩
      have U0 := OK.tab_in K
      rw [hU.out] at U0
      obtain ⟨U0, U1⟩ := U0
      have y0 := ((bcell hb).1 b0 0 z1).trans (r1.out 0 (by omega))
      have y1 := ((bcell hb).1 b0 K z1).trans (r1.out K hKS)
      rw [hV.out] at y0
      rw [hU.out] at y1
      have HP : Hid (prc n Ls k = V - U) := hid (by unfold prc; rw [hK, hV.out, hU.out])
      have ag : (Value.slice Ar k cr).ownBlock ≠ some b0 := fun hx => by have := (O.out.lt b0 hx).1; omega
      have zb0 : b0 < wr.heap.size := by omega
      clear hK
      have ib0 : (0 : Int) < (S : Int) := Int.ofNat_lt.2 (Nat.lt_of_lt_of_le (by decide) S1)
      have ib1 : (K : Int) < (S : Int) := Int.ofNat_lt.2 hKS
      have ib2 : 0 < S := Nat.lt_of_lt_of_le (by decide) S1
      go_wp2
      go_region_held3 (fun w' => w'.cell? ⟨b0, 0, none⟩ = some (.int .i64 V) ∧ w'.cell? ⟨b0, K, none⟩ = some (.int .i64 U)) (first | go_keep | (go_split_ands; refine ⟨?_, ?_⟩ <;> (rw [growA.cell_far _ (by simp; omega) (Ne.symm ag)]; assumption)))
        ((refine step_append_lies _ (by rfl) _ _ _ (by rfl) w2.heap.size 2 i0 _ 1 8 Try.underlying26 hi0 iz0 iz1 iz2 rfl (by omega) _ k _ (by rfl) ((O.out.alloc _).drew) ⟨wr.heap.size, 0, none⟩ 1 1 [.int .i64 (IntKind.i64.wrap (V - U))] (by rfl) (by rfl) (World.news_of_block (cs := #[.int .i64 (IntKind.i64.wrap (V - U))]) (t := 2) (fr := (0, 0)) (heap_alloc_new wr _)) (by simp [Value.oneCell']) (by omega) (by unfold maxLen; omega) (by omega) (by simp; omega) (wr.heap.size + 1) (by simp) ?_; intro gA capA wC ownA growA atA ltA))
      have k4 : IntKind.i64.wrap (V - U) = V - U := IntWalk.i64_in _ ⟨by omega, by omega⟩
      rw [k4] at ownA
      have O1 := hid (((oO.out.alloc (.cells #[.int .i64 (IntKind.i64.wrap (V - U))] 2)).drew).kept growA (.inr (fun e => ne e.symm)))
      have B1 := (hb.alloc z2 (.cells #[.int .i64 (IntKind.i64.wrap (V - U))] 2)).drew.grown growA (by simp; omega) (fun x hx => (O.out.lt x hx).1)
      have zz := growA.size
      simp at zz
      have ne1 : gA ≠ bo := by
        rcases atA with h | h
        · rw [h] at ne; simpa using ne
        · omega
      have HL : Hid ((List.range (k + 1)).map (prc n Ls) = (List.range k).map (prc n Ls) ++ [V - U]) := hid (by rw [List.range_succ, List.map_append, ← HP.out]; rfl)
      have OA := hid ownA
      clear ownA growA atA k4 oO
      go_wp2
      go_roundw
      case rel => exact ⟨k + 1, by omega, by go_num, B1, by omega, by simp [Value.ownBlock]; exact ne1, O1, by rw [HL.out]; simpa [encI] using OA.out⟩
      case measure => simp [intOf]; omega
    · obtain rfl : k = n := by omega
      obtain ⟨sb, rfl, zs1, zs2⟩ := own_form O.out (by omega)
      have nes : sb ≠ bo := by simpa [Value.ownBlock] using ne
      have OS := O
      clear O ne
      go_wp2
      go_loopw [7, 45] (fun vv iv wr => ∃ i : Nat, i ≤ Ls.length ∧ iv = .int .i64 i ∧ Below w2.heap.size w2 wr ∧ vv.ownBlock ≠ some sb ∧ Hid (wr.ownsRow w2.heap.size 2 1 (.slice (some ⟨sb, 0, none⟩) k cr) k (((List.range k).map (prc k Ls)).flatMap encI)) ∧ wr.ownsRow w2.heap.size 2 1 vv i (((List.range i).map (obs k Ls)).flatMap encI)) (fun _ iv _ => Ls.length - (intOf iv).toNat)
      case atStart => exact ⟨0, Nat.zero_le _, rfl, hb, by simp [Value.ownBlock]; exact fun e => nes e.symm, OS, oO.out⟩
      case round =>
        clear OS oO hb zbo z2 zs2
        obtain ⟨i, hi, rfl, hb, ne, OS, O⟩ := hrel
        obtain ⟨Ao, co, rfl⟩ := own_shape O
        have O := hid O
        have z2 := hb.size
        have BW : Below w.heap.size w wr := b2'.trans (hb.mono b2'.size)
        by_cases hlt : i < Ls.length
        · obtain ⟨L, hL, lL, xL⟩ := OK.at hlt
          obtain ⟨A1, c1', e3, rL⟩ := hr.out i L hL
          have e3 := ((bcell BW).1 b i hbB).trans e3
          rw [lL] at e3
          have hL := hid hL
          have xL := hid xL
          have HM0 : Hid ((0 : Int) = mx (fun j => wnum Ls i j - prc k Ls j) 0) := hid rfl
          have MX := hid (OK.mx_in i)
          have PX := hid OK.prc_in
          go_wp2
          obtain ⟨wm, rfl⟩ : ∃ wm, wm = wr := ⟨_, rfl⟩
          go_loopw [11, 51] (fun pv iv wr => ∃ (j : Nat) (v : Int), j ≤ k ∧ iv = .int .i64 j ∧ pv = .int .i64 v ∧ Hid (v = mx (fun j => wnum Ls i j - prc k Ls j) j) ∧ Below wm.heap.size wm wr) (fun _ iv _ => k - (intOf iv).toNat)
          case atStart => exact ⟨0, 0, Nat.zero_le _, rfl, rfl, HM0, (by repeat (first | assumption | exact Below.refl _ _ | apply Below.al | apply Below.drewN' | apply Below.drew | (apply Below.tr; assumption)))⟩
          case round =>
            obtain ⟨j, v, hj, rfl, rfl, HV, hb3⟩ := hrel
            by_cases hj' : j < k
            · obtain ⟨x, hx⟩ := getx (xs := L) (k := j) (by omega)
              obtain ⟨x0, x1⟩ := xL.out j x hx
              have BW3 : Below w.heap.size w wr := Below.tr hb3 BW
              obtain ⟨ba, oa, rfl, zba, q0⟩ := (rL.below BW3 (Nat.le_refl _)).at1 hx rfl
              obtain ⟨pz, hpz⟩ : ∃ pz, Hid (prc k Ls j = pz) := ⟨_, rfl⟩
              have p0 := PX.out j
              rw [hpz.out] at p0
              obtain ⟨p0, p1⟩ := p0
              have q1 : wr.cell? ⟨sb, j, none⟩ = some (.int .i64 pz) := by
                rw [(own_below OS.out hb3 (Nat.le_refl _)).cellAt j (by omega), fI_at (show ((List.range k).map (prc k Ls))[j]? = some pz by simp [hj', hpz.out])]
              obtain ⟨v0, v1⟩ := MX.out j
              rw [← HV.out] at v0 v1
              have HN : Hid (mx (fun j => wnum Ls i j - prc k Ls j) (j + 1) = max v (x - pz)) := hid (by
                show max (mx (fun j => wnum Ls i j - prc k Ls j) j) (wnum Ls i j - prc k Ls j) = _
                rw [← HV.out, hpz.out]
                congr 2
                unfold wnum
                rw [List.getD_eq_getElem?_getD, List.getD_eq_getElem?_getD, hL.out, Option.getD_some, hx]; rfl)
              clear hx
              go_wp2
              go_roundw
              case rel => exact ⟨j + 1, if v < x - pz then x - pz else v, by omega, by go_num, by first | rfl | go_num, hid (by rw [HN.out, Int.max_def]; split <;> split <;> omega), hb3⟩
              case measure => simp [intOf]; omega
            · obtain rfl : j = k := by omega
              have HO : Hid ((List.range (i + 1)).map (obs j Ls) = (List.range i).map (obs j Ls) ++ [v]) := hid (by rw [List.range_succ, List.map_append, HV.out]; rfl)
              have hb4 : Below w2.heap.size w2 wr := Below.tr hb3 hb
              have z4 := hb4.size
              have OS4 := hid (own_below OS.out hb3 (Nat.le_refl _))
              have O4 := hid (own_below O.out hb3 (Nat.le_refl _))
              have zs4 : sb < wr.heap.size := (OS4.out.lt sb rfl).2
              go_wp2_with (at_builtin; go_must (refine wpList_append_own_at _ rfl _ _ 26 rfl (w2.heap.size) 2 i0 _ 1 8 Try.underlying26 hi0 iz0 iz1 iz2 rfl (by decide) _ _ _ rfl (O4.out.alloc _) ⟨(wr).heap.size, 0, none⟩ 1 1 [.int .i64 v] rfl rfl (news_at wr [.int .i64 v] 2) (by simp [Value.oneCell']) (by unfold maxLen; omega) (by omega) (by first | omega | (simp; done) | (simp; omega)) ?_); intro v8 w8 own_w8 grow_w8 _ at_w8)
              have ne8 := grow_ne at_w8 ne zs4
              have OS8 := hid ((OS4.out.alloc (.cells #[.int .i64 v] 2)).kept grow_w8 (.inr (fun e => ne e.symm)))
              go_roundw
              case rel => exact ⟨i + 1, by omega, by go_num, Below.ap hb4 hb4.size O4.out (Nat.le_refl _) grow_w8, ne8, OS8, by rw [HO.out]; simpa [encI] using own_w8⟩
              case measure => simp [intOf]; omega
        · obtain rfl : i = Ls.length := by omega
          go_wp2
          go_ret3
          have RO : Rd encI 1 wr wr.heap.size Ao (obsL k Ls) := rd_of_own (c := co) (fun _ => rfl) (by rw [obsL_len]; exact O.out)
          have RS : Rd encI 1 wr wr.heap.size (some ⟨sb, 0, none⟩) (prcL k Ls) := rd_of_own (c := cr) (fun _ => rfl) (by rw [prcL_len]; exact OS.out)
          exact ⟨Ao, co, some ⟨sb, 0, none⟩, cr, by rw [obsL_len, prcL_len]; rfl, RO, RS, BW⟩
end Go.Proofs.Yticamdaicbgdlaa
