/- Plain laws of rising lists; contract: a number put to its place, in the reference. -/
import Derived.Test.YtalongdieglibaaCGrow
import Derived.Test.YtalongdieglibaaC1
import Derived.Deep.RegionHeld3
import Derived.BigRegion
namespace Go.Proofs.Ytalongdieglibaa
open Go.RowKit
set_option linter.unusedVariables false
/-- Rising lists with the same members are equal. -/
theorem rise_eq : ∀ {xs ys : List Int}, xs.Pairwise (fun a b => a < b) → ys.Pairwise (fun a b => a < b) → (∀ n, n ∈ xs ↔ n ∈ ys) → xs = ys
  | [], [], _, _, _ => rfl
  | [], y :: ys, _, _, h => absurd ((h y).2 (List.mem_cons_self)) (by simp)
  | x :: xs, [], _, _, h => absurd ((h x).1 (List.mem_cons_self)) (by simp)
  | x :: xs, y :: ys, h1, h2, h => by
    rw [List.pairwise_cons] at h1 h2
    have e : x = y := by
      have a := (h x).1 (List.mem_cons_self)
      have b := (h y).2 (List.mem_cons_self)
      rcases List.mem_cons.1 a with a | a
      · exact a
      · rcases List.mem_cons.1 b with b | b
        · exact b.symm
        · have := h1.1 y b; have := h2.1 x a; omega
    subst e
    rw [rise_eq h1.2 h2.2 (fun n => by
      constructor
      · intro hn
        rcases List.mem_cons.1 ((h n).1 (List.mem_cons_of_mem _ hn)) with e | e
        · have := h1.1 n hn; omega
        · exact e
      · intro hn
        rcases List.mem_cons.1 ((h n).2 (List.mem_cons_of_mem _ hn)) with e | e
        · have := h2.1 n hn; omega
        · exact e)]
/-- A number put to its place among rising ones, once. -/
def putS : List Int → Int → List Int
  | [], n => [n]
  | x :: r, n => if n ≤ x then (if n < x then n :: x :: r else x :: r) else x :: putS r n
theorem putS_mem : ∀ (L : List Int) (n m : Int), m ∈ putS L n ↔ m = n ∨ m ∈ L
  | [], n, m => by simp [putS]
  | x :: r, n, m => by
    unfold putS
    split
    · split
      · simp
      · have : n = x := by omega
        subst this
        simp
    · rw [List.mem_cons, putS_mem r n m, List.mem_cons]
      constructor
      · rintro (h | h | h)
        · exact .inr (.inl h)
        · exact .inl h
        · exact .inr (.inr h)
      · rintro (h | h | h)
        · exact .inr (.inl h)
        · exact .inl h
        · exact .inr (.inr h)
theorem putS_rise : ∀ {L : List Int} {n : Int}, L.Pairwise (fun a b => a < b) → (putS L n).Pairwise (fun a b => a < b)
  | [], n, _ => by simp [putS]
  | x :: r, n, h => by
    rw [List.pairwise_cons] at h
    unfold putS
    split
    · split
      · rw [List.pairwise_cons, List.pairwise_cons]
        refine ⟨fun y hy => ?_, h.1, h.2⟩
        rcases List.mem_cons.1 hy with e | e
        · omega
        · have := h.1 y e; omega
      · rw [List.pairwise_cons]; exact h
    · rw [List.pairwise_cons]
      refine ⟨fun y hy => ?_, putS_rise h.2⟩
      rcases (putS_mem r n y).1 hy with e | e
      · omega
      · exact h.1 y e
theorem putS_len : ∀ (L : List Int) (n : Int), (putS L n).length ≤ L.length + 1
  | [], n => by simp [putS]
  | x :: r, n => by
    have := putS_len r n
    unfold putS
    split
    · split <;> simp
    · simp; omega
set_option maxRecDepth 20000 in
set_option maxHeartbeats 2000000 in
theorem l00Put_any (Ad : Option Addr) (c : Nat) (xs : List Int) (n : Int) (w : World) (h : Rd encI 1 w w.heap.size Ad xs) (hn : xs.length ≤ 1048576) :
    Calls Try.prog 47 #[.slice Ad xs.length c, .int .i64 n] w (OwnRes 2 1 encI (putS xs n) w) := by
  obtain ⟨i0, hi0, iz0, iz1, iz2⟩ := info_parts (P := Try.prog) (e := 2) (z := .int .i64 0) (size := 1) (bytes := 8) (by kernel_rfl)
  go_enter Try.func47, Try.ntmps47
  go_wp2
  go_loopw [5, 6, 7] (fun v d i wr => ∃ (k : Nat) (zs : List Int) (dd : Bool), k ≤ xs.length ∧ i = .int .i64 k ∧ d = .bool dd ∧ zs.length ≤ k + 1 ∧ (dd = false → zs.length ≤ k) ∧ Below w.heap.size w wr ∧ wr.ownsRow w.heap.size 2 1 v zs.length (zs.flatMap encI) ∧ Hid (zs ++ (if dd then xs.drop k else putS (xs.drop k) n) = putS xs n)) (fun _ _ i _ => xs.length - (intOf i).toNat)
  case atStart => exact ⟨0, [], false, Nat.zero_le _, rfl, rfl, by simp, by simp, (by repeat (first | assumption | exact Below.refl _ _ | apply Below.al | apply Below.drewN' | apply Below.drew | (apply Below.tr; assumption))), own_lit0 _ _ _ (Nat.le_refl _), hid rfl⟩
  case round =>
    obtain ⟨k, zs, dd, hk, rfl, rfl, hz1, hz2, hb, hown, HE⟩ := hrel
    by_cases hlt : k < xs.length
    · obtain ⟨p, hp⟩ := getx hlt
      obtain ⟨b, o, rfl, hbB, c0⟩ := (h.below hb (Nat.le_refl _)).at1 hp rfl
      have hsz := hb.size
      have HD : Hid (xs.drop k = p :: xs.drop (k+1)) := hid (by rw [List.drop_eq_getElem_cons hlt]; rw [(List.getElem?_eq_some_iff.1 hp).2])
      have H0 := hid hown
      clear hown hp
      cases dd
      · have hz3 := hz2 rfl
        clear hz2
        by_cases h1 : n ≤ p
        · by_cases h2 : n < p
          · go_wp2_with (first | ((at_builtin; (refine wpList_append_own _ rfl _ _ 36 rfl (w.heap.size) 2 i0 _ 1 8 Try.underlying36 hi0 iz0 iz1 iz2 rfl (by decide) _ _ _ rfl (H0.out.alloc _) ⟨(wr).heap.size, 0, none⟩ 1 1 [.int .i64 n] rfl rfl (news_at wr [.int .i64 n] 2) (by simp [Value.oneCell']) (by unfold maxLen; omega) (by omega) (by first | omega | (simp; done) | (simp; omega)) ?_); intro vw2 w2 own_w2 grow_w2 _); have hb2 := Below.ap hb hb.size H0.out (Nat.le_refl _) grow_w2; have hzz := hb2.size; have c2 := ((bcell hb2).1 _ (o+k) hbB).trans (((bcell hb).1 _ _ hbB).symm.trans c0); have O2 := hid own_w2; clear own_w2 grow_w2) | (at_builtin; go_must (refine wpList_append_own _ rfl _ _ 36 rfl (w.heap.size) 2 i0 _ 1 8 Try.underlying36 hi0 iz0 iz1 iz2 rfl (by decide) _ _ _ rfl (O2.out.alloc _) ⟨(w2).heap.size, 0, none⟩ 1 1 [.int .i64 p] rfl rfl (news_at w2 [.int .i64 p] 2) (by simp [Value.oneCell']) (by unfold maxLen; omega) (by omega) (by first | omega | (simp; done) | (simp; omega)) ?_); intro vw3 w3 own_w3 grow_w3 _))
            have hb3 := Below.ap hb2 hb2.size O2.out (Nat.le_refl _) grow_w3
            go_roundw
            case rel => exact ⟨k + 1, zs ++ [n, p], true, by omega, by go_num, rfl, by simp; omega, by simp, hb3, by simpa [encI] using own_w3, hid (by have := HE.out; rw [HD.out] at this; simpa [putS, h1, h2] using this)⟩
            case measure => simp [intOf]; omega
          · go_wp2_with (at_builtin; go_must (refine wpList_append_own _ rfl _ _ 36 rfl (w.heap.size) 2 i0 _ 1 8 Try.underlying36 hi0 iz0 iz1 iz2 rfl (by decide) _ _ _ rfl (H0.out.alloc _) ⟨(wr).heap.size, 0, none⟩ 1 1 [.int .i64 p] rfl rfl (news_at wr [.int .i64 p] 2) (by simp [Value.oneCell']) (by unfold maxLen; omega) (by omega) (by first | omega | (simp; done) | (simp; omega)) ?_); intro vw3 w3 own_w3 grow_w3 _)
            have hb3 := Below.ap hb hb.size H0.out (Nat.le_refl _) grow_w3
            go_roundw
            case rel => exact ⟨k + 1, zs ++ [p], true, by omega, by go_num, rfl, by simp; omega, by simp <;> omega, hb3, by simpa [encI] using own_w3, hid (by have := HE.out; rw [HD.out] at this; simpa [putS, h1, h2] using this)⟩
            case measure => simp [intOf]; omega
        · go_wp2_with (at_builtin; go_must (refine wpList_append_own _ rfl _ _ 36 rfl (w.heap.size) 2 i0 _ 1 8 Try.underlying36 hi0 iz0 iz1 iz2 rfl (by decide) _ _ _ rfl (H0.out.alloc _) ⟨(wr).heap.size, 0, none⟩ 1 1 [.int .i64 p] rfl rfl (news_at wr [.int .i64 p] 2) (by simp [Value.oneCell']) (by unfold maxLen; omega) (by omega) (by first | omega | (simp; done) | (simp; omega)) ?_); intro vw3 w3 own_w3 grow_w3 _)
          have hb3 := Below.ap hb hb.size H0.out (Nat.le_refl _) grow_w3
          go_roundw
          case rel => exact ⟨k + 1, zs ++ [p], false, by omega, by go_num, rfl, by simp; omega, by simp <;> omega, hb3, by simpa [encI] using own_w3, hid (by have := HE.out; rw [HD.out] at this; simpa [putS, h1] using this)⟩
          case measure => simp [intOf]; omega
      · go_wp2_with (at_builtin; go_must (refine wpList_append_own _ rfl _ _ 36 rfl (w.heap.size) 2 i0 _ 1 8 Try.underlying36 hi0 iz0 iz1 iz2 rfl (by decide) _ _ _ rfl (H0.out.alloc _) ⟨(wr).heap.size, 0, none⟩ 1 1 [.int .i64 p] rfl rfl (news_at wr [.int .i64 p] 2) (by simp [Value.oneCell']) (by unfold maxLen; omega) (by omega) (by first | omega | (simp; done) | (simp; omega)) ?_); intro vw3 w3 own_w3 grow_w3 _)
        have hb3 := Below.ap hb hb.size H0.out (Nat.le_refl _) grow_w3
        go_roundw
        case rel => exact ⟨k + 1, zs ++ [p], true, by omega, by go_num, rfl, by simp; omega, by simp <;> omega, hb3, by simpa [encI] using own_w3, hid (by have := HE.out; rw [HD.out] at this; simpa using this)⟩
        case measure => simp [intOf]; omega
    · obtain rfl : k = xs.length := by omega
      have H0 := hid hown
      clear hown
      cases dd
      · have hz3 := hz2 rfl
        clear hz2
        have hsz := hb.size
        go_wp2_with (at_builtin; go_must (refine wpList_append_own _ rfl _ _ 36 rfl (w.heap.size) 2 i0 _ 1 8 Try.underlying36 hi0 iz0 iz1 iz2 rfl (by decide) _ _ _ rfl (H0.out.alloc _) ⟨(wr).heap.size, 0, none⟩ 1 1 [.int .i64 n] rfl rfl (news_at wr [.int .i64 n] 2) (by simp [Value.oneCell']) (by unfold maxLen; omega) (by omega) (by first | omega | (simp; done) | (simp; omega)) ?_); intro vw2 w2 own_w2 grow_w2 _)
        have hb2 := Below.ap hb hb.size H0.out (Nat.le_refl _) grow_w2
        obtain ⟨A2, c2, rfl⟩ := own_shape own_w2
        have HE2 : Hid (zs ++ [n] = putS xs n) := hid (by have := HE.out; simpa [putS] using this)
        have O2 : Hid (w2.ownsRow w.heap.size 2 1 (.slice A2 (zs.length + 1) c2) (zs.length + 1) ((zs ++ [n]).flatMap encI)) := hid (by simpa [encI] using own_w2)
        clear own_w2 grow_w2
        go_wp2
        go_ret
        exact ⟨A2, c2, by rw [← HE2.out]; simp, by rw [← HE2.out]; simpa using O2.out, hb2⟩
      · obtain ⟨A2, c2, rfl⟩ := own_shape H0.out
        have HE2 : Hid (zs = putS xs n) := hid (by have := HE.out; simpa using this)
        go_wp2
        go_ret
        exact ⟨A2, c2, by rw [← HE2.out]; rfl, by rw [← HE2.out]; exact H0.out, hb⟩
end Go.Proofs.Ytalongdieglibaa
