/- Contract: numbers sorted by putting each to its place, in the reference. -/
import Derived.Test.YtfohoidbiiipgaaC21o
import Derived.Test.YtfohoidbiiipgaaCCopy
import Derived.Deep.RegionHeld3
import Derived.Deep.AppendLies
namespace Go.Proofs.Ytfohoidbiiipgaa
open Go.RowKit
set_option linter.unusedVariables false
set_option maxHeartbeats 1000000 in
theorem l00Own_any (A : Option Addr) (c : Nat) (xs : List Int) (w : World) (h : Rd encI 1 w w.heap.size A xs) (hn : xs.length ≤ 1048576) (hz : A = none → c = 0) :
    Calls Try.prog 31 #[.slice A xs.length c] w (OwnRes 2 1 encI xs w) := by
  obtain ⟨i0, hi0, iz0, iz1, iz2⟩ := info_parts (P := Try.prog) (e := 2) (z := .int .i64 0) (size := 1) (bytes := 8) (by kernel_rfl)
  have h2 : Rd encI 1 (w.alloc (.cells #[] 2)) (World.heap (w.alloc (.cells #[] 2))).size A xs := (h.below (B' := w.heap.size) (by repeat (first | assumption | exact Below.refl _ _ | apply Below.al | apply Below.drewN' | apply Below.drew | (apply Below.tr; assumption))) (Nat.le_refl _)).more (by simp)
  have o0 := own_lit0 w 2 1 (lo := w.heap.size) (Nat.le_refl _)
  go_enter Try.func31, Try.ntmps31
  go_wp2_with (at_builtin; go_must (refine wpList_append_rd rfl _ _ 22 rfl (w.heap.size) 2 i0 _ 1 8 Try.underlying22 hi0 iz0 iz1 iz2 rfl (by decide) _ 0 _ rfl (o0) _ (xs.length) _ ((xs).flatMap encI) rfl (rd_n0 (h2) (hz)) (flat_len (k := 1) (fun _ => rfl) _) (rd_flat' (k := 1) (fun _ => rfl) (by decide) (h2)) (flat_one (by simp [encI, Value.oneCell']) _) (by unfold maxLen; omega) (by omega) (by first | omega | (simp; done) | (simp; omega)) ?_); intro v2 w2 own_w2 grow_w2 at_w2)
  obtain ⟨Ar, cr, rfl⟩ := own_shape own_w2
  have hb := Below.gr (v := .slice (some ⟨w.heap.size, 0, none⟩) 0 0) (Below.al (Below.refl w.heap.size w) (.cells #[] 2)) (by simp) o0 (Nat.le_refl _) grow_w2
  rw [Nat.zero_add, List.nil_append] at own_w2
  go_ret
  exact ⟨Ar, cr, by simp, own_w2, hb⟩
theorem rd_take {α : Type} {enc : α → List Value} {k B : Nat} {w : World} {A : Option Addr} {xs : List α} (h : Rd enc k w B A xs) (n : Nat) : Rd enc k w B A (xs.take n) := fun hx => by
  have hne : xs ≠ [] := by rintro rfl; simp at hx
  obtain ⟨b, o, h1, h2, h3⟩ := h hne
  refine ⟨b, o, h1, h2, fun i x hi j v hj => ?_⟩
  have : i < n := by
    have := (List.getElem?_eq_some_iff.1 hi).1
    rw [List.length_take] at this; omega
  rw [List.getElem?_take_of_lt this] at hi
  exact h3 i x hi j v hj
theorem rd_drop {w : World} {B g : Nat} {xs : List Int} (h : Rd encI 1 w B (some ⟨g, 0, none⟩) xs) (n : Nat) : Rd encI 1 w B (some ⟨g, n, none⟩) (xs.drop n) := fun hx => by
  have hne : xs ≠ [] := by rintro rfl; simp at hx
  obtain ⟨b, o, h1, h2, h3⟩ := h hne
  cases h1
  refine ⟨g, n, rfl, h2, fun i x hi j v hj => ?_⟩
  rw [List.getElem?_drop] at hi
  have := h3 (n + i) x hi j v hj
  rw [show n + i * 1 + j = 0 + (n + i) * 1 + j from by omega]
  exact this
theorem own_lt8 {w : World} {lo n : Nat} {v : Value} {e : TypeId} {size : Nat} {ys : List Value} (h : w.ownsRow lo e size v n ys) {g : Nat} (hg : g < lo) : v.ownBlock ≠ some g := fun hx => by
  have := (h.lt _ hx).1; omega
theorem le_of_take {L : List Int} {k : Nat} {q x : Int} (so : L.Pairwise (fun a b => a ≤ b)) (hq : L[k-1]? = some q) (hk : 0 < k) (h : q ≤ x) : ∀ y ∈ L.take k, y ≤ x := fun y hy => by
  obtain ⟨j, hj⟩ := List.mem_iff_getElem?.1 hy
  have hjk : j < k := by
    have := (List.getElem?_eq_some_iff.1 hj).1
    rw [List.length_take] at this; omega
  rw [List.getElem?_take_of_lt hjk] at hj
  rcases Nat.lt_or_ge j (k - 1) with hlt | hge
  · obtain ⟨h1, rfl⟩ := List.getElem?_eq_some_iff.1 hj
    obtain ⟨h2, rfl⟩ := List.getElem?_eq_some_iff.1 hq
    have := List.pairwise_iff_getElem.1 so j (k-1) h1 h2 hlt
    omega
  · obtain rfl : j = k - 1 := by omega
    rw [hj] at hq; cases hq; exact h
set_option maxRecDepth 20000 in
set_option maxHeartbeats 4000000 in
theorem l02Sort_any (A : Option Addr) (c : Nat) (xs : List Int) (w : World) (h : Rd encI 1 w w.heap.size A xs) (hn : xs.length ≤ 1000) :
    Calls Try.prog 36 #[.slice A xs.length c] w (OwnRes 2 1 encI (srt xs) w) := by
  obtain ⟨i0, hi0, iz0, iz1, iz2⟩ := info_parts (P := Try.prog) (e := 2) (z := .int .i64 0) (size := 1) (bytes := 8) (by kernel_rfl)
  go_enter Try.func36, Try.ntmps36
  go_wp2
  go_loopw [3, 4] (fun vv i wr => ∃ (n g cr : Nat) (L : List Int), n ≤ xs.length ∧ L.length = n ∧ i = .int .i64 n ∧ vv = .slice (some ⟨g, 0, none⟩) n cr ∧ Below w.heap.size w wr ∧ Hid (L.Pairwise (fun a b => a ≤ b)) ∧ Hid (L.Perm (xs.take n)) ∧ Hid (wr.ownsRow w.heap.size 2 1 (.slice (some ⟨g, 0, none⟩) n cr) n (L.flatMap encI))) (fun _ i _ => xs.length - (intOf i).toNat)
  case atStart => exact ⟨0, w.heap.size, 0, [], Nat.zero_le _, rfl, rfl, rfl, (by repeat (first | assumption | exact Below.refl _ _ | apply Below.al | apply Below.drewN' | apply Below.drew | (apply Below.tr; assumption))), hid (by simp), hid (by simp), hid (own_lit0 w 2 1 (Nat.le_refl _))⟩
  case round =>
    obtain ⟨n, g, cr, L, hk, hL, rfl, rfl, hb, SO, PE, OW⟩ := hrel
    have hsz := hb.size
    have hcap := own_cap OW.out
    have hg := OW.out.lt g rfl
    by_cases hlt : n < xs.length
    · obtain ⟨x, hx⟩ := getx hlt
      obtain ⟨bl, ol, rfl, hbB, c0⟩ := (h.below hb (Nat.le_refl _)).at1 hx rfl
      have ro : Rd encI 1 wr wr.heap.size (some ⟨g, 0, none⟩) L := by
        have o := OW.out
        subst hL
        exact rd_of_own (enc := encI) (k := 1) (fun _ => rfl) o
      have HLn := hid hL
      have HX := hid hx
      have b0 : bl < wr.heap.size := by omega
      have hng : ¬ bl = g := by omega
      clear hL hx
      go_wp2
      obtain ⟨w0, rfl⟩ : ∃ w0, w0 = wr := ⟨_, rfl⟩
      go_loopw [5] (fun kv wr => ∃ k : Nat, k ≤ n ∧ kv = .int .i64 k ∧ Below w0.heap.size w0 wr ∧ Hid (∀ y ∈ L.drop k, x < y)) (fun kv _ => (intOf kv).toNat)
      case atStart => exact ⟨n, Nat.le_refl _, rfl, Below.refl _ _, hid (by rw [List.drop_eq_nil_of_le (by have := HLn.out; omega)]; simp)⟩
      case round =>
        obtain ⟨k, hkn, rfl, hb2, GT⟩ := hrel
        have hz2 := hb2.size
        have d0 := ((bcell hb2).1 bl _ b0).trans c0
        have b1 : bl < wr.heap.size := by omega
        have b2 : g < wr.heap.size := by omega
        by_cases hk0 : 0 < k
        · obtain ⟨q, hq⟩ : ∃ q, L[k-1]? = some q := getx (by have := HLn.out; omega)
          obtain ⟨_, _, ee, _, e0⟩ := (ro.below hb2 (Nat.le_refl _)).at1 hq rfl
          simp at ee; obtain ⟨rfl, rfl⟩ := ee
          rw [Nat.zero_add] at e0
          have hd : decide (0 < (k : Int)) = true := by simp; omega
          have hd2 : decide (0 < k) = true := by simpa using hk0
          have hkn1 : k - 1 < n := by omega
          have HQ := hid hq
          clear hq
          by_cases hqx : x < q
          · have hqx' : decide (x < q) = true := by simpa using hqx
            go_wp2
            refine wp_region_ext (by kernel_rfl) (by kernel_rfl) ?_
            repeat (go_big_quiet_step ((first | fail)))
            refine wpQuiet_nil ?_
            intro w3 hb3
            obtain ⟨hc_w3, hf_w3⟩ := bcell hb3
            have hz_w3 := hb3.size
            have hb3' := Below.tr hb3 hb2
            go_wp2
            go_roundw
            case rel => exact ⟨k - 1, by omega, by go_num, hb3', hid (fun y hy => by rw [dropx HQ.out, show k - 1 + 1 = k from by omega] at hy; rcases List.mem_cons.1 hy with h | h; (subst h; exact hqx); (exact GT.out y h))⟩
            case measure => simp [intOf]; omega
          · have hqx' : decide (x < q) = false := by simpa using hqx
            go_wp2
            refine wp_region_ext (by kernel_rfl) (by kernel_rfl) ?_
            repeat (go_big_quiet_step ((first | fail)))
            refine wpQuiet_nil ?_
            intro w3 hb3
            obtain ⟨hc_w3, hf_w3⟩ := bcell hb3
            have hz_w3 := hb3.size
            have hb3' := Below.tr hb3 hb2
            have LE := hid (le_of_take SO.out HQ.out hk0 (by omega : q ≤ x))
            clear hqx hqx' hd hd2 e0 HQ hkn1
            go_wp2
            have d3 := (hc_w3 bl _ b1).trans d0
            have b3 : bl < w3.heap.size := by omega
            have hlk : (L.take k).length = k := by have := HLn.out; rw [List.length_take]; omega
            have hld : (L.drop k).length = n - k := by have := HLn.out; rw [List.length_drop]; omega
            have ro3 := (ro.below hb3' (Nat.le_refl _)).more hb3'.size
            have rt := rd_take ro3 k
            have CO : ∀ W, Below w3.heap.size w3 W → Calls Try.prog 31 #[.slice (some ⟨g, 0, none⟩) k cr] W fun e w' => ∃ A5 c5, e = .returned (.slice A5 k c5) ∧ w'.ownsRow W.heap.size 2 1 (.slice A5 k c5) k ((L.take k).flatMap encI) ∧ Below W.heap.size W w' := fun W hW => by
              have CC := l00Own_any (some ⟨g, 0, none⟩) cr (L.take k) W ((rt.below hW (Nat.le_refl _)).more hW.size) (by omega) (fun e => by cases e)
              unfold OwnRes at CC
              rw [hlk] at CC
              exact CC
            have HB3 := hid (Below.tr hb3' hb)
            have HLD := hid hld
            have HLK := hid hlk
            have zw3 := (Below.tr hb3' hb).size
            have s1 : (0 : Int) ≤ (k : Int) := by omega
            have s2 : (k : Int) ≤ (n : Int) := by omega
            have s3 : (k : Int) ≤ (cr : Int) := by omega
            have s4 : k ≤ cr := by omega
            clear hc_w3 hf_w3 d0 rt hlk hld hb3 hb2 hb3'
            go_region_held3 (fun w' => w'.cell? ⟨bl, ol + n, none⟩ = some (.int .i64 x)) (first | go_keep | (rw [hgrow.cell_far _ (by simp; omega) (Ne.symm (own_lt8 own5 (by simp; omega)))]; assumption))
              ((first | (go_at_call 31; refine (CO _ (by repeat (first | exact Below.refl _ _ | apply Below.al | apply Below.drew))).mono ?_; rintro e w5 ⟨A5, c5, rfl, own5, hb5⟩; have x5 : w5.cell? ⟨bl, ol + n, none⟩ = some (.int .i64 x) := ((bcell hb5).1 bl _ (by simp; omega)).trans (by first | assumption | simpa using d3); have zw5 := hb5.size; simp at zw5; have hbw5 : Below w3.heap.size w3 w5 := Below.trans (by repeat (first | exact Below.refl _ _ | apply Below.al | apply Below.drew)) (hb5.mono (by simp))) | (refine step_append_lies _ (by rfl) _ _ _ (by rfl) w3.drew.heap.size 2 i0 _ 1 8 Try.underlying22 hi0 iz0 iz1 iz2 rfl (by omega) _ k _ (by rfl) (own5.alloc _) ⟨w5.heap.size, 0, none⟩ 1 1 [.int .i64 x] (by rfl) (by rfl) (World.news_of_block (cs := #[.int .i64 x]) (t := 2) (fr := (0, 0)) (heap_alloc_new w5 _)) (by simp [Value.oneCell']) (by omega) (by unfold maxLen; omega) (by omega) (by simp; omega) (w5.heap.size + 1) (by simp) ?_; intro gg cap w8 hown8 hgrow hat hlt8; have hb8 : Below w3.heap.size w3 w8 := (hbw5.alloc (by omega) _).grown hgrow (by simp; omega) (fun q hq => by have := (own5.lt q hq).1; simp at this; omega); have hown9 := own_lo (lo' := w3.heap.size) hown8 (by simp)) | (refine step_append_lies _ (by rfl) _ _ _ (by rfl) (w3.heap.size + 1) 2 i0 _ 1 8 Try.underlying22 hi0 iz0 iz1 iz2 rfl (by omega) _ k _ (by rfl) (own_lo own5 (by simp)) ⟨w3.heap.size, 0, none⟩ 1 1 [.int .i64 x] (by rfl) (by rfl) (World.news_of_block (cs := #[.int .i64 x]) (t := 2) (fr := (0, 0)) ((hb5.block w3.heap.size (by simp)).trans (heap_alloc_new w3.drew _))) (by simp [Value.oneCell']) (by omega) (by unfold maxLen; omega) (by omega) (by omega) (w5.heap.size) (by simp) ?_; intro gg cap w8 hown8 hgrow hat hlt8; have hb8 : Below w3.heap.size w3 w8 := hbw5.grown hgrow (by omega) (fun q hq => by have := (own5.lt q hq).1; simp at this; omega); have hown9 := own_lo (lo' := w3.heap.size) hown8 (by simp))))
            all_goals
              have O8 := hid (own_lo (lo' := w.heap.size) hown9 (by omega))
              have rd8 : Rd encI 1 w8 w8.heap.size (some ⟨g, k, none⟩) (L.drop k) := rd_drop ((ro3.below hb8 (Nat.le_refl _)).more hb8.size) k
              have HB8 := hid (HB3.out.trans (hb8.mono (by omega)))
              have zw8 : w.heap.size ≤ w8.heap.size := HB8.out.size
              clear hown8 hown9 hgrow hat hlt8 hb5 hbw5 own5 x5 CO ro3 hb8
              by_cases hck : cr = k
              · have hck3 : k = cr := hck.symm
                subst hck3
                have hdn : L.drop k = [] := List.eq_nil_of_length_eq_zero (by rw [HLD.out]; omega)
                have HDN := hid hdn
                clear hdn
                go_wp2_with (at_builtin; go_must (refine wpList_append_rd rfl _ _ 22 rfl (w.heap.size) 2 i0 _ 1 8 Try.underlying22 hi0 iz0 iz1 iz2 rfl (by decide) _ (k+1) _ rfl O8.out _ 0 _ [] rfl (fun e => by cases e) rfl (fun ad _ j u hj => by simp at hj) (by simp) (by unfold maxLen; omega) (by omega) (by omega) ?_); intro v9 w9 own_w9 grow_w9 at_w9)
                have e9 : k + 1 + 0 = n + 1 := by omega
                rw [e9] at own_w9
                obtain ⟨A9, c9, rfl⟩ := own_shape own_w9
                obtain ⟨g9, rfl, hlo9, hz9⟩ := own_form own_w9 (by omega)
                have hb9 : Below w.heap.size w w9 := Below.gr HB8.out zw8 O8.out (Nat.le_refl _) grow_w9
                have O9 := hid own_w9
                clear own_w9 grow_w9 at_w9 e9
                go_wp2
                go_roundw
                case rel => exact ⟨n + 1, g9, c9, L.take k ++ [x] ++ L.drop k, by omega, by have := HLK.out; have := HLD.out; simp only [List.length_append, List.length_singleton]; omega, by go_num, rfl, hb9, hid (put_sorted SO.out LE.out GT.out), hid ((put_perm L x k).trans (by rw [List.take_add_one, HX.out]; exact PE.out.append_right _)), hid (by rw [HDN.out]; simpa [encI] using O9.out)⟩
                case measure => simp [intOf]; omega
              · have hck2 : ¬ k = cr := fun e => hck e.symm
                go_wp2_with (at_builtin; go_must (refine wpList_append_rd rfl _ _ 22 rfl (w.heap.size) 2 i0 _ 1 8 Try.underlying22 hi0 iz0 iz1 iz2 rfl (by decide) _ (k+1) _ rfl O8.out _ (n - k) _ ((L.drop k).flatMap encI) rfl (fun e => by cases e) (by rw [flat_len (k := 1) (fun _ => rfl), HLD.out]) (rd_flat' (k := 1) (fun _ => rfl) (by decide) rd8) (flat_one (by simp [encI, Value.oneCell']) _) (by unfold maxLen; omega) (by omega) (by omega) ?_); intro v9 w9 own_w9 grow_w9 at_w9)
                have e9 : k + 1 + (n - k) = n + 1 := by omega
                rw [e9] at own_w9
                obtain ⟨A9, c9, rfl⟩ := own_shape own_w9
                obtain ⟨g9, rfl, hlo9, hz9⟩ := own_form own_w9 (by omega)
                have hb9 : Below w.heap.size w w9 := Below.gr HB8.out zw8 O8.out (Nat.le_refl _) grow_w9
                have O9 := hid own_w9
                clear own_w9 grow_w9 at_w9 e9
                go_wp2
                go_roundw
                case rel => exact ⟨n + 1, g9, c9, L.take k ++ [x] ++ L.drop k, by omega, by have := HLK.out; have := HLD.out; simp only [List.length_append, List.length_singleton]; omega, by go_num, rfl, hb9, hid (put_sorted SO.out LE.out GT.out), hid ((put_perm L x k).trans (by rw [List.take_add_one, HX.out]; exact PE.out.append_right _)), hid (by simpa [encI] using O9.out)⟩
                case measure => simp [intOf]; omega
        · have hd : decide (0 < (k : Int)) = false := by simp; omega
          have hd2 : decide (0 < k) = false := by simpa using hk0
          go_wp2
          refine wp_region_ext (by kernel_rfl) (by kernel_rfl) ?_
          repeat (go_big_quiet_step ((first | fail)))
          refine wpQuiet_nil ?_
          intro w3 hb3
          obtain ⟨hc_w3, hf_w3⟩ := bcell hb3
          have hz_w3 := hb3.size
          have hb3' := Below.tr hb3 hb2
          have LE : Hid (∀ y ∈ L.take k, y ≤ x) := hid (by rw [show k = 0 from by omega]; simp)
          clear hd hd2 hk0
          go_wp2
          have d3 := (hc_w3 bl _ b1).trans d0
          have b3 : bl < w3.heap.size := by omega
          have hlk : (L.take k).length = k := by have := HLn.out; rw [List.length_take]; omega
          have hld : (L.drop k).length = n - k := by have := HLn.out; rw [List.length_drop]; omega
          have ro3 := (ro.below hb3' (Nat.le_refl _)).more hb3'.size
          have rt := rd_take ro3 k
          have CO : ∀ W, Below w3.heap.size w3 W → Calls Try.prog 31 #[.slice (some ⟨g, 0, none⟩) k cr] W fun e w' => ∃ A5 c5, e = .returned (.slice A5 k c5) ∧ w'.ownsRow W.heap.size 2 1 (.slice A5 k c5) k ((L.take k).flatMap encI) ∧ Below W.heap.size W w' := fun W hW => by
            have CC := l00Own_any (some ⟨g, 0, none⟩) cr (L.take k) W ((rt.below hW (Nat.le_refl _)).more hW.size) (by omega) (fun e => by cases e)
            unfold OwnRes at CC
            rw [hlk] at CC
            exact CC
          have HB3 := hid (Below.tr hb3' hb)
          have HLD := hid hld
          have HLK := hid hlk
          have zw3 := (Below.tr hb3' hb).size
          have s1 : (0 : Int) ≤ (k : Int) := by omega
          have s2 : (k : Int) ≤ (n : Int) := by omega
          have s3 : (k : Int) ≤ (cr : Int) := by omega
          have s4 : k ≤ cr := by omega
          clear hc_w3 hf_w3 d0 rt hlk hld hb3 hb2 hb3'
          go_region_held3 (fun w' => w'.cell? ⟨bl, ol + n, none⟩ = some (.int .i64 x)) (first | go_keep | (rw [hgrow.cell_far _ (by simp; omega) (Ne.symm (own_lt8 own5 (by simp; omega)))]; assumption))
            ((first | (go_at_call 31; refine (CO _ (by repeat (first | exact Below.refl _ _ | apply Below.al | apply Below.drew))).mono ?_; rintro e w5 ⟨A5, c5, rfl, own5, hb5⟩; have x5 : w5.cell? ⟨bl, ol + n, none⟩ = some (.int .i64 x) := ((bcell hb5).1 bl _ (by simp; omega)).trans (by first | assumption | simpa using d3); have zw5 := hb5.size; simp at zw5; have hbw5 : Below w3.heap.size w3 w5 := Below.trans (by repeat (first | exact Below.refl _ _ | apply Below.al | apply Below.drew)) (hb5.mono (by simp))) | (refine step_append_lies _ (by rfl) _ _ _ (by rfl) w3.drew.heap.size 2 i0 _ 1 8 Try.underlying22 hi0 iz0 iz1 iz2 rfl (by omega) _ k _ (by rfl) (own5.alloc _) ⟨w5.heap.size, 0, none⟩ 1 1 [.int .i64 x] (by rfl) (by rfl) (World.news_of_block (cs := #[.int .i64 x]) (t := 2) (fr := (0, 0)) (heap_alloc_new w5 _)) (by simp [Value.oneCell']) (by omega) (by unfold maxLen; omega) (by omega) (by simp; omega) (w5.heap.size + 1) (by simp) ?_; intro gg cap w8 hown8 hgrow hat hlt8; have hb8 : Below w3.heap.size w3 w8 := (hbw5.alloc (by omega) _).grown hgrow (by simp; omega) (fun q hq => by have := (own5.lt q hq).1; simp at this; omega); have hown9 := own_lo (lo' := w3.heap.size) hown8 (by simp)) | (refine step_append_lies _ (by rfl) _ _ _ (by rfl) (w3.heap.size + 1) 2 i0 _ 1 8 Try.underlying22 hi0 iz0 iz1 iz2 rfl (by omega) _ k _ (by rfl) (own_lo own5 (by simp)) ⟨w3.heap.size, 0, none⟩ 1 1 [.int .i64 x] (by rfl) (by rfl) (World.news_of_block (cs := #[.int .i64 x]) (t := 2) (fr := (0, 0)) ((hb5.block w3.heap.size (by simp)).trans (heap_alloc_new w3.drew _))) (by simp [Value.oneCell']) (by omega) (by unfold maxLen; omega) (by omega) (by omega) (w5.heap.size) (by simp) ?_; intro gg cap w8 hown8 hgrow hat hlt8; have hb8 : Below w3.heap.size w3 w8 := hbw5.grown hgrow (by omega) (fun q hq => by have := (own5.lt q hq).1; simp at this; omega); have hown9 := own_lo (lo' := w3.heap.size) hown8 (by simp))))
          all_goals
            have O8 := hid (own_lo (lo' := w.heap.size) hown9 (by omega))
            have rd8 : Rd encI 1 w8 w8.heap.size (some ⟨g, k, none⟩) (L.drop k) := rd_drop ((ro3.below hb8 (Nat.le_refl _)).more hb8.size) k
            have HB8 := hid (HB3.out.trans (hb8.mono (by omega)))
            have zw8 : w.heap.size ≤ w8.heap.size := HB8.out.size
            clear hown8 hown9 hgrow hat hlt8 hb5 hbw5 own5 x5 CO ro3 hb8
            by_cases hck : cr = k
            · have hck3 : k = cr := hck.symm
              subst hck3
              have hdn : L.drop k = [] := List.eq_nil_of_length_eq_zero (by rw [HLD.out]; omega)
              have HDN := hid hdn
              clear hdn
              go_wp2_with (at_builtin; go_must (refine wpList_append_rd rfl _ _ 22 rfl (w.heap.size) 2 i0 _ 1 8 Try.underlying22 hi0 iz0 iz1 iz2 rfl (by decide) _ (k+1) _ rfl O8.out _ 0 _ [] rfl (fun e => by cases e) rfl (fun ad _ j u hj => by simp at hj) (by simp) (by unfold maxLen; omega) (by omega) (by omega) ?_); intro v9 w9 own_w9 grow_w9 at_w9)
              have e9 : k + 1 + 0 = n + 1 := by omega
              rw [e9] at own_w9
              obtain ⟨A9, c9, rfl⟩ := own_shape own_w9
              obtain ⟨g9, rfl, hlo9, hz9⟩ := own_form own_w9 (by omega)
              have hb9 : Below w.heap.size w w9 := Below.gr HB8.out zw8 O8.out (Nat.le_refl _) grow_w9
              have O9 := hid own_w9
              clear own_w9 grow_w9 at_w9 e9
              go_wp2
              go_roundw
              case rel => exact ⟨n + 1, g9, c9, L.take k ++ [x] ++ L.drop k, by omega, by have := HLK.out; have := HLD.out; simp only [List.length_append, List.length_singleton]; omega, by go_num, rfl, hb9, hid (put_sorted SO.out LE.out GT.out), hid ((put_perm L x k).trans (by rw [List.take_add_one, HX.out]; exact PE.out.append_right _)), hid (by rw [HDN.out]; simpa [encI] using O9.out)⟩
              case measure => simp [intOf]; omega
            · have hck2 : ¬ k = cr := fun e => hck e.symm
              go_wp2_with (at_builtin; go_must (refine wpList_append_rd rfl _ _ 22 rfl (w.heap.size) 2 i0 _ 1 8 Try.underlying22 hi0 iz0 iz1 iz2 rfl (by decide) _ (k+1) _ rfl O8.out _ (n - k) _ ((L.drop k).flatMap encI) rfl (fun e => by cases e) (by rw [flat_len (k := 1) (fun _ => rfl), HLD.out]) (rd_flat' (k := 1) (fun _ => rfl) (by decide) rd8) (flat_one (by simp [encI, Value.oneCell']) _) (by unfold maxLen; omega) (by omega) (by omega) ?_); intro v9 w9 own_w9 grow_w9 at_w9)
              have e9 : k + 1 + (n - k) = n + 1 := by omega
              rw [e9] at own_w9
              obtain ⟨A9, c9, rfl⟩ := own_shape own_w9
              obtain ⟨g9, rfl, hlo9, hz9⟩ := own_form own_w9 (by omega)
              have hb9 : Below w.heap.size w w9 := Below.gr HB8.out zw8 O8.out (Nat.le_refl _) grow_w9
              have O9 := hid own_w9
              clear own_w9 grow_w9 at_w9 e9
              go_wp2
              go_roundw
              case rel => exact ⟨n + 1, g9, c9, L.take k ++ [x] ++ L.drop k, by omega, by have := HLK.out; have := HLD.out; simp only [List.length_append, List.length_singleton]; omega, by go_num, rfl, hb9, hid (put_sorted SO.out LE.out GT.out), hid ((put_perm L x k).trans (by rw [List.take_add_one, HX.out]; exact PE.out.append_right _)), hid (by simpa [encI] using O9.out)⟩
              case measure => simp [intOf]; omega
    · obtain rfl : n = xs.length := by omega
      have HE : Hid (L = srt xs) := hid (srt_uniq SO.out (by have := PE.out; rwa [List.take_length] at this))
      have hls : (srt xs).length = xs.length := srt_len xs
      have O1 := OW
      go_wp2
      go_ret
      exact ⟨some ⟨g, 0, none⟩, cr, by rw [hls]; rfl, by rw [hls, ← HE.out]; exact O1.out, hb⟩
end Go.Proofs.Ytfohoidbiiipgaa
