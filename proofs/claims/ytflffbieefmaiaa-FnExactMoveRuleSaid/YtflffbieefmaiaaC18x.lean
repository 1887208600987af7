/- Contracts: a rule moved: the library's Delete and Insert at rules, where there is room. -/
import Derived.Test.YtflffbieefmaiaaC18v
import Derived.Test.YtflffbieefmaiaaCCopy
import Derived.Shelf.RegionOpenPlain
import Derived.Deep.RegionLaw
import Derived.Laws.IdiomCopy
import Derived.Laws.CopyRow
import Derived.Laws.Externs
import Derived.Lib.Overlaps
import Derived.Lib.JoinLaws
import Derived.Lib.SliceRun
import Derived.Shelf.Spec.SlicesInsert
namespace Go.Proofs.Ytflffbieefmaiaa
open Go.RowKit
set_option linter.unusedVariables false
/-! ### Cells put into a row -/
def spl : List Value → Nat → List Value → List Value
  | ys, _, [] => ys
  | ys, o, v :: r => spl (ys.set o v) (o + 1) r
theorem spl_len : ∀ (vs : List Value) (ys : List Value) (o : Nat), (spl ys o vs).length = ys.length
  | [], _, _ => rfl
  | v :: r, ys, o => by rw [spl, spl_len r]; simp
theorem spl_eq : ∀ (vs : List Value) (ys : List Value) (o : Nat), o + vs.length ≤ ys.length → spl ys o vs = ys.take o ++ vs ++ ys.drop (o + vs.length)
  | [], ys, o, _ => by simp [spl]
  | v :: r, ys, o, h => by
    rw [spl, spl_eq r _ _ (by simp at h ⊢; omega)]
    exact list_seg_step ys o v r (by simpa using h)
theorem own_setCells {lo g n cap k : Nat} {e : TypeId} : ∀ (vs : List Value) (o : Nat) (ys : List Value) (w : World), w.ownsRow lo e k (.slice (some ⟨g, 0, none⟩) n cap) n ys →
    (w.setCells g o vs).ownsRow lo e k (.slice (some ⟨g, 0, none⟩) n cap) n (spl ys o vs) ∧ w.grownBy (w.setCells g o vs) (some g)
  | [], _, _, w, h => ⟨h, World.grownBy.refl w _⟩
  | v :: r, o, ys, w, h => by
    have h1 := h.stored o v
    have h2 := own_setCells r (o + 1) _ _ h1.1
    exact ⟨h2.1, grown_trans' h1.2 h2.2⟩
theorem flat_takeK {α : Type} {enc : α → List Value} {k : Nat} (hk : ∀ x, (enc x).length = k) (xs : List α) {i : Nat} (hi : i ≤ xs.length) : (xs.flatMap enc).take (i * k) = (xs.take i).flatMap enc ∧ (xs.flatMap enc).drop (i * k) = (xs.drop i).flatMap enc := by
  have e : xs.flatMap enc = (xs.take i).flatMap enc ++ (xs.drop i).flatMap enc := by rw [← List.flatMap_append, List.take_append_drop]
  have hl : ((xs.take i).flatMap enc).length = i * k := by rw [flat_len hk, List.length_take, Nat.min_eq_left hi]
  rw [e]
  exact ⟨List.take_left' hl, List.drop_left' hl⟩
theorem spl_flat {α : Type} {enc : α → List Value} {k : Nat} (hk : ∀ x, (enc x).length = k) (xs zs : List α) (i : Nat) (h : i + zs.length ≤ xs.length) : spl (xs.flatMap enc) (i * k) (zs.flatMap enc) = (xs.take i ++ zs ++ xs.drop (i + zs.length)).flatMap enc := by
  have h1 : i * k + zs.length * k ≤ xs.length * k := by rw [← Nat.add_mul]; exact Nat.mul_le_mul_right _ h
  rw [spl_eq _ _ _ (by rw [flat_len hk, flat_len hk]; exact h1), flat_len hk, ← Nat.add_mul, (flat_takeK hk xs (i := i) (by omega)).1, (flat_takeK hk xs h).2, List.flatMap_append, List.flatMap_append]
/-! ### The library's copy and clear at elements of k cells -/
theorem run_copy_k {P : Program} (w : World) (dT sT ty elem : TypeId) (k b o dLen dCap : Nat) (a : Addr) (sLen sCap m : Nat) (cs : List Value)
    (hu : P.underlying dT = some (.slice elem)) (hs : (P.info? elem).map (·.size) = some k) (hm : m = Nat.min sLen dLen) (hn : cs.length = m * k)
    (hsrc : ∀ j v, cs[j]? = some v → w.cell? (a.add j) = some v) (hc : ∀ j, j < cs.length → (w.cell? ⟨b, o + j, none⟩).isSome = true) (hf : ∀ j, j < cs.length → w.frozen? ⟨b, o + j, none⟩ = false) (h1 : ∀ v ∈ cs, v.oneCell' = true) :
    (Builtin.copy_ #[dT, sT] ty #[.slice (some ⟨b, o, none⟩) dLen dCap, .slice (some a) sLen sCap]).run P w = .ok (goInt m) (w.setCells b o cs) := by
  have hl := run_loadCells_list (P := P) w a cs hsrc
  have hst := run_storeCells_cells (P := P) b o cs 0 w (by simpa using hc) (by simpa using hf) h1
  cases hq : P.info? elem with
  | none => simp [hq] at hs
  | some i =>
    have hi : i.size = k := by simpa [hq] using hs
    simp [Builtin.copy_, run_underlying hu, Builtin.lenOf, Builtin.firstCells, sizeOf, typeInfo, hq, hi, ← hm, ← hn, hl, hst]
theorem run_clear_one {P : Program} (w : World) (t e ty : TypeId) (z : Value) (zs : List Value) (ht : P.underlying t = some (.slice e)) (hv : ∀ w, (zeroValue e).run P w = .ok z w) (hz : z.cells = zs.toArray) (h1 : ∀ v ∈ zs, v.oneCell' = true) (b o c : Nat)
    (hc : ∀ j, j < zs.length → (w.cell? ⟨b, o + j, none⟩).isSome = true) (hf : ∀ j, j < zs.length → w.frozen? ⟨b, o + j, none⟩ = false) :
    (Builtin.clear_ #[t] ty #[.slice (some ⟨b, o, none⟩) 1 c]).run P w = .ok (.tuple #[]) (w.setCells b o zs) := by
  have hzc : (Builtin.zeroCells z.cells 1).toList = zs := by
    rw [hz]
    simp only [Builtin.zeroCells, Nat.one_mul, List.size_toArray]
    apply List.ext_getElem
    · simp
    · intro i h1 h2
      simp at h1
      simp [Nat.mod_eq_of_lt h1, h1]
  have hst := run_storeCells_cells (P := P) b o zs 0 w (by simpa using hc) (by simpa using hf) h1
  simp only [Nat.add_zero] at hst
  simp [Builtin.clear_, run_underlying ht, hv, hzc, hst]
theorem own_some {w : World} {lo g n cap k : Nat} {e : TypeId} {ys : List Value} (o : w.ownsRow lo e k (.slice (some ⟨g, 0, none⟩) n cap) n ys) {j : Nat} (h : j < n * k) : (w.cell? ⟨g, j, none⟩).isSome = true := by
  have x := o.cellAt j h
  have hl := o.1
  rw [x, List.getElem?_eq_getElem (by omega)]; rfl
theorem cell_add0 (g k : Nat) : (⟨g, 0, none⟩ : Addr).add k = ⟨g, k, none⟩ := by simp [Addr.add]; try (intro e; exact e.symm)
/-! ### The list with a rule at another place -/
def mvR (xs : List Ru) (i : Nat) : List Ru := xs.take i ++ xs.drop (i + 1)
def mvI (ys : List Ru) (t : Nat) (x : Ru) : List Ru := ys.take t ++ [x] ++ ys.drop t
theorem mvR_len {xs : List Ru} {i : Nat} (h : i < xs.length) : (mvR xs i).length + 1 = xs.length := by simp [mvR]; omega
theorem mvI_len {ys : List Ru} {t : Nat} (x : Ru) (h : t ≤ ys.length) : (mvI ys t x).length = ys.length + 1 := by simp [mvI]; omega
def zRu : Ru := ⟨⟨#[]⟩, 0, 0, 0, 0, 0⟩
theorem del_eq {xs : List Ru} {i : Nat} (h : i < xs.length) : spl (spl (xs.flatMap encRu) (i * 6) ((xs.drop (i + 1)).flatMap encRu)) ((xs.length - 1) * 6) (encRu zRu) = (mvR xs i ++ [zRu]).flatMap encRu := by
  have e1 := spl_flat (enc := encRu) (k := 6) (fun _ => rfl) xs (xs.drop (i + 1)) i (by rw [List.length_drop]; omega)
  rw [e1]
  have e2 := spl_flat (enc := encRu) (k := 6) (fun _ => rfl) (xs.take i ++ xs.drop (i + 1) ++ xs.drop (i + (xs.drop (i + 1)).length)) [zRu] (xs.length - 1) (by simp; omega)
  rw [show ([zRu].flatMap encRu) = encRu zRu from by simp] at e2
  rw [e2]
  congr 1
  have hl : (xs.take i ++ xs.drop (i + 1)).length = xs.length - 1 := by simp; omega
  have hd : (xs.take i ++ xs.drop (i + 1) ++ xs.drop (i + (xs.drop (i + 1)).length)).drop (xs.length - 1 + [zRu].length) = [] := List.drop_eq_nil_of_le (by simp; omega)
  rw [hd, List.take_left' hl, List.append_nil]
  rfl
theorem ins_eq {ys : List Ru} {t : Nat} (z x : Ru) (h : t < ys.length) : spl (spl ((ys ++ [z]).flatMap encRu) ((t + 1) * 6) ((ys.drop t).flatMap encRu)) (t * 6) (encRu x) = (mvI ys t x).flatMap encRu := by
  have e1 := spl_flat (enc := encRu) (k := 6) (fun _ => rfl) (ys ++ [z]) (ys.drop t) (t + 1) (by simp; omega)
  rw [e1]
  have e2 := spl_flat (enc := encRu) (k := 6) (fun _ => rfl) ((ys ++ [z]).take (t + 1) ++ ys.drop t ++ (ys ++ [z]).drop (t + 1 + (ys.drop t).length)) [x] t (by simp; omega)
  rw [show ([x].flatMap encRu) = encRu x from by simp] at e2
  rw [e2]
  congr 1
  rw [List.drop_eq_nil_of_le (show (ys ++ [z]).length ≤ t + 1 + (ys.drop t).length by simp; omega), List.append_nil]
  have hl : ((ys ++ [z]).take (t + 1)).length = t + 1 := by simp; omega
  have hd : ((ys ++ [z]).take (t + 1) ++ ys.drop t).drop (t + [x].length) = ys.drop t := List.drop_left' (by simpa using hl)
  rw [hd, List.take_append_of_le_length (by rw [hl]; omega), List.take_take, Nat.min_eq_left (by omega), List.take_append_of_le_length (by omega)]
  rfl
theorem ins_end (ys : List Ru) (z x : Ru) : spl ((ys ++ [z]).flatMap encRu) (ys.length * 6) (encRu x) = (mvI ys ys.length x).flatMap encRu := by
  have e2 := spl_flat (enc := encRu) (k := 6) (fun _ => rfl) (ys ++ [z]) [x] ys.length (by simp)
  rw [show ([x].flatMap encRu) = encRu x from by simp] at e2
  rw [e2]
  congr 1
  simp [mvI]
set_option maxRecDepth 100000 in
set_option maxHeartbeats 4000000 in
theorem delete_any (lo g m cap i : Nat) (xs : List Ru) (w : World) (o : w.ownsRow lo 36 6 (.slice (some ⟨g, 0, none⟩) (m + 1) cap) (m + 1) (xs.flatMap encRu)) (hn : xs.length = m + 1) (hi : i ≤ m) (h12 : m ≤ 11) (hmax : cap ≤ maxLen) :
    Calls Try.prog 18 #[.slice (some ⟨g, 0, none⟩) (m + 1) cap, .int .i64 i, .int .i64 ((i : Int) + 1)] w fun e w' =>
      e = .returned (.slice (some ⟨g, 0, none⟩) m cap) ∧ w'.ownsRow lo 36 6 (.slice (some ⟨g, 0, none⟩) (m + 1) cap) (m + 1) ((mvR xs i ++ [zRu]).flatMap encRu) ∧ w.grownBy w' (some g) := by
  have hcap : m + 1 ≤ cap := own_cap o
  unfold maxLen at hmax
  obtain ⟨i0, hi0, iz0, iz1, iz2⟩ := info_parts (P := Try.prog) (e := 36) (z := .agg #[.string ⟨#[]⟩, .int .i64 0, .int .i64 0, .int .i64 0, .int .i64 0, .int .i64 0]) (size := 6) (bytes := 56) (by kernel_rfl)
  obtain ⟨news, hnews⟩ : ∃ news, Hid (news = (xs.drop (i + 1)).flatMap encRu) := ⟨_, rfl⟩
  have hlen : news.length = (m - i) * 6 := by rw [hnews.out, flat_len (k := 6) (fun _ => rfl), List.length_drop, hn, Nat.add_sub_add_right]
  obtain ⟨A, hA, hsrc⟩ : ∃ A : Addr, (if cap = i + 1 then (some (⟨g, 0, none⟩ : Addr)) else some ⟨g, (i + 1) * 6, none⟩) = some A ∧ Hid (∀ t u, news[t]? = some u → w.drew.cell? (A.add t) = some u) := by
    by_cases h : cap = i + 1
    · refine ⟨⟨g, 0, none⟩, by simp [h], fun t u hu => ?_⟩
      have h0 : news.length = 0 := by rw [hlen]; omega
      rw [List.length_eq_zero_iff.1 h0] at hu
      simp at hu
    · refine ⟨⟨g, (i + 1) * 6, none⟩, by simp [h], fun t u hu => ?_⟩
      have ht := (List.getElem?_eq_some_iff.1 hu).1
      rw [hlen] at ht
      rw [hnews.out, ← (flat_takeK (enc := encRu) (k := 6) (fun _ => rfl) xs (i := i + 1) (by omega)).2, List.getElem?_drop] at hu
      rw [Addr.add_lit]
      exact (o.cellAt ((i + 1) * 6 + t) (by omega)).trans hu
  have s2 : Hid (∀ u ∈ news, u.oneCell' = true) := hid (by rw [hnews.out]; exact flat_one (by simp [encRu, Value.oneCell']) _)
  have s3 : Hid (∀ t, t < news.length → (w.drew.cell? ⟨g, 0 + i * 6 + t, none⟩).isSome = true ∧ w.drew.frozen? ⟨g, 0 + i * 6 + t, none⟩ = false) := hid (fun t ht => by
    rw [hlen] at ht
    exact ⟨own_some o (by omega), o.frozenAt _⟩)
  have s1 := hid hlen
  obtain ⟨W1, hW1⟩ : ∃ W1, Hid (W1 = w.drew.setCells g (0 + i * 6) news) := ⟨_, rfl⟩
  have O1 := own_setCells news (0 + i * 6) _ _ o.drew
  rw [← hW1.out] at O1
  have hcl : ∀ ty c', (Builtin.clear_ #[24] ty #[.slice (some ⟨g, m * 6, none⟩) 1 c']).run Try.prog W1 = .ok (.tuple #[]) (W1.setCells g (m * 6) (encRu zRu)) := fun ty c' =>
    run_clear_one W1 24 36 ty _ (encRu zRu) Try.underlying24 Try.zeroValue36 (by simp [encRu, zRu, go_sem]) (by simp [encRu, Value.oneCell']) g (m * 6) c'
      (fun j hj => own_some O1.1 (by simp [encRu] at hj; omega)) (fun j hj => O1.1.frozenAt _)
  have O2 := own_setCells (encRu zRu) (m * 6) _ _ O1.1
  have HQ := del_eq (xs := xs) (i := i) (by omega)
  rw [hn, Nat.add_sub_cancel, ← hnews.out] at HQ
  rw [Nat.zero_add, HQ] at O2
  have G := hid (grown_trans' (show w.grownBy w.drew (some g) from ⟨rfl, rfl, rfl, Nat.le_refl _, fun _ _ _ => rfl⟩) (grown_trans' O1.2 O2.2))
  have O := hid O2.1
  have hic : i ≤ cap := by omega
  have hjc : i + 1 ≤ cap := by omega
  have im : i ≤ m + 1 := by omega
  have him : i + (m - i) = m := by omega
  have hi1 : 0 ≤ (i : Int) + 1 := by omega
  have mixed : Try.prog.follows Departure.mixedOrders = true := by kernel_rfl
  have hmm : m ≤ cap := by omega
  have hmc : ¬ cap = m := by omega
  clear O1 O2 HQ hlen o
  go_enter Try.func18, Try.ntmps18
  go_wp2_with fail
  go_region_law_o (refine step_append_room rfl (.tmp 22) (.tmp 25) 24 rfl 36 i0 6 Try.underlying24 hi0 iz1 g 0 i cap (by simp [Act.eval, Act.put]) A (m - i) (cap - (i + 1)) news (by simp [Act.eval, Act.put]) s1.out hsrc.out s2.out (by omega) s3.out ?_; rw [← hW1.out, him])
  go_wp2
  go_ret
  exact ⟨rfl, O.out, G.out⟩
theorem own_shape6 {w : World} {lo g n cap k : Nat} {e : TypeId} {ys : List Value} (o : w.ownsRow lo e k (.slice (some ⟨g, 0, none⟩) n cap) n ys) : w.shape? g = some (e, cap * k) := by
  rcases o.2 with ⟨h', _⟩ | ⟨g', cap', cur, h', hb, hg, hnc, hcm, hcs, htake⟩
  · simp at h'
  · simp only [Value.slice.injEq, Option.some.injEq, Addr.mk.injEq, and_true, true_and] at h'
    obtain ⟨rfl, rfl⟩ := h'
    simp [World.shape?, hg, hcs]
set_option maxRecDepth 100000 in
set_option maxHeartbeats 4000000 in
theorem insert_any (lo g m cap t vb : Nat) (ys : List Ru) (z x : Ru) (w : World) (o : w.ownsRow lo 36 6 (.slice (some ⟨g, 0, none⟩) (m + 1) cap) (m + 1) ((ys ++ [z]).flatMap encRu)) (hn : ys.length = m) (ht : t ≤ m) (h12 : m ≤ 11) (hmax : cap ≤ maxLen)
    (hv : w.heap[vb]? = some (.cells (encRu x).toArray 36 (0, 0))) (hne : vb ≠ g) :
    Calls Try.prog 20 #[.slice (some ⟨g, 0, none⟩) m cap, .int .i64 t, .slice (some ⟨vb, 0, none⟩) 1 1] w fun e w' =>
      e = .returned (.slice (some ⟨g, 0, none⟩) (m + 1) cap) ∧ w'.ownsRow lo 36 6 (.slice (some ⟨g, 0, none⟩) (m + 1) cap) (m + 1) ((mvI ys t x).flatMap encRu) ∧ w.grownBy w' (some g) := by
  have hcap : m + 1 ≤ cap := own_cap o
  unfold maxLen at hmax
  obtain ⟨i0, hi0, iz0, iz1, iz2⟩ := info_parts (P := Try.prog) (e := 36) (z := .agg #[.string ⟨#[]⟩, .int .i64 0, .int .i64 0, .int .i64 0, .int .i64 0, .int .i64 0]) (size := 6) (bytes := 56) (by kernel_rfl)
  have hsz : (Try.prog.info? 36).map (·.size) = some 6 := by rw [hi0]; simp [iz1]
  have one : ∀ (y : Ru), ∀ u ∈ encRu y, u.oneCell' = true := by simp [encRu, Value.oneCell']
  have vc : ∀ (j : Nat) (u : Value), (encRu x)[j]? = some u → w.cell? ((⟨vb, 0, none⟩ : Addr).add j) = some u := fun j u hj => by
    rw [cell_add0]
    simp only [World.cell?, hv]
    simpa using hj
  by_cases hend : t = m
  · subst hend
    have hsrc : Src Try.prog i0.size 24 (.slice (some ⟨vb, 0, none⟩) 1 1) 1 (encRu x) w := Src.ofSlice w Try.underlying24 ⟨vb, 0, none⟩ 1 1 (encRu x) (by rw [iz1]; rfl) vc (one x)
    have hcE : ∀ j, j < (encRu x).length → (w.cell? ⟨g, 0 + t * i0.size + j, none⟩).isSome = true := fun j hj => by
      rw [iz1]; exact own_some o (by simp [encRu] at hj; omega)
    have hfE : ∀ j, j < (encRu x).length → w.frozen? ⟨g, 0 + t * i0.size + j, none⟩ = false := fun j hj => o.frozenAt _
    have O1 := own_setCells (encRu x) (0 + t * i0.size) _ _ o
    have HQ := ins_end ys z x
    rw [hn] at HQ
    rw [iz1, Nat.zero_add, HQ] at O1
    have hmc : t ≤ cap := by omega
    have O1 := hid O1
    have hsrc := hid hsrc
    have hcE := hid hcE
    have hfE := hid hfE
    clear o HQ vc
    go_enter Try.func20, Try.ntmps20
    go_wp2_with (at_builtin; refine wpList_append_room_src _ rfl _ _ 24 24 rfl 36 i0 Try.underlying24 hi0 g 0 t cap rfl _ rfl 1 (encRu x) hsrc.out (by omega) hcE.out hfE.out ?_; rw [iz1, Nat.zero_add])
    go_ret
    exact ⟨rfl, O1.out.1, O1.out.2⟩
  · have hlt : t < m := by omega
    have hov : ∀ lb cb, (callFunc 27 #[.slice (some ⟨vb, 0, none⟩) 1 1, .slice (some ⟨g, (t + 1) * 6, none⟩) lb cb]).run Try.prog w = .ok (.value (.bool false)) w := fun lb cb => by
      rw [run_callFunc_extern Try.func27 (by kernel_rfl) (by kernel_rfl) (by kernel_rfl) (e := Extern.SlicesOverlaps.overlaps #[24, 24] #[4]) (by kernel_rfl),
        Lib.run_overlaps_apart w 24 4 36 Try.underlying24 6 Try.sizeOf36 ⟨vb, 0, none⟩ ⟨g, (t + 1) * 6, none⟩ 1 1 lb cb hne 36 36 6 (cap * 6) (by simp [World.shape?, hv, encRu]) (own_shape6 o) (by omega) (by simp [World.frozen?, hv]) (by simp [World.frozen?, hv])]
      rfl
    have hdl : ((ys.drop t).flatMap encRu).length = (m - t) * 6 := by rw [flat_len (k := 6) (fun _ => rfl), List.length_drop, hn]
    have hcp1 : ∀ ty dl dc sl sc, dl = m - t → sl = m + 1 - t → (Builtin.copy_ #[24, 24] ty #[.slice (some ⟨g, (t + 1) * 6, none⟩) dl dc, .slice (some ⟨g, t * 6, none⟩) sl sc]).run Try.prog w.drew = .ok (goInt ((m - t : Nat) : Int)) (w.drew.setCells g ((t + 1) * 6) ((ys.drop t).flatMap encRu)) := fun ty dl dc sl sc h1 h2 =>
      run_copy_k w.drew _ _ ty 36 6 g ((t + 1) * 6) dl dc ⟨g, t * 6, none⟩ sl sc (m - t) ((ys.drop t).flatMap encRu) Try.underlying24 hsz (by subst h1 h2; simp only [Nat.min_def]; split <;> omega) hdl
        (fun j v hj => by
          have hjl := (List.getElem?_eq_some_iff.1 hj).1
          rw [hdl] at hjl
          rw [Addr.add_lit]
          refine (o.cellAt (t * 6 + j) (by omega)).trans ?_
          rw [← hj, ← (flat_takeK (enc := encRu) (k := 6) (fun _ => rfl) ys (i := t) (by omega)).2, List.getElem?_drop, List.flatMap_append, List.getElem?_append_left (by rw [flat_len (k := 6) (fun _ => rfl), hn]; omega)])
        (fun j hj => own_some o (by rw [hdl] at hj; omega)) (fun j hj => o.frozenAt _) (flat_one one _)
    obtain ⟨W1, hW1⟩ : ∃ W1, Hid (W1 = w.drew.setCells g ((t + 1) * 6) ((ys.drop t).flatMap encRu)) := ⟨_, rfl⟩
    have O1 := own_setCells ((ys.drop t).flatMap encRu) ((t + 1) * 6) _ _ o.drew
    rw [← hW1.out] at O1
    have hcp2 : ∀ (W : World), (∀ x, W.cell? x = W1.cell? x) → (∀ x, W.frozen? x = W1.frozen? x) → ∀ ty dl dc, dl = m + 1 - t → (Builtin.copy_ #[24, 24] ty #[.slice (some ⟨g, t * 6, none⟩) dl dc, .slice (some ⟨vb, 0, none⟩) 1 1]).run Try.prog W = .ok (goInt 1) (W.setCells g (t * 6) (encRu x)) := fun W hWc hWf ty dl dc h1 =>
      run_copy_k W _ _ ty 36 6 g (t * 6) dl dc ⟨vb, 0, none⟩ 1 1 1 (encRu x) Try.underlying24 hsz (by subst h1; simp only [Nat.min_def]; split <;> omega) rfl
        (fun j v hj => by
          rw [hWc, hW1.out, World.cell?_setCells_out g _ _ _ _ (fun h _ => absurd (by rw [cell_add0] at h; exact h) hne)]
          exact vc j v hj)
        (fun j hj => by rw [hWc]; exact own_some O1.1 (by simp [encRu] at hj; omega)) (fun j hj => by rw [hWf]; exact O1.1.frozenAt _) (one x)
    have O2 := own_setCells (encRu x) (t * 6) _ _ O1.1
    have HQ := ins_eq (ys := ys) (t := t) z x (by omega)
    rw [HQ] at O2
    have G := hid (grown_trans' (show w.grownBy w.drew (some g) from ⟨rfl, rfl, rfl, Nat.le_refl _, fun _ _ _ => rfl⟩) (grown_trans' O1.2 O2.2))
    have O := hid O2.1
    rw [← hW1.out] at hcp1
    have mixed : Try.prog.follows Departure.mixedOrders = true := by kernel_rfl
    have hz2 : ¬ ((t : Int) = (m : Int)) := by omega
    have hw1 : IntKind.i64.wrap ((t : Int) + 1) = (t : Int) + 1 := by rw [IntKind.wrap_i64]; omega
    have hb1 : (0 : Int) ≤ (t : Int) + 1 := by omega
    have htn : ((t : Int) + 1).toNat = t + 1 := by omega
    have hb2 : ¬ (cap = t + 1) := by omega
    have hb3 : (t : Int) ≤ (m : Int) + 1 := by omega
    have hb4 : ¬ (cap = t) := by omega
    have hb5 : t ≤ m + 1 := by omega
    clear o O1 O2 HQ vc hdl
    go_enter Try.func20, Try.ntmps20
    go_wp2_with (simp only [hov])
    go_region_law_o (refine step_copy_runI rfl _ _ 24 24 rfl _ _ (by simp [Act.eval, Act.put]) (by simp [Act.eval, Act.put]) (hcp1 _ _ _ _ _ (by omega) (by omega)) ?_)
    go_wp2_with (at_builtin; refine wpList_copy_runI _ rfl _ _ 24 24 rfl _ _ rfl rfl (hcp2 _ (fun _ => rfl) (fun _ => rfl) _ _ _ (by omega)) ?_)
    go_ret
    exact ⟨rfl, O.out, G.out⟩
end Go.Proofs.Ytflffbieefmaiaa
