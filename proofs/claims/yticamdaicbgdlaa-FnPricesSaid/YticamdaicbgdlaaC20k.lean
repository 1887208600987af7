/- Plain laws: the sets of linked stars and their numbers, told link by link. No program in sight. -/
import Derived.Test.YticamdaicbgdlaaC20a
namespace Go.Proofs.Yticamdaicbgdlaa
open Go.RowKit
set_option linter.unusedVariables false
structure Jn where
  F : List Int
  N : List Int
  ok : Bool
def upF (g k : Int) (F : List Int) : List Int := F.map fun x => if x = g then k else x
def upN (g s : Int) (F N : List Int) : List Int := List.zipWith (fun x y => if x = g then y + s else y) F N
def jnS (p : Jn) (l : Lk) : Int := p.N.getD l.a.toNat 0 + l.d - p.N.getD l.b.toNat 0
def jnStep (p : Jn) (l : Lk) : Jn :=
  if p.F.getD l.a.toNat 0 = p.F.getD l.b.toNat 0 then ⟨p.F, p.N, p.ok && decide (jnS p l = 0)⟩
  else if p.F.getD l.b.toNat 0 < p.F.getD l.a.toNat 0 then ⟨upF (p.F.getD l.a.toNat 0) (p.F.getD l.b.toNat 0) p.F, upN (p.F.getD l.a.toNat 0) (-jnS p l) p.F p.N, p.ok⟩
  else ⟨upF (p.F.getD l.b.toNat 0) (p.F.getD l.a.toNat 0) p.F, upN (p.F.getD l.b.toNat 0) (jnS p l) p.F p.N, p.ok⟩
def jn0 (n : Nat) : Jn := ⟨(List.range n).map fun (i : Nat) => (i : Int), List.replicate n 0, true⟩
/-- All links but those whose numbers are in a list. -/
def jnGo (ws : List Int) (p : Jn) (k : Nat) : List Lk → Jn
  | [] => p
  | l :: r => jnGo ws (if ws.contains (k : Int) then p else jnStep p l) (k + 1) r
def jnRun (p : Jn) (ls : List Lk) : Jn := ls.foldl jnStep p
theorem jnGo_nil : ∀ (ls : List Lk) (p : Jn) (k : Nat), jnGo [] p k ls = jnRun p ls
  | [], _, _ => rfl
  | l :: r, p, k => by simp only [jnGo, jnRun, List.foldl_cons, List.contains_nil, Bool.false_eq_true, if_false]; exact jnGo_nil r _ _
def bdN : Nat → Int
  | 0 => 0
  | k + 1 => 3 * bdN k + 5000
theorem bdN_nn : ∀ k, 0 ≤ bdN k
  | 0 => Int.le_refl _
  | k + 1 => by have := bdN_nn k; simp only [bdN]; omega
theorem bdN_mono : ∀ (j k : Nat), bdN k ≤ bdN (k + j)
  | 0, k => Int.le_refl _
  | j + 1, k => by have h1 := bdN_mono j k; have h2 := bdN_nn (k + j); rw [← Nat.add_assoc]; simp only [bdN]; omega
theorem bdN_le {k : Nat} (h : k ≤ 12) : 0 ≤ bdN k ∧ bdN k ≤ 1500000000 := by
  refine ⟨bdN_nn k, ?_⟩
  have h1 := bdN_mono (12 - k) k
  rw [Nat.add_sub_cancel' h] at h1
  have h2 : bdN 12 = 1328600000 := by rfl
  omega
structure JnOk (n : Nat) (M : Int) (p : Jn) : Prop where
  lf : p.F.length = n
  ln : p.N.length = n
  fb : ∀ (i : Nat) (x : Int), p.F[i]? = some x → 0 ≤ x ∧ x < n
  nb : ∀ (i : Nat) (x : Int), p.N[i]? = some x → -M ≤ x ∧ x ≤ M
theorem jn0_ok (n : Nat) : JnOk n 0 (jn0 n) := by
  refine ⟨by simp [jn0], by simp [jn0], fun i x h => ?_, fun i x h => ?_⟩
  · simp only [jn0, List.getElem?_map] at h
    by_cases hi : i < n
    · rw [List.getElem?_range hi] at h
      simp at h
      omega
    · rw [List.getElem?_eq_none (by simpa using hi)] at h
      simp at h
  · simp only [jn0, List.getElem?_replicate] at h
    split at h
    · simp at h; omega
    · simp at h
theorem upF_len (g k : Int) (F : List Int) : (upF g k F).length = F.length := by simp [upF]
theorem upN_len {g s : Int} {F N : List Int} (h : F.length = N.length) : (upN g s F N).length = N.length := by simp [upN, h]
theorem upF_at {g k : Int} {F : List Int} {n : Nat} (h : ∀ (i : Nat) (x : Int), F[i]? = some x → 0 ≤ x ∧ x < n) (hk : 0 ≤ k ∧ k < n) : ∀ (i : Nat) (x : Int), (upF g k F)[i]? = some x → 0 ≤ x ∧ x < n := by
  intro i x hx
  simp only [upF, List.getElem?_map, Option.map_eq_some_iff] at hx
  obtain ⟨y, hy, rfl⟩ := hx
  split
  · exact hk
  · exact h i y hy
theorem upN_at {g s M S : Int} {F N : List Int} (h : ∀ (i : Nat) (x : Int), N[i]? = some x → -M ≤ x ∧ x ≤ M) (hs : -S ≤ s ∧ s ≤ S) (hS : 0 ≤ S) : ∀ (i : Nat) (x : Int), (upN g s F N)[i]? = some x → -(M + S) ≤ x ∧ x ≤ M + S := by
  intro i x hx
  simp only [upN, List.getElem?_zipWith] at hx
  split at hx
  · rename_i a b ha hb
    simp only [Option.some.injEq] at hx
    have := h i b hb
    subst hx
    split <;> omega
  · simp at hx
/-- One link: what is read, and how far the numbers may go. -/
theorem jn_read {n : Nat} {M : Int} {p : Jn} (h : JnOk n M p) {i : Nat} (hi : i < n) : ∃ x y, p.F[i]? = some x ∧ p.N[i]? = some y ∧ 0 ≤ x ∧ x < n ∧ -M ≤ y ∧ y ≤ M := by
  obtain ⟨x, hx⟩ : ∃ x, p.F[i]? = some x := getx (by rw [h.lf]; exact hi)
  obtain ⟨y, hy⟩ : ∃ y, p.N[i]? = some y := getx (by rw [h.ln]; exact hi)
  exact ⟨x, y, hx, hy, (h.fb i x hx).1, (h.fb i x hx).2, (h.nb i y hy).1, (h.nb i y hy).2⟩
theorem jnStep_eq {p : Jn} {a b : Nat} {d x y u v : Int} (hx : p.F[a]? = some x) (hy : p.F[b]? = some y) (hu : p.N[a]? = some u) (hv : p.N[b]? = some v) :
    jnStep p ⟨a, b, d⟩ = if x = y then ⟨p.F, p.N, p.ok && decide (u + d - v = 0)⟩ else if y < x then ⟨upF x y p.F, upN x (-(u + d - v)) p.F p.N, p.ok⟩ else ⟨upF y x p.F, upN y (u + d - v) p.F p.N, p.ok⟩ := by
  simp [jnStep, jnS, List.getD_eq_getElem?_getD, hx, hy, hu, hv]
theorem jnStep_ok {n : Nat} {M : Int} {p : Jn} (h : JnOk n M p) (hM : 0 ≤ M) {l : Lk} (hl : 0 ≤ l.a ∧ l.a < l.b ∧ l.b < n ∧ -5000 ≤ l.d ∧ l.d ≤ 5000) : JnOk n (3 * M + 5000) (jnStep p l) := by
  obtain ⟨a, b, d⟩ := l
  simp only at hl
  obtain ⟨a, rfl⟩ : ∃ k : Nat, a = k := ⟨a.toNat, by omega⟩
  obtain ⟨b, rfl⟩ : ∃ k : Nat, b = k := ⟨b.toNat, by omega⟩
  obtain ⟨x, u, hx, hu, x1, x2, u1, u2⟩ := jn_read h (i := a) (by omega)
  obtain ⟨y, v, hy, hv, y1, y2, v1, v2⟩ := jn_read h (i := b) (by omega)
  rw [jnStep_eq hx hy hu hv]
  have hl1 := h.lf
  have hl2 := h.ln
  split
  · exact ⟨hl1, hl2, h.fb, fun i z hz => by have := h.nb i z hz; omega⟩
  · split
    · refine ⟨by rw [upF_len]; exact hl1, by rw [upN_len (by omega)]; exact hl2, upF_at h.fb ⟨y1, y2⟩, fun i z hz => ?_⟩
      have := upN_at h.nb (S := 2 * M + 5000) (by omega) (by omega) i z hz
      omega
    · refine ⟨by rw [upF_len]; exact hl1, by rw [upN_len (by omega)]; exact hl2, upF_at h.fb ⟨x1, x2⟩, fun i z hz => ?_⟩
      have := upN_at h.nb (S := 2 * M + 5000) (by omega) (by omega) i z hz
      omega
/-! ### Two rows, changed at one place -/
def fI (L : List Int) : List Value := L.map (Value.int .i64)
theorem fI_flat (L : List Int) : L.flatMap encI = fI L := by
  induction L with
  | nil => rfl
  | cons x r ih => simp only [List.flatMap_cons, ih]; rfl
theorem fI_len (L : List Int) : (fI L).length = L.length := by simp [fI]
/-- The first k elements are new ones already. -/
def mixF (g kp : Int) (F : List Int) (k : Nat) : List Int := upF g kp (F.take k) ++ F.drop k
def mixN (g s : Int) (F N : List Int) (k : Nat) : List Int := upN g s (F.take k) (N.take k) ++ N.drop k
theorem mixF_zero (g kp : Int) (F : List Int) : mixF g kp F 0 = F := by simp [mixF, upF]
theorem mixN_zero (g s : Int) (F N : List Int) : mixN g s F N 0 = N := by simp [mixN, upN]
theorem mixF_end {g kp : Int} {F : List Int} {k : Nat} (h : F.length ≤ k) : mixF g kp F k = upF g kp F := by simp [mixF, List.take_of_length_le h, List.drop_eq_nil_of_le h]
theorem mixN_end {g s : Int} {F N : List Int} {k : Nat} (h : F.length ≤ k) (h2 : N.length ≤ k) : mixN g s F N k = upN g s F N := by
  simp [mixN, List.take_of_length_le h, List.take_of_length_le h2, List.drop_eq_nil_of_le h2]
theorem mixF_split {g kp x : Int} {F : List Int} {k : Nat} (h : F[k]? = some x) : fI (mixF g kp F k) = fI (upF g kp (F.take k)) ++ .int .i64 x :: fI (F.drop (k + 1)) := by
  rw [mixF, dropx h]; simp [fI]
theorem mixN_split {g s y : Int} {F N : List Int} {k : Nat} (h : N[k]? = some y) : fI (mixN g s F N k) = fI (upN g s (F.take k) (N.take k)) ++ .int .i64 y :: fI (N.drop (k + 1)) := by
  rw [mixN, dropx h]; simp [fI]
theorem mixF_succ {g kp x : Int} {F : List Int} {k : Nat} (h : F[k]? = some x) : fI (mixF g kp F (k + 1)) = fI (upF g kp (F.take k)) ++ .int .i64 (if x = g then kp else x) :: fI (F.drop (k + 1)) := by
  rw [mixF, List.take_add_one, h]; simp [fI, upF]
theorem mixN_succ {g s x y : Int} {F N : List Int} {k : Nat} (h : F[k]? = some x) (h2 : N[k]? = some y) : fI (mixN g s F N (k + 1)) = fI (upN g s (F.take k) (N.take k)) ++ .int .i64 (if x = g then y + s else y) :: fI (N.drop (k + 1)) := by
  have hk : k < F.length := (List.getElem?_eq_some_iff.1 h).1
  have hk2 : k < N.length := (List.getElem?_eq_some_iff.1 h2).1
  rw [mixN, List.take_add_one, List.take_add_one, h, h2]
  unfold upN
  simp only [Option.toList_some]
  rw [List.zipWith_append (by simp; omega)]
  simp [fI]
theorem upF_take_len {g kp : Int} {F : List Int} {k : Nat} (h : k ≤ F.length) : (fI (upF g kp (F.take k))).length = k := by simp [fI, upF]; omega
theorem upN_take_len {g s : Int} {F N : List Int} {k : Nat} (h : k ≤ F.length) (h2 : k ≤ N.length) : (fI (upN g s (F.take k) (N.take k))).length = k := by simp [fI, upN]; omega
end Go.Proofs.Yticamdaicbgdlaa
