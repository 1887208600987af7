/- Plain laws: the words of a text, numbers in decimal, as the library reads them and as the reference does. No program in sight. -/
import Derived.Test.YtdklchklpmabdaaDoorBase
import Derived.Lib.Split
import Derived.Lib.ParseIntB
import Derived.Lib.ItoaNum
import Derived.Lib.Strings
namespace Go.Proofs.YtdklchklpmabdaaDoor
set_option linter.unusedVariables false
abbrev L8 := List UInt8
/-! ### The words of a text -/
def wds (c : UInt8) : L8 → List L8
  | [] => [[]]
  | b :: l => if b = c then [] :: wds c l else match wds c l with | w :: r => (b :: w) :: r | [] => [[b]]
theorem wds_ne (c : UInt8) : ∀ l, ∃ w r, wds c l = w :: r
  | [] => ⟨[], [], rfl⟩
  | b :: l => by
    obtain ⟨w, r, h⟩ := wds_ne c l
    unfold wds
    split
    · exact ⟨_, _, rfl⟩
    · rw [h]; exact ⟨_, _, rfl⟩
theorem wds_none {c : UInt8} : ∀ {a : L8}, c ∉ a → wds c a = [a]
  | [], _ => rfl
  | b :: a, h => by
    have h1 : b ≠ c := fun e => h (by simp [e])
    have h2 : c ∉ a := fun e => h (by simp [e])
    unfold wds
    rw [if_neg h1, wds_none h2]
theorem wds_app {c : UInt8} : ∀ {a : L8} (l : L8), c ∉ a → wds c (a ++ c :: l) = a :: wds c l
  | [], l, _ => by show wds c (c :: l) = _; rw [wds, if_pos rfl]
  | b :: a, l, h => by
    have h1 : b ≠ c := fun e => h (by simp [e])
    have h2 : c ∉ a := fun e => h (by simp [e])
    show wds c (b :: (a ++ c :: l)) = _
    rw [wds, if_neg h1, wds_app l h2]
theorem dec1 (c : UInt8) : ∀ l : L8, c ∉ l ∨ ∃ a r, l = a ++ c :: r ∧ c ∉ a
  | [] => .inl (by simp)
  | b :: l => by
    by_cases h : b = c
    · exact .inr ⟨[], l, by simp [h], by simp⟩
    · rcases dec1 c l with h1 | ⟨a, r, h1, h2⟩
      · exact .inl (by simp [h1]; exact fun e => h e.symm)
      · exact .inr ⟨b :: a, r, by simp [h1], by simp [h2]; exact fun e => h e.symm⟩
def jn (c : UInt8) : List L8 → L8
  | [] => []
  | [w] => w
  | w :: v :: r => w ++ c :: jn c (v :: r)
theorem jn_wds (c : UInt8) : ∀ (n : Nat) (l : L8), l.length ≤ n → jn c (wds c l) = l ∧ ∀ w ∈ wds c l, c ∉ w
  | n, l, hn => by
    rcases dec1 c l with h | ⟨a, r, rfl, h⟩
    · rw [wds_none h]; exact ⟨rfl, by simpa using h⟩
    · cases n with
      | zero => simp at hn
      | succ n =>
        have ih := jn_wds c n r (by simp at hn; omega)
        rw [wds_app r h]
        obtain ⟨w, t, e⟩ := wds_ne c r
        rw [e] at ih ⊢
        refine ⟨by rw [jn, ih.1], fun v hv => ?_⟩
        rcases List.mem_cons.1 hv with rfl | hv
        · exact h
        · exact ih.2 v hv
/-! ### The library's words -/
theorem idx_none {c : UInt8} : ∀ {l : L8}, c ∉ l → Lib.index l [c] = -1
  | [], _ => rfl
  | b :: l, h => by
    have h1 : ¬ c = b := fun e => h (by simp [e])
    have ih := idx_none (c := c) (l := l) (fun e => h (by simp [e]))
    unfold Lib.index
    rw [ih]; simp [h1]
theorem idx_at {c : UInt8} : ∀ {a : L8} (r : L8), c ∉ a → Lib.index (a ++ c :: r) [c] = a.length
  | [], r, _ => by show Lib.index (c :: r) [c] = _; unfold Lib.index; simp
  | b :: a, r, h => by
    have h1 : ¬ c = b := fun e => h (by simp [e])
    have ih := idx_at (c := c) (a := a) r (fun e => h (by simp [e]))
    show Lib.index (b :: (a ++ c :: r)) [c] = _
    unfold Lib.index
    rw [ih]
    simp [h1]
theorem split_wds (c : UInt8) : ∀ (k : Nat) (l : L8), (wds c l).length ≤ k + 1 → Lib.splitK [c] 0 k l = wds c l
  | k, l, hk => by
    rcases dec1 c l with h | ⟨a, r, rfl, h⟩
    · rw [wds_none h]
      cases k with
      | zero => rfl
      | succ k => unfold Lib.splitK; rw [idx_none h]; rfl
    · rw [wds_app r h] at hk ⊢
      obtain ⟨w, t, e⟩ := wds_ne c r
      cases k with
      | zero => rw [e] at hk; simp at hk
      | succ k =>
        have ih := split_wds c k r (by simp at hk; exact hk)
        unfold Lib.splitK
        rw [idx_at r h, if_neg (by simp), ← ih]
        simp
theorem count_wds (c : UInt8) : ∀ (n : Nat) (l : L8), l.length < n → Lib.countFrom [c] n l + 1 = (wds c l).length
  | 0, l, h => by omega
  | n + 1, l, hn => by
    rcases dec1 c l with h | ⟨a, r, rfl, h⟩
    · rw [wds_none h]; unfold Lib.countFrom; rw [idx_none h]; rfl
    · rw [wds_app r h]
      have ih := count_wds c n r (by simp at hn; omega)
      unfold Lib.countFrom
      have e : (a ++ c :: r).drop (((a.length : Nat) : Int).toNat + [c].length) = r := by simp
      rw [idx_at r h, if_neg (by simp), e, List.length_cons, ← ih]
      omega
theorem split_all (c : UInt8) (l : L8) : Lib.splitK [c] 0 (Lib.count l [c]) l = wds c l ∧ Lib.count l [c] + 1 = (wds c l).length := by
  have h := count_wds c (l.length + 1) l (by omega)
  exact ⟨split_wds c _ l (by rw [show Lib.count l [c] = Lib.countFrom [c] (l.length + 1) l from rfl, h]; omega), h⟩
/-! ### Numbers in decimal -/
def dgU (b : UInt8) : Bool := decide (48 ≤ b.toNat) && decide (b.toNat ≤ 57)
def valF (acc : Int) (l : L8) : Int := l.foldl (fun n b => 10 * n + ((b.toNat : Int) - 48)) acc
def bodyN (s : L8) : L8 := match s with | 45 :: t => t | t => t
def numN (s : L8) : Int := if (bodyN s).length < s.length then -(valF 0 (bodyN s)) else valF 0 (bodyN s)
def numV (s : L8) : Option Int := if 1 ≤ (bodyN s).length ∧ (bodyN s).length ≤ 18 ∧ (bodyN s).all dgU = true ∧ Lib.itoa (numN s) = s then some (numN s) else none
theorem bodyN_cases (s : L8) : (∃ t, s = 45 :: t ∧ bodyN s = t) ∨ ((∀ t, s ≠ 45 :: t) ∧ bodyN s = s) := by
  cases s with
  | nil => exact .inr ⟨by simp, rfl⟩
  | cons b t =>
    by_cases h : b = 45
    · subst h; exact .inl ⟨t, rfl, rfl⟩
    · refine .inr ⟨fun u e => h (by cases e; rfl), ?_⟩
      unfold bodyN
      split
      · next e => cases e; exact absurd rfl h
      · rfl
theorem dec_dig : ∀ (n u : Nat), u ≤ n → (Lib.decDigits u).all dgU = true
  | n, u, hn => by
    rw [Lib.decDigits]
    split
    · next h =>
      have : (UInt8.ofNat (48 + u)).toNat = 48 + u := by simp; omega
      simp [dgU]; omega
    · next h =>
      cases n with
      | zero => omega
      | succ n =>
        have : (UInt8.ofNat (48 + u % 10)).toNat = 48 + u % 10 := by simp; omega
        rw [List.all_append, dec_dig n (u / 10) (by omega)]
        simp [dgU]; omega
theorem itoa_body {v : Int} : (bodyN (Lib.itoa v)).all dgU = true ∧ 1 ≤ (Lib.itoa v).length ∧ (∀ t, Lib.itoa v ≠ 43 :: t) := by
  have hd : ∀ u, ∃ b t, Lib.decDigits u = b :: t ∧ dgU b = true := fun u => by
    have h := dec_dig u u (Nat.le_refl _)
    cases e : Lib.decDigits u with
    | nil => have := Lib.decDigits_length u; rw [e] at this; have := Lib.nDigits_pos u; simp at *; omega
    | cons b t => rw [e] at h; simp at h; exact ⟨b, t, rfl, h.1⟩
  unfold Lib.itoa
  split
  · refine ⟨dec_dig _ _ (Nat.le_refl _), by simp, fun t e => by cases e⟩
  · obtain ⟨b, t, e, hb⟩ := hd v.toNat
    have hne : b ≠ 45 := fun h => by subst h; simp [dgU] at hb
    have hne2 : b ≠ 43 := fun h => by subst h; simp [dgU] at hb
    refine ⟨?_, by rw [e]; simp, fun t' e' => by rw [e] at e'; cases e'; exact hne2 rfl⟩
    have : bodyN (Lib.decDigits v.toNat) = Lib.decDigits v.toNat := by
      rcases bodyN_cases (Lib.decDigits v.toNat) with ⟨t', h1, h2⟩ | ⟨_, h2⟩
      · rw [e] at h1; cases h1; exact absurd rfl hne
      · exact h2
    rw [this]; exact dec_dig _ _ (Nat.le_refl _)
theorem valF_nn : ∀ (l : L8) (acc : Int) (k : Nat), 0 ≤ acc → acc < 10 ^ k → l.all dgU = true → 0 ≤ valF acc l ∧ valF acc l < 10 ^ (k + l.length)
  | [], acc, k, h0, h1, _ => by simpa [valF] using ⟨h0, h1⟩
  | b :: l, acc, k, h0, h1, h => by
    simp only [List.all_cons, Bool.and_eq_true, dgU, decide_eq_true_eq] at h
    have h1' : 10 * acc + ((b.toNat : Int) - 48) < 10 ^ (k + 1) := by rw [Int.pow_succ]; omega
    have := valF_nn l (10 * acc + ((b.toNat : Int) - 48)) (k + 1) (by omega) h1' (by simpa [dgU] using h.2)
    rw [show k + 1 + l.length = k + (b :: l).length by simp; omega] at this
    exact this
theorem parseM : ∀ (l : L8) (acc : Nat), acc * 10 ^ l.length + 10 ^ l.length ≤ 10 ^ 18 → l.all dgU = true → Lib.parseUintM (2 ^ 64 - 1) acc l = .ok (valF acc l).toNat ∧ 0 ≤ valF acc l
  | [], acc, _, _ => by simp [Lib.parseUintM, valF]
  | b :: l, acc, h1, h => by
    simp only [List.all_cons, Bool.and_eq_true, dgU, decide_eq_true_eq] at h
    obtain ⟨⟨h2, h3⟩, h4⟩ := h
    have e1 : 10 ^ (b :: l).length = 10 * 10 ^ l.length := by rw [List.length_cons, Nat.pow_succ, Nat.mul_comm]
    rw [e1] at h1
    have hp : 0 < 10 ^ l.length := Nat.pow_pos (by omega)
    have hb : (acc * 10 + (b.toNat - 48)) * 10 ^ l.length + 10 ^ l.length ≤ 10 ^ 18 := by
      have : (acc * 10 + (b.toNat - 48) + 1) * 10 ^ l.length ≤ (acc * 10 + 10) * 10 ^ l.length := Nat.mul_le_mul_right _ (by omega)
      have r1 : (acc * 10 + (b.toNat - 48) + 1) * 10 ^ l.length = (acc * 10 + (b.toNat - 48)) * 10 ^ l.length + 10 ^ l.length := Nat.succ_mul _ _
      have r2 : (acc * 10 + 10) * 10 ^ l.length = acc * (10 * 10 ^ l.length) + 10 * 10 ^ l.length := by rw [Nat.add_mul, Nat.mul_assoc]
      omega
    have hacc : acc < 10 ^ 18 := by
      have : acc * 1 ≤ acc * (10 * 10 ^ l.length) := Nat.mul_le_mul_left _ (by omega)
      omega
    have hacc2 : acc * 10 + (b.toNat - 48) < 10 ^ 18 := by
      have : (acc * 10 + (b.toNat - 48)) * 1 ≤ (acc * 10 + (b.toNat - 48)) * 10 ^ l.length := Nat.mul_le_mul_left _ hp
      omega
    have ih := parseM l (acc * 10 + (b.toNat - 48)) hb (by simpa [dgU] using h4)
    unfold Lib.parseUintM
    rw [if_pos ⟨h2, h3⟩, if_neg (by omega), if_neg (by omega), ih.1]
    have e2 : valF (acc : Int) (b :: l) = valF ((acc * 10 + (b.toNat - 48) : Nat) : Int) l := by
      show valF (10 * (acc : Int) + ((b.toNat : Int) - 48)) l = _
      congr 1; omega
    rw [e2]
    exact ⟨rfl, ih.2⟩
theorem parse_ok {s : L8} (h1 : 1 ≤ (bodyN s).length) (h18 : (bodyN s).length ≤ 18) (h : (bodyN s).all dgU = true) : Lib.parseIntB 64 s = .ok (numN s) := by
  have hp : 10 ^ (bodyN s).length ≤ 10 ^ 18 := Nat.pow_le_pow_right (by omega) h18
  obtain ⟨p1, p2⟩ := parseM (bodyN s) 0 (by omega) h
  rw [show ((0 : Nat) : Int) = 0 from rfl] at p1 p2
  have p3 := valF_nn (bodyN s) 0 0 (Int.le_refl _) (by decide) h
  have p4 : valF 0 (bodyN s) < 10 ^ 18 := by
    have : ((10 : Int) ^ (0 + (bodyN s).length)) ≤ 10 ^ 18 := by rw [Nat.zero_add]; exact_mod_cast hp
    omega
  have hne : bodyN s ≠ [] := fun e => by rw [e] at h1; simp at h1
  rcases bodyN_cases s with ⟨t, e1, e2⟩ | ⟨e1, e2⟩
  · subst e1
    rw [e2] at p1 p2 p4 hne
    unfold Lib.parseIntB
    simp only
    rw [if_pos (by decide)]
    unfold Lib.parseUintB
    rw [if_neg hne, p1]
    simp only
    have hn : numN (45 :: t) = -(valF 0 t) := by unfold numN; rw [e2, if_pos (by simp)]
    rw [hn]
    have h2 : ((valF 0 t).toNat : Int) = valF 0 t := Int.toNat_of_nonneg p2
    have h3 : (valF 0 t).toNat < 10 ^ 18 := by omega
    rw [if_neg (by simp), if_neg (by omega), if_pos (by decide), h2]
  · rw [e2] at p1 p2 p4 hne h
    have hn : numN s = valF 0 s := by unfold numN; rw [e2, if_neg (by omega)]
    cases s with
    | nil => exact absurd rfl hne
    | cons b t =>
      have hb : b ≠ 45 := fun e => e1 t (by rw [e])
      have hd : dgU b = true := by simp at h; exact h.1
      have hb43 : b.toNat ≠ 43 := fun e => by simp [dgU, e] at hd
      have hb45 : b.toNat ≠ 45 := fun e => by simp [dgU, e] at hd
      unfold Lib.parseIntB
      simp only
      rw [if_neg (by omega)]
      unfold Lib.parseUintB
      rw [if_neg hne, p1, hn]
      simp only
      have h2 : ((valF 0 (b :: t)).toNat : Int) = valF 0 (b :: t) := Int.toNat_of_nonneg p2
      have h3 : (valF 0 (b :: t)).toNat < 10 ^ 18 := by omega
      rw [if_neg (by omega), if_neg (by omega), if_neg hb45, h2]
/-- The library's reading of a number, with the program's tests, is the reference's. -/
theorem num_read (s : L8) (h1 : 1 ≤ (bodyN s).length) (h18 : (bodyN s).length ≤ 18) : numV s = match Lib.parseIntB 64 s with | .ok v => if Lib.itoa v = s then some v else none | _ => none := by
  by_cases hd : (bodyN s).all dgU = true
  · rw [parse_ok h1 h18 hd]
    unfold numV
    simp only [h1, h18, hd, true_and]
  · have hn : numV s = none := by unfold numV; rw [if_neg (fun h => hd h.2.2.1)]
    rw [hn]
    split
    · next v e =>
      rw [if_neg]
      intro e2
      rw [← e2] at hd
      exact hd itoa_body.1
    · rfl
/-! ### Ranges -/
theorem numV_chars {a : L8} {x : Int} (h : numV a = some x) : Lib.itoa x = a ∧ 1 ≤ a.length ∧ ∀ b ∈ a, b = 45 ∨ dgU b = true := by
  unfold numV at h
  split at h
  · next hc =>
    cases h
    refine ⟨hc.2.2.2, ?_, ?_⟩
    · have := hc.1
      rcases bodyN_cases a with ⟨t, rfl, e⟩ | ⟨_, e⟩
      · simp
      · rw [e] at this; exact this
    · rcases bodyN_cases a with ⟨t, rfl, e⟩ | ⟨_, e⟩
      · intro b hb
        rcases List.mem_cons.1 hb with rfl | hb
        · exact .inl rfl
        · rw [e] at hc; exact .inr (List.all_eq_true.1 hc.2.2.1 b hb)
      · intro b hb
        rw [e] at hc; exact .inr (List.all_eq_true.1 hc.2.2.1 b hb)
  · cases h
theorem numV_not {a : L8} {x : Int} (h : numV a = some x) {c : UInt8} (h1 : c ≠ 45) (h2 : dgU c = false) : c ∉ a := fun hc => by
  rcases (numV_chars h).2.2 c hc with e | e
  · exact h1 e
  · rw [e] at h2; cases h2
def rgV (s : L8) : Option (Int × Int) := match wds 46 s with
  | [a, [], b] => (match numV a, numV b with | some x, some y => some (x, y) | _, _ => none)
  | _ => none
def twoN (a b : L8) : Option (Int × Int) := match numV a, numV b with | some x, some y => some (x, y) | _, _ => none
theorem twoN_some {a b : L8} {p : Int × Int} (h : twoN a b = some p) : numV a = some p.1 ∧ numV b = some p.2 := by
  unfold twoN at h
  split at h
  · next x y h1 h2 => cases h; exact ⟨h1, h2⟩
  · cases h
theorem numV_nil : numV [] = none := rfl
theorem rg_of {a b : L8} {p : Int × Int} (h : twoN a b = some p) : rgV (a ++ 46 :: 46 :: b) = some p := by
  obtain ⟨h1, h2⟩ := twoN_some h
  have n1 := numV_not h1 (c := 46) (by decide) (by decide)
  have n2 := numV_not h2 (c := 46) (by decide) (by decide)
  have e2 : wds 46 (46 :: b) = [[], b] := by
    have := wds_app (c := 46) (a := []) b (by simp)
    rw [wds_none n2] at this; exact this
  have e : wds 46 (a ++ 46 :: 46 :: b) = [a, [], b] := by rw [wds_app _ n1, e2]
  unfold rgV
  rw [e]
  exact h
theorem rg_inv {s : L8} {p : Int × Int} (h : rgV s = some p) : ∃ a b, s = a ++ 46 :: 46 :: b ∧ 46 ∉ a ∧ twoN a b = some p := by
  unfold rgV at h
  split at h
  · next a b e =>
    have hj := jn_wds 46 s.length s (Nat.le_refl _)
    rw [e] at hj
    exact ⟨a, b, by rw [← hj.1]; rfl, hj.2 a (by simp), h⟩
  · cases h
/-- The library's cut at the first twoN dots reads the same range. -/
theorem rg_cut (s : L8) : rgV s = twoN (Lib.cut s [46, 46]).1 (Lib.cut s [46, 46]).2.1 := by
  rcases Lib.index_spec s [46, 46] with ⟨h1, h2⟩ | ⟨i, h1, h2, h3, h4⟩
  · have e : Lib.cut s [46, 46] = (s, [], false) := by unfold Lib.cut; rw [h1]; rfl
    rw [e]
    have e2 : twoN s [] = none := by
      unfold twoN; rw [numV_nil]
      split
      · next h => cases h
      · rfl
    rw [e2]
    cases hr : rgV s with
    | none => rfl
    | some p =>
      obtain ⟨a, b, rfl, _, _⟩ := rg_inv hr
      have := h2 a.length (by simp)
      unfold Lib.occAt at this
      simp at this
  · have hroom := Lib.index_room s [46, 46] (by omega)
    rw [h1] at hroom
    have hr2 : i + 2 ≤ s.length := by simp at hroom; omega
    have hocc := h3
    rw [Lib.occAt_iff_take s [46, 46] i (by simpa using hr2)] at h3
    have h3' : (s.drop i).take 2 = [46, 46] := by simpa using h3
    have es : s = s.take i ++ 46 :: 46 :: s.drop (i + 2) := by
      have e1 : s.drop i = [46, 46] ++ s.drop (i + 2) := by
        rw [← h3', ← List.drop_drop, List.take_append_drop]
      calc s = s.take i ++ s.drop i := (List.take_append_drop i s).symm
        _ = _ := by rw [e1]; rfl
    have ec : Lib.cut s [46, 46] = (s.take i, s.drop (i + 2), true) := by unfold Lib.cut; rw [h1, if_pos (by omega)]; simp
    rw [ec]
    show rgV s = twoN (s.take i) (s.drop (i + 2))
    cases ht : twoN (s.take i) (s.drop (i + 2)) with
    | some p =>
      have := rg_of ht
      rw [← es] at this; exact this
    | none =>
      cases hr : rgV s with
      | none => rfl
      | some p =>
        obtain ⟨a, b, e, hna, h⟩ := rg_inv hr
        have hi : Lib.index s [46, 46] = (a.length : Nat) := by
          refine Lib.index_first (by rw [e]; simp) ?_ ?_
          · unfold Lib.occAt; rw [e]; simp
          · intro j hj
            cases ho : Lib.occAt s [46, 46] j with
            | false => rfl
            | true =>
              have hs := Lib.occAt_head (c := 46) (t := [46]) rfl ho
              rw [e, List.getElem?_append_left hj] at hs
              exact absurd (List.mem_of_getElem? hs) hna
        have hia : i = a.length := by rw [h1] at hi; omega
        subst hia
        have e1 : s.take a.length = a := by rw [e]; simp
        have e2 : s.drop (a.length + 2) = b := by rw [e, ← List.drop_drop]; simp
        rw [e1, e2, h] at ht
        cases ht
end Go.Proofs.YtdklchklpmabdaaDoor
