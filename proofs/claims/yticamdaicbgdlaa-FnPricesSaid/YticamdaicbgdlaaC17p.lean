/- Plain law: the prices of the stars and of the observers have the greatest worth as their sum (the exchange of two assignments along a path). -/
import Derived.Test.YticamdaicbgdlaaBase
namespace Go.Proofs.Yticamdaicbgdlaa
set_option linter.unusedVariables false
abbrev Asg := Nat → Option Nat
structure On (m : Nat) (X : Nat → Prop) (mu : Asg) : Prop where
  av : ∀ i j, mu i = some j → X j
  inj : ∀ i k j, mu i = some j → mu k = some j → i = k
  out : ∀ i, m ≤ i → mu i = none
def put (mu : Asg) (i : Nat) (o : Option Nat) : Asg := fun k => if k = i then o else mu k
def sw (P : Nat → Bool) (a b : Asg) : Asg := fun i => if P i = true then b i else a i
theorem On.mono {m : Nat} {X Y : Nat → Prop} {mu : Asg} (h : On m X mu) (hs : ∀ s, X s → Y s) : On m Y mu :=
  ⟨fun i j e => hs j (h.av i j e), h.inj, h.out⟩
theorem On.lt {m : Nat} {X : Nat → Prop} {mu : Asg} (h : On m X mu) {i j : Nat} (e : mu i = some j) : i < m := by
  rcases Nat.lt_or_ge i m with h1 | h1
  · exact h1
  · rw [h.out i h1] at e; cases e
/-- a row freed of its star -/
theorem On.take {m : Nat} {X : Nat → Prop} {mu : Asg} (h : On m X mu) {i z : Nat} (e : mu i = some z) :
    On m (fun s => X s ∧ s ≠ z) (put mu i none) := by
  refine ⟨?_, ?_, ?_⟩
  · intro k j hk
    unfold put at hk; split at hk
    · cases hk
    · next hne => exact ⟨h.av k j hk, fun hj => hne (h.inj k i j hk (hj ▸ e))⟩
  · intro a b j ha hb
    unfold put at ha hb; split at ha
    · cases ha
    · split at hb
      · cases hb
      · exact h.inj a b j ha hb
  · intro k hk; unfold put; split
    · rfl
    · exact h.out k hk
theorem On.drop {m : Nat} {X : Nat → Prop} {mu : Asg} (h : On m X mu) (i : Nat) : On m X (put mu i none) := by
  refine ⟨?_, ?_, ?_⟩
  · intro k j hk
    unfold put at hk; split at hk
    · cases hk
    · exact h.av k j hk
  · intro a b j ha hb
    unfold put at ha hb; split at ha
    · cases ha
    · split at hb
      · cases hb
      · exact h.inj a b j ha hb
  · intro k hk; unfold put; split
    · rfl
    · exact h.out k hk
/-- a free row given a star that none has -/
theorem On.put {m : Nat} {X : Nat → Prop} {mu : Asg} (h : On m X mu) {i z : Nat} (hi : i < m) (hz : ¬ X z) :
    On m (fun s => X s ∨ s = z) (put mu i (some z)) := by
  refine ⟨?_, ?_, ?_⟩
  · intro k j hk
    unfold Go.Proofs.Yticamdaicbgdlaa.put at hk; split at hk
    · cases hk; exact .inr rfl
    · exact .inl (h.av k j hk)
  · intro a b j ha hb
    unfold Go.Proofs.Yticamdaicbgdlaa.put at ha hb; split at ha
    · next ea =>
      cases ha
      split at hb
      · next eb => rw [ea, eb]
      · exact absurd (h.av b _ hb) hz
    · split at hb
      · cases hb; exact absurd (h.av a _ ha) hz
      · exact h.inj a b j ha hb
  · intro k hk; unfold Go.Proofs.Yticamdaicbgdlaa.put; split
    · omega
    · exact h.out k hk
theorem sw_put (P : Nat → Bool) (a b : Asg) (i : Nat) :
    sw (fun k => if k = i then true else P k) a b = put (sw P (put a i none) (put b i none)) i (b i) := by
  funext k; unfold sw put
  by_cases h : k = i
  · subst h; simp
  · simp [h]
theorem xch (m : Nat) : ∀ (c : Nat) (L : List Nat) (mu nu : Asg) (X Y : Nat → Prop) (x : Nat), L.length ≤ c → (∀ i j, mu i = some j → i ∈ L) →
    On m X mu → On m Y nu → X x → ¬ Y x →
    ∃ P, (On m (fun s => X s ∧ s ≠ x) (sw P mu nu) ∧ On m (fun s => Y s ∨ s = x) (sw P nu mu)) ∨
      ∃ y, Y y ∧ ¬ X y ∧ On m (fun s => (X s ∧ s ≠ x) ∨ s = y) (sw P mu nu) ∧ On m (fun s => (Y s ∧ s ≠ y) ∨ s = x) (sw P nu mu) := by
  intro c
  induction c with
  | zero =>
    intro L mu nu X Y x hc hL hX hY hx hy
    refine ⟨fun _ => false, .inl ⟨⟨?_, hX.inj, hX.out⟩, hY.mono fun s h => .inl h⟩⟩
    intro i j e
    have := hL i j e
    have : L = [] := List.eq_nil_of_length_eq_zero (by omega)
    subst this; simp at *
  | succ c ih =>
    intro L mu nu X Y x hc hL hX hY hx hy
    by_cases hu : ∃ i, mu i = some x
    · obtain ⟨i, hi⟩ := hu
      have him : i < m := hX.lt hi
      have hX1 := hX.take hi
      cases hn : nu i with
      | none =>
        refine ⟨fun k => if k = i then true else false, .inl ⟨?_, ?_⟩⟩
        · rw [sw_put _ mu nu i, hn]
          have : sw (fun _ => false) (put mu i none) (put nu i none) = put mu i none := by funext k; simp [sw]
          rw [this]
          exact hX1.drop i
        · rw [sw_put _ nu mu i, hi]
          have : sw (fun _ => false) (put nu i none) (put mu i none) = put nu i none := by funext k; simp [sw]
          rw [this]
          exact (hY.drop i).put him hy
      | some z =>
        have hz := hY.av i z hn
        have hzx : z ≠ x := fun h => hy (h ▸ hz)
        have hY1 := hY.take hn
        by_cases hXz : X z
        · -- go on without the row
          have hlen : (L.filter (fun k => k ≠ i)).length < L.length :=
            List.length_filter_lt_length_iff_exists.2 ⟨i, hL i x hi, by simp⟩
          obtain ⟨P, hP⟩ := ih (L.filter (fun k => k ≠ i)) (put mu i none) (put nu i none) _ _ z (by omega) (by
            intro k j hk
            unfold put at hk; split at hk
            · cases hk
            · next hne => exact List.mem_filter.2 ⟨hL k j hk, by simpa using hne⟩) hX1 hY1 ⟨hXz, hzx⟩ (fun h => h.2 rfl)
          refine ⟨fun k => if k = i then true else P k, ?_⟩
          rw [sw_put P mu nu i, sw_put P nu mu i, hn, hi]
          rcases hP with ⟨hA, hB⟩ | ⟨y, hYy, hXy, hA, hB⟩
          · left
            refine ⟨(hA.put him (fun h => h.2 rfl)).mono ?_, (hB.put him ?_).mono ?_⟩
            · rintro s (⟨⟨h1, h2⟩, h3⟩ | rfl)
              · exact ⟨h1, h2⟩
              · exact ⟨hXz, hzx⟩
            · rintro (⟨h1, h2⟩ | h1)
              · exact hy h1
              · exact hzx h1.symm
            · rintro s ((⟨h1, h2⟩ | rfl) | rfl)
              · exact .inl h1
              · exact .inl hz
              · exact .inr rfl
          · right
            have hyx : y ≠ x := fun h => hy (h ▸ hYy.1)
            refine ⟨y, hYy.1, fun h => hXy ⟨h, hyx⟩, (hA.put him ?_).mono ?_, (hB.put him ?_).mono ?_⟩
            · rintro (⟨⟨h1, h2⟩, h3⟩ | h1)
              · exact h3 rfl
              · exact hYy.2 h1.symm
            · rintro s ((⟨⟨h1, h2⟩, h3⟩ | rfl) | rfl)
              · exact .inl ⟨h1, h2⟩
              · exact .inr rfl
              · exact .inl ⟨hXz, hzx⟩
            · rintro (⟨⟨h1, h2⟩, h3⟩ | h1)
              · exact hy h1
              · exact hzx h1.symm
            · rintro s ((⟨⟨h1, h2⟩, h3⟩ | rfl) | rfl)
              · exact .inl ⟨h1, h3⟩
              · exact .inl ⟨hz, fun h => hYy.2 h.symm⟩
              · exact .inr rfl
        · refine ⟨fun k => if k = i then true else false, .inr ⟨z, hz, hXz, ?_, ?_⟩⟩
          · rw [sw_put _ mu nu i, hn]
            have : sw (fun _ => false) (put mu i none) (put nu i none) = put mu i none := by funext k; simp [sw]
            rw [this]
            exact hX1.put him (fun h => hXz h.1)
          · rw [sw_put _ nu mu i, hi]
            have : sw (fun _ => false) (put nu i none) (put mu i none) = put nu i none := by funext k; simp [sw]
            rw [this]
            exact hY1.put him (fun h => hy h.1)
    · refine ⟨fun _ => false, .inl ⟨⟨?_, hX.inj, hX.out⟩, hY.mono fun s h => .inl h⟩⟩
      intro i j e
      exact ⟨hX.av i j e, fun h => hu ⟨i, by rw [← h]; exact e⟩⟩
/-- sums -/
def Sm : Nat → (Nat → Int) → Int
  | 0, _ => 0
  | m+1, f => Sm m f + f m
theorem Sm_congr {m : Nat} {f g : Nat → Int} (h : ∀ i, i < m → f i = g i) : Sm m f = Sm m g := by
  induction m with
  | zero => rfl
  | succ m ih => rw [Sm, Sm, ih (fun i hi => h i (by omega)), h m (by omega)]
theorem Sm_add (m : Nat) (f g : Nat → Int) : Sm m (fun i => f i + g i) = Sm m f + Sm m g := by
  induction m with
  | zero => rfl
  | succ m ih => rw [Sm, Sm, Sm, ih]; omega
theorem Sm_zero (m : Nat) : Sm m (fun _ => 0) = 0 := by
  induction m with
  | zero => rfl
  | succ m ih => rw [Sm, ih]; rfl
theorem Sm_upd {m i : Nat} (hi : i < m) {f g : Nat → Int} (h : ∀ k, k ≠ i → f k = g k) : Sm m f = Sm m g + (f i - g i) := by
  induction m with
  | zero => omega
  | succ m ih =>
    rw [Sm, Sm]
    by_cases e : i = m
    · subst e; rw [Sm_congr (fun k hk => h k (by omega))]; omega
    · rw [ih (by omega), h m (fun h => e h.symm)]; omega
theorem Sm_left (m : Nat) (f : Nat → Int) : Sm (m+1) f = f 0 + Sm m (fun i => f (i+1)) := by
  induction m with
  | zero => simp [Sm]
  | succ m ih => rw [Sm, ih, Sm]; omega
theorem Sm_le {m : Nat} {f g : Nat → Int} (h : ∀ i, i < m → f i ≤ g i) : Sm m f ≤ Sm m g := by
  induction m with
  | zero => exact Int.le_refl _
  | succ m ih => rw [Sm, Sm]; have := ih (fun i hi => h i (by omega)); have := h m (by omega); omega
def wv (f : Nat → Int) : Option Nat → Int
  | some j => f j
  | none => 0
def Wo (m : Nat) (w : Nat → Nat → Int) (mu : Asg) : Int := Sm m (fun i => wv (w i) (mu i))
theorem Wo_sw (m : Nat) (w : Nat → Nat → Int) (P : Nat → Bool) (a b : Asg) : Wo m w (sw P a b) + Wo m w (sw P b a) = Wo m w a + Wo m w b := by
  unfold Wo; rw [← Sm_add, ← Sm_add]; apply Sm_congr; intro i _
  unfold sw; cases P i <;> simp <;> omega
theorem Wo_put {m : Nat} (w : Nat → Nat → Int) (mu : Asg) {i : Nat} (hi : i < m) (o : Option Nat) :
    Wo m w (put mu i o) = Wo m w mu + (wv (w i) o - wv (w i) (mu i)) := by
  unfold Wo
  rw [Sm_upd hi (g := fun i => wv (w i) (mu i)) (by intro k hk; simp [put, hk])]
  simp [put]
theorem put_self (mu : Asg) (i : Nat) (o : Option Nat) : put mu i o i = o := by simp [put]
theorem Wo_gain {m : Nat} (w : Nat → Nat → Int) {mu : Asg} {i k : Nat} (hi : i < m) (h : mu i = none) :
    Wo m w (put mu i (some k)) = Wo m w mu + w i k := by
  rw [Wo_put w mu hi, h]; simp only [wv]; omega
theorem Wo_lose {m : Nat} (w : Nat → Nat → Int) {mu : Asg} {i k : Nat} (hi : i < m) (h : mu i = some k) :
    Wo m w (put mu i none) = Wo m w mu - w i k := by
  rw [Wo_put w mu hi, h]; simp only [wv]; omega
theorem Wo_none {m : Nat} (w : Nat → Nat → Int) {mu : Asg} {i : Nat} (hi : i < m) (h : mu i = none) :
    Wo m w (put mu i none) = Wo m w mu := by
  rw [Wo_put w mu hi, h]; omega
theorem sw_none (P : Nat → Bool) {a b : Asg} {i : Nat} (ha : a i = none) (hb : b i = none) : sw P a b i = none := by
  unfold sw; split <;> assumption
/-- the greatest worth for the stars that are not told, and the stars that are not told -/
structure Best (m : Nat) (w : Nat → Nat → Int) (X : Nat → Prop) (v : Int) : Prop where
  le : ∀ mu, On m X mu → Wo m w mu ≤ v
  ex : ∃ mu, On m X mu ∧ Wo m w mu = v
theorem xch' {m : Nat} {mu nu : Asg} {X Y : Nat → Prop} {x : Nat} (hX : On m X mu) (hY : On m Y nu) (hx : X x) (hy : ¬ Y x) :
    ∃ P, (On m (fun s => X s ∧ s ≠ x) (sw P mu nu) ∧ On m (fun s => Y s ∨ s = x) (sw P nu mu)) ∨
      ∃ y, Y y ∧ ¬ X y ∧ On m (fun s => (X s ∧ s ≠ x) ∨ s = y) (sw P mu nu) ∧ On m (fun s => (Y s ∧ s ≠ y) ∨ s = x) (sw P nu mu) :=
  xch m m (List.range m) mu nu X Y x (by simp) (fun i j e => List.mem_range.2 (hX.lt e)) hX hY hx hy
theorem price_of {m : Nat} {w : Nat → Nat → Int} {N : Nat → Prop} {V : Int} {U : Nat → Int} (hV : Best m w N V)
    (hU : ∀ j, N j → Best m w (fun s => N s ∧ s ≠ j) (U j)) {mu : Asg} (hm : On m N mu) (hW : Wo m w mu = V) :
    (∀ j, N j → (∀ i, mu i ≠ some j) → U j = V) ∧ (∀ j, N j → U j ≤ V) ∧
    (∀ i j, mu i = some j → V ≤ w i j + U j) ∧
    (∀ i j k, mu i = some j → N k → w i k + U k ≤ w i j + U j) ∧
    (∀ i k, i < m → mu i = none → N k → w i k + U k ≤ V) := by
  have hle : ∀ j, N j → U j ≤ V := by
    intro j hj
    obtain ⟨nu, h1, h2⟩ := (hU j hj).ex
    rw [← h2]; exact hV.le _ (h1.mono fun s h => h.1)
  refine ⟨?_, hle, ?_, ?_, ?_⟩
  · intro j hj hn
    have : Wo m w mu ≤ U j := (hU j hj).le mu ⟨fun i s e => ⟨hm.av i s e, fun h => hn i (h ▸ e)⟩, hm.inj, hm.out⟩
    have := hle j hj; omega
  · intro i j hij
    have h := (hU j (hm.av i j hij)).le _ (hm.take hij)
    rw [Wo_lose w (hm.lt hij) hij] at h; omega
  · intro i j k hij hk
    have him := hm.lt hij
    by_cases hjk : j = k
    · subst hjk; exact Int.le_refl _
    have hj := hm.av i j hij
    obtain ⟨nu, hn, hnW⟩ := (hU k hk).ex
    have hm1 := hm.take hij
    have hm1W := Wo_lose w him hij
    cases hl : nu i with
    | none =>
      have hA := hV.le _ (((hn.drop i).put him (z := k) (fun h => h.2 rfl)).mono (Y := N) (by
        rintro s (h | rfl)
        · exact h.1
        · exact hk))
      have hB := (hU j hj).le _ hm1
      rw [Wo_gain w him (put_self _ _ _), Wo_none w him hl] at hA
      omega
    | some l =>
      have hlN := hn.av i l hl
      have hn1 := hn.take hl
      have hn1W := Wo_lose w him hl
      by_cases hlj : l = j
      · subst hlj
        have hB := (hU l hj).le _ ((hn1.put him (z := k) (fun h => h.1.2 rfl)).mono (by
          rintro s (⟨⟨h1, h2⟩, h3⟩ | rfl)
          · exact ⟨h1, h3⟩
          · exact ⟨hk, fun h => hjk h.symm⟩))
        rw [Wo_gain w him (put_self _ _ _)] at hB
        omega
      · obtain ⟨P, hP⟩ := xch' (x := k) hm1 hn1 ⟨hk, fun h => hjk h.symm⟩ (fun h => h.1.2 rfl)
        have hs := Wo_sw m w P (put mu i none) (put nu i none)
        have e1 : sw P (put mu i none) (put nu i none) i = none := sw_none P (put_self _ _ _) (put_self _ _ _)
        have e2 : sw P (put nu i none) (put mu i none) i = none := sw_none P (put_self _ _ _) (put_self _ _ _)
        rcases hP with ⟨hA, hB⟩ | ⟨y, hYy, hXy, hA, hB⟩
        · have hA' := (hU j hj).le _ ((hA.put him (z := k) (fun h => h.2 rfl)).mono (by
            rintro s (⟨⟨h1, h2⟩, h3⟩ | rfl)
            · exact ⟨h1, h2⟩
            · exact ⟨hk, fun h => hjk h.symm⟩))
          have hB' := hV.le _ ((hB.put him (z := l) (by
            rintro (⟨⟨h1, h2⟩, h3⟩ | h)
            · exact h3 rfl
            · exact hlN.2 h)).mono (Y := N) (by
            rintro s ((⟨⟨h1, h2⟩, h3⟩ | rfl) | rfl)
            · exact h1
            · exact hk
            · exact hlN.1))
          rw [Wo_gain w him e1] at hA'
          rw [Wo_gain w him e2] at hB'
          omega
        · have hyj : y = j := Classical.byContradiction fun h => hXy ⟨hYy.1.1, h⟩
          subst hyj
          have hA' := hV.le _ ((hA.put him (z := k) (by
            rintro (⟨⟨h1, h2⟩, h3⟩ | h)
            · exact h3 rfl
            · exact hjk h.symm)).mono (Y := N) (by
            rintro s ((⟨⟨h1, h2⟩, h3⟩ | rfl) | rfl)
            · exact h1
            · exact hj
            · exact hk))
          have hB' := (hU y hj).le _ ((hB.put him (z := l) (by
            rintro (⟨⟨⟨h1, h2⟩, h3⟩, h4⟩ | h)
            · exact h3 rfl
            · exact hlN.2 h)).mono (by
            rintro s ((⟨⟨⟨h1, h2⟩, h3⟩, h4⟩ | rfl) | rfl)
            · exact ⟨h1, h4⟩
            · exact ⟨hk, fun h => hjk h.symm⟩
            · exact ⟨hlN.1, hlj⟩))
          rw [Wo_gain w him e1] at hA'
          rw [Wo_gain w him e2] at hB'
          omega
  · intro i k him hi hk
    obtain ⟨nu, hn, hnW⟩ := (hU k hk).ex
    cases hl : nu i with
    | none =>
      have hA := hV.le _ ((hn.put him (z := k) (fun h => h.2 rfl)).mono (Y := N) (by
        rintro s (h | rfl)
        · exact h.1
        · exact hk))
      rw [Wo_gain w him hl] at hA
      omega
    | some l =>
      have hlN := hn.av i l hl
      have hn1 := hn.take hl
      have hn1W := Wo_lose w him hl
      obtain ⟨P, hP⟩ := xch' (x := k) hm hn1 hk (fun h => h.1.2 rfl)
      have hs := Wo_sw m w P mu (put nu i none)
      have e1 : sw P mu (put nu i none) i = none := sw_none P hi (put_self _ _ _)
      have e2 : sw P (put nu i none) mu i = none := sw_none P (put_self _ _ _) hi
      rcases hP with ⟨hA, hB⟩ | ⟨y, hYy, hXy, hA, hB⟩
      · have hA' := hV.le _ ((hA.put him (z := k) (fun h => h.2 rfl)).mono (Y := N) (by
          rintro s (⟨h1, h2⟩ | rfl)
          · exact h1
          · exact hk))
        have hB' := hV.le _ ((hB.put him (z := l) (by
          rintro (⟨⟨h1, h2⟩, h3⟩ | h)
          · exact h3 rfl
          · exact hlN.2 h)).mono (Y := N) (by
          rintro s ((⟨⟨h1, h2⟩, h3⟩ | rfl) | rfl)
          · exact h1
          · exact hk
          · exact hlN.1))
        rw [Wo_gain w him e1] at hA'
        rw [Wo_gain w him e2] at hB'
        omega
      · exact absurd hYy.1.1 hXy
/-- the table: the greatest worth of the rows with the stars that are not told -/
def bs (r : Nat → Int) (f : Nat → Int) (told : Nat) : Nat → Int
  | 0 => f told
  | k+1 => if told.testBit k = true then bs r f told k else max (bs r f told k) (r k + f (told ||| 1 <<< k))
def tab (n : Nat) : List (List Int) → Nat → Int
  | [], _ => 0
  | r :: R, told => bs (fun k => r.getD k 0) (tab n R) told n
def free (n told : Nat) (j : Nat) : Prop := j < n ∧ told.testBit j = false
theorem free_or {n told k j : Nat} : free n (told ||| 1 <<< k) j ↔ free n told j ∧ j ≠ k := by
  unfold free
  rw [Nat.testBit_or, Nat.one_shiftLeft, Nat.testBit_two_pow, Bool.or_eq_false_iff, decide_eq_false_iff_not]
  constructor
  · rintro ⟨h1, h2, h3⟩; exact ⟨⟨h1, h2⟩, fun h => h3 h.symm⟩
  · rintro ⟨⟨h1, h2⟩, h3⟩; exact ⟨h1, h2, fun h => h3 h.symm⟩
theorem bs_skip (r f : Nat → Int) (told k : Nat) : f told ≤ bs r f told k := by
  induction k with
  | zero => exact Int.le_refl _
  | succ k ih => unfold bs; split <;> omega
theorem bs_take (r f : Nat → Int) (told : Nat) {k j : Nat} (hj : j < k) (h : told.testBit j = false) : r j + f (told ||| 1 <<< j) ≤ bs r f told k := by
  induction k with
  | zero => omega
  | succ k ih =>
    unfold bs
    by_cases e : j = k
    · subst e; rw [if_neg (by simp [h])]; omega
    · have := ih (by omega); split <;> omega
theorem bs_ex (r f : Nat → Int) (told k : Nat) : bs r f told k = f told ∨ ∃ j, j < k ∧ told.testBit j = false ∧ bs r f told k = r j + f (told ||| 1 <<< j) := by
  induction k with
  | zero => exact .inl rfl
  | succ k ih =>
    unfold bs
    split
    · rcases ih with h | ⟨j, h1, h2, h3⟩
      · exact .inl h
      · exact .inr ⟨j, by omega, h2, h3⟩
    · next hb =>
      rcases Int.le_total (r k + f (told ||| 1 <<< k)) (bs r f told k) with h | h
      · rw [Int.max_eq_left h]
        rcases ih with h | ⟨j, h1, h2, h3⟩
        · exact .inl h
        · exact .inr ⟨j, by omega, h2, h3⟩
      · rw [Int.max_eq_right h]
        exact .inr ⟨k, by omega, by simpa using hb, rfl⟩
def wnum (R : List (List Int)) (i j : Nat) : Int := (R.getD i []).getD j 0
theorem Wo_cons (r : List Int) (R : List (List Int)) (mu : Asg) : Wo (R.length + 1) (wnum (r :: R)) mu = wv (fun k => r.getD k 0) (mu 0) + Wo R.length (wnum R) (fun i => mu (i+1)) := by
  unfold Wo; rw [Sm_left]; rfl
theorem On.tail {m : Nat} {X : Nat → Prop} {mu : Asg} (h : On (m+1) X mu) : On m (fun s => X s ∧ mu 0 ≠ some s) (fun i => mu (i+1)) :=
  ⟨fun i j e => ⟨h.av _ _ e, fun h0 => by have := h.inj _ _ _ h0 e; omega⟩, fun i k j a b => by have := h.inj _ _ _ a b; omega, fun i hi => h.out _ (by omega)⟩
def consA (o : Option Nat) (mu : Asg) : Asg
  | 0 => o
  | i+1 => mu i
theorem On.cons {m : Nat} {X : Nat → Prop} {mu : Asg} {o : Option Nat} (h : On m (fun s => X s ∧ o ≠ some s) mu) (ho : ∀ s, o = some s → X s) : On (m+1) X (consA o mu) := by
  refine ⟨?_, ?_, ?_⟩
  · intro i j e
    cases i with
    | zero => exact ho j e
    | succ i => exact (h.av i j e).1
  · intro i k j a b
    cases i with
    | zero =>
      cases k with
      | zero => rfl
      | succ k => exact absurd a (h.av k j b).2
    | succ i =>
      cases k with
      | zero => exact absurd b (h.av i j a).2
      | succ k => rw [h.inj i k j a b]
  · intro i hi
    cases i with
    | zero => omega
    | succ i => exact h.out i (by omega)
theorem best_tab (n : Nat) : ∀ (R : List (List Int)) (told : Nat), Best R.length (wnum R) (free n told) (tab n R told)
  | [], told => ⟨fun mu _ => Int.le_refl _, fun _ => none, ⟨fun i j e => by simp at e, fun i k j e => by simp at e, fun i _ => rfl⟩, rfl⟩
  | r :: R, told => by
    refine ⟨?_, ?_⟩
    · intro mu hm
      show Wo (R.length + 1) _ _ ≤ bs _ _ _ _
      have hm : On (R.length + 1) (free n told) mu := hm
      rw [Wo_cons]
      cases h0 : mu 0 with
      | none =>
        have := (best_tab n R told).le _ (hm.tail.mono fun s h => h.1)
        have := bs_skip (fun k => r.getD k 0) (tab n R) told n
        simp only [wv]; omega
      | some j =>
        have hj := hm.av _ _ h0
        have := (best_tab n R (told ||| 1 <<< j)).le _ (hm.tail.mono fun s h => free_or.2 ⟨h.1, fun e => h.2 (by rw [h0, e])⟩)
        have := bs_take (fun k => r.getD k 0) (tab n R) told hj.1 hj.2
        simp only [wv]; omega
    · rcases bs_ex (fun k => r.getD k 0) (tab n R) told n with h | ⟨j, h1, h2, h3⟩
      · obtain ⟨mu, hm, hW⟩ := (best_tab n R told).ex
        refine ⟨consA none mu, (hm.mono fun s h => ⟨h, by simp⟩ : On _ _ _).cons (by simp), ?_⟩
        show Wo (R.length + 1) _ _ = bs _ _ _ _
        rw [Wo_cons, h]
        show 0 + Wo R.length (wnum R) mu = _
        omega
      · obtain ⟨mu, hm, hW⟩ := (best_tab n R (told ||| 1 <<< j)).ex
        refine ⟨consA (some j) mu, (hm.mono fun s h => ⟨(free_or.1 h).1, fun e => (free_or.1 h).2 (by cases e; rfl)⟩ : On _ _ _).cons (fun s e => by cases e; exact ⟨h1, h2⟩), ?_⟩
        show Wo (R.length + 1) _ _ = bs _ _ _ _
        rw [Wo_cons, h3]
        show _ + Wo R.length (wnum R) mu = _
        rw [hW]; rfl
theorem Best.congr {m : Nat} {w : Nat → Nat → Int} {X Y : Nat → Prop} {v : Int} (h : Best m w X v) (e : ∀ s, X s ↔ Y s) : Best m w Y v := by
  have : X = Y := funext fun s => propext (e s)
  rw [← this]; exact h
/-- the stars that some row has -/
theorem sum_rows {m : Nat} {X : Nat → Prop} {mu : Asg} (h : On m X mu) {n : Nat} (hn : ∀ j, X j → j < n) (p : Nat → Int) (h0 : ∀ j, j < n → (∀ i, mu i ≠ some j) → p j = 0) :
    Sm n p = Sm m (fun i => wv p (mu i)) := by
  induction m generalizing X mu p with
  | zero =>
    rw [Sm_congr (g := fun _ => 0) (fun j hj => h0 j hj fun i e => by rw [h.out i (by omega)] at e; cases e), Sm_zero]; rfl
  | succ m ih =>
    cases hl : mu m with
    | none =>
      rw [Sm, hl]
      have hm : On m X mu := ⟨h.av, h.inj, fun i hi => by
        by_cases e : i = m
        · rw [e]; exact hl
        · exact h.out i (by omega)⟩
      rw [ih hm hn p h0]; simp only [wv]; omega
    | some z =>
      have hz := hn z (h.av m z hl)
      have h1 := h.take hl
      have hm : On m _ (put mu m none) := ⟨h1.av, h1.inj, fun i hi => by
        by_cases e : i = m
        · rw [e]; exact put_self _ _ _
        · exact h1.out i (by omega)⟩
      have hq := ih (X := X) (hm.mono fun s h => h.1) hn (fun j => if j = z then 0 else p j) (fun j hj hi => by
        split
        · rfl
        · next hjz =>
          refine h0 j hj fun i e => ?_
          by_cases eim : i = m
          · subst eim; rw [hl] at e; cases e; exact hjz rfl
          · exact hi i (by simp [put, eim, e]))
      have e2 : Sm m (fun i => wv (fun j => if j = z then 0 else p j) (put mu m none i)) = Sm m (fun i => wv p (mu i)) := Sm_congr (by
        intro i hi
        have him : i ≠ m := by omega
        simp only [put, him, ↓reduceIte]
        cases hi' : mu i with
        | none => rfl
        | some j =>
          have : j ≠ z := fun e => him (h.inj i m z (e ▸ hi') hl)
          simp [wv, this])
      rw [Sm_upd hz (g := fun j => if j = z then 0 else p j) (by intro k hk; simp [hk]), hq, e2, Sm, hl]
      simp only [wv, ↓reduceIte]
      omega
def mx (g : Nat → Int) : Nat → Int
  | 0 => 0
  | k+1 => max (mx g k) (g k)
theorem mx_pos (g : Nat → Int) (k : Nat) : 0 ≤ mx g k := by
  induction k with
  | zero => exact Int.le_refl _
  | succ k ih => unfold mx; omega
theorem mx_ge (g : Nat → Int) {k j : Nat} (h : j < k) : g j ≤ mx g k := by
  induction k with
  | zero => omega
  | succ k ih =>
    unfold mx
    by_cases e : j = k
    · subst e; omega
    · have := ih (by omega); omega
theorem mx_le (g : Nat → Int) {k : Nat} {v : Int} (h0 : 0 ≤ v) (h : ∀ j, j < k → g j ≤ v) : mx g k ≤ v := by
  induction k with
  | zero => exact h0
  | succ k ih => unfold mx; have := ih (fun j hj => h j (by omega)); have := h k (by omega); omega
def prc (n : Nat) (R : List (List Int)) (j : Nat) : Int := tab n R 0 - tab n R (1 <<< j)
def obs (n : Nat) (R : List (List Int)) (i : Nat) : Int := mx (fun k => wnum R i k - prc n R k) n
theorem free_zero (n j : Nat) : free n 0 j ↔ j < n := by simp [free]
theorem free_one (n k j : Nat) : free n (1 <<< k) j ↔ free n 0 j ∧ j ≠ k := by
  have := @free_or n 0 k j
  rw [Nat.zero_or] at this; exact this
theorem prices_sum (n : Nat) (R : List (List Int)) : Sm R.length (obs n R) + Sm n (prc n R) = tab n R 0 := by
  have hV := best_tab n R 0
  have hU : ∀ j, free n 0 j → Best R.length (wnum R) (fun s => free n 0 s ∧ s ≠ j) (tab n R (1 <<< j)) := fun j _ =>
    (best_tab n R (1 <<< j)).congr fun s => free_one n j s
  obtain ⟨mu, hm, hW⟩ := hV.ex
  obtain ⟨p1, p2, p3, p4, p5⟩ := price_of hV hU hm hW
  have e1 := sum_rows hm (n := n) (fun j h => h.1) (prc n R) (fun j hj h => by
    have := p1 j ((free_zero n j).2 hj) h; unfold prc; omega)
  rw [e1, ← Sm_add, ← hW]
  apply Sm_congr
  intro i hi
  cases h : mu i with
  | none =>
    simp only [wv]
    have h1 : obs n R i ≤ 0 := mx_le _ (Int.le_refl _) fun k hk => by
      have := p5 i k hi h ((free_zero n k).2 hk); unfold prc; omega
    have h2 : 0 ≤ obs n R i := mx_pos _ _
    omega
  | some j =>
    simp only [wv]
    have hj := hm.av i j h
    have h3 := p3 i j h
    have h1 : obs n R i ≤ wnum R i j - prc n R j := mx_le _ (by unfold prc; omega) fun k hk => by
      have := p4 i j k h ((free_zero n k).2 hk); unfold prc; omega
    have h2 : wnum R i j - prc n R j ≤ obs n R i := mx_ge (fun k => wnum R i k - prc n R k) hj.1
    omega
theorem prc_pos (n : Nat) (R : List (List Int)) (j : Nat) : 0 ≤ prc n R j := by
  have hV := best_tab n R 0
  obtain ⟨mu, hm, hW⟩ := (best_tab n R (1 <<< j)).ex
  have := hV.le mu (hm.mono fun s h => ((free_one n j s).1 h).1)
  unfold prc; omega
theorem obs_proves (n : Nat) (R : List (List Int)) (i : Nat) {k : Nat} (hk : k < n) : wnum R i k ≤ obs n R i + prc n R k := by
  have := mx_ge (fun k => wnum R i k - prc n R k) hk
  unfold obs; omega
theorem bs_bd {r f : Nat → Int} {a b : Int} (told : Nat) (ha : 0 ≤ a) (hr : ∀ k, 0 ≤ r k ∧ r k ≤ a) (hf : ∀ t, 0 ≤ f t ∧ f t ≤ b) (k : Nat) : 0 ≤ bs r f told k ∧ bs r f told k ≤ a + b := by
  induction k with
  | zero => unfold bs; have := hf told; omega
  | succ k ih => unfold bs; have := hr k; have := hf (told ||| 1 <<< k); split <;> omega
theorem tab_bd (n : Nat) {a : Int} (ha : 0 ≤ a) : ∀ (R : List (List Int)), (∀ r ∈ R, ∀ x ∈ r, 0 ≤ x ∧ x ≤ a) → ∀ told, 0 ≤ tab n R told ∧ tab n R told ≤ a * R.length
  | [], _, _ => by simp [tab]
  | r :: R, h, told => by
    have ih := tab_bd n ha R (fun r hr => h r (List.mem_cons_of_mem _ hr))
    have := bs_bd (r := fun k => r.getD k 0) (f := tab n R) told ha (fun k => by
      rw [List.getD_eq_getElem?_getD]
      cases hk : r[k]? with
      | none => simpa using ha
      | some x => exact h r List.mem_cons_self x (List.mem_of_getElem? hk)) ih n
    show 0 ≤ bs _ _ _ _ ∧ bs _ _ _ _ ≤ _
    rw [List.length_cons]; push_cast
    rw [Int.mul_add]; omega
end Go.Proofs.Yticamdaicbgdlaa
