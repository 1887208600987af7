/- Words for a whole slice that is appended onto a row; it may be nil. No program in sight. -/
import Derived.Test.YtdklchklpmabdaaDoorCGrow
import Derived.Laws.AppendOwnNone
namespace Go.Proofs.YtdklchklpmabdaaDoor
open Go.RowKit
set_option linter.unusedVariables false
theorem rd_flat {α : Type} {enc : α → List Value} {k B : Nat} {w : World} {a : Addr} {xs : List α} (hk : ∀ x, (enc x).length = k) (h0 : 0 < k) (h : Rd enc k w B (some a) xs) : ∀ j u, (xs.flatMap enc)[j]? = some u → w.cell? (a.add j) = some u := by
  intro j u hj
  have hlt : j < xs.length * k := by have := (List.getElem?_eq_some_iff.1 hj).1; rw [flat_len hk] at this; exact this
  have hx : xs ≠ [] := by rintro rfl; simp at hlt
  obtain ⟨b, o, h1, h2, h3⟩ := h hx
  cases h1
  have hi : j / k < xs.length := (Nat.div_lt_iff_lt_mul h0).2 hlt
  have hm : j % k < k := Nat.mod_lt _ h0
  have hd : j / k * k + j % k = j := by have := Nat.div_add_mod j k; rw [Nat.mul_comm] at this; exact this
  obtain ⟨x, hxi⟩ := getx hi
  have hf := flat_at hk xs (j / k) x hxi (j % k) hm
  rw [hd, hj] at hf
  have := h3 (j / k) x hxi (j % k) u hf.symm
  have hadd : (⟨b, o, none⟩ : Addr).add j = ⟨b, o + j, none⟩ := by unfold Addr.add; split <;> simp_all
  rw [hadd]
  rw [Nat.add_assoc, hd] at this
  exact this
theorem rd_none {α : Type} {enc : α → List Value} {k B : Nat} {w : World} {xs : List α} (h : Rd enc k w B none xs) : xs = [] := by
  cases xs with
  | nil => rfl
  | cons x r => obtain ⟨b, o, h1, _⟩ := h (by simp); cases h1
theorem flat_one {α : Type} {enc : α → List Value} (h1 : ∀ x, ∀ u ∈ enc x, u.oneCell' = true) (xs : List α) : ∀ u ∈ xs.flatMap enc, u.oneCell' = true := by
  intro u hu
  obtain ⟨x, _, hx⟩ := List.mem_flatMap.1 hu
  exact h1 x u hx
theorem own_nil {w : World} {lo n c : Nat} {Ad : Option Addr} {e : TypeId} {size : Nat} {ys : List Value} (h : w.ownsRow lo e size (.slice Ad n c) n ys) : Ad = none → c = 0 := by
  intro hA
  subst hA
  rcases h.2 with ⟨h0, _⟩ | ⟨g, cap, cur, hv, _⟩
  · simp at h0; exact h0.2
  · simp at hv
/-- A whole slice is appended onto a row of the call's own; it may be nil. -/
theorem wpList_append_rd {P : Program} {w : World} {ops : Array Oper} {rest : List Oper} {o : Oper} {a : Act} {Q : Exit → Act → World → Prop} (hgd : o.guard = none) (s x : Operand) (t : TypeId)
    (ho : o.op = .call { callee := .builtin .append, args := #[s, x], argTypes := #[t, t] })
    (base : Nat) (e : TypeId) (i : TypeInfo) (z : Value) (size bytes : Nat) (ht : P.underlying t = some (.slice e)) (hi : P.info? e = some i) (hz : i.zero = some z)
    (hsize : i.size = size) (hby : i.bytes = bytes) (hzs : z.cells.size = size) (hsz : 0 < size)
    (v : Value) (n : Nat) (xs : List Value) (hs : a.eval s = v) (hown : w.ownsRow base e size v n xs)
    (Ad : Option Addr) (m c : Nat) (news : List Value) (hx : a.eval x = .slice Ad m c) (hn0 : Ad = none → m = 0 ∧ c = 0) (hl : news.length = m * size) (hnews : ∀ ad, Ad = some ad → ∀ j u, news[j]? = some u → w.cell? (ad.add j) = some u) (h1 : ∀ u ∈ news, u.oneCell' = true)
    (h63 : n + m ≤ maxLen) (hbytes : (n + m) * bytes ≤ 140737488355328) (hbase : base ≤ w.heap.size)
    (h : ∀ v' w', w'.ownsRow base e size v' (n + m) (xs ++ news) → w.grownBy w' v.ownBlock → (v'.ownBlock = v.ownBlock ∨ v'.ownBlock = some w.heap.size) → wpList P ops Q rest (a.put o.dst v') w') :
    wpList P ops Q (o :: rest) a w := by
  cases Ad with
  | none =>
    obtain ⟨rfl, rfl⟩ := hn0 rfl
    have hnil : news = [] := List.eq_nil_of_length_eq_zero (by simpa using hl)
    subst hnil
    exact wpList_append_own_none hgd s x t ho base e i size ht hi v n xs hs hown hx (h v w (by simpa using hown) (World.grownBy.refl w _) (.inl rfl))
  | some ad =>
    exact wpList_append_own_at w hgd s x t ho base e i z size bytes ht hi hz hsize hby hzs hsz v n xs hs hown ad m c news hx hl (hnews ad rfl) h1 h63 hbytes hbase fun v' w' h2 h3 _ h5 => h v' w' h2 h3 h5
theorem rd_n0 {α : Type} {enc : α → List Value} {k B c : Nat} {w : World} {A : Option Addr} {xs : List α} (h : Rd enc k w B A xs) (hz : A = none → c = 0) : A = none → xs.length = 0 ∧ c = 0 := fun hA => by
  subst hA
  exact ⟨by rw [rd_none h]; rfl, hz rfl⟩
theorem rd_flat' {α : Type} {enc : α → List Value} {k B : Nat} {w : World} {A : Option Addr} {xs : List α} (hk : ∀ x, (enc x).length = k) (h0 : 0 < k) (h : Rd enc k w B A xs) : ∀ a, A = some a → ∀ j u, (xs.flatMap enc)[j]? = some u → w.cell? (a.add j) = some u := fun a hA => by
  subst hA
  exact rd_flat hk h0 h
end Go.Proofs.YtdklchklpmabdaaDoor
