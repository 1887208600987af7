/- Plain law: a rule read from its text: the program's reading (write it again, compare) is the reference's. No program in sight. -/
import Derived.Test.YtdklchklpmabdaaDoorCRlT
import Derived.Test.YtdklchklpmabdaaDoorCRdN
namespace Go.Proofs.YtdklchklpmabdaaDoor
open Go.RowKit
set_option linter.unusedVariables false
def AMP : L8 := [97, 109, 112]
def PER : L8 := [112, 101, 114, 105, 111, 100]
def shI (w : L8) : Int := if w = [97, 110, 121] then 0 else if w = [115, 105, 110, 101] then 1 else if w = [115, 97, 119] then 2 else if w = [100, 105, 112, 115] then 3 else -1
def shL (k : Nat) : L8 := (shT k).data.toList
theorem shI_at {w : L8} (h : 0 ≤ shI w) : ∃ k : Nat, shI w = k ∧ k < 4 ∧ w = shL k := by
  unfold shI at *
  split at h
  · next e => rw [if_pos e]; exact ⟨0, rfl, by decide, e⟩
  · next e0 =>
    rw [if_neg e0]
    split at h
    · next e => rw [if_pos e]; exact ⟨1, rfl, by decide, e⟩
    · next e1 =>
      rw [if_neg e1]
      split at h
      · next e => rw [if_pos e]; exact ⟨2, rfl, by decide, e⟩
      · next e2 =>
        rw [if_neg e2]
        split at h
        · next e => rw [if_pos e]; exact ⟨3, rfl, by decide, e⟩
        · omega
theorem shL_blank {k : Nat} (h : k < 4) : (32 : UInt8) ∉ shL k := by
  have : k = 0 ∨ k = 1 ∨ k = 2 ∨ k = 3 := by omega
  rcases this with rfl | rfl | rfl | rfl <;> decide
def mkR (c : L8) (p q : Int × Int) (k : Int) : Ru := ⟨⟨c.toArray⟩, p.1, p.2, q.1, q.2, k⟩
def rr6 (w0 w1 w2 w3 w4 w5 : L8) : Option Ru :=
  if w1 = AMP ∧ w3 = PER ∧ w0.getLast? = some 58 then
    (match rgV w2, rgV w4 with | some p, some q => if ruB (mkR w0.dropLast p q (shI w5)) = true then some (mkR w0.dropLast p q (shI w5)) else none | _, _ => none)
  else none
def rrV (s : ByteArray) : Option Ru := match wds 32 s.data.toList with
  | [w0, w1, w2, w3, w4, w5] => rr6 w0 w1 w2 w3 w4 w5
  | _ => none
def rlL (c : L8) (a b : L8) (k : Nat) : L8 := (c ++ [58]) ++ 32 :: (AMP ++ 32 :: (a ++ 32 :: (PER ++ 32 :: (b ++ 32 :: shL k))))
theorem rlV_list (s : ByteArray) (fa ta fp tp : Int) (k : Nat) : (rlV s fa ta fp tp k).data.toList = rlL s.data.toList (Lib.itoa fa ++ 46 :: 46 :: Lib.itoa ta) (Lib.itoa fp ++ 46 :: 46 :: Lib.itoa tp) k := by
  simp [rlV, rlL, decS, AMP, PER, shL]
theorem wds_rl {c a b : L8} {k : Nat} (hc : (32 : UInt8) ∉ c) (ha : (32 : UInt8) ∉ a) (hb : (32 : UInt8) ∉ b) (hk : k < 4) : wds 32 (rlL c a b k) = [c ++ [58], AMP, a, PER, b, shL k] := by
  unfold rlL
  rw [wds_app _ (by simp [hc]), wds_app _ (by decide), wds_app _ ha, wds_app _ (by decide), wds_app _ hb, wds_none (shL_blank hk)]
theorem rg_text {w : L8} {p : Int × Int} (h : rgV w = some p) : w = Lib.itoa p.1 ++ 46 :: 46 :: Lib.itoa p.2 ∧ (32 : UInt8) ∉ w := by
  obtain ⟨a, b, e, _, h2⟩ := rg_inv h
  obtain ⟨h3, h4⟩ := twoN_some h2
  have n1 := numV_not h3 (c := 32) (by decide) (by decide)
  have n2 := numV_not h4 (c := 32) (by decide) (by decide)
  rw [(numV_chars h3).1, (numV_chars h4).1]
  exact ⟨e, by rw [e]; simp [n1, n2]⟩
theorem nmGo_blank : ∀ (l : L8) (b : Bool), nmGo b l = true → (32 : UInt8) ∉ l
  | [], _, _ => by simp
  | c :: r, b, h => by
    rw [nmGo] at h
    simp only [Bool.and_eq_true] at h
    intro hm
    rcases List.mem_cons.1 hm with e | e
    · subst e
      have h1 := h.1
      revert h1
      cases b <;> simp [chOk, letB, digB]
    · exact nmGo_blank r _ h.2 e
theorem nameB_blank {s : ByteArray} (h : nameB s = true) : (32 : UInt8) ∉ s.data.toList := by
  simp only [nameB, Bool.and_eq_true] at h
  exact nmGo_blank _ _ h.2.2
theorem trim_col (d : L8) : Lib.trimSuffix (d ++ [58]) [58] = d := by
  unfold Lib.trimSuffix Lib.hasSuffix
  rw [if_pos (by simp)]
  simp
theorem dropLast_col (d : L8) : (d ++ [58]).dropLast = d := by simp
theorem last_col {w : L8} (h : w.getLast? = some 58) : w = w.dropLast ++ [58] := by
  have hne : w ≠ [] := fun e => by rw [e] at h; cases h
  have := List.dropLast_concat_getLast hne
  rw [List.getLast?_eq_some_getLast hne] at h
  rw [Option.some.inj h] at this
  exact this.symm
theorem ba_eq {a b : ByteArray} (h : a.data.toList = b.data.toList) : a = b := by
  cases a; cases b; congr; exact Array.toList_inj.1 h
theorem rr_eq {w0 w1 w2 w3 w4 w5 : L8} {p q : Int × Int} {s : ByteArray} (hw : wds 32 s.data.toList = [w0, w1, w2, w3, w4, w5]) (hp : rgV w2 = some p) (hq : rgV w4 = some q) (hk : 0 ≤ shI w5) :
    rrV s = if rlT (mkR (Lib.trimSuffix w0 [58]) p q (shI w5)) = s then some (mkR (Lib.trimSuffix w0 [58]) p q (shI w5)) else none := by
  obtain ⟨k, ek, hk4, e5⟩ := shI_at hk
  obtain ⟨t2, b2⟩ := rg_text hp
  obtain ⟨t4, b4⟩ := rg_text hq
  have er : rrV s = rr6 w0 w1 w2 w3 w4 w5 := by unfold rrV; rw [hw]
  rw [er]
  split
  · next h =>
    have hb : ruB (mkR (Lib.trimSuffix w0 [58]) p q (shI w5)) = true := by
      cases hb : ruB (mkR (Lib.trimSuffix w0 [58]) p q (shI w5)) with
      | true => rfl
      | false =>
        unfold rlT at h
        rw [hb, if_neg (by simp)] at h
        rw [← h] at hw
        have e0 : wds 32 (⟨#[]⟩ : ByteArray).data.toList = [[]] := rfl
        rw [e0] at hw
        cases hw
    have hn : nameB (mkR (Lib.trimSuffix w0 [58]) p q (shI w5)).s = true := by
      unfold ruB at hb
      simp only [Bool.and_eq_true] at hb
      exact hb.1
    have hc : (32 : UInt8) ∉ Lib.trimSuffix w0 [58] := by simpa [mkR] using nameB_blank hn
    have hs : s.data.toList = rlL (Lib.trimSuffix w0 [58]) w2 w4 k := by
      unfold rlT at h
      rw [if_pos hb] at h
      rw [← h, rlV_list, t2, t4]
      simp [mkR, ek]
    rw [hs, wds_rl hc b2 b4 hk4] at hw
    simp only [List.cons.injEq] at hw
    obtain ⟨e0, e1, _, e3, _⟩ := hw
    unfold rr6
    rw [if_pos ⟨e1.symm, e3.symm, by rw [← e0]; simp⟩, hp, hq]
    simp only
    have ed : w0.dropLast = Lib.trimSuffix w0 [58] := by
      have e := congrArg List.dropLast e0
      rw [dropLast_col] at e
      exact e.symm
    rw [ed, if_pos hb]
  · next h =>
    unfold rr6
    split
    · next hc =>
      obtain ⟨h1, h3, h0⟩ := hc
      rw [hp, hq]
      simp only
      split
      · next hb =>
        exfalso
        apply h
        have ew := last_col h0
        have et : Lib.trimSuffix w0 [58] = w0.dropLast := by rw [ew, trim_col, dropLast_col]
        rw [et]
        apply ba_eq
        unfold rlT
        rw [if_pos hb, rlV_list]
        show rlL w0.dropLast (Lib.itoa p.1 ++ 46 :: 46 :: Lib.itoa p.2) (Lib.itoa q.1 ++ 46 :: 46 :: Lib.itoa q.2) (shI w5).toNat = _
        have hj := (jn_wds 32 s.data.toList.length s.data.toList (Nat.le_refl _)).1
        rw [hw, h1, h3] at hj
        rw [← t2, ← t4, ek, Int.toNat_natCast, ← hj, e5]
        unfold rlL
        rw [← ew]
        rfl
      · rfl
    · rfl
theorem rr_len {s : ByteArray} (h : (wds 32 s.data.toList).length ≠ 6) : rrV s = none := by
  unfold rrV
  split
  · next e => rw [e] at h; exact absurd rfl h
  · rfl
theorem rr_none {w0 w1 w2 w3 w4 w5 : L8} {s : ByteArray} (hw : wds 32 s.data.toList = [w0, w1, w2, w3, w4, w5]) (h : rgV w2 = none ∨ rgV w4 = none ∨ shI w5 < 0) : rrV s = none := by
  have er : rrV s = rr6 w0 w1 w2 w3 w4 w5 := by unfold rrV; rw [hw]
  rw [er]
  unfold rr6
  split
  · split
    · next p q h1 h2 =>
      rw [if_neg]
      rcases h with h | h | h
      · rw [h] at h1; cases h1
      · rw [h] at h2; cases h2
      · intro hb
        unfold ruB at hb
        simp only [Bool.and_eq_true, inB_true, mkR] at hb
        omega
    · rfl
  · rfl
end Go.Proofs.YtdklchklpmabdaaDoor
