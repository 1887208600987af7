/- Contract: the program's walk through the lists of links, whole. -/
import Derived.Test.YtalongdieglibaaC20h
namespace Go.Proofs.Ytalongdieglibaa
open Go.RowKit
set_option linter.unusedVariables false
theorem combW_pow {m : Nat} : ∀ (d k : Nat) (pre : List Int) (i : Nat), i + d = m → (combW m k pre i).length ≤ 2 ^ d
  | 0, 0, pre, i, h => by simp [combW]
  | 0, k + 1, pre, i, h => by rw [combW_end (by omega)]; simp
  | d + 1, 0, pre, i, h => by simp only [combW, List.length_singleton]; exact Nat.one_le_two_pow
  | d + 1, k + 1, pre, i, h => by
    have h1 := combW_pow (m := m) d k (pre ++ [(i : Int)]) (i + 1) (by omega)
    have h2 := combW_pow (m := m) d (k + 1) pre (i + 1) (by omega)
    rw [combW_step (i := i) (m := m) (by omega), List.length_append, Nat.pow_succ]
    omega
def outO (n : Nat) (xs : List Lk) (k : Nat) (pre : List Int) (i : Nat) : List (List Int) := (combW xs.length k pre i).filter (okW n xs)
set_option maxRecDepth 20000 in
set_option maxHeartbeats 4000000 in
theorem ext_any (n lo bn bl bs po be : Nat) (AL : Option Addr) (cL : Nat) (xs : List Lk) (n1 : 1 ≤ n) (n2 : n ≤ 10) (hn : xs.length ≤ 12) (V : Hid (∀ (k : Nat) (p : Lk), xs[k]? = some p → 0 ≤ p.a ∧ p.a < p.b ∧ p.b < n ∧ -5000 ≤ p.d ∧ p.d ≤ 5000)) (kk : Nat) (hkk : kk ≤ 12) :
    ∀ (more i : Nat) (iv : Int) (G : Option Addr) (cG : Nat) (pre : List Int) (v : Value) (Ls : List (List Int)) (w : World), pre.length + more = kk → iv = (i : Int) → i ≤ xs.length → Rd encLk 3 w w.heap.size AL xs → (xs ≠ [] → ∀ b o, AL = some ⟨b, o, none⟩ → b ≠ po ∧ some b ≠ v.ownBlock) → Rd encI 1 w w.heap.size G pre → (G = none → cG = 0) → (∀ b o, G = some ⟨b, o, none⟩ → b ≠ po ∧ some b ≠ v.ownBlock) → AscW i pre → CapW w bn bl bs po be v.ownBlock n xs.length AL cL (kk : Int) → OutS w po lo v Ls → lo ≤ w.heap.size → Ls.length + (combW xs.length more pre i).length ≤ 1000000 →
    Calls Try.prog 42 #[.slice G pre.length cG, .int .i64 iv, .pointer (some ⟨bn, 0, none⟩), .pointer (some ⟨bl, 0, none⟩), .pointer (some ⟨bs, 0, none⟩), .pointer (some ⟨po, 0, none⟩), .pointer (some ⟨be, 0, none⟩)] w (ExtRes po lo v.ownBlock (Ls ++ outO n xs more pre i) w) := by
  intro more
  induction more with
  | zero =>
    rintro i iv G cG pre v Ls w hk rfl hi h hA hG hz hne ha hC hS hlo hB
    have e : outO n xs 0 pre i = moreO n xs pre := by unfold outO moreO; simp [combW, List.filter_cons]
    rw [e]
    have hk' : pre.length = kk := by omega
    rw [← hk'] at hC
    exact ext0_any n lo bn bl bs po be AL cL xs G cG pre _ v Ls w n1 n2 hn V h hG hz (ha.wider hi) hC hS hlo (by omega)
  | succ k ih =>
    rintro i iv G cG pre v Ls w hk rfl hi h hA hG hz hne ha hC hS hlo hB
    have hne0 : ((pre.length : Int) == (kk : Int)) = false := by simp; omega
    have hpl := ha.len
    have HCa := hid hC
    have cn := hC.cn
    have HS0 := hid hS
    have HH := hid h
    have HG := hid hG
    have HB0 := hid hB
    clear hS h hG hC hB
    obtain ⟨i0, hi0, iz0, iz1, iz2⟩ := info_parts (P := Try.prog) (e := 2) (z := .int .i64 0) (size := 1) (bytes := 8) (by kernel_rfl)
    go_enter Try.func42, Try.ntmps42
    go_wp2
    go_loopw [16] (fun vi wr => ∃ (j : Nat) (v' : Value) (Ls' : List (List Int)), i ≤ j ∧ j ≤ xs.length ∧ vi = .int .i64 (j : Int) ∧ Hid (OutS wr po lo v' Ls') ∧ Hid (Fr w wr po v.ownBlock) ∧ Hid (v'.ownBlock = v.ownBlock ∨ ∃ g, v'.ownBlock = some g ∧ w.heap.size ≤ g) ∧ Hid (Ls ++ outO n xs (k + 1) pre i = Ls' ++ outO n xs (k + 1) pre j) ∧ Hid (Ls'.length + (combW xs.length (k + 1) pre j).length ≤ 1000000)) (fun vi _ => xs.length - (intOf vi).toNat)
    case atStart => exact ⟨i, v, Ls, Nat.le_refl _, hi, rfl, HS0, hid (Fr.refl _ _ _), hid (.inl rfl), hid rfl, HB0⟩
    case round =>
      clear HS0 HB0
      obtain ⟨j, v', Ls', hij, hj, rfl, HS, HF, HR, HE, HB⟩ := hrel
      have CW := HCa.out.fr HF.out HR.out
      have cl := CW.cl
      have ce := CW.ce
      have zlW : bl < wr.heap.size := CW.zl.1
      have gz := HF.out.size
      by_cases hlt : j < xs.length
      · have zeW : be < wr.heap.size := CW.ze.1
        have hGW := (Fr.rd HG.out HF.out (Nat.le_refl _) (fun _ => hne)).more gz
        have hAW := (Fr.rd HH.out HF.out (Nat.le_refl _) hA).more gz
        have HCs := hid (combW_step (k := k) (pre := pre) hlt)
        have hcl : (combW xs.length (k + 1) pre j).length = (combW xs.length k (pre ++ [(j : Int)]) (j + 1)).length + (combW xs.length (k + 1) pre (j + 1)).length := by rw [HCs.out, List.length_append]
        have hfl := List.length_filter_le (okW n xs) (combW xs.length k (pre ++ [(j : Int)]) (j + 1))
        have hB1 : Ls'.length + (combW xs.length k (pre ++ [(j : Int)]) (j + 1)).length ≤ 1000000 := by have := HB.out; omega
        have HB3 : Hid ((Ls' ++ outO n xs k (pre ++ [(j : Int)]) (j + 1)).length + (combW xs.length (k + 1) pre (j + 1)).length ≤ 1000000) := hid (by have := HB.out; rw [List.length_append]; unfold outO; omega)
        have hasc : AscW (j + 1) (pre ++ [(j : Int)]) := (ha.wider hij).snoc (m := j + 1) (by omega)
        have hlo' : lo ≤ wr.heap.size := by omega
        have CP : ∀ W, Below wr.heap.size wr W → Calls Try.prog 43 #[.slice G pre.length cG] W (OwnRes 2 1 encI pre W) := fun W hW => copyOfInt64_any G cG pre W ((hGW.below hW (Nat.le_refl _)).more hW.size) (by omega) hz
        have hvlt : ∀ g, v'.ownBlock = some g → g < wr.heap.size := by obtain ⟨hs, ow, _⟩ := HS.out.ex; exact fun g hg => (ow.lt g hg).2
        have hAW' : xs ≠ [] → ∀ b o, AL = some ⟨b, o, none⟩ → b ≠ po ∧ some b ≠ v'.ownBlock := fun hx b o e => ⟨(hA hx b o e).1, by
          rcases HR.out with e2 | ⟨g, e2, hg⟩
          · rw [e2]; exact (hA hx b o e).2
          · rw [e2]
            obtain ⟨b', o', e', hb', _⟩ := HH.out (by intro e0; rw [e0] at hlt; simp at hlt)
            rw [e] at e'; cases e'
            simp; omega⟩
        have NX : ∀ (gg cap : Nat) (W8 : World), Below wr.heap.size wr W8 → W8.ownsRow wr.heap.size 2 1 (.slice (some ⟨gg, 0, none⟩) (pre.length + 1) cap) (pre.length + 1) (pre.flatMap encI ++ [.int .i64 (j : Int)]) →
            Calls Try.prog 42 #[.slice (some ⟨gg, 0, none⟩) (pre.length + 1) cap, .int .i64 ((j : Int) + 1), .pointer (some ⟨bn, 0, none⟩), .pointer (some ⟨bl, 0, none⟩), .pointer (some ⟨bs, 0, none⟩), .pointer (some ⟨po, 0, none⟩), .pointer (some ⟨be, 0, none⟩)] W8 (ExtRes po lo v'.ownBlock (Ls' ++ outO n xs k (pre ++ [(j : Int)]) (j + 1)) W8) := fun gg cap W8 hb8 ho8 => by
          have hpo := HS.out.lp
          have ho9 : W8.ownsRow wr.heap.size 2 1 (.slice (some ⟨gg, 0, none⟩) (pre ++ [(j : Int)]).length cap) (pre ++ [(j : Int)]).length ((pre ++ [(j : Int)]).flatMap encI) := by simpa [encI] using ho8
          have hgg : wr.heap.size ≤ gg := (ho8.lt gg rfl).1
          have rg := rd_of_own (enc := encI) (k := 1) (fun _ => rfl) ho9
          have T := ih (j + 1) ((j : Int) + 1) (some ⟨gg, 0, none⟩) cap (pre ++ [(j : Int)]) v' Ls' W8 (by rw [List.length_append, List.length_singleton]; omega) (by simp) (by omega) ((hAW.below hb8 (Nat.le_refl _)).more hb8.size) hAW' rg (fun e => by cases e) (fun b o e => by
            cases e
            refine ⟨by omega, ?_⟩
            intro e2
            have := hvlt gg e2.symm
            omega) hasc (CW.fr (Fr.of hb8) (.inl rfl)) (HS.out.below hb8) (by have := hb8.size; omega) hB1
          rw [List.length_append, List.length_singleton] at T
          exact T
        have CW8 : ∀ W8, Below wr.heap.size wr W8 → ∀ W9, Fr W8 W9 po v'.ownBlock → CapW W9 bn bl bs po be v'.ownBlock n xs.length AL cL (kk : Int) := fun W8 hb8 W9 hf9 => (CW.fr (Fr.of hb8) (.inl rfl)).fr hf9 (.inl rfl)
        have HE2 : Hid (outO n xs (k + 1) pre j = outO n xs k (pre ++ [(j : Int)]) (j + 1) ++ outO n xs (k + 1) pre (j + 1)) := hid (by unfold outO; rw [HCs.out, List.filter_append])
        have y1 : IntKind.i64.wrap ((j : Int) + 1) = (j : Int) + 1 := IntWalk.i64_in _ ⟨by omega, by omega⟩
        clear hcl hfl hB1 cn CW hvlt
        go_wp2
        go_region_held3 (fun w' => w'.cell? ⟨be, 0, none⟩ = some (.func (.func 42) #[] #[.pointer (some ⟨bn, 0, none⟩), .pointer (some ⟨bl, 0, none⟩), .pointer (some ⟨bs, 0, none⟩), .pointer (some ⟨po, 0, none⟩), .pointer (some ⟨be, 0, none⟩)])) (first | go_keep | (rw [hgrow.cell_far _ (by simp; omega) (by simp; omega)]; assumption))
          ((first
            | (go_at_call 43; refine (CP _ (by repeat (first | assumption | exact Below.refl _ _ | apply Below.al | apply Below.drew))).mono ?_; rintro e w5 ⟨A5, c5, rfl, own5, hb5⟩; have zw5 := hb5.size; simp at zw5; have hbw5 : Below wr.heap.size wr w5 := Below.trans (by repeat (first | assumption | exact Below.refl _ _ | apply Below.al | apply Below.drew)) (hb5.mono (by simp)); have ce5 := ((bcell hbw5).1 be 0 zeW).trans ce)
            | (refine step_append_lies _ (by rfl) _ _ _ (by rfl) wr.drew.heap.size 2 i0 _ 1 8 Try.underlying36 hi0 iz0 iz1 iz2 rfl (by omega) _ pre.length _ (by rfl) (own5.alloc _) ⟨w5.heap.size, 0, none⟩ 1 1 [.int .i64 (j : Int)] (by rfl) (by rfl) (World.news_of_block (cs := #[.int .i64 (j : Int)]) (t := 2) (fr := (0, 0)) (heap_alloc_new w5 _)) (by simp [Value.oneCell']) (by omega) (by unfold maxLen; omega) (by omega) (by simp; omega) (w5.heap.size + 1) (by simp) ?_; intro gg cap w8 hown8 hgrow hat hlt8; have hb8 : Below wr.heap.size wr w8 := (hbw5.alloc (by omega) _).grown hgrow (by simp; omega) (fun q hq => by have := (own5.lt q hq).1; simp at this; omega); have hown9 := own_lo (lo' := wr.heap.size) hown8 (by simp); have zw8 := hb8.size; have ce8 := ((bcell hb8).1 be 0 zeW).trans ce)
            | (refine step_append_lies _ (by rfl) _ _ _ (by rfl) (wr.heap.size + 1) 2 i0 _ 1 8 Try.underlying36 hi0 iz0 iz1 iz2 rfl (by omega) _ pre.length _ (by rfl) (own_lo own5 (by simp)) ⟨wr.heap.size, 0, none⟩ 1 1 [.int .i64 (j : Int)] (by rfl) (by rfl) (World.news_of_block (cs := #[.int .i64 (j : Int)]) (t := 2) (fr := (0, 0)) ((hb5.block wr.heap.size (by simp)).trans (heap_alloc_new wr.drew _))) (by simp [Value.oneCell']) (by omega) (by unfold maxLen; omega) (by omega) (by omega) (w5.heap.size) (by simp) ?_; intro gg cap w8 hown8 hgrow hat hlt8; have hb8 : Below wr.heap.size wr w8 := hbw5.grown hgrow (by omega) (fun q hq => by have := (own5.lt q hq).1; simp at this; omega); have hown9 := own_lo (lo' := wr.heap.size) hown8 (by simp); have zw8 := hb8.size; have ce8 := ((bcell hb8).1 be 0 zeW).trans ce)
            | (go_at_call 42; (try rw [y1]); have CC := NX gg cap w8 hb8 hown9; refine CC.mono ?_; rintro e w9 ⟨rfl, v9, hS9, hf9, hr9⟩; have ce9 := (CW8 w8 hb8 w9 hf9).ce; have hS9' := hid hS9; clear hS9 CC)))
        all_goals
          have HF9 : Hid (Fr w w9 po v.ownBlock) := hid ((HF.out.trans (Fr.of hb8) (.inl rfl)).trans hf9 HR.out)
          have zw8 := hb8.size
          have HR9 : Hid (v9.ownBlock = v.ownBlock ∨ ∃ g, v9.ownBlock = some g ∧ w.heap.size ≤ g) := hid (by
            rcases hr9 with e | ⟨g, e, hg⟩
            · rw [e]; exact HR.out
            · exact .inr ⟨g, e, by omega⟩)
          clear hf9 hr9 NX CW8 CP
          go_wp2
          go_roundw
          case rel => exact ⟨j + 1, v9, Ls' ++ outO n xs k (pre ++ [(j : Int)]) (j + 1), by omega, by omega, by go_num, hS9', HF9, HR9, hid (by rw [HE.out, HE2.out, List.append_assoc]), HB3⟩
          case measure => simp [intOf]; omega
      · obtain rfl : j = xs.length := by omega
        have HZ : Hid (Ls ++ outO n xs (k + 1) pre i = Ls') := hid (by rw [HE.out]; unfold outO; rw [combW_end (Nat.le_refl _)]; simp)
        go_wp2
        go_end0
        exact ⟨rfl, v', by rw [HZ.out]; exact HS.out, HF.out, HR.out⟩
end Go.Proofs.Ytalongdieglibaa
