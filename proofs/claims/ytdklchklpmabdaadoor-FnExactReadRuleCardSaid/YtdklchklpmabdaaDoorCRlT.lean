/- Contracts: the text of a rule, in the program and in the reference. -/
import Derived.Test.YtdklchklpmabdaaDoorCDec
import Derived.Test.YtdklchklpmabdaaDoorC18v
import Derived.Test.YtdklchklpmabdaaDoorCToR
import Derived.Deep.RegionHeld3
import Derived.Deep.RegionWith
import Derived.Shelf.Strings.OnBuilder
namespace Go.Proofs.YtdklchklpmabdaaDoor
open Go.RowKit
set_option linter.unusedVariables false
def shT (k : Nat) : ByteArray := match k with | 0 => ⟨#[97, 110, 121]⟩ | 1 => ⟨#[115, 105, 110, 101]⟩ | 2 => ⟨#[115, 97, 119]⟩ | _ => ⟨#[100, 105, 112, 115]⟩
theorem shT_size (k : Nat) : (shT k).size ≤ 4 := by
  unfold shT; split <;> decide
theorem shp_cell (w : World) {k : Nat} (hk : k < 4) : (w.alloc (.cells #[.string ⟨#[97, 110, 121]⟩, .string ⟨#[115, 105, 110, 101]⟩, .string ⟨#[115, 97, 119]⟩, .string ⟨#[100, 105, 112, 115]⟩] 9)).cell? ⟨w.heap.size, k, none⟩ = some (.string (shT k)) := by
  have : k = 0 ∨ k = 1 ∨ k = 2 ∨ k = 3 := by omega
  rcases this with rfl | rfl | rfl | rfl <;> simp [go_sem, shT]
def rlV (s : ByteArray) (fa ta fp tp : Int) (k : Nat) : ByteArray := ((((((((s ++ ⟨#[58, 32, 97, 109, 112, 32]⟩) ++ decS fa) ++ ⟨#[46, 46]⟩) ++ decS ta) ++ ⟨#[32, 112, 101, 114, 105, 111, 100, 32]⟩) ++ decS fp) ++ ⟨#[46, 46]⟩) ++ decS tp) ++ ⟨#[32]⟩ ++ shT k
def rlT (x : Ru) : ByteArray := if ruB x = true then rlV x.s x.fa x.ta x.fp x.tp x.sh.toNat else ⟨#[]⟩
theorem sz_lit2 (l : Array UInt8) : (ByteArray.mk l).size = l.size := rfl
theorem ruB_bds {s : ByteArray} {fa ta fp tp sh : Int} (h : ruB ⟨s, fa, ta, fp, tp, sh⟩ = true) : s.size ≤ 12 ∧ 0 ≤ fa ∧ fa ≤ 1000000 ∧ 0 ≤ ta ∧ ta ≤ 1000000 ∧ 0 ≤ fp ∧ fp ≤ 1000000 ∧ (0 ≤ tp ∧ tp ≤ 1000000) ∧ ∃ k : Nat, sh = k ∧ k < 4 := by
  simp only [ruB, nameB, Bool.and_eq_true, inB_true, decide_eq_true_eq] at h
  refine ⟨by omega, by omega, by omega, by omega, by omega, by omega, by omega, by omega, sh.toNat, by omega, by omega⟩
theorem shapeNames_any (w : World) :
    Calls Tryd.prog 14 #[] w fun e w' => e = .returned (.slice (some ⟨w.heap.size, 0, none⟩) 4 4) ∧ w' = w.alloc (.cells #[.string ⟨#[97, 110, 121]⟩, .string ⟨#[115, 105, 110, 101]⟩, .string ⟨#[115, 97, 119]⟩, .string ⟨#[100, 105, 112, 115]⟩] 9) := by
  go_enter Tryd.func14, Tryd.ntmps14
  go_wp2
  go_ret
  exact ⟨rfl, rfl⟩
theorem l18Shapes_any (w : World) :
    Calls Tryd.prog 9 #[] w fun e w' => e = .returned (.slice (some ⟨w.heap.size, 0, none⟩) 4 4) ∧ w' = w.alloc (.cells #[.string ⟨#[97, 110, 121]⟩, .string ⟨#[115, 105, 110, 101]⟩, .string ⟨#[115, 97, 119]⟩, .string ⟨#[100, 105, 112, 115]⟩] 9) := by
  go_enter Tryd.func9, Tryd.ntmps9
  go_wp2
  go_ret
  exact ⟨rfl, rfl⟩
def joinLRen : Go.Shelf.Ren := ⟨fun | 156 => 27 | 165 => 41 | 166 => 42 | 169 => 43 | 240 => 52 | 241 => 53 | 276 => 69 | 277 => 70 | n => n, fun | 31 => 28 | 9 => 9 | 3 => 3 | 4 => 4 | 0 => 0 | 20 => 20 | 72 => 61 | 76 => 63 | 70 => 58 | 37 => 59 | 75 => 53 | 127 => 71 | 164 => 87 | 5 => 5 | 80 => 65 | n => n, fun | n => n⟩
set_option maxRecDepth 100000 in
theorem joinL : Lays.n156 Tryd.prog joinLRen := {
  mixed := by kernel_rfl,
  f156 := Tryd.func27.trans (congrArg some (by kernel_rfl)),
  f165 := Tryd.func41.trans (congrArg some (by kernel_rfl)),
  f166 := Tryd.func42.trans (congrArg some (by kernel_rfl)),
  f169 := Tryd.func43.trans (congrArg some (by kernel_rfl)),
  f240 := Tryd.func52.trans (congrArg some (by kernel_rfl)),
  f241 := Tryd.func53.trans (congrArg some (by kernel_rfl)),
  f276 := Tryd.func69.trans (congrArg some (by kernel_rfl)),
  f277 := Tryd.func70.trans (congrArg some (by kernel_rfl)),
  t0 := Tryd.underlying0,
  a0 := Tryd.isAgg0,
  z0 := Tryd.sizeOf0,
  v0 := Tryd.zeroValue0,
  t3 := Tryd.underlying3,
  a3 := Tryd.isAgg3,
  z3 := Tryd.sizeOf3,
  v3 := Tryd.zeroValue3,
  t4 := Tryd.underlying4,
  a4 := Tryd.isAgg4,
  z4 := Tryd.sizeOf4,
  v4 := Tryd.zeroValue4,
  t9 := Tryd.underlying9,
  a9 := Tryd.isAgg9,
  z9 := Tryd.sizeOf9,
  v9 := Tryd.zeroValue9,
  t20 := Tryd.underlying20,
  a20 := Tryd.isAgg20,
  z20 := Tryd.sizeOf20,
  v20 := Tryd.zeroValue20,
  t31 := Tryd.underlying28,
  a31 := Tryd.isAgg28,
  z31 := Tryd.sizeOf28,
  v31 := Tryd.zeroValue28,
  t37 := Tryd.underlying59,
  a37 := Tryd.isAgg59,
  z37 := Tryd.sizeOf59,
  v37 := Tryd.zeroValue59,
  t70 := Tryd.underlying58,
  a70 := Tryd.isAgg58,
  z70 := Tryd.sizeOf58,
  v70 := Tryd.zeroValue58,
  t72 := Tryd.underlying61,
  a72 := Tryd.isAgg61,
  z72 := Tryd.sizeOf61,
  v72 := Tryd.zeroValue61,
  t75 := Tryd.underlying53,
  a75 := Tryd.isAgg53,
  z75 := Tryd.sizeOf53,
  v75 := Tryd.zeroValue53,
  t76 := Tryd.underlying63,
  a76 := Tryd.isAgg63,
  z76 := Tryd.sizeOf63,
  v76 := Tryd.zeroValue63,
  t127 := Tryd.underlying71,
  a127 := Tryd.isAgg71,
  z127 := Tryd.sizeOf71,
  v127 := Tryd.zeroValue71,
  t164 := Tryd.underlying87,
  a164 := Tryd.isAgg87,
  z164 := Tryd.sizeOf87,
  v164 := Tryd.zeroValue87 }
set_option maxRecDepth 100000 in
theorem joinX : Builder.Extra Tryd.prog joinLRen := {
  sizeBuilder := by kernel_rfl,
  liesBuilder := by kernel_rfl,
  t5 := Tryd.underlying5,
  a5 := Tryd.isAgg5,
  z5 := Tryd.sizeOf5,
  v5 := Tryd.zeroValue5,
  infoByte := by kernel_rfl,
  cellsByte := by kernel_rfl,
  sizeByte := by kernel_rfl,
  neB5 := by decide }
theorem join_rl (s x0 x1 x2 x3 xk : ByteArray) : (⟨(Lib.join ([s ++ ⟨#[58]⟩, ⟨#[97, 109, 112]⟩, (x0 ++ ⟨#[46, 46]⟩) ++ x1, ⟨#[112, 101, 114, 105, 111, 100]⟩, (x2 ++ ⟨#[46, 46]⟩) ++ x3, xk].map (·.data.toList)) (⟨#[32]⟩ : ByteArray).data.toList).toArray⟩ : ByteArray) =
    ((((((((s ++ ⟨#[58, 32, 97, 109, 112, 32]⟩) ++ x0) ++ ⟨#[46, 46]⟩) ++ x1) ++ ⟨#[32, 112, 101, 114, 105, 111, 100, 32]⟩) ++ x2) ++ ⟨#[46, 46]⟩) ++ x3) ++ ⟨#[32]⟩ ++ xk := by
  apply ByteArray.ext
  apply Array.ext'
  simp [Lib.join, List.intercalate, ByteArray.data_append]
theorem joinR_any (W : World) (y0 y1 y2 y3 y4 y5 : ByteArray) (hl : y0.size + y1.size + y2.size + y3.size + y4.size + y5.size ≤ 1000) :
    Calls Tryd.prog 27 #[.slice (some ⟨W.heap.size, 0, none⟩) 6 6, .string ⟨#[32]⟩] (W.alloc (.cells #[.string y0, .string y1, .string y2, .string y3, .string y4, .string y5] 9)) fun e w' => e = .returned (.string ⟨(Lib.join ([y0, y1, y2, y3, y4, y5].map (·.data.toList)) (⟨#[32]⟩ : ByteArray).data.toList).toArray⟩) ∧ Below (W.alloc (.cells #[.string y0, .string y1, .string y2, .string y3, .string y4, .string y5] 9)).heap.size (W.alloc (.cells #[.string y0, .string y1, .string y2, .string y3, .string y4, .string y5] 9)) w' := by
  refine Any.strings_Join joinL joinX W.heap.size 0 6 [y0, y1, y2, y3, y4, y5] ⟨#[32]⟩ _ (fun j x hj => ?_) (by simp) (by simp) (by simp) ?_
  · have : j < 6 := by have := (List.getElem?_eq_some_iff.1 hj).1; simpa using this
    have h6 : j = 0 ∨ j = 1 ∨ j = 2 ∨ j = 3 ∨ j = 4 ∨ j = 5 := by omega
    rcases h6 with rfl | rfl | rfl | rfl | rfl | rfl <;> (simp at hj; subst hj; simp [go_sem])
  · have e1 : ∀ y : ByteArray, y.data.toList.length = y.size := fun y => Array.length_toList.trans rfl
    simp only [List.map_cons, List.map_nil, Lib.join_cons, Lib.joinTail, List.flatten_cons, List.flatten_nil, List.length_append, List.append_nil, e1, List.length_cons, List.length_nil]
    have e2 : (⟨#[32]⟩ : ByteArray).size = 1 := rfl
    omega
set_option maxRecDepth 20000 in
set_option maxHeartbeats 4000000 in
theorem implRuleText_any (s : ByteArray) (fa ta fp tp sh : Int) (w : World) (ht : TabOk w) (hm : s.size ≤ maxLen) :
    Calls Tryd.prog 16 #[.agg #[.string s, .int .i64 fa, .int .i64 ta, .int .i64 fp, .int .i64 tp, .int .i64 sh]] w fun e w' => e = .returned (.string (rlT ⟨s, fa, ta, fp, tp, sh⟩)) ∧ Below w.heap.size w w' := by
  have C1 := fun W => isRule_any ⟨s, fa, ta, fp, tp, sh⟩ hm W
  cases h1 : ruB ⟨s, fa, ta, fp, tp, sh⟩
  · have HV : Hid (rlT ⟨s, fa, ta, fp, tp, sh⟩ = ⟨#[]⟩) := hid (by simp [rlT, h1])
    rw [h1] at C1
    go_enter Tryd.func16, Tryd.ntmps16
    go_wp2_with (go_at_call 25; refine (C1 _).mono ?_; rintro e w1 ⟨rfl, hb1⟩)
    go_ret
    exact ⟨by rw [HV.out]; rfl, (by repeat (first | assumption | exact Below.refl _ _ | apply Below.al | apply Below.drewN' | apply Below.drew | (refine Below.sc ?_ (by first | omega | (simp; done) | (simp; omega)) _) | (apply Below.tr; assumption)))⟩
  · rw [h1] at C1
    obtain ⟨hs, i1, i2, i3, i4, i5, i6, i7, i8⟩ := ruB_bds h1
    obtain ⟨k, rfl, hk⟩ := i8
    obtain ⟨xk, hxk⟩ : ∃ xk, shT k = xk := ⟨_, rfl⟩
    have zk : xk.size ≤ 4 := by rw [← hxk]; exact shT_size k
    obtain ⟨xj, hxj⟩ : ∃ xj, (⟨(Lib.join ([s ++ ⟨#[58]⟩, ⟨#[97, 109, 112]⟩, (decS fa ++ ⟨#[46, 46]⟩) ++ decS ta, ⟨#[112, 101, 114, 105, 111, 100]⟩, (decS fp ++ ⟨#[46, 46]⟩) ++ decS tp, xk].map (·.data.toList)) (⟨#[32]⟩ : ByteArray).data.toList).toArray⟩ : ByteArray) = xj := ⟨_, rfl⟩
    have HV : Hid (rlT ⟨s, fa, ta, fp, tp, (k : Int)⟩ = xj) := hid (by rw [← hxj, join_rl, ← hxk]; simp only [rlT, h1, if_true]; rfl)
    have s0 := decS_size fa (by omega) (by omega)
    have s1 := decS_size ta (by omega) (by omega)
    have s2 := decS_size fp (by omega) (by omega)
    have s3 := decS_size tp (by omega) (by omega)
    have Dfa := fun W (hW : Below w.heap.size w W) => implDecimal_any fa (by omega) (by omega) W (tab_below ht hW)
    have Dta := fun W (hW : Below w.heap.size w W) => implDecimal_any ta (by omega) (by omega) W (tab_below ht hW)
    have Dfp := fun W (hW : Below w.heap.size w W) => implDecimal_any fp (by omega) (by omega) W (tab_below ht hW)
    have Dtp := fun W (hW : Below w.heap.size w W) => implDecimal_any tp (by omega) (by omega) W (tab_below ht hW)
    generalize decS fa = x0 at *
    generalize decS ta = x1 at *
    generalize decS fp = x2 at *
    generalize decS tp = x3 at *
    have hk4 : (k : Int) < 4 := by omega
    have qz0 : ¬ (9223372036854775807 < s.size + 1) := by omega
    have z1 : (s ++ ⟨#[58]⟩ : ByteArray).size + (⟨#[97, 109, 112]⟩ : ByteArray).size + ((x0 ++ ⟨#[46, 46]⟩) ++ x1 : ByteArray).size + (⟨#[112, 101, 114, 105, 111, 100]⟩ : ByteArray).size + ((x2 ++ ⟨#[46, 46]⟩) ++ x3 : ByteArray).size + xk.size ≤ 1000 := by
      simp only [ByteArray.size_append, sz_lit2]; simp; omega
    have JR := fun W => joinR_any W _ _ _ _ _ _ z1
    rw [hxj] at JR
    have JR := hid JR
    clear hxj
    go_enter Tryd.func16, Tryd.ntmps16
    go_wp2_with (go_at_call 25; refine (C1 _).mono ?_; rintro e w1 ⟨rfl, hb1⟩)
    have hb2 : Below w.heap.size w w1 := (by repeat (first | assumption | exact Below.refl _ _ | apply Below.al | apply Below.drewN' | apply Below.drew | (apply Below.tr; assumption)))
    have hcell : ∀ (j : Nat) (v : Value), (w.alloc (.cells #[.string s, .int .i64 fa, .int .i64 ta, .int .i64 fp, .int .i64 tp, .int .i64 (k : Nat)] 23)).cell? ⟨w.heap.size, j, none⟩ = some v → w1.cell? ⟨w.heap.size, j, none⟩ = some v := fun j v h => ((bcell hb1).1 w.heap.size j (by simp)).trans h
    have c0 := hcell 0 (.string s) (by simp [go_sem])
    have c1 := hcell 1 (.int .i64 fa) (by simp [go_sem])
    have c2 := hcell 2 (.int .i64 ta) (by simp [go_sem])
    have c3 := hcell 3 (.int .i64 fp) (by simp [go_sem])
    have c4 := hcell 4 (.int .i64 tp) (by simp [go_sem])
    have c5 := hcell 5 (.int .i64 (k : Nat)) (by simp [go_sem])
    have zb : w.heap.size < w1.heap.size := by have := hb1.size; simp at this; omega
    clear hcell hb1
    have qy0 : ¬ (9223372036854775807 < x0.size + 2) := by omega
    have qy1 : ¬ (9223372036854775807 < x0.size + 2 + x1.size) := by omega
    have qy2 : ¬ (9223372036854775807 < x2.size + 2) := by omega
    have qy3 : ¬ (9223372036854775807 < x2.size + 2 + x3.size) := by omega
    have A1 := hid (fun (W : World) (hW : Below w1.heap.size w1 W) => Dfa W (Below.tr hW hb2))
    have A2 := hid (fun (W : World) (hW : Below w1.heap.size w1 W) => Dta W (Below.tr hW hb2))
    go_wp2_with fail
    refine wp_region_ext (by kernel_rfl) (by kernel_rfl) ?_
    iterate 3 (go_big_quiet_step (((go_at_call 26; exact ext_below (A1.out _ (Ext.h _))))))
    iterate 4 (go_big_quiet_step (((go_at_call 26; exact ext_below (A2.out _ (Ext.h _))))))
    iterate 2 (go_big_quiet_step ((fail)))
    refine wpQuiet_nil ?_
    intro w6 hb6
    obtain ⟨hc_w6, hf_w6⟩ := bcell hb6
    have hz_w6 := hb6.size
    have hb2 := Below.tr hb6 hb2
    have c0 := (hc_w6 w.heap.size 0 zb).trans c0
    have c1 := (hc_w6 w.heap.size 1 zb).trans c1
    have c2 := (hc_w6 w.heap.size 2 zb).trans c2
    have c3 := (hc_w6 w.heap.size 3 zb).trans c3
    have c4 := (hc_w6 w.heap.size 4 zb).trans c4
    have c5 := (hc_w6 w.heap.size 5 zb).trans c5
    have zb := Nat.lt_of_lt_of_le zb hz_w6
    clear hc_w6 hf_w6 A1 A2
    have A3 := hid (fun (W : World) (hW : Below w6.heap.size w6 W) => Dfp W (Below.tr hW hb2))
    have A4 := hid (fun (W : World) (hW : Below w6.heap.size w6 W) => Dtp W (Below.tr hW hb2))
    go_wp2_with fail
    refine wp_region_ext (by kernel_rfl) (by kernel_rfl) ?_
    iterate 3 (go_big_quiet_step (((go_at_call 26; exact ext_below (A3.out _ (Ext.h _))))))
    iterate 4 (go_big_quiet_step (((go_at_call 26; exact ext_below (A4.out _ (Ext.h _))))))
    iterate 2 (go_big_quiet_step ((fail)))
    refine wpQuiet_nil ?_
    intro w7 hb7
    obtain ⟨hc_w7, hf_w7⟩ := bcell hb7
    have hz_w7 := hb7.size
    have hb2 := Below.tr hb7 hb2
    have c0 := (hc_w7 w.heap.size 0 zb).trans c0
    have c1 := (hc_w7 w.heap.size 1 zb).trans c1
    have c2 := (hc_w7 w.heap.size 2 zb).trans c2
    have c3 := (hc_w7 w.heap.size 3 zb).trans c3
    have c4 := (hc_w7 w.heap.size 4 zb).trans c4
    have c5 := (hc_w7 w.heap.size 5 zb).trans c5
    have zb := Nat.lt_of_lt_of_le zb hz_w7
    clear hc_w7 hf_w7 A3 A4
    have d0 := c0
    have d5 := c5
    clear c0 c1 c2 c3 c4 c5 C1 Dfa Dta Dfp Dtp
    go_wp2_with fail
    refine wp_region_noPanic ?_
    refine wp_region_held_drew (S := (fun w' => w'.cell? ⟨w.heap.size, 0, none⟩ = some (.string s) ∧ w'.cell? ⟨w.heap.size, 5, none⟩ = some (.int .i64 (k : Nat)))) (by kernel_rfl) ?hS1 ?rest1
    case hS1 => ((try dsimp only); go_keep)
    case' rest1 => intro hHeld
    refine wpAnyH_take (i := 0) (v := ?vv2) rfl (by kernel_rfl) (by kernel_rfl) (by kernel_rfl) (fun _ _ _ h => h) (Or.inl ⟨by rfl, ?hy2⟩) (by assumption) ?rest2
    case hy2 => (intro w hSw; (try dsimp only at hSw); go_simp; try with_reducible rfl)
    case' rest2 => (try simp only [List.getElem_toArray, List.getElem_cons_succ, List.getElem_cons_zero, Act.put, List.setIfInBounds_toArray, List.set_cons_zero, List.set_cons_succ])
    refine wpAnyH_take (i := 1) (v := ?vv3) rfl (by kernel_rfl) (by kernel_rfl) (by kernel_rfl) (fun _ _ _ h => h) (Or.inl ⟨by rfl, ?hy3⟩) (by assumption) ?rest3
    case hy3 => (intro w hSw; (try dsimp only at hSw); go_simp; try with_reducible rfl)
    case' rest3 => (try simp only [List.getElem_toArray, List.getElem_cons_succ, List.getElem_cons_zero, Act.put, List.setIfInBounds_toArray, List.set_cons_zero, List.set_cons_succ])
    refine wpAnyH_take (i := 2) (v := ?vv4) rfl (by kernel_rfl) (by kernel_rfl) (by kernel_rfl) (fun _ _ _ h => h) (Or.inl ⟨by rfl, ?hy4⟩) (by assumption) ?rest4
    case hy4 => (intro w hSw; (try dsimp only at hSw); go_simp; try with_reducible rfl)
    case' rest4 => (try simp only [List.getElem_toArray, List.getElem_cons_succ, List.getElem_cons_zero, Act.put, List.setIfInBounds_toArray, List.set_cons_zero, List.set_cons_succ])
    refine wpAnyH_take (i := 3) (v := ?vv5) rfl (by kernel_rfl) (by kernel_rfl) (by kernel_rfl) (fun _ _ _ h => h) (Or.inl ⟨by rfl, ?hy5⟩) (by assumption) ?rest5
    case hy5 => (intro w hSw; (try dsimp only at hSw); go_simp; try with_reducible rfl)
    case' rest5 => (try simp only [List.getElem_toArray, List.getElem_cons_succ, List.getElem_cons_zero, Act.put, List.setIfInBounds_toArray, List.set_cons_zero, List.set_cons_succ])
    refine wpAnyH_take (i := 4) (v := ?vv6) rfl (by kernel_rfl) (by kernel_rfl) (by kernel_rfl) (fun _ _ _ h => h) (Or.inl ⟨by rfl, ?hy6⟩) (by assumption) ?rest6
    case hy6 => (intro w hSw; (try dsimp only at hSw); go_simp; try with_reducible rfl)
    case' rest6 => (try simp only [List.getElem_toArray, List.getElem_cons_succ, List.getElem_cons_zero, Act.put, List.setIfInBounds_toArray, List.set_cons_zero, List.set_cons_succ])
    refine wpAnyH_take (i := 6) (v := ?vv7) rfl (by kernel_rfl) (by kernel_rfl) (by kernel_rfl) (fun _ _ _ h => h) (Or.inl ⟨by rfl, ?hy7⟩) (by assumption) ?rest7
    case hy7 => (intro w hSw; (try dsimp only at hSw); go_simp; try with_reducible rfl)
    case' rest7 => (try simp only [List.getElem_toArray, List.getElem_cons_succ, List.getElem_cons_zero, Act.put, List.setIfInBounds_toArray, List.set_cons_zero, List.set_cons_succ])
    refine wpAnyH_take (i := 7) (v := ?vv8) rfl (by kernel_rfl) (by kernel_rfl) (by kernel_rfl) (fun _ _ _ h => h) (Or.inl ⟨by rfl, ?hy8⟩) (by assumption) ?rest8
    case hy8 => (intro w hSw; (try dsimp only at hSw); go_simp; try with_reducible rfl)
    case' rest8 => (try simp only [List.getElem_toArray, List.getElem_cons_succ, List.getElem_cons_zero, Act.put, List.setIfInBounds_toArray, List.set_cons_zero, List.set_cons_succ])
    refine wpAnyH_ready (rs := [5]) (by kernel_rfl) (by simp) ?_
    refine AllReadyH.cons rfl (fun K hK => ?_) AllReadyH.nil
    go_simp
    (go_at_call 14; refine (shapeNames_any _).mono ?_; rintro e w9 ⟨rfl, hw9⟩; have y9 : w9.cell? ⟨w7.heap.size, k, none⟩ = some (.string xk) := (by rw [hw9, ← hxk]; exact shp_cell _ hk); have u9 : Below w7.heap.size w7 w9 := (by rw [hw9]; exact (by repeat (first | assumption | exact Below.refl _ _ | apply Below.al | apply Below.drewN' | apply Below.drew | (apply Below.tr; assumption)))); clear hw9; have d90 := ((bcell u9).1 w.heap.size 0 zb).trans d0; have d95 := ((bcell u9).1 w.heap.size 5 zb).trans d5)
    refine hK.out _ _ ?hS9 ?rest9
    case hS9 => ((try dsimp only); go_keep)
    case' rest9 => (intro hHeld; clear hK K; (try simp only [List.getElem_toArray, List.getElem_cons_succ, List.getElem_cons_zero, Act.put, List.setIfInBounds_toArray, List.set_cons_zero, List.set_cons_succ]))
    refine wpAnyH_take (i := 8) (v := ?vv10) rfl (by kernel_rfl) (by kernel_rfl) (by kernel_rfl) (fun _ _ _ h => h) (Or.inl ⟨by rfl, ?hy10⟩) (by assumption) ?rest10
    case hy10 => (intro w hSw; (try dsimp only at hSw); go_simp; try with_reducible rfl)
    case' rest10 => (try simp only [List.getElem_toArray, List.getElem_cons_succ, List.getElem_cons_zero, Act.put, List.setIfInBounds_toArray, List.set_cons_zero, List.set_cons_succ])
    refine wpAnyH_ready (rs := [9]) (by kernel_rfl) (by simp) ?_
    refine AllReadyH.cons rfl (fun K hK => ?_) AllReadyH.nil
    go_simp
    refine hK.out _ _ ?hS11 ?rest11
    case hS11 => ((try dsimp only); go_keep)
    case' rest11 => (intro hHeld; clear hK K; (try simp only [List.getElem_toArray, List.getElem_cons_succ, List.getElem_cons_zero, Act.put, List.setIfInBounds_toArray, List.set_cons_zero, List.set_cons_succ]))
    refine wpAnyH_ready (rs := [10]) (by kernel_rfl) (by simp) ?_
    refine AllReadyH.cons rfl (fun K hK => ?_) AllReadyH.nil
    go_simp
    refine hK.out _ _ ?hS12 ?rest12
    case hS12 => ((try dsimp only); go_keep)
    case' rest12 => (intro hHeld; clear hK K; (try simp only [List.getElem_toArray, List.getElem_cons_succ, List.getElem_cons_zero, Act.put, List.setIfInBounds_toArray, List.set_cons_zero, List.set_cons_succ]))
    refine wpAnyH_ready (rs := [11]) (by kernel_rfl) (by simp) ?_
    refine AllReadyH.cons rfl (fun K hK => ?_) AllReadyH.nil
    go_simp
    (go_at_call 27; refine (JR.out _).mono ?_; rintro e w11 ⟨rfl, hb11⟩; have u11 : Below w9.heap.size w9 w11 := (by repeat (first | assumption | exact Below.refl _ _ | apply Below.al | apply Below.drewN' | apply Below.drew | (apply Below.tr; assumption))); have d110 := ((bcell u11).1 w.heap.size 0 (Nat.lt_of_lt_of_le zb u9.size)).trans d90; have d115 := ((bcell u11).1 w.heap.size 5 (Nat.lt_of_lt_of_le zb u9.size)).trans d95)
    refine hK.out _ _ ?hS13 ?rest13
    case hS13 => ((try dsimp only); go_keep)
    case' rest13 => (intro hHeld; clear hK K; (try simp only [List.getElem_toArray, List.getElem_cons_succ, List.getElem_cons_zero, Act.put, List.setIfInBounds_toArray, List.set_cons_zero, List.set_cons_succ]))
    refine wpAnyH_take (i := 12) (v := ?vv14) rfl (by kernel_rfl) (by kernel_rfl) (by kernel_rfl) (fun _ _ _ h => h) (Or.inl ⟨by rfl, ?hy14⟩) (by assumption) ?rest14
    case hy14 => (intro w hSw; (try dsimp only at hSw); go_simp; try with_reducible rfl)
    case' rest14 => (try simp only [List.getElem_toArray, List.getElem_cons_succ, List.getElem_cons_zero, Act.put, List.setIfInBounds_toArray, List.set_cons_zero, List.set_cons_succ])
    refine wpAnyH_done (by kernel_rfl) ?_ _
    refine NoPanic.normal ?_
    all_goals
      go_wp2
      go_ret
      exact ⟨by rw [HV.out]; rfl, Below.tr u11 (Below.tr u9 hb2)⟩
end Go.Proofs.YtdklchklpmabdaaDoor
