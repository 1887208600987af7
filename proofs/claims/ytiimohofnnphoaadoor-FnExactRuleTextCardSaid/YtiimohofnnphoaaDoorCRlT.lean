/- Contracts: the text of a rule, in the program and in the reference. -/
import Derived.Test.YtiimohofnnphoaaDoorCDec
import Derived.Test.YtiimohofnnphoaaDoorC18v
import Derived.Test.YtiimohofnnphoaaDoorCToR
import Derived.Deep.RegionHeld3
import Derived.Deep.RegionWith
import Derived.Shelf.Strings.OnBuilder
namespace Go.Proofs.YtiimohofnnphoaaDoor
open Go.RowKit
set_option linter.unusedVariables false
def shT (k : Nat) : ByteArray := match k with | 0 => ⟨#[97, 110, 121]⟩ | 1 => ⟨#[115, 105, 110, 101]⟩ | 2 => ⟨#[115, 97, 119]⟩ | _ => ⟨#[100, 105, 112, 115]⟩
theorem shT_size (k : Nat) : (shT k).size ≤ 4 := by
  unfold shT; split <;> decide
theorem shp_cell (w : World) {k : Nat} (hk : k < 4) : (w.alloc (.cells #[.string ⟨#[97, 110, 121]⟩, .string ⟨#[115, 105, 110, 101]⟩, .string ⟨#[115, 97, 119]⟩, .string ⟨#[100, 105, 112, 115]⟩] 9)).cell? ⟨w.heap.size, k, none⟩ = some (.string (shT k)) := by
  have : k = 0 ∨ k = 1 ∨ k = 2 ∨ k = 3 := by omega
  rcases this with rfl | rfl | rfl | rfl <;> simp [go_sem, shT]
def rlV (s : ByteArray) (fa ta fp tp : Int) (k : Nat) : ByteArray := ((((((((s ++ ⟨#[58, 32, 97, 109, 112, 32]⟩) ++ decS fa) ++ ⟨#[46, 46]⟩) ++ decS ta) ++ ⟨#[32, 112, 101, 114, 105, 111, 100, 32]⟩) ++ decS fp) ++ ⟨#[46, 46]⟩) ++ decS tp) ++ ⟨#[32]⟩ ++ shT k
def rlT (x : Ru) : ByteArray := if ruB x = true then rlV x.s x.fa x.ta x.fp x.tp x.sh.toNat else ⟨#[]⟩
theorem sz_lit2 (l : Array UInt8) : (ByteArray.mk l).size = l.size := rfl
theorem ruB_bds {s : ByteArray} {fa ta fp tp sh : Int} (h : ruB ⟨s, fa, ta, fp, tp, sh⟩ = true) : s.size ≤ 12 ∧ 0 ≤ fa ∧ fa ≤ 1000000 ∧ 0 ≤ ta ∧ ta ≤ 1000000 ∧ 0 ≤ fp ∧ fp ≤ 1000000 ∧ (0 ≤ tp ∧ tp ≤ 1000000) ∧ ∃ k : Nat, sh = k ∧ k < 4 := by
  simp only [ruB, nameB, Bool.and_eq_true, inB_true, decide_eq_true_eq] at h
  refine ⟨by omega, by omega, by omega, by omega, by omega, by omega, by omega, by omega, sh.toNat, by omega, by omega⟩
theorem shapeNames_any (w : World) :
    Calls Tryd.prog 30 #[] w fun e w' => e = .returned (.slice (some ⟨w.heap.size, 0, none⟩) 4 4) ∧ w' = w.alloc (.cells #[.string ⟨#[97, 110, 121]⟩, .string ⟨#[115, 105, 110, 101]⟩, .string ⟨#[115, 97, 119]⟩, .string ⟨#[100, 105, 112, 115]⟩] 9) := by
  go_enter Tryd.func30, Tryd.ntmps30
  go_wp2
  go_ret
  exact ⟨rfl, rfl⟩
theorem l18Shapes_any (w : World) :
    Calls Tryd.prog 44 #[] w fun e w' => e = .returned (.slice (some ⟨w.heap.size, 0, none⟩) 4 4) ∧ w' = w.alloc (.cells #[.string ⟨#[97, 110, 121]⟩, .string ⟨#[115, 105, 110, 101]⟩, .string ⟨#[115, 97, 119]⟩, .string ⟨#[100, 105, 112, 115]⟩] 9) := by
  go_enter Tryd.func44, Tryd.ntmps44
  go_wp2
  go_ret
  exact ⟨rfl, rfl⟩
set_option maxRecDepth 20000 in
set_option maxHeartbeats 4000000 in
theorem l18Text_any (s : ByteArray) (fa ta fp tp : Int) (k : Nat) (w : World) (b : Nat) (hb : b < w.heap.size) (hk : k < 4) (hs : s.size ≤ 12) (i1 : 0 ≤ fa) (i2 : fa ≤ 1000000) (i3 : 0 ≤ ta) (i4 : ta ≤ 1000000) (i5 : 0 ≤ fp) (i6 : fp ≤ 1000000) (i7 : 0 ≤ tp) (i8 : tp ≤ 1000000)
    (c0 : w.cell? ⟨b, 0, none⟩ = some (.string s)) (c1 : w.cell? ⟨b, 1, none⟩ = some (.int .i64 fa)) (c2 : w.cell? ⟨b, 2, none⟩ = some (.int .i64 ta)) (c3 : w.cell? ⟨b, 3, none⟩ = some (.int .i64 fp)) (c4 : w.cell? ⟨b, 4, none⟩ = some (.int .i64 tp)) (c5 : w.cell? ⟨b, 5, none⟩ = some (.int .i64 (k : Nat))) :
    Calls Tryd.prog 27 #[.pointer (some ⟨b, 0, none⟩)] w fun e w' => e = .returned (.string (rlV s fa ta fp tp k)) ∧ Below w.heap.size w w' := by
  obtain ⟨xk, hxk⟩ : ∃ xk, shT k = xk := ⟨_, rfl⟩
  have zk : xk.size ≤ 4 := by rw [← hxk]; exact shT_size k
  have HV : Hid (rlV s fa ta fp tp k = ((((((((s ++ ⟨#[58, 32, 97, 109, 112, 32]⟩) ++ decS fa) ++ ⟨#[46, 46]⟩) ++ decS ta) ++ ⟨#[32, 112, 101, 114, 105, 111, 100, 32]⟩) ++ decS fp) ++ ⟨#[46, 46]⟩) ++ decS tp) ++ ⟨#[32]⟩ ++ xk) := hid (by rw [← hxk]; rfl)
  have s0 := decS_size fa (by omega) (by omega)
  have s1 := decS_size ta (by omega) (by omega)
  have s2 := decS_size fp (by omega) (by omega)
  have s3 := decS_size tp (by omega) (by omega)
  have Dfa := fun W => l01Dec_any fa (by omega) (by omega) W
  have Dta := fun W => l01Dec_any ta (by omega) (by omega) W
  have Dfp := fun W => l01Dec_any fp (by omega) (by omega) W
  have Dtp := fun W => l01Dec_any tp (by omega) (by omega) W
  generalize decS fa = x0 at *
  generalize decS ta = x1 at *
  generalize decS fp = x2 at *
  generalize decS tp = x3 at *
  have hk4 : (k : Int) < 4 := by omega
  have qz0 : ¬ (9223372036854775807 < s.size + 6) := by omega
  have qz1 : ¬ (9223372036854775807 < s.size + 6 + x0.size) := by omega
  have qz2 : ¬ (9223372036854775807 < s.size + 6 + x0.size + 2) := by omega
  have qz3 : ¬ (9223372036854775807 < s.size + 6 + x0.size + 2 + x1.size) := by omega
  have qz4 : ¬ (9223372036854775807 < s.size + 6 + x0.size + 2 + x1.size + 8) := by omega
  have qz5 : ¬ (9223372036854775807 < s.size + 6 + x0.size + 2 + x1.size + 8 + x2.size) := by omega
  have qz6 : ¬ (9223372036854775807 < s.size + 6 + x0.size + 2 + x1.size + 8 + x2.size + 2) := by omega
  have qz7 : ¬ (9223372036854775807 < s.size + 6 + x0.size + 2 + x1.size + 8 + x2.size + 2 + x3.size) := by omega
  have qz8 : ¬ (9223372036854775807 < s.size + 6 + x0.size + 2 + x1.size + 8 + x2.size + 2 + x3.size + 1) := by omega
  have qz9 : ¬ (9223372036854775807 < s.size + 6 + x0.size + 2 + x1.size + 8 + x2.size + 2 + x3.size + 1 + xk.size) := by omega
  go_enter Tryd.func27, Tryd.ntmps27
  go_wp2_with fail
  refine wp_region_noPanic ?_
  refine wp_region_held_drew (S := (fun w' => w'.cell? ⟨b, 0, none⟩ = some (.string s) ∧ w'.cell? ⟨b, 1, none⟩ = some (.int .i64 fa) ∧ w'.cell? ⟨b, 2, none⟩ = some (.int .i64 ta) ∧ w'.cell? ⟨b, 3, none⟩ = some (.int .i64 fp) ∧ w'.cell? ⟨b, 4, none⟩ = some (.int .i64 tp) ∧ w'.cell? ⟨b, 5, none⟩ = some (.int .i64 (k : Nat)))) (by kernel_rfl) ?hS1 ?rest1
  case hS1 => ((try dsimp only); go_keep)
  case' rest1 => intro hHeld
  refine wpAnyH_take (i := 0) (v := ?vv2) rfl (by kernel_rfl) (by kernel_rfl) (by kernel_rfl) (fun _ _ _ h => h) (Or.inl ⟨by rfl, ?hy2⟩) (by assumption) ?rest2
  case hy2 => (intro w hSw; (try dsimp only at hSw); go_simp; try with_reducible rfl)
  case' rest2 => (try simp only [List.getElem_toArray, List.getElem_cons_succ, List.getElem_cons_zero, Act.put, List.setIfInBounds_toArray, List.set_cons_zero, List.set_cons_succ])
  refine wpAnyH_take (i := 1) (v := ?vv3) rfl (by kernel_rfl) (by kernel_rfl) (by kernel_rfl) (fun _ _ _ h => h) (Or.inl ⟨by rfl, ?hy3⟩) (by assumption) ?rest3
  case hy3 => (intro w hSw; (try dsimp only at hSw); go_simp; try with_reducible rfl)
  case' rest3 => (try simp only [List.getElem_toArray, List.getElem_cons_succ, List.getElem_cons_zero, Act.put, List.setIfInBounds_toArray, List.set_cons_zero, List.set_cons_succ])
  refine wpAnyH_take (i := 2) (v := ?vv4) rfl (by kernel_rfl) (by kernel_rfl) (by kernel_rfl) (fun _ _ _ h => h) (Or.inl ⟨by rfl, ?hy4⟩) (by assumption) ?rest4
  case hy4 => (intro w hSw; (try dsimp only at hSw); go_simp; try with_reducible rfl)
  case' rest4 => (try simp only [List.getElem_toArray, List.getElem_cons_succ, List.getElem_cons_zero, Act.put, List.setIfInBounds_toArray, List.set_cons_zero, List.set_cons_succ])
  refine wpAnyH_take (i := 3) (v := ?vv5) rfl (by kernel_rfl) (by kernel_rfl) (by kernel_rfl) (fun _ _ _ h => h) (Or.inl ⟨by rfl, ?hy5⟩) (by assumption) ?rest5
  case hy5 => (intro w hSw; (try dsimp only at hSw); go_simp; try with_reducible rfl)
  case' rest5 => (try simp only [List.getElem_toArray, List.getElem_cons_succ, List.getElem_cons_zero, Act.put, List.setIfInBounds_toArray, List.set_cons_zero, List.set_cons_succ])
  refine wpAnyH_take (i := 4) (v := ?vv6) rfl (by kernel_rfl) (by kernel_rfl) (by kernel_rfl) (fun _ _ _ h => h) (Or.inl ⟨by rfl, ?hy6⟩) (by assumption) ?rest6
  case hy6 => (intro w hSw; (try dsimp only at hSw); go_simp; try with_reducible rfl)
  case' rest6 => (try simp only [List.getElem_toArray, List.getElem_cons_succ, List.getElem_cons_zero, Act.put, List.setIfInBounds_toArray, List.set_cons_zero, List.set_cons_succ])
  refine wpAnyH_take (i := 5) (v := ?vv7) rfl (by kernel_rfl) (by kernel_rfl) (by kernel_rfl) (fun _ _ _ h => h) (Or.inl ⟨by rfl, ?hy7⟩) (by assumption) ?rest7
  case hy7 => (intro w hSw; (try dsimp only at hSw); go_simp; try with_reducible rfl)
  case' rest7 => (try simp only [List.getElem_toArray, List.getElem_cons_succ, List.getElem_cons_zero, Act.put, List.setIfInBounds_toArray, List.set_cons_zero, List.set_cons_succ])
  refine wpAnyH_take (i := 6) (v := ?vv8) rfl (by kernel_rfl) (by kernel_rfl) (by kernel_rfl) (fun _ _ _ h => h) (Or.inl ⟨by rfl, ?hy8⟩) (by assumption) ?rest8
  case hy8 => (intro w hSw; (try dsimp only at hSw); go_simp; try with_reducible rfl)
  case' rest8 => (try simp only [List.getElem_toArray, List.getElem_cons_succ, List.getElem_cons_zero, Act.put, List.setIfInBounds_toArray, List.set_cons_zero, List.set_cons_succ])
  refine wpAnyH_take (i := 7) (v := ?vv9) rfl (by kernel_rfl) (by kernel_rfl) (by kernel_rfl) (fun _ _ _ h => h) (Or.inl ⟨by rfl, ?hy9⟩) (by assumption) ?rest9
  case hy9 => (intro w hSw; (try dsimp only at hSw); go_simp; try with_reducible rfl)
  case' rest9 => (try simp only [List.getElem_toArray, List.getElem_cons_succ, List.getElem_cons_zero, Act.put, List.setIfInBounds_toArray, List.set_cons_zero, List.set_cons_succ])
  refine wpAnyH_take (i := 8) (v := ?vv10) rfl (by kernel_rfl) (by kernel_rfl) (by kernel_rfl) (fun _ _ _ h => h) (Or.inl ⟨by rfl, ?hy10⟩) (by assumption) ?rest10
  case hy10 => (intro w hSw; (try dsimp only at hSw); go_simp; try with_reducible rfl)
  case' rest10 => (try simp only [List.getElem_toArray, List.getElem_cons_succ, List.getElem_cons_zero, Act.put, List.setIfInBounds_toArray, List.set_cons_zero, List.set_cons_succ])
  refine wpAnyH_take (i := 12) (v := ?vv11) rfl (by kernel_rfl) (by kernel_rfl) (by kernel_rfl) (fun _ _ _ h => h) (Or.inl ⟨by rfl, ?hy11⟩) (by assumption) ?rest11
  case hy11 => (intro w hSw; (try dsimp only at hSw); go_simp; try with_reducible rfl)
  case' rest11 => (try simp only [List.getElem_toArray, List.getElem_cons_succ, List.getElem_cons_zero, Act.put, List.setIfInBounds_toArray, List.set_cons_zero, List.set_cons_succ])
  refine wpAnyH_take (i := 13) (v := ?vv12) rfl (by kernel_rfl) (by kernel_rfl) (by kernel_rfl) (fun _ _ _ h => h) (Or.inl ⟨by rfl, ?hy12⟩) (by assumption) ?rest12
  case hy12 => (intro w hSw; (try dsimp only at hSw); go_simp; try with_reducible rfl)
  case' rest12 => (try simp only [List.getElem_toArray, List.getElem_cons_succ, List.getElem_cons_zero, Act.put, List.setIfInBounds_toArray, List.set_cons_zero, List.set_cons_succ])
  refine wpAnyH_take (i := 14) (v := ?vv13) rfl (by kernel_rfl) (by kernel_rfl) (by kernel_rfl) (fun _ _ _ h => h) (Or.inl ⟨by rfl, ?hy13⟩) (by assumption) ?rest13
  case hy13 => (intro w hSw; (try dsimp only at hSw); go_simp; try with_reducible rfl)
  case' rest13 => (try simp only [List.getElem_toArray, List.getElem_cons_succ, List.getElem_cons_zero, Act.put, List.setIfInBounds_toArray, List.set_cons_zero, List.set_cons_succ])
  refine wpAnyH_take (i := 15) (v := ?vv14) rfl (by kernel_rfl) (by kernel_rfl) (by kernel_rfl) (fun _ _ _ h => h) (Or.inl ⟨by rfl, ?hy14⟩) (by assumption) ?rest14
  case hy14 => (intro w hSw; (try dsimp only at hSw); go_simp; try with_reducible rfl)
  case' rest14 => (try simp only [List.getElem_toArray, List.getElem_cons_succ, List.getElem_cons_zero, Act.put, List.setIfInBounds_toArray, List.set_cons_zero, List.set_cons_succ])
  refine wpAnyH_take (i := 19) (v := ?vv15) rfl (by kernel_rfl) (by kernel_rfl) (by kernel_rfl) (fun _ _ _ h => h) (Or.inl ⟨by rfl, ?hy15⟩) (by assumption) ?rest15
  case hy15 => (intro w hSw; (try dsimp only at hSw); go_simp; try with_reducible rfl)
  case' rest15 => (try simp only [List.getElem_toArray, List.getElem_cons_succ, List.getElem_cons_zero, Act.put, List.setIfInBounds_toArray, List.set_cons_zero, List.set_cons_succ])
  refine wpAnyH_take (i := 20) (v := ?vv16) rfl (by kernel_rfl) (by kernel_rfl) (by kernel_rfl) (fun _ _ _ h => h) (Or.inl ⟨by rfl, ?hy16⟩) (by assumption) ?rest16
  case hy16 => (intro w hSw; (try dsimp only at hSw); go_simp; try with_reducible rfl)
  case' rest16 => (try simp only [List.getElem_toArray, List.getElem_cons_succ, List.getElem_cons_zero, Act.put, List.setIfInBounds_toArray, List.set_cons_zero, List.set_cons_succ])
  refine wpAnyH_take (i := 21) (v := ?vv17) rfl (by kernel_rfl) (by kernel_rfl) (by kernel_rfl) (fun _ _ _ h => h) (Or.inl ⟨by rfl, ?hy17⟩) (by assumption) ?rest17
  case hy17 => (intro w hSw; (try dsimp only at hSw); go_simp; try with_reducible rfl)
  case' rest17 => (try simp only [List.getElem_toArray, List.getElem_cons_succ, List.getElem_cons_zero, Act.put, List.setIfInBounds_toArray, List.set_cons_zero, List.set_cons_succ])
  refine wpAnyH_take (i := 22) (v := ?vv18) rfl (by kernel_rfl) (by kernel_rfl) (by kernel_rfl) (fun _ _ _ h => h) (Or.inl ⟨by rfl, ?hy18⟩) (by assumption) ?rest18
  case hy18 => (intro w hSw; (try dsimp only at hSw); go_simp; try with_reducible rfl)
  case' rest18 => (try simp only [List.getElem_toArray, List.getElem_cons_succ, List.getElem_cons_zero, Act.put, List.setIfInBounds_toArray, List.set_cons_zero, List.set_cons_succ])
  refine wpAnyH_take (i := 26) (v := ?vv19) rfl (by kernel_rfl) (by kernel_rfl) (by kernel_rfl) (fun _ _ _ h => h) (Or.inl ⟨by rfl, ?hy19⟩) (by assumption) ?rest19
  case hy19 => (intro w hSw; (try dsimp only at hSw); go_simp; try with_reducible rfl)
  case' rest19 => (try simp only [List.getElem_toArray, List.getElem_cons_succ, List.getElem_cons_zero, Act.put, List.setIfInBounds_toArray, List.set_cons_zero, List.set_cons_succ])
  refine wpAnyH_take (i := 27) (v := ?vv20) rfl (by kernel_rfl) (by kernel_rfl) (by kernel_rfl) (fun _ _ _ h => h) (Or.inl ⟨by rfl, ?hy20⟩) (by assumption) ?rest20
  case hy20 => (intro w hSw; (try dsimp only at hSw); go_simp; try with_reducible rfl)
  case' rest20 => (try simp only [List.getElem_toArray, List.getElem_cons_succ, List.getElem_cons_zero, Act.put, List.setIfInBounds_toArray, List.set_cons_zero, List.set_cons_succ])
  refine wpAnyH_take (i := 28) (v := ?vv21) rfl (by kernel_rfl) (by kernel_rfl) (by kernel_rfl) (fun _ _ _ h => h) (Or.inl ⟨by rfl, ?hy21⟩) (by assumption) ?rest21
  case hy21 => (intro w hSw; (try dsimp only at hSw); go_simp; try with_reducible rfl)
  case' rest21 => (try simp only [List.getElem_toArray, List.getElem_cons_succ, List.getElem_cons_zero, Act.put, List.setIfInBounds_toArray, List.set_cons_zero, List.set_cons_succ])
  refine wpAnyH_take (i := 29) (v := ?vv22) rfl (by kernel_rfl) (by kernel_rfl) (by kernel_rfl) (fun _ _ _ h => h) (Or.inl ⟨by rfl, ?hy22⟩) (by assumption) ?rest22
  case hy22 => (intro w hSw; (try dsimp only at hSw); go_simp; try with_reducible rfl)
  case' rest22 => (try simp only [List.getElem_toArray, List.getElem_cons_succ, List.getElem_cons_zero, Act.put, List.setIfInBounds_toArray, List.set_cons_zero, List.set_cons_succ])
  refine wpAnyH_take (i := 34) (v := ?vv23) rfl (by kernel_rfl) (by kernel_rfl) (by kernel_rfl) (fun _ _ _ h => h) (Or.inl ⟨by rfl, ?hy23⟩) (by assumption) ?rest23
  case hy23 => (intro w hSw; (try dsimp only at hSw); go_simp; try with_reducible rfl)
  case' rest23 => (try simp only [List.getElem_toArray, List.getElem_cons_succ, List.getElem_cons_zero, Act.put, List.setIfInBounds_toArray, List.set_cons_zero, List.set_cons_succ])
  refine wpAnyH_take (i := 35) (v := ?vv24) rfl (by kernel_rfl) (by kernel_rfl) (by kernel_rfl) (fun _ _ _ h => h) (Or.inl ⟨by rfl, ?hy24⟩) (by assumption) ?rest24
  case hy24 => (intro w hSw; (try dsimp only at hSw); go_simp; try with_reducible rfl)
  case' rest24 => (try simp only [List.getElem_toArray, List.getElem_cons_succ, List.getElem_cons_zero, Act.put, List.setIfInBounds_toArray, List.set_cons_zero, List.set_cons_succ])
  refine wpAnyH_take (i := 36) (v := ?vv25) rfl (by kernel_rfl) (by kernel_rfl) (by kernel_rfl) (fun _ _ _ h => h) (Or.inl ⟨by rfl, ?hy25⟩) (by assumption) ?rest25
  case hy25 => (intro w hSw; (try dsimp only at hSw); go_simp; try with_reducible rfl)
  case' rest25 => (try simp only [List.getElem_toArray, List.getElem_cons_succ, List.getElem_cons_zero, Act.put, List.setIfInBounds_toArray, List.set_cons_zero, List.set_cons_succ])
  refine wpAnyH_take (i := 37) (v := ?vv26) rfl (by kernel_rfl) (by kernel_rfl) (by kernel_rfl) (fun _ _ _ h => h) (Or.inl ⟨by rfl, ?hy26⟩) (by assumption) ?rest26
  case hy26 => (intro w hSw; (try dsimp only at hSw); go_simp; try with_reducible rfl)
  case' rest26 => (try simp only [List.getElem_toArray, List.getElem_cons_succ, List.getElem_cons_zero, Act.put, List.setIfInBounds_toArray, List.set_cons_zero, List.set_cons_succ])
  refine wpAnyH_ready (rs := [9]) (by kernel_rfl) (by simp) ?_
  refine AllReadyH.cons rfl (fun K hK => ?_) AllReadyH.nil
  go_simp
  (go_at_call_of 17 fa; refine (Dfa _).mono ?_; rintro e w5 ⟨rfl, hb5⟩; have u5 : Below w.heap.size w w5 := (by repeat (first | assumption | exact Below.refl _ _ | apply Below.al | apply Below.drewN' | apply Below.drew | (apply Below.tr; assumption))); have d50 := ((bcell u5).1 b 0 hb).trans c0; have d51 := ((bcell u5).1 b 1 hb).trans c1; have d52 := ((bcell u5).1 b 2 hb).trans c2; have d53 := ((bcell u5).1 b 3 hb).trans c3; have d54 := ((bcell u5).1 b 4 hb).trans c4; have d55 := ((bcell u5).1 b 5 hb).trans c5)
  refine hK.out _ _ ?hS27 ?rest27
  case hS27 => ((try dsimp only); go_keep)
  case' rest27 => (intro hHeld; clear hK K; (try simp only [List.getElem_toArray, List.getElem_cons_succ, List.getElem_cons_zero, Act.put, List.setIfInBounds_toArray, List.set_cons_zero, List.set_cons_succ]))
  refine wpAnyH_take (i := 10) (v := ?vv28) rfl (by kernel_rfl) (by kernel_rfl) (by kernel_rfl) (fun _ _ _ h => h) (Or.inl ⟨by rfl, ?hy28⟩) (by assumption) ?rest28
  case hy28 => (intro w hSw; (try dsimp only at hSw); go_simp; try with_reducible rfl)
  case' rest28 => (try simp only [List.getElem_toArray, List.getElem_cons_succ, List.getElem_cons_zero, Act.put, List.setIfInBounds_toArray, List.set_cons_zero, List.set_cons_succ])
  refine wpAnyH_take (i := 11) (v := ?vv29) rfl (by kernel_rfl) (by kernel_rfl) (by kernel_rfl) (fun _ _ _ h => h) (Or.inl ⟨by rfl, ?hy29⟩) (by assumption) ?rest29
  case hy29 => (intro w hSw; (try dsimp only at hSw); go_simp; try with_reducible rfl)
  case' rest29 => (try simp only [List.getElem_toArray, List.getElem_cons_succ, List.getElem_cons_zero, Act.put, List.setIfInBounds_toArray, List.set_cons_zero, List.set_cons_succ])
  refine wpAnyH_ready (rs := [16]) (by kernel_rfl) (by simp) ?_
  refine AllReadyH.cons rfl (fun K hK => ?_) AllReadyH.nil
  go_simp
  (go_at_call_of 17 ta; refine (Dta _).mono ?_; rintro e w6 ⟨rfl, hb6⟩; have u6 : Below w.heap.size w w6 := (by repeat (first | assumption | exact Below.refl _ _ | apply Below.al | apply Below.drewN' | apply Below.drew | (apply Below.tr; assumption))); have d60 := ((bcell u6).1 b 0 hb).trans c0; have d61 := ((bcell u6).1 b 1 hb).trans c1; have d62 := ((bcell u6).1 b 2 hb).trans c2; have d63 := ((bcell u6).1 b 3 hb).trans c3; have d64 := ((bcell u6).1 b 4 hb).trans c4; have d65 := ((bcell u6).1 b 5 hb).trans c5)
  refine hK.out _ _ ?hS30 ?rest30
  case hS30 => ((try dsimp only); go_keep)
  case' rest30 => (intro hHeld; clear hK K; (try simp only [List.getElem_toArray, List.getElem_cons_succ, List.getElem_cons_zero, Act.put, List.setIfInBounds_toArray, List.set_cons_zero, List.set_cons_succ]))
  refine wpAnyH_take (i := 17) (v := ?vv31) rfl (by kernel_rfl) (by kernel_rfl) (by kernel_rfl) (fun _ _ _ h => h) (Or.inl ⟨by rfl, ?hy31⟩) (by assumption) ?rest31
  case hy31 => (intro w hSw; (try dsimp only at hSw); go_simp; try with_reducible rfl)
  case' rest31 => (try simp only [List.getElem_toArray, List.getElem_cons_succ, List.getElem_cons_zero, Act.put, List.setIfInBounds_toArray, List.set_cons_zero, List.set_cons_succ])
  refine wpAnyH_take (i := 18) (v := ?vv32) rfl (by kernel_rfl) (by kernel_rfl) (by kernel_rfl) (fun _ _ _ h => h) (Or.inl ⟨by rfl, ?hy32⟩) (by assumption) ?rest32
  case hy32 => (intro w hSw; (try dsimp only at hSw); go_simp; try with_reducible rfl)
  case' rest32 => (try simp only [List.getElem_toArray, List.getElem_cons_succ, List.getElem_cons_zero, Act.put, List.setIfInBounds_toArray, List.set_cons_zero, List.set_cons_succ])
  refine wpAnyH_ready (rs := [23]) (by kernel_rfl) (by simp) ?_
  refine AllReadyH.cons rfl (fun K hK => ?_) AllReadyH.nil
  go_simp
  (go_at_call_of 17 fp; refine (Dfp _).mono ?_; rintro e w7 ⟨rfl, hb7⟩; have u7 : Below w.heap.size w w7 := (by repeat (first | assumption | exact Below.refl _ _ | apply Below.al | apply Below.drewN' | apply Below.drew | (apply Below.tr; assumption))); have d70 := ((bcell u7).1 b 0 hb).trans c0; have d71 := ((bcell u7).1 b 1 hb).trans c1; have d72 := ((bcell u7).1 b 2 hb).trans c2; have d73 := ((bcell u7).1 b 3 hb).trans c3; have d74 := ((bcell u7).1 b 4 hb).trans c4; have d75 := ((bcell u7).1 b 5 hb).trans c5)
  refine hK.out _ _ ?hS33 ?rest33
  case hS33 => ((try dsimp only); go_keep)
  case' rest33 => (intro hHeld; clear hK K; (try simp only [List.getElem_toArray, List.getElem_cons_succ, List.getElem_cons_zero, Act.put, List.setIfInBounds_toArray, List.set_cons_zero, List.set_cons_succ]))
  refine wpAnyH_take (i := 24) (v := ?vv34) rfl (by kernel_rfl) (by kernel_rfl) (by kernel_rfl) (fun _ _ _ h => h) (Or.inl ⟨by rfl, ?hy34⟩) (by assumption) ?rest34
  case hy34 => (intro w hSw; (try dsimp only at hSw); go_simp; try with_reducible rfl)
  case' rest34 => (try simp only [List.getElem_toArray, List.getElem_cons_succ, List.getElem_cons_zero, Act.put, List.setIfInBounds_toArray, List.set_cons_zero, List.set_cons_succ])
  refine wpAnyH_take (i := 25) (v := ?vv35) rfl (by kernel_rfl) (by kernel_rfl) (by kernel_rfl) (fun _ _ _ h => h) (Or.inl ⟨by rfl, ?hy35⟩) (by assumption) ?rest35
  case hy35 => (intro w hSw; (try dsimp only at hSw); go_simp; try with_reducible rfl)
  case' rest35 => (try simp only [List.getElem_toArray, List.getElem_cons_succ, List.getElem_cons_zero, Act.put, List.setIfInBounds_toArray, List.set_cons_zero, List.set_cons_succ])
  refine wpAnyH_ready (rs := [30]) (by kernel_rfl) (by simp) ?_
  refine AllReadyH.cons rfl (fun K hK => ?_) AllReadyH.nil
  go_simp
  (go_at_call_of 17 tp; refine (Dtp _).mono ?_; rintro e w8 ⟨rfl, hb8⟩; have u8 : Below w.heap.size w w8 := (by repeat (first | assumption | exact Below.refl _ _ | apply Below.al | apply Below.drewN' | apply Below.drew | (apply Below.tr; assumption))); have d80 := ((bcell u8).1 b 0 hb).trans c0; have d81 := ((bcell u8).1 b 1 hb).trans c1; have d82 := ((bcell u8).1 b 2 hb).trans c2; have d83 := ((bcell u8).1 b 3 hb).trans c3; have d84 := ((bcell u8).1 b 4 hb).trans c4; have d85 := ((bcell u8).1 b 5 hb).trans c5)
  refine hK.out _ _ ?hS36 ?rest36
  case hS36 => ((try dsimp only); go_keep)
  case' rest36 => (intro hHeld; clear hK K; (try simp only [List.getElem_toArray, List.getElem_cons_succ, List.getElem_cons_zero, Act.put, List.setIfInBounds_toArray, List.set_cons_zero, List.set_cons_succ]))
  refine wpAnyH_take (i := 31) (v := ?vv37) rfl (by kernel_rfl) (by kernel_rfl) (by kernel_rfl) (fun _ _ _ h => h) (Or.inl ⟨by rfl, ?hy37⟩) (by assumption) ?rest37
  case hy37 => (intro w hSw; (try dsimp only at hSw); go_simp; try with_reducible rfl)
  case' rest37 => (try simp only [List.getElem_toArray, List.getElem_cons_succ, List.getElem_cons_zero, Act.put, List.setIfInBounds_toArray, List.set_cons_zero, List.set_cons_succ])
  refine wpAnyH_take (i := 32) (v := ?vv38) rfl (by kernel_rfl) (by kernel_rfl) (by kernel_rfl) (fun _ _ _ h => h) (Or.inl ⟨by rfl, ?hy38⟩) (by assumption) ?rest38
  case hy38 => (intro w hSw; (try dsimp only at hSw); go_simp; try with_reducible rfl)
  case' rest38 => (try simp only [List.getElem_toArray, List.getElem_cons_succ, List.getElem_cons_zero, Act.put, List.setIfInBounds_toArray, List.set_cons_zero, List.set_cons_succ])
  refine wpAnyH_ready (rs := [33]) (by kernel_rfl) (by simp) ?_
  refine AllReadyH.cons rfl (fun K hK => ?_) AllReadyH.nil
  go_simp
  (go_at_call 44; refine (l18Shapes_any _).mono ?_; rintro e w9 ⟨rfl, hw9⟩; have hs9 := hid hw9; obtain ⟨gs, hgs⟩ : ∃ gs, gs = w8.heap.size := ⟨_, rfl⟩; have y9 : w9.cell? ⟨w8.heap.size, k, none⟩ = some (.string xk) := (by rw [hw9, ← hxk]; exact shp_cell _ hk); have u9 : Below w.heap.size w w9 := (by rw [hw9]; exact (by repeat (first | assumption | exact Below.refl _ _ | apply Below.al | apply Below.drewN' | apply Below.drew | (apply Below.tr; assumption)))); clear hw9; have d90 := ((bcell u9).1 b 0 hb).trans c0; have d91 := ((bcell u9).1 b 1 hb).trans c1; have d92 := ((bcell u9).1 b 2 hb).trans c2; have d93 := ((bcell u9).1 b 3 hb).trans c3; have d94 := ((bcell u9).1 b 4 hb).trans c4; have d95 := ((bcell u9).1 b 5 hb).trans c5)
  refine hK.out _ _ ?hS39 ?rest39
  case hS39 => ((try dsimp only); go_keep)
  case' rest39 => (intro hHeld; clear hK K; (try simp only [List.getElem_toArray, List.getElem_cons_succ, List.getElem_cons_zero, Act.put, List.setIfInBounds_toArray, List.set_cons_zero, List.set_cons_succ]))
  refine wpAnyH_take (i := 38) (v := ?vv40) rfl (by kernel_rfl) (by kernel_rfl) (by kernel_rfl) (fun _ _ _ h => h) (Or.inl ⟨by rfl, ?hy40⟩) (by assumption) ?rest40
  case hy40 => (intro w hSw; (try dsimp only at hSw); go_simp; try with_reducible rfl)
  case' rest40 => (try simp only [List.getElem_toArray, List.getElem_cons_succ, List.getElem_cons_zero, Act.put, List.setIfInBounds_toArray, List.set_cons_zero, List.set_cons_succ])
  refine wpAnyH_ready (rs := [39]) (by kernel_rfl) (by simp) ?_
  refine AllReadyH.cons rfl (fun K hK => ?_) AllReadyH.nil
  go_simp
  refine hK.out _ _ ?hS41 ?rest41
  case hS41 => ((try dsimp only); go_keep)
  case' rest41 => (intro hHeld; clear hK K; (try simp only [List.getElem_toArray, List.getElem_cons_succ, List.getElem_cons_zero, Act.put, List.setIfInBounds_toArray, List.set_cons_zero, List.set_cons_succ]))
  refine wpAnyH_take (i := 40) (v := ?vv42) rfl (by kernel_rfl) (by kernel_rfl) (by kernel_rfl) (fun _ _ _ h => h) (Or.inl ⟨by rfl, ?hy42⟩) (by assumption) ?rest42
  case hy42 => (intro w hSw; (try dsimp only at hSw); go_simp; try with_reducible rfl)
  case' rest42 => (try simp only [List.getElem_toArray, List.getElem_cons_succ, List.getElem_cons_zero, Act.put, List.setIfInBounds_toArray, List.set_cons_zero, List.set_cons_succ])
  refine wpAnyH_take (i := 41) (v := ?vv43) rfl (by kernel_rfl) (by kernel_rfl) (by kernel_rfl) (fun _ _ _ h => h) (Or.inl ⟨by rfl, ?hy43⟩) (by assumption) ?rest43
  case hy43 => (intro w hSw; (try dsimp only at hSw); go_simp; try with_reducible rfl)
  case' rest43 => (try simp only [List.getElem_toArray, List.getElem_cons_succ, List.getElem_cons_zero, Act.put, List.setIfInBounds_toArray, List.set_cons_zero, List.set_cons_succ])
  refine wpAnyH_done (by kernel_rfl) ?_ _
  refine NoPanic.normal ?_
  go_wp2
  go_ret
  exact ⟨by rw [HV.out]; rfl, u9⟩
set_option maxHeartbeats 1000000 in
theorem specRuleText_any (s : ByteArray) (fa ta fp tp sh : Int) (w : World) (hm : s.size ≤ maxLen) :
    Calls Tryd.prog 13 #[.agg #[.string s, .int .i64 fa, .int .i64 ta, .int .i64 fp, .int .i64 tp, .int .i64 sh]] w fun e w' => e = .returned (.string (rlT ⟨s, fa, ta, fp, tp, sh⟩)) ∧ Below w.heap.size w w' := by
  have c0 : (w.alloc (.cells #[.string s, .int .i64 fa, .int .i64 ta, .int .i64 fp, .int .i64 tp, .int .i64 sh] 38)).cell? ⟨w.heap.size, 0, none⟩ = some (.string s) := by simp [go_sem]
  have c1 : (w.alloc (.cells #[.string s, .int .i64 fa, .int .i64 ta, .int .i64 fp, .int .i64 tp, .int .i64 sh] 38)).cell? ⟨w.heap.size, 1, none⟩ = some (.int .i64 fa) := by simp [go_sem]
  have c2 : (w.alloc (.cells #[.string s, .int .i64 fa, .int .i64 ta, .int .i64 fp, .int .i64 tp, .int .i64 sh] 38)).cell? ⟨w.heap.size, 2, none⟩ = some (.int .i64 ta) := by simp [go_sem]
  have c3 : (w.alloc (.cells #[.string s, .int .i64 fa, .int .i64 ta, .int .i64 fp, .int .i64 tp, .int .i64 sh] 38)).cell? ⟨w.heap.size, 3, none⟩ = some (.int .i64 fp) := by simp [go_sem]
  have c4 : (w.alloc (.cells #[.string s, .int .i64 fa, .int .i64 ta, .int .i64 fp, .int .i64 tp, .int .i64 sh] 38)).cell? ⟨w.heap.size, 4, none⟩ = some (.int .i64 tp) := by simp [go_sem]
  have c5 : (w.alloc (.cells #[.string s, .int .i64 fa, .int .i64 ta, .int .i64 fp, .int .i64 tp, .int .i64 sh] 38)).cell? ⟨w.heap.size, 5, none⟩ = some (.int .i64 sh) := by simp [go_sem]
  have C1 := l18One_any ⟨s, fa, ta, fp, tp, sh⟩ hm (w.alloc (.cells #[.string s, .int .i64 fa, .int .i64 ta, .int .i64 fp, .int .i64 tp, .int .i64 sh] 38)) w.heap.size 0 (by simp) c0 c1 c2 c3 c4 c5
  cases h1 : ruB ⟨s, fa, ta, fp, tp, sh⟩
  · have HV : Hid (rlT ⟨s, fa, ta, fp, tp, sh⟩ = ⟨#[]⟩) := hid (by simp [rlT, h1])
    rw [h1] at C1
    go_enter Tryd.func13, Tryd.ntmps13
    go_wp2_with (go_at_call 26; refine C1.mono ?_; rintro e w1 ⟨rfl, hb1⟩)
    go_ret
    exact ⟨by rw [HV.out]; rfl, (by repeat (first | assumption | exact Below.refl _ _ | apply Below.al | apply Below.drewN' | apply Below.drew | (refine Below.sc ?_ (by first | omega | (simp; done) | (simp; omega)) _) | (apply Below.tr; assumption)))⟩
  · rw [h1] at C1
    obtain ⟨hs, i1, i2, i3, i4, i5, i6, i7, i8⟩ := ruB_bds h1
    obtain ⟨k, rfl, hk⟩ := i8
    have HV : Hid (rlT ⟨s, fa, ta, fp, tp, (k : Int)⟩ = rlV s fa ta fp tp k) := hid (by simp only [rlT, h1, if_true]; rfl)
    go_enter Tryd.func13, Tryd.ntmps13
    go_wp2_with (go_at_call 26; refine C1.mono ?_; rintro e w1 ⟨rfl, hb1⟩)
    have zb : w.heap.size < w1.heap.size := by have := hb1.size; simp at this; omega
    have T := l18Text_any s fa ta fp tp k w1 w.heap.size zb hk hs i1 i2 i3 i4 i5 i6 i7.1 i7.2 (((bcell hb1).1 w.heap.size 0 (by simp)).trans c0) (((bcell hb1).1 w.heap.size 1 (by simp)).trans c1) (((bcell hb1).1 w.heap.size 2 (by simp)).trans c2) (((bcell hb1).1 w.heap.size 3 (by simp)).trans c3) (((bcell hb1).1 w.heap.size 4 (by simp)).trans c4) (((bcell hb1).1 w.heap.size 5 (by simp)).trans c5)
    generalize rlV s fa ta fp tp k = xv at *
    refine T.mono ?_
    rintro e w2 ⟨rfl, hb2⟩
    go_wp2
    go_ret
    exact ⟨by rw [HV.out]; rfl, (by repeat (first | assumption | exact Below.refl _ _ | apply Below.al | apply Below.drewN' | apply Below.drew | (refine Below.sc ?_ (by first | omega | (simp; done) | (simp; omega)) _) | (apply Below.tr; assumption)))⟩
def joinLRen : Go.Shelf.Ren := ⟨fun | 156 => 29 | 165 => 46 | 166 => 47 | 169 => 48 | 240 => 53 | 241 => 54 | 276 => 59 | 277 => 60 | n => n, fun | 31 => 51 | 9 => 9 | 3 => 3 | 4 => 4 | 0 => 0 | 20 => 20 | 72 => 62 | 76 => 66 | 70 => 60 | 37 => 54 | 75 => 65 | 127 => 70 | 164 => 78 | 5 => 5 | 80 => 68 | n => n, fun | n => n⟩
set_option maxRecDepth 100000 in
theorem joinL : Lays.n156 Tryd.prog joinLRen := {
  mixed := by kernel_rfl,
  f156 := Tryd.func29.trans (congrArg some (by kernel_rfl)),
  f165 := Tryd.func46.trans (congrArg some (by kernel_rfl)),
  f166 := Tryd.func47.trans (congrArg some (by kernel_rfl)),
  f169 := Tryd.func48.trans (congrArg some (by kernel_rfl)),
  f240 := Tryd.func53.trans (congrArg some (by kernel_rfl)),
  f241 := Tryd.func54.trans (congrArg some (by kernel_rfl)),
  f276 := Tryd.func59.trans (congrArg some (by kernel_rfl)),
  f277 := Tryd.func60.trans (congrArg some (by kernel_rfl)),
  t0 := Tryd.underlying0,
  a0 := Tryd.isAgg0,
  z0 := Tryd.sizeOf0,
  v0 := Tryd.zeroValue0,
  t3 := Tryd.underlying3,
  a3 := Tryd.isAgg3,
  z3 := Tryd.sizeOf3,
  v3 := Tryd.zeroValue3,
  t4 := Tryd.underlying4,
  a4 := Tryd.isAgg4,
  z4 := Tryd.sizeOf4,
  v4 := Tryd.zeroValue4,
  t9 := Tryd.underlying9,
  a9 := Tryd.isAgg9,
  z9 := Tryd.sizeOf9,
  v9 := Tryd.zeroValue9,
  t20 := Tryd.underlying20,
  a20 := Tryd.isAgg20,
  z20 := Tryd.sizeOf20,
  v20 := Tryd.zeroValue20,
  t31 := Tryd.underlying51,
  a31 := Tryd.isAgg51,
  z31 := Tryd.sizeOf51,
  v31 := Tryd.zeroValue51,
  t37 := Tryd.underlying54,
  a37 := Tryd.isAgg54,
  z37 := Tryd.sizeOf54,
  v37 := Tryd.zeroValue54,
  t70 := Tryd.underlying60,
  a70 := Tryd.isAgg60,
  z70 := Tryd.sizeOf60,
  v70 := Tryd.zeroValue60,
  t72 := Tryd.underlying62,
  a72 := Tryd.isAgg62,
  z72 := Tryd.sizeOf62,
  v72 := Tryd.zeroValue62,
  t75 := Tryd.underlying65,
  a75 := Tryd.isAgg65,
  z75 := Tryd.sizeOf65,
  v75 := Tryd.zeroValue65,
  t76 := Tryd.underlying66,
  a76 := Tryd.isAgg66,
  z76 := Tryd.sizeOf66,
  v76 := Tryd.zeroValue66,
  t127 := Tryd.underlying70,
  a127 := Tryd.isAgg70,
  z127 := Tryd.sizeOf70,
  v127 := Tryd.zeroValue70,
  t164 := Tryd.underlying78,
  a164 := Tryd.isAgg78,
  z164 := Tryd.sizeOf78,
  v164 := Tryd.zeroValue78 }
set_option maxRecDepth 100000 in
theorem joinX : Builder.Extra Tryd.prog joinLRen := {
  sizeBuilder := by kernel_rfl,
  liesBuilder := by kernel_rfl,
  t5 := Tryd.underlying5,
  a5 := Tryd.isAgg5,
  z5 := Tryd.sizeOf5,
  v5 := Tryd.zeroValue5,
  infoByte := by kernel_rfl,
  cellsByte := by kernel_rfl,
  sizeByte := by kernel_rfl,
  neB5 := by decide }
theorem join_rl (s x0 x1 x2 x3 xk : ByteArray) : (⟨(Lib.join ([s ++ ⟨#[58]⟩, ⟨#[97, 109, 112]⟩, (x0 ++ ⟨#[46, 46]⟩) ++ x1, ⟨#[112, 101, 114, 105, 111, 100]⟩, (x2 ++ ⟨#[46, 46]⟩) ++ x3, xk].map (·.data.toList)) (⟨#[32]⟩ : ByteArray).data.toList).toArray⟩ : ByteArray) =
    ((((((((s ++ ⟨#[58, 32, 97, 109, 112, 32]⟩) ++ x0) ++ ⟨#[46, 46]⟩) ++ x1) ++ ⟨#[32, 112, 101, 114, 105, 111, 100, 32]⟩) ++ x2) ++ ⟨#[46, 46]⟩) ++ x3) ++ ⟨#[32]⟩ ++ xk := by
  apply ByteArray.ext
  apply Array.ext'
  simp [Lib.join, List.intercalate, ByteArray.data_append]
theorem joinR_any (W : World) (y0 y1 y2 y3 y4 y5 : ByteArray) (hl : y0.size + y1.size + y2.size + y3.size + y4.size + y5.size ≤ 1000) :
    Calls Tryd.prog 29 #[.slice (some ⟨W.heap.size, 0, none⟩) 6 6, .string ⟨#[32]⟩] (W.alloc (.cells #[.string y0, .string y1, .string y2, .string y3, .string y4, .string y5] 9)) fun e w' => e = .returned (.string ⟨(Lib.join ([y0, y1, y2, y3, y4, y5].map (·.data.toList)) (⟨#[32]⟩ : ByteArray).data.toList).toArray⟩) ∧ Below (W.alloc (.cells #[.string y0, .string y1, .string y2, .string y3, .string y4, .string y5] 9)).heap.size (W.alloc (.cells #[.string y0, .string y1, .string y2, .string y3, .string y4, .string y5] 9)) w' := by
  refine Any.strings_Join joinL joinX W.heap.size 0 6 [y0, y1, y2, y3, y4, y5] ⟨#[32]⟩ _ (fun j x hj => ?_) (by simp) (by simp) (by simp) ?_
  · have : j < 6 := by have := (List.getElem?_eq_some_iff.1 hj).1; simpa using this
    have h6 : j = 0 ∨ j = 1 ∨ j = 2 ∨ j = 3 ∨ j = 4 ∨ j = 5 := by omega
    rcases h6 with rfl | rfl | rfl | rfl | rfl | rfl <;> (simp at hj; subst hj; simp [go_sem])
  · have e1 : ∀ y : ByteArray, y.data.toList.length = y.size := fun y => Array.length_toList.trans rfl
    simp only [List.map_cons, List.map_nil, Lib.join_cons, Lib.joinTail, List.flatten_cons, List.flatten_nil, List.length_append, List.append_nil, e1, List.length_cons, List.length_nil]
    have e2 : (⟨#[32]⟩ : ByteArray).size = 1 := rfl
    omega
set_option maxRecDepth 20000 in
set_option maxHeartbeats 4000000 in
theorem implRuleText_any (s : ByteArray) (fa ta fp tp sh : Int) (w : World) (ht : TabOk w) (hm : s.size ≤ maxLen) :
    Calls Tryd.prog 15 #[.agg #[.string s, .int .i64 fa, .int .i64 ta, .int .i64 fp, .int .i64 tp, .int .i64 sh]] w fun e w' => e = .returned (.string (rlT ⟨s, fa, ta, fp, tp, sh⟩)) ∧ Below w.heap.size w w' := by
  have C1 := fun W => isRule_any ⟨s, fa, ta, fp, tp, sh⟩ hm W
  cases h1 : ruB ⟨s, fa, ta, fp, tp, sh⟩
  · have HV : Hid (rlT ⟨s, fa, ta, fp, tp, sh⟩ = ⟨#[]⟩) := hid (by simp [rlT, h1])
    rw [h1] at C1
    go_enter Tryd.func15, Tryd.ntmps15
    go_wp2_with (go_at_call 28; refine (C1 _).mono ?_; rintro e w1 ⟨rfl, hb1⟩)
    go_ret
    exact ⟨by rw [HV.out]; rfl, (by repeat (first | assumption | exact Below.refl _ _ | apply Below.al | apply Below.drewN' | apply Below.drew | (refine Below.sc ?_ (by first | omega | (simp; done) | (simp; omega)) _) | (apply Below.tr; assumption)))⟩
  · rw [h1] at C1
    obtain ⟨hs, i1, i2, i3, i4, i5, i6, i7, i8⟩ := ruB_bds h1
    obtain ⟨k, rfl, hk⟩ := i8
    obtain ⟨xk, hxk⟩ : ∃ xk, shT k = xk := ⟨_, rfl⟩
    have zk : xk.size ≤ 4 := by rw [← hxk]; exact shT_size k
    obtain ⟨xj, hxj⟩ : ∃ xj, (⟨(Lib.join ([s ++ ⟨#[58]⟩, ⟨#[97, 109, 112]⟩, (decS fa ++ ⟨#[46, 46]⟩) ++ decS ta, ⟨#[112, 101, 114, 105, 111, 100]⟩, (decS fp ++ ⟨#[46, 46]⟩) ++ decS tp, xk].map (·.data.toList)) (⟨#[32]⟩ : ByteArray).data.toList).toArray⟩ : ByteArray) = xj := ⟨_, rfl⟩
    have HV : Hid (rlT ⟨s, fa, ta, fp, tp, (k : Int)⟩ = xj) := hid (by rw [← hxj, join_rl, ← hxk]; simp only [rlT, h1, if_true]; rfl)
    have s0 := decS_size fa (by omega) (by omega)
    have s1 := decS_size ta (by omega) (by omega)
    have s2 := decS_size fp (by omega) (by omega)
    have s3 := decS_size tp (by omega) (by omega)
    have Dfa := fun W (hW : Below w.heap.size w W) => implDecimal_any fa (by omega) (by omega) W (tab_below ht hW)
    have Dta := fun W (hW : Below w.heap.size w W) => implDecimal_any ta (by omega) (by omega) W (tab_below ht hW)
    have Dfp := fun W (hW : Below w.heap.size w W) => implDecimal_any fp (by omega) (by omega) W (tab_below ht hW)
    have Dtp := fun W (hW : Below w.heap.size w W) => implDecimal_any tp (by omega) (by omega) W (tab_below ht hW)
    generalize decS fa = x0 at *
    generalize decS ta = x1 at *
    generalize decS fp = x2 at *
    generalize decS tp = x3 at *
    have hk4 : (k : Int) < 4 := by omega
    have qz0 : ¬ (9223372036854775807 < s.size + 1) := by omega
    have z1 : (s ++ ⟨#[58]⟩ : ByteArray).size + (⟨#[97, 109, 112]⟩ : ByteArray).size + ((x0 ++ ⟨#[46, 46]⟩) ++ x1 : ByteArray).size + (⟨#[112, 101, 114, 105, 111, 100]⟩ : ByteArray).size + ((x2 ++ ⟨#[46, 46]⟩) ++ x3 : ByteArray).size + xk.size ≤ 1000 := by
      simp only [ByteArray.size_append, sz_lit2]; simp; omega
    have JR := fun W => joinR_any W _ _ _ _ _ _ z1
    rw [hxj] at JR
    have JR := hid JR
    clear hxj
    go_enter Tryd.func15, Tryd.ntmps15
    go_wp2_with (go_at_call 28; refine (C1 _).mono ?_; rintro e w1 ⟨rfl, hb1⟩)
    have hb2 : Below w.heap.size w w1 := (by repeat (first | assumption | exact Below.refl _ _ | apply Below.al | apply Below.drewN' | apply Below.drew | (apply Below.tr; assumption)))
    have hcell : ∀ (j : Nat) (v : Value), (w.alloc (.cells #[.string s, .int .i64 fa, .int .i64 ta, .int .i64 fp, .int .i64 tp, .int .i64 (k : Nat)] 38)).cell? ⟨w.heap.size, j, none⟩ = some v → w1.cell? ⟨w.heap.size, j, none⟩ = some v := fun j v h => ((bcell hb1).1 w.heap.size j (by simp)).trans h
    have c0 := hcell 0 (.string s) (by simp [go_sem])
    have c1 := hcell 1 (.int .i64 fa) (by simp [go_sem])
    have c2 := hcell 2 (.int .i64 ta) (by simp [go_sem])
    have c3 := hcell 3 (.int .i64 fp) (by simp [go_sem])
    have c4 := hcell 4 (.int .i64 tp) (by simp [go_sem])
    have c5 := hcell 5 (.int .i64 (k : Nat)) (by simp [go_sem])
    have zb : w.heap.size < w1.heap.size := by have := hb1.size; simp at this; omega
    clear hcell hb1
    have qy0 : ¬ (9223372036854775807 < x0.size + 2) := by omega
    have qy1 : ¬ (9223372036854775807 < x0.size + 2 + x1.size) := by omega
    have qy2 : ¬ (9223372036854775807 < x2.size + 2) := by omega
    have qy3 : ¬ (9223372036854775807 < x2.size + 2 + x3.size) := by omega
    have A1 := hid (fun (W : World) (hW : Below w1.heap.size w1 W) => Dfa W (Below.tr hW hb2))
    have A2 := hid (fun (W : World) (hW : Below w1.heap.size w1 W) => Dta W (Below.tr hW hb2))
    go_wp2_with fail
    refine wp_region_ext (by kernel_rfl) (by kernel_rfl) ?_
    iterate 3 (go_big_quiet_step (((go_at_call 19; exact ext_below (A1.out _ (Ext.h _))))))
    iterate 4 (go_big_quiet_step (((go_at_call 19; exact ext_below (A2.out _ (Ext.h _))))))
    iterate 2 (go_big_quiet_step ((fail)))
    refine wpQuiet_nil ?_
    intro w6 hb6
    obtain ⟨hc_w6, hf_w6⟩ := bcell hb6
    have hz_w6 := hb6.size
    have hb2 := Below.tr hb6 hb2
    have c0 := (hc_w6 w.heap.size 0 zb).trans c0
    have c1 := (hc_w6 w.heap.size 1 zb).trans c1
    have c2 := (hc_w6 w.heap.size 2 zb).trans c2
    have c3 := (hc_w6 w.heap.size 3 zb).trans c3
    have c4 := (hc_w6 w.heap.size 4 zb).trans c4
    have c5 := (hc_w6 w.heap.size 5 zb).trans c5
    have zb := Nat.lt_of_lt_of_le zb hz_w6
    clear hc_w6 hf_w6 A1 A2
    have A3 := hid (fun (W : World) (hW : Below w6.heap.size w6 W) => Dfp W (Below.tr hW hb2))
    have A4 := hid (fun (W : World) (hW : Below w6.heap.size w6 W) => Dtp W (Below.tr hW hb2))
    go_wp2_with fail
    refine wp_region_ext (by kernel_rfl) (by kernel_rfl) ?_
    iterate 3 (go_big_quiet_step (((go_at_call 19; exact ext_below (A3.out _ (Ext.h _))))))
    iterate 4 (go_big_quiet_step (((go_at_call 19; exact ext_below (A4.out _ (Ext.h _))))))
    iterate 2 (go_big_quiet_step ((fail)))
    refine wpQuiet_nil ?_
    intro w7 hb7
    obtain ⟨hc_w7, hf_w7⟩ := bcell hb7
    have hz_w7 := hb7.size
    have hb2 := Below.tr hb7 hb2
    have c0 := (hc_w7 w.heap.size 0 zb).trans c0
    have c1 := (hc_w7 w.heap.size 1 zb).trans c1
    have c2 := (hc_w7 w.heap.size 2 zb).trans c2
    have c3 := (hc_w7 w.heap.size 3 zb).trans c3
    have c4 := (hc_w7 w.heap.size 4 zb).trans c4
    have c5 := (hc_w7 w.heap.size 5 zb).trans c5
    have zb := Nat.lt_of_lt_of_le zb hz_w7
    clear hc_w7 hf_w7 A3 A4
    have d0 := c0
    have d5 := c5
    clear c0 c1 c2 c3 c4 c5 C1 Dfa Dta Dfp Dtp
    go_wp2_with fail
    refine wp_region_noPanic ?_
    refine wp_region_held_drew (S := (fun w' => w'.cell? ⟨w.heap.size, 0, none⟩ = some (.string s) ∧ w'.cell? ⟨w.heap.size, 5, none⟩ = some (.int .i64 (k : Nat)))) (by kernel_rfl) ?hS1 ?rest1
    case hS1 => ((try dsimp only); go_keep)
    case' rest1 => intro hHeld
    refine wpAnyH_take (i := 0) (v := ?vv2) rfl (by kernel_rfl) (by kernel_rfl) (by kernel_rfl) (fun _ _ _ h => h) (Or.inl ⟨by rfl, ?hy2⟩) (by assumption) ?rest2
    case hy2 => (intro w hSw; (try dsimp only at hSw); go_simp; try with_reducible rfl)
    case' rest2 => (try simp only [List.getElem_toArray, List.getElem_cons_succ, List.getElem_cons_zero, Act.put, List.setIfInBounds_toArray, List.set_cons_zero, List.set_cons_succ])
    refine wpAnyH_take (i := 1) (v := ?vv3) rfl (by kernel_rfl) (by kernel_rfl) (by kernel_rfl) (fun _ _ _ h => h) (Or.inl ⟨by rfl, ?hy3⟩) (by assumption) ?rest3
    case hy3 => (intro w hSw; (try dsimp only at hSw); go_simp; try with_reducible rfl)
    case' rest3 => (try simp only [List.getElem_toArray, List.getElem_cons_succ, List.getElem_cons_zero, Act.put, List.setIfInBounds_toArray, List.set_cons_zero, List.set_cons_succ])
    refine wpAnyH_take (i := 2) (v := ?vv4) rfl (by kernel_rfl) (by kernel_rfl) (by kernel_rfl) (fun _ _ _ h => h) (Or.inl ⟨by rfl, ?hy4⟩) (by assumption) ?rest4
    case hy4 => (intro w hSw; (try dsimp only at hSw); go_simp; try with_reducible rfl)
    case' rest4 => (try simp only [List.getElem_toArray, List.getElem_cons_succ, List.getElem_cons_zero, Act.put, List.setIfInBounds_toArray, List.set_cons_zero, List.set_cons_succ])
    refine wpAnyH_take (i := 3) (v := ?vv5) rfl (by kernel_rfl) (by kernel_rfl) (by kernel_rfl) (fun _ _ _ h => h) (Or.inl ⟨by rfl, ?hy5⟩) (by assumption) ?rest5
    case hy5 => (intro w hSw; (try dsimp only at hSw); go_simp; try with_reducible rfl)
    case' rest5 => (try simp only [List.getElem_toArray, List.getElem_cons_succ, List.getElem_cons_zero, Act.put, List.setIfInBounds_toArray, List.set_cons_zero, List.set_cons_succ])
    refine wpAnyH_take (i := 4) (v := ?vv6) rfl (by kernel_rfl) (by kernel_rfl) (by kernel_rfl) (fun _ _ _ h => h) (Or.inl ⟨by rfl, ?hy6⟩) (by assumption) ?rest6
    case hy6 => (intro w hSw; (try dsimp only at hSw); go_simp; try with_reducible rfl)
    case' rest6 => (try simp only [List.getElem_toArray, List.getElem_cons_succ, List.getElem_cons_zero, Act.put, List.setIfInBounds_toArray, List.set_cons_zero, List.set_cons_succ])
    refine wpAnyH_take (i := 6) (v := ?vv7) rfl (by kernel_rfl) (by kernel_rfl) (by kernel_rfl) (fun _ _ _ h => h) (Or.inl ⟨by rfl, ?hy7⟩) (by assumption) ?rest7
    case hy7 => (intro w hSw; (try dsimp only at hSw); go_simp; try with_reducible rfl)
    case' rest7 => (try simp only [List.getElem_toArray, List.getElem_cons_succ, List.getElem_cons_zero, Act.put, List.setIfInBounds_toArray, List.set_cons_zero, List.set_cons_succ])
    refine wpAnyH_take (i := 7) (v := ?vv8) rfl (by kernel_rfl) (by kernel_rfl) (by kernel_rfl) (fun _ _ _ h => h) (Or.inl ⟨by rfl, ?hy8⟩) (by assumption) ?rest8
    case hy8 => (intro w hSw; (try dsimp only at hSw); go_simp; try with_reducible rfl)
    case' rest8 => (try simp only [List.getElem_toArray, List.getElem_cons_succ, List.getElem_cons_zero, Act.put, List.setIfInBounds_toArray, List.set_cons_zero, List.set_cons_succ])
    refine wpAnyH_ready (rs := [5]) (by kernel_rfl) (by simp) ?_
    refine AllReadyH.cons rfl (fun K hK => ?_) AllReadyH.nil
    go_simp
    (go_at_call 30; refine (shapeNames_any _).mono ?_; rintro e w9 ⟨rfl, hw9⟩; have y9 : w9.cell? ⟨w7.heap.size, k, none⟩ = some (.string xk) := (by rw [hw9, ← hxk]; exact shp_cell _ hk); have u9 : Below w7.heap.size w7 w9 := (by rw [hw9]; exact (by repeat (first | assumption | exact Below.refl _ _ | apply Below.al | apply Below.drewN' | apply Below.drew | (apply Below.tr; assumption)))); clear hw9; have d90 := ((bcell u9).1 w.heap.size 0 zb).trans d0; have d95 := ((bcell u9).1 w.heap.size 5 zb).trans d5)
    refine hK.out _ _ ?hS9 ?rest9
    case hS9 => ((try dsimp only); go_keep)
    case' rest9 => (intro hHeld; clear hK K; (try simp only [List.getElem_toArray, List.getElem_cons_succ, List.getElem_cons_zero, Act.put, List.setIfInBounds_toArray, List.set_cons_zero, List.set_cons_succ]))
    refine wpAnyH_take (i := 8) (v := ?vv10) rfl (by kernel_rfl) (by kernel_rfl) (by kernel_rfl) (fun _ _ _ h => h) (Or.inl ⟨by rfl, ?hy10⟩) (by assumption) ?rest10
    case hy10 => (intro w hSw; (try dsimp only at hSw); go_simp; try with_reducible rfl)
    case' rest10 => (try simp only [List.getElem_toArray, List.getElem_cons_succ, List.getElem_cons_zero, Act.put, List.setIfInBounds_toArray, List.set_cons_zero, List.set_cons_succ])
    refine wpAnyH_ready (rs := [9]) (by kernel_rfl) (by simp) ?_
    refine AllReadyH.cons rfl (fun K hK => ?_) AllReadyH.nil
    go_simp
    refine hK.out _ _ ?hS11 ?rest11
    case hS11 => ((try dsimp only); go_keep)
    case' rest11 => (intro hHeld; clear hK K; (try simp only [List.getElem_toArray, List.getElem_cons_succ, List.getElem_cons_zero, Act.put, List.setIfInBounds_toArray, List.set_cons_zero, List.set_cons_succ]))
    refine wpAnyH_ready (rs := [10]) (by kernel_rfl) (by simp) ?_
    refine AllReadyH.cons rfl (fun K hK => ?_) AllReadyH.nil
    go_simp
    refine hK.out _ _ ?hS12 ?rest12
    case hS12 => ((try dsimp only); go_keep)
    case' rest12 => (intro hHeld; clear hK K; (try simp only [List.getElem_toArray, List.getElem_cons_succ, List.getElem_cons_zero, Act.put, List.setIfInBounds_toArray, List.set_cons_zero, List.set_cons_succ]))
    refine wpAnyH_ready (rs := [11]) (by kernel_rfl) (by simp) ?_
    refine AllReadyH.cons rfl (fun K hK => ?_) AllReadyH.nil
    go_simp
    (go_at_call 29; refine (JR.out _).mono ?_; rintro e w11 ⟨rfl, hb11⟩; have u11 : Below w9.heap.size w9 w11 := (by repeat (first | assumption | exact Below.refl _ _ | apply Below.al | apply Below.drewN' | apply Below.drew | (apply Below.tr; assumption))); have d110 := ((bcell u11).1 w.heap.size 0 (Nat.lt_of_lt_of_le zb u9.size)).trans d90; have d115 := ((bcell u11).1 w.heap.size 5 (Nat.lt_of_lt_of_le zb u9.size)).trans d95)
    refine hK.out _ _ ?hS13 ?rest13
    case hS13 => ((try dsimp only); go_keep)
    case' rest13 => (intro hHeld; clear hK K; (try simp only [List.getElem_toArray, List.getElem_cons_succ, List.getElem_cons_zero, Act.put, List.setIfInBounds_toArray, List.set_cons_zero, List.set_cons_succ]))
    refine wpAnyH_take (i := 12) (v := ?vv14) rfl (by kernel_rfl) (by kernel_rfl) (by kernel_rfl) (fun _ _ _ h => h) (Or.inl ⟨by rfl, ?hy14⟩) (by assumption) ?rest14
    case hy14 => (intro w hSw; (try dsimp only at hSw); go_simp; try with_reducible rfl)
    case' rest14 => (try simp only [List.getElem_toArray, List.getElem_cons_succ, List.getElem_cons_zero, Act.put, List.setIfInBounds_toArray, List.set_cons_zero, List.set_cons_succ])
    refine wpAnyH_done (by kernel_rfl) ?_ _
    refine NoPanic.normal ?_
    all_goals
      go_wp2
      go_ret
      exact ⟨by rw [HV.out]; rfl, Below.tr u11 (Below.tr u9 hb2)⟩
end Go.Proofs.YtiimohofnnphoaaDoor
