/- Contracts: the library's sort of numbers, laid at this program; the values of a slice, sorted. -/
import Derived.Shelf.SortG.Plain
import Derived.Lib.SlKeysI
import Derived.Test.YtfohoidbiiipgaaCSeq
namespace Go.Proofs.Ytfohoidbiiipgaa
open Go.RowKit Go.Shelf Go.Sort
set_option linter.unusedVariables false
def sortLRen : Go.Shelf.Ren := ⟨fun | 53 => 50 | 64 => 57 | 63 => 56 | 78 => 68 | 79 => 69 | 70 => 59 | 71 => 60 | 72 => 61 | 73 => 62 | 74 => 63 | 75 => 64 | 59 => 65 | 76 => 66 | 77 => 67 | 88 => 70 | 89 => 71 | 90 => 72 | 91 => 73 | 92 => 74 | 68 => 75 | 96 => 76 | n => n, fun | 22 => 22 | 23 => 2 | 3 => 3 | 51 => 51 | 0 => 0 | 67 => 63 | 69 => 65 | 4 => 4 | 61 => 55 | 60 => 54 | 44 => 60 | 5 => 5 | 9 => 9 | 75 => 66 | 79 => 70 | 83 => 72 | 84 => 73 | n => n, fun | n => n⟩
theorem sortL : SlLaysN.n53 Try.prog sortLRen := {
  mixed := by kernel_rfl,
  f53 := ⟨Try.f50.name, by decide, Try.func50.trans (congrArg some (by kernel_rfl))⟩,
  f59 := ⟨Try.f65.name, by decide, Try.func65.trans (congrArg some (by kernel_rfl))⟩,
  f63 := ⟨Try.f56.name, by decide, Try.func56.trans (congrArg some (by kernel_rfl))⟩,
  f64 := Try.func57.trans (congrArg some (by kernel_rfl)),
  f68 := ⟨Try.f75.name, by decide, Try.func75.trans (congrArg some (by kernel_rfl))⟩,
  f70 := ⟨Try.f59.name, by decide, Try.func59.trans (congrArg some (by kernel_rfl))⟩,
  f71 := ⟨Try.f60.name, by decide, Try.func60.trans (congrArg some (by kernel_rfl))⟩,
  f72 := ⟨Try.f61.name, by decide, Try.func61.trans (congrArg some (by kernel_rfl))⟩,
  f73 := ⟨Try.f62.name, by decide, Try.func62.trans (congrArg some (by kernel_rfl))⟩,
  f74 := ⟨Try.f63.name, by decide, Try.func63.trans (congrArg some (by kernel_rfl))⟩,
  f75 := ⟨Try.f64.name, by decide, Try.func64.trans (congrArg some (by kernel_rfl))⟩,
  f76 := ⟨Try.f66.name, by decide, Try.func66.trans (congrArg some (by kernel_rfl))⟩,
  f77 := ⟨Try.f67.name, by decide, Try.func67.trans (congrArg some (by kernel_rfl))⟩,
  f78 := Try.func68.trans (congrArg some (by kernel_rfl)),
  f79 := Try.func69.trans (congrArg some (by kernel_rfl)),
  f88 := ⟨Try.f70.name, by decide, Try.func70.trans (congrArg some (by kernel_rfl))⟩,
  f89 := Try.func71.trans (congrArg some (by kernel_rfl)),
  f90 := Try.func72.trans (congrArg some (by kernel_rfl)),
  f91 := ⟨Try.f73.name, by decide, Try.func73.trans (congrArg some (by kernel_rfl))⟩,
  f92 := ⟨Try.f74.name, by decide, Try.func74.trans (congrArg some (by kernel_rfl))⟩,
  f96 := ⟨Try.f76.name, by decide, Try.func76.trans (congrArg some (by kernel_rfl))⟩,
  t0 := Try.underlying0,
  a0 := Try.isAgg0,
  z0 := Try.sizeOf0,
  v0 := Try.zeroValue0,
  t3 := Try.underlying3,
  a3 := Try.isAgg3,
  z3 := Try.sizeOf3,
  v3 := Try.zeroValue3,
  t4 := Try.underlying4,
  a4 := Try.isAgg4,
  z4 := Try.sizeOf4,
  v4 := Try.zeroValue4,
  t5 := Try.underlying5,
  a5 := Try.isAgg5,
  z5 := Try.sizeOf5,
  v5 := Try.zeroValue5,
  t9 := Try.underlying9,
  a9 := Try.isAgg9,
  z9 := Try.sizeOf9,
  v9 := Try.zeroValue9,
  t22 := Try.underlying22,
  a22 := Try.isAgg22,
  z22 := Try.sizeOf22,
  v22 := Try.zeroValue22,
  t23 := Try.underlying2,
  a23 := Try.isAgg2,
  z23 := Try.sizeOf2,
  v23 := Try.zeroValue2,
  t44 := Try.underlying60,
  a44 := Try.isAgg60,
  z44 := Try.sizeOf60,
  v44 := Try.zeroValue60,
  t51 := Try.underlying51,
  a51 := Try.isAgg51,
  z51 := Try.sizeOf51,
  v51 := Try.zeroValue51,
  t60 := Try.underlying54,
  a60 := Try.isAgg54,
  z60 := Try.sizeOf54,
  v60 := Try.zeroValue54,
  t61 := Try.underlying55,
  a61 := Try.isAgg55,
  z61 := Try.sizeOf55,
  v61 := Try.zeroValue55,
  t67 := Try.underlying63,
  a67 := Try.isAgg63,
  z67 := Try.sizeOf63,
  v67 := Try.zeroValue63,
  t69 := Try.underlying65,
  a69 := Try.isAgg65,
  z69 := Try.sizeOf65,
  v69 := Try.zeroValue65,
  t75 := Try.underlying66,
  a75 := Try.isAgg66,
  z75 := Try.sizeOf66,
  v75 := Try.zeroValue66,
  t79 := Try.underlying70,
  a79 := Try.isAgg70,
  z79 := Try.sizeOf70,
  v79 := Try.zeroValue70,
  t83 := Try.underlying72,
  a83 := Try.isAgg72,
  z83 := Try.sizeOf72,
  v83 := Try.zeroValue72,
  t84 := Try.underlying73,
  a84 := Try.isAgg73,
  z84 := Try.sizeOf73,
  v84 := Try.zeroValue73 }
theorem rd_cells {w : World} {B b o : Nat} {xs : List Int} (h : Rd encI 1 w B (some ⟨b, o, none⟩) xs) : ∀ j, j < xs.length → w.cell? ⟨b, o + j, none⟩ = some (.int .i64 (xs[j]?.getD 0)) := fun j hj => by
  obtain ⟨x, hx⟩ := getx hj
  obtain ⟨b', o', e, _, c0⟩ := h.at1 hx rfl
  simp at e; obtain ⟨rfl, rfl⟩ := e
  rw [c0, hx]; rfl
theorem values_any (Ad : Option Addr) (n c : Nat) (w : World) :
    Calls Try.prog 40 #[.slice Ad n c] w fun e w' => e = .returned (.func (.func 51) #[] #[.pointer (some ⟨w.heap.size, 0, none⟩)]) ∧ w' = w.alloc (.cells #[.slice Ad n c] 22) := by
  go_enter Try.func40, Try.ntmps40
  go_wp2
  go_ret
  exact ⟨rfl, rfl⟩
theorem collect_any (Bs b off cap : Nat) (zs : List Int) (hreach : zs.length ≤ 100000) (w : World) (hBs : Bs < w.heap.size) (hb : b < w.heap.size)
    (hc : w.cell? ⟨Bs, 0, none⟩ = some (.slice (some ⟨b, off, none⟩) zs.length cap)) (hcs : ∀ j, j < zs.length → w.cell? ⟨b, off + j, none⟩ = some (.int .i64 (zs[j]?.getD 0))) :
    Calls Try.prog 49 #[.func (.func 51) #[] #[.pointer (some ⟨Bs, 0, none⟩)]] w fun e W' => ∃ v, e = .returned v ∧ W'.ownsRow w.heap.size 2 1 v zs.length (zs.map (Value.int .i64)) ∧ Below w.heap.size w W' := by
  have CA := callsIn_wide.1 (appendSeq_in 6 (by omega) Bs b off cap zs hreach w hBs hb hc hcs)
  clear hc hcs
  go_enter Try.func49, Try.ntmps49
  go_wp2_with fail
  refine CA.mono ?_
  rintro e w1 ⟨v, rfl, own, hb1⟩
  obtain ⟨Av, cv, rfl⟩ := own_shape own
  have O := hid own
  clear own CA
  go_wp2
  go_ret
  exact ⟨_, rfl, O.out, hb1⟩
theorem sorted_any (Bs b off cap : Nat) (zs : List Int) (hne : 0 < zs.length) (hreach : zs.length ≤ 100000) (w : World) (hBs : Bs < w.heap.size) (hb : b < w.heap.size)
    (hc : w.cell? ⟨Bs, 0, none⟩ = some (.slice (some ⟨b, off, none⟩) zs.length cap)) (hcs : ∀ j, j < zs.length → w.cell? ⟨b, off + j, none⟩ = some (.int .i64 (zs[j]?.getD 0))) :
    Calls Try.prog 39 #[.func (.func 51) #[] #[.pointer (some ⟨Bs, 0, none⟩)]] w (OwnRes 2 1 encI (zs.mergeSort fun x y => decide (x ≤ y)) w) := by
  have CC := collect_any Bs b off cap zs hreach w hBs hb hc hcs
  clear hc hcs
  go_enter Try.func39, Try.ntmps39
  go_wp2_with fail
  refine CC.mono ?_
  rintro e W ⟨v, rfl, hrow, hb1⟩
  clear CC
  rcases hrow.2 with ⟨_, hz⟩ | ⟨gb, cap', cur, rfl, hbase, hgb, r1, r2, r3, r4⟩
  · omega
  have hH : Holds (Value.int .i64) W gb 0 zs.toArray := holds_of_block_i hgb (by simpa using r4)
  have hgl : gb < W.heap.size := (Array.getElem?_eq_some_iff.1 hgb).1
  have cS := AnyG.slices_Sort_int sortL gb 0 cap' zs W hH hgl (by omega)
  change Calls Try.prog 50 _ _ _ at cS
  have R3 := hid r3
  have HG := hid hgb
  clear hrow hH r3 r4 hgb
  go_wp2_with fail
  refine cS.mono ?_
  rintro e w' ⟨rfl, nn, os, rfl⟩
  clear cS
  go_wp2
  go_ret
  have hl : (zs.mergeSort fun x y => decide (x ≤ y)).length = zs.length := List.length_mergeSort _
  have ho := ownsRow_sorted_i (n := nn) (os := os) (ss := zs) (ts := zs.mergeSort fun x y => decide (x ≤ y)) hl hbase HG.out r1 r2 R3.out
  refine ⟨some ⟨gb, 0, none⟩, cap', by rw [hl]; rfl, ?_, hb1.grown (grownBy_sorted_i _) hb1.size (fun j hj => by cases hj; exact hbase)⟩
  rw [hl]
  have e : (zs.mergeSort fun x y => decide (x ≤ y)).flatMap encI = (zs.mergeSort fun x y => decide (x ≤ y)).map (Value.int .i64) := by
    generalize zs.mergeSort _ = L
    induction L with
    | nil => rfl
    | cons a r ih => simp only [List.flatMap_cons, List.map_cons, ih]; rfl
  rw [e]
  exact ho
end Go.Proofs.Ytfohoidbiiipgaa
