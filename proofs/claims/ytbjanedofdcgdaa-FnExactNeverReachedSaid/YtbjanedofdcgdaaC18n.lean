/- Contracts: the library's sort of numbers and its Compact, laid at this program, on a row of one's own. -/
import Derived.Shelf.SortG.Plain
import Derived.Shelf.SlicesG.CompactI
import Derived.Lib.SlKeysI
import Derived.Test.YtbjanedofdcgdaaC18k
namespace Go.Proofs.Ytbjanedofdcgdaa
open Go.RowKit Go.Shelf Go.Sort
set_option linter.unusedVariables false
def sortLRen : Go.Shelf.Ren := ⟨fun | 53 => 52 | 64 => 59 | 63 => 58 | 78 => 69 | 79 => 70 | 70 => 60 | 71 => 61 | 72 => 62 | 73 => 63 | 74 => 64 | 75 => 65 | 59 => 66 | 76 => 67 | 77 => 68 | 88 => 71 | 89 => 72 | 90 => 73 | 91 => 74 | 92 => 75 | 68 => 76 | 96 => 77 | n => n, fun | 22 => 35 | 23 => 2 | 3 => 3 | 51 => 79 | 0 => 0 | 67 => 90 | 69 => 92 | 4 => 4 | 61 => 82 | 60 => 81 | 44 => 87 | 5 => 5 | 9 => 9 | 75 => 93 | 79 => 97 | 83 => 99 | 84 => 100 | n => n, fun | n => n⟩
theorem sortL : SlLaysN.n53 Try.prog sortLRen := {
  mixed := by kernel_rfl,
  f53 := ⟨Try.f52.name, by decide, Try.func52.trans (congrArg some (by kernel_rfl))⟩,
  f59 := ⟨Try.f66.name, by decide, Try.func66.trans (congrArg some (by kernel_rfl))⟩,
  f63 := ⟨Try.f58.name, by decide, Try.func58.trans (congrArg some (by kernel_rfl))⟩,
  f64 := Try.func59.trans (congrArg some (by kernel_rfl)),
  f68 := ⟨Try.f76.name, by decide, Try.func76.trans (congrArg some (by kernel_rfl))⟩,
  f70 := ⟨Try.f60.name, by decide, Try.func60.trans (congrArg some (by kernel_rfl))⟩,
  f71 := ⟨Try.f61.name, by decide, Try.func61.trans (congrArg some (by kernel_rfl))⟩,
  f72 := ⟨Try.f62.name, by decide, Try.func62.trans (congrArg some (by kernel_rfl))⟩,
  f73 := ⟨Try.f63.name, by decide, Try.func63.trans (congrArg some (by kernel_rfl))⟩,
  f74 := ⟨Try.f64.name, by decide, Try.func64.trans (congrArg some (by kernel_rfl))⟩,
  f75 := ⟨Try.f65.name, by decide, Try.func65.trans (congrArg some (by kernel_rfl))⟩,
  f76 := ⟨Try.f67.name, by decide, Try.func67.trans (congrArg some (by kernel_rfl))⟩,
  f77 := ⟨Try.f68.name, by decide, Try.func68.trans (congrArg some (by kernel_rfl))⟩,
  f78 := Try.func69.trans (congrArg some (by kernel_rfl)),
  f79 := Try.func70.trans (congrArg some (by kernel_rfl)),
  f88 := ⟨Try.f71.name, by decide, Try.func71.trans (congrArg some (by kernel_rfl))⟩,
  f89 := Try.func72.trans (congrArg some (by kernel_rfl)),
  f90 := Try.func73.trans (congrArg some (by kernel_rfl)),
  f91 := ⟨Try.f74.name, by decide, Try.func74.trans (congrArg some (by kernel_rfl))⟩,
  f92 := ⟨Try.f75.name, by decide, Try.func75.trans (congrArg some (by kernel_rfl))⟩,
  f96 := ⟨Try.f77.name, by decide, Try.func77.trans (congrArg some (by kernel_rfl))⟩,
  t0 := Try.underlying0,
  a0 := Try.isAgg0,
  z0 := Try.sizeOf0,
  v0 := Try.zeroValue0,
  t3 := Try.underlying3,
  a3 := Try.isAgg3,
  z3 := Try.sizeOf3,
  v3 := Try.zeroValue3,
  t4 := Try.underlying4,
  a4 := Try.isAgg4,
  z4 := Try.sizeOf4,
  v4 := Try.zeroValue4,
  t5 := Try.underlying5,
  a5 := Try.isAgg5,
  z5 := Try.sizeOf5,
  v5 := Try.zeroValue5,
  t9 := Try.underlying9,
  a9 := Try.isAgg9,
  z9 := Try.sizeOf9,
  v9 := Try.zeroValue9,
  t22 := Try.underlying35,
  a22 := Try.isAgg35,
  z22 := Try.sizeOf35,
  v22 := Try.zeroValue35,
  t23 := Try.underlying2,
  a23 := Try.isAgg2,
  z23 := Try.sizeOf2,
  v23 := Try.zeroValue2,
  t44 := Try.underlying87,
  a44 := Try.isAgg87,
  z44 := Try.sizeOf87,
  v44 := Try.zeroValue87,
  t51 := Try.underlying79,
  a51 := Try.isAgg79,
  z51 := Try.sizeOf79,
  v51 := Try.zeroValue79,
  t60 := Try.underlying81,
  a60 := Try.isAgg81,
  z60 := Try.sizeOf81,
  v60 := Try.zeroValue81,
  t61 := Try.underlying82,
  a61 := Try.isAgg82,
  z61 := Try.sizeOf82,
  v61 := Try.zeroValue82,
  t67 := Try.underlying90,
  a67 := Try.isAgg90,
  z67 := Try.sizeOf90,
  v67 := Try.zeroValue90,
  t69 := Try.underlying92,
  a69 := Try.isAgg92,
  z69 := Try.sizeOf92,
  v69 := Try.zeroValue92,
  t75 := Try.underlying93,
  a75 := Try.isAgg93,
  z75 := Try.sizeOf93,
  v75 := Try.zeroValue93,
  t79 := Try.underlying97,
  a79 := Try.isAgg97,
  z79 := Try.sizeOf97,
  v79 := Try.zeroValue97,
  t83 := Try.underlying99,
  a83 := Try.isAgg99,
  z83 := Try.sizeOf99,
  v83 := Try.zeroValue99,
  t84 := Try.underlying100,
  a84 := Try.isAgg100,
  z84 := Try.sizeOf100,
  v84 := Try.zeroValue100 }
def compLRen : Go.Shelf.Ren := ⟨fun | 43 => 53 | n => n, fun | 22 => 35 | 23 => 2 | 3 => 3 | 4 => 4 | 0 => 0 | n => n, fun | n => n⟩
theorem compL : SlLaysN.n43 Try.prog compLRen := {
  mixed := by kernel_rfl,
  f43 := ⟨Try.f53.name, by decide, Try.func53.trans (congrArg some (by kernel_rfl))⟩,
  t0 := Try.underlying0,
  a0 := Try.isAgg0,
  z0 := Try.sizeOf0,
  v0 := Try.zeroValue0,
  t3 := Try.underlying3,
  a3 := Try.isAgg3,
  z3 := Try.sizeOf3,
  v3 := Try.zeroValue3,
  t4 := Try.underlying4,
  a4 := Try.isAgg4,
  z4 := Try.sizeOf4,
  v4 := Try.zeroValue4,
  t22 := Try.underlying35,
  a22 := Try.isAgg35,
  z22 := Try.sizeOf35,
  v22 := Try.zeroValue35,
  t23 := Try.underlying2,
  a23 := Try.isAgg2,
  z23 := Try.sizeOf2,
  v23 := Try.zeroValue2,
  i23 := by kernel_rfl }
theorem flat_map (L : List Int) : L.flatMap encI = L.map (Value.int .i64) := by
  induction L with
  | nil => rfl
  | cons a r ih => simp only [List.flatMap_cons, List.map_cons, ih]; rfl
theorem rd_pre {w : World} {B : Nat} {A : Option Addr} {L : List Int} (h : Rd encI 1 w B A L) (k : Nat) : Rd encI 1 w B A (L.take k) := fun hx => by
  obtain ⟨b, o, e, hb, hc⟩ := h (by intro e; apply hx; rw [e]; simp)
  exact ⟨b, o, e, hb, fun i x hi => hc i x (by rw [List.getElem?_take] at hi; split at hi; exact hi; cases hi)⟩
theorem sortI_own {lo : Nat} {A1 : Option Addr} {c : Nat} {zs : List Int} (w : World) (own : w.ownsRow lo 2 1 (.slice A1 zs.length c) zs.length (zs.flatMap encI)) (hne : 0 < zs.length) (hs : zs.length ≤ 1048576) :
    Calls Try.prog 52 #[.slice A1 zs.length c] w fun e w' => e = .returned (.tuple #[]) ∧ w'.ownsRow lo 2 1 (.slice A1 (srt zs).length c) (srt zs).length ((srt zs).flatMap encI) ∧ ∀ B, B ≤ lo → B ≤ w.heap.size → Below B w w' := by
  have hl : (zs.mergeSort fun x y => decide (x ≤ y)).length = zs.length := List.length_mergeSort _
  rcases own.2 with ⟨_, hz⟩ | ⟨gb, cap', cur, e, hbase, hgb, r1, r2, r3, r4⟩
  · omega
  cases e
  have hH : Holds (Value.int .i64) w gb 0 zs.toArray := holds_of_block_i hgb (by rw [← flat_map]; simpa using r4)
  have hgl : gb < w.heap.size := (Array.getElem?_eq_some_iff.1 hgb).1
  have cS := AnyG.slices_Sort_int sortL gb 0 c zs w hH hgl (by omega)
  change Calls Try.prog 52 _ _ _ at cS
  refine cS.mono ?_
  rintro e w' ⟨rfl, nn, os, rfl⟩
  refine ⟨rfl, ?_, fun B hB hw => (Below.refl _ _).grown (grownBy_sorted_i _) hw (fun j hj => by cases hj; omega)⟩
  have ho := ownsRow_sorted_i (n := nn) (os := os) (ss := zs) (ts := zs.mergeSort fun x y => decide (x ≤ y)) hl hbase hgb r1 r2 r3
  unfold srt
  rw [hl, flat_map]
  exact ho
theorem compI_own {lo n : Nat} {A1 : Option Addr} {c : Nat} {zs : List Int} (w : World) (hn : n = zs.length) (own : w.ownsRow lo 2 1 (.slice A1 zs.length c) zs.length (zs.flatMap encI)) (hne : 0 < zs.length) (hs : zs.length ≤ 1048576) :
    Calls Try.prog 53 #[.slice A1 n c] w fun e w' => e = .returned (.slice A1 (Go.Lib.compact zs).length c) ∧ Rd encI 1 w' w'.heap.size A1 (Go.Lib.compact zs) ∧ ∀ B, B ≤ lo → B ≤ w.heap.size → Below B w w' := by
  subst hn
  rcases own.2 with ⟨_, hz⟩ | ⟨gb, cap', cur, e, hbase, hgb, r1, r2, r3, r4⟩
  · omega
  cases e
  have hH : Holds (Value.int .i64) w gb 0 zs.toArray := holds_of_block_i hgb (by rw [← flat_map]; simpa using r4)
  have cS := AnyG.slices_Compact_int compL gb 0 c zs w hH (by omega) r1
  change Calls Try.prog 53 _ _ _ at cS
  refine cS.mono ?_
  rintro e w' ⟨rfl, q, rfl⟩
  have hle := comp_len zs
  have hl : (Go.Lib.compact zs ++ List.replicate (zs.length - (Go.Lib.compact zs).length) 0).length = zs.length := by simp; omega
  have gz : ∀ W : World, Go.Sort.grow W #[] = W := fun W => by simp [Go.Sort.grow]
  have ho := ownsRow_sorted_i (n := q) (os := #[]) (ss := zs) (ts := Go.Lib.compact zs ++ List.replicate (zs.length - (Go.Lib.compact zs).length) 0) hl hbase hgb r1 r2 r3
  have hg := grownBy_sorted_i (w := w) (g := gb) (n := q) (os := #[]) (Go.Lib.compact zs ++ List.replicate (zs.length - (Go.Lib.compact zs).length) 0).toArray
  rw [gz] at ho hg
  refine ⟨rfl, ?_, fun B hB hw => (Below.refl _ _).grown hg hw (fun j hj => by cases hj; omega)⟩
  rw [← flat_map] at ho
  have hl2 := hl
  generalize hzz : Go.Lib.compact zs ++ List.replicate (zs.length - (Go.Lib.compact zs).length) 0 = ZZ at *
  rw [← hl2] at ho
  have hr := rd_pre (rd_of_own (fun _ => rfl) ho) (Go.Lib.compact zs).length
  have e2 : ZZ.take (Go.Lib.compact zs).length = Go.Lib.compact zs := by rw [← hzz]; simp
  rw [e2] at hr
  exact hr
end Go.Proofs.Ytbjanedofdcgdaa
