/- Contracts: the decimal form of a number, in the program (by the library) and in the reference (by itself). -/
import Derived.Shelf.Strconv.Itoa4
import Derived.Laws.Concat
import Derived.Laws.BytesString
import Derived.Lib.LaidTab
import Derived.Lib.ItoaLen
import Derived.Test.YtdklchklpmabdaaDoorC1
import Derived.Test.YtdklchklpmabdaaDoorCAppR
namespace Go.Proofs.YtdklchklpmabdaaDoor
open Go.RowKit
set_option linter.unusedVariables false
def TabOk (w : World) : Prop := Lib.TabIs Tryd.prog w "internal/strconv.uint64pow10" .u64 Lib.pow10Tab
theorem tab_below {w w' : World} (h : TabOk w) (hb : Below w.heap.size w w') : TabOk w' := by
  unfold TabOk Lib.TabIs World.var? at *
  cases hg : Tryd.prog.globalNamed "internal/strconv.uint64pow10" with
  | none => rw [hg] at h; cases h
  | some g =>
    rw [hg] at h
    simp only [Option.bind_some] at h ⊢
    have hlt : g < w.heap.size := by
      rcases Nat.lt_or_ge g w.heap.size with hl | hl
      · exact hl
      · rw [Array.getElem?_eq_none hl] at h; cases h
    rw [hb.block g hlt]
    exact h
def decS (n : Int) : ByteArray := ⟨(Lib.itoa n).toArray⟩
theorem below_grow {w : World} {k : Nat} {os : Array Obj} : Below w.heap.size w (Sort.grow (w.drewN k) os) :=
  ⟨rfl, rfl, rfl, by simp [Sort.grow, World.drewN], fun i hi => by simp only [Sort.grow, World.drewN]; exact Array.getElem?_append_left hi⟩
def fmtLRen : Go.Shelf.Ren := ⟨fun | 173 => 40 | 246 => 51 | 283 => 65 | 284 => 66 | 285 => 67 | 286 => 68 | 129 => 79 | 317 => 78 | 318 => 80 | 319 => 81 | 320 => 82 | 337 => 84 | 338 => 85 | n => n, fun | 2 => 2 | 3 => 3 | 9 => 9 | 4 => 4 | 171 => 82 | 0 => 0 | 53 => 75 | 37 => 59 | 5 => 5 | 173 => 85 | 212 => 103 | 51 => 94 | 20 => 20 | 213 => 104 | 46 => 73 | 232 => 111 | 233 => 112 | n => n, fun | 17 => 5 | 18 => 6 | 19 => 7 | n => n⟩
set_option maxRecDepth 100000 in
theorem fmtL : LaysM.n173 Tryd.prog fmtLRen := {
  mixed := by kernel_rfl,
  f129 := Tryd.func79.trans (congrArg some (by kernel_rfl)),
  f173 := Tryd.func40.trans (congrArg some (by kernel_rfl)),
  f246 := Tryd.func51.trans (congrArg some (by kernel_rfl)),
  f283 := Tryd.func65.trans (congrArg some (by kernel_rfl)),
  f284 := Tryd.func66.trans (congrArg some (by kernel_rfl)),
  f285 := Tryd.func67.trans (congrArg some (by kernel_rfl)),
  f286 := Tryd.func68.trans (congrArg some (by kernel_rfl)),
  f317 := Tryd.func78.trans (congrArg some (by kernel_rfl)),
  f318 := Tryd.func80.trans (congrArg some (by kernel_rfl)),
  f319 := Tryd.func81.trans (congrArg some (by kernel_rfl)),
  f320 := Tryd.func82.trans (congrArg some (by kernel_rfl)),
  f337 := Tryd.func84.trans (congrArg some (by kernel_rfl)),
  f338 := Tryd.func85.trans (congrArg some (by kernel_rfl)),
  t0 := Tryd.underlying0,
  a0 := Tryd.isAgg0,
  z0 := Tryd.sizeOf0,
  v0 := Tryd.zeroValue0,
  t2 := Tryd.underlying2,
  a2 := Tryd.isAgg2,
  z2 := Tryd.sizeOf2,
  v2 := Tryd.zeroValue2,
  t3 := Tryd.underlying3,
  a3 := Tryd.isAgg3,
  z3 := Tryd.sizeOf3,
  v3 := Tryd.zeroValue3,
  t4 := Tryd.underlying4,
  a4 := Tryd.isAgg4,
  z4 := Tryd.sizeOf4,
  v4 := Tryd.zeroValue4,
  t5 := Tryd.underlying5,
  a5 := Tryd.isAgg5,
  z5 := Tryd.sizeOf5,
  v5 := Tryd.zeroValue5,
  t9 := Tryd.underlying9,
  a9 := Tryd.isAgg9,
  z9 := Tryd.sizeOf9,
  v9 := Tryd.zeroValue9,
  t20 := Tryd.underlying20,
  a20 := Tryd.isAgg20,
  z20 := Tryd.sizeOf20,
  v20 := Tryd.zeroValue20,
  t37 := Tryd.underlying59,
  a37 := Tryd.isAgg59,
  z37 := Tryd.sizeOf59,
  v37 := Tryd.zeroValue59,
  t46 := Tryd.underlying73,
  a46 := Tryd.isAgg73,
  z46 := Tryd.sizeOf73,
  v46 := Tryd.zeroValue73,
  t51 := Tryd.underlying94,
  a51 := Tryd.isAgg94,
  z51 := Tryd.sizeOf94,
  v51 := Tryd.zeroValue94,
  t53 := Tryd.underlying75,
  a53 := Tryd.isAgg75,
  z53 := Tryd.sizeOf75,
  v53 := Tryd.zeroValue75,
  t171 := Tryd.underlying82,
  a171 := Tryd.isAgg82,
  z171 := Tryd.sizeOf82,
  v171 := Tryd.zeroValue82,
  t173 := Tryd.underlying85,
  a173 := Tryd.isAgg85,
  z173 := Tryd.sizeOf85,
  v173 := Tryd.zeroValue85,
  t212 := Tryd.underlying103,
  a212 := Tryd.isAgg103,
  z212 := Tryd.sizeOf103,
  v212 := Tryd.zeroValue103,
  t213 := Tryd.underlying104,
  a213 := Tryd.isAgg104,
  z213 := Tryd.sizeOf104,
  t232 := Tryd.underlying111,
  a232 := Tryd.isAgg111,
  z232 := Tryd.sizeOf111,
  v232 := Tryd.zeroValue111,
  t233 := Tryd.underlying112,
  a233 := Tryd.isAgg112,
  z233 := Tryd.sizeOf112,
  v233 := Tryd.zeroValue112,
  g17 := by kernel_rfl,
  g18 := by kernel_rfl,
  g19 := by kernel_rfl,
  i0 := by kernel_rfl,
  i2 := by kernel_rfl,
  i3 := by kernel_rfl,
  i4 := by kernel_rfl,
  i5 := by kernel_rfl,
  i9 := by kernel_rfl,
  i20 := by kernel_rfl,
  i37 := by kernel_rfl,
  i46 := by kernel_rfl,
  i51 := by kernel_rfl,
  i53 := by kernel_rfl,
  i171 := by kernel_rfl,
  i173 := by kernel_rfl,
  i212 := by kernel_rfl,
  i232 := by kernel_rfl,
  i233 := by kernel_rfl,
  m17 := by kernel_rfl,
  m18 := by kernel_rfl,
  m19 := by kernel_rfl }
theorem formatInt_any (n : Int) (h0 : -9223372036854775808 ≤ n) (h1 : n ≤ 9223372036854775807) (w : World) (h : TabOk w) :
    Calls Tryd.prog 40 #[.int .i64 n, .int .i64 10] w fun e w' => e = .returned (.string (decS n)) ∧ Below w.heap.size w w' :=
  (Any.strconv_FormatInt_10 fmtL n h0 h1 w h).mono fun e w' ⟨he, k, os, hw⟩ => ⟨he, by subst hw; exact below_grow⟩
theorem implDecimal_any (n : Int) (h0 : -9223372036854775808 ≤ n) (h1 : n ≤ 9223372036854775807) (w : World) (h : TabOk w) :
    Calls Tryd.prog 26 #[.int .i64 n] w fun e w' => e = .returned (.string (decS n)) ∧ Below w.heap.size w w' := by
  go_enter Tryd.func26, Tryd.ntmps26
  go_wp2_with (go_at_call 40; refine (formatInt_any n h0 h1 _ h).mono ?_; rintro e w2 ⟨rfl, hb2⟩)
  go_ret
  exact ⟨rfl, hb2⟩
def u8v (x : UInt8) : Value := .int .u8 (x.toNat : Int)
theorem fold_push : ∀ (L : List UInt8) (b : ByteArray), (L.map fun x => (x.toNat : Int)).foldl (fun (r : ByteArray) (n : Int) => r.push (UInt8.ofNat n.toNat)) b = ⟨b.data ++ L.toArray⟩
  | [], b => by simp
  | x :: r, b => by
    simp only [List.map_cons, List.foldl_cons]
    rw [fold_push r]
    apply ByteArray.ext
    simp [ByteArray.push, UInt8.ofNat_toNat]
theorem bytes_string {w : World} {lo g c : Nat} {L : List UInt8} (h : w.ownsRow lo 5 1 (.slice (some ⟨g, 0, none⟩) L.length c) L.length (L.map u8v)) : (convert 59 9 (.slice (some ⟨g, 0, none⟩) L.length c)).run Tryd.prog w = .ok (.string ⟨L.toArray⟩) w := by
  rw [run_convert_bytes_string w _ _ _ _ _ _ Tryd.underlying59 Tryd.underlying5 Tryd.underlying9]
  have hl := run_loadCells_list (P := Tryd.prog) (w := w) ⟨g, 0, none⟩ (L.map u8v) (fun j v hv => by
    have hj : j < L.length := by have := (List.getElem?_eq_some_iff.1 hv).1; simpa using this
    have e0 : (⟨g, 0, none⟩ : Addr).add j = ⟨g, j, none⟩ := by simp [Addr.add]; try (intro e; exact e.symm)
    rw [e0, h.cellAt j (by omega)]; exact hv)
  rw [List.length_map] at hl
  rw [run_bytesToString w ⟨g, 0, none⟩ L.length c (L.map fun x => (x.toNat : Int)) (by rw [hl]; simp [u8v, Function.comp_def])]
  rw [fold_push]
  simp [ByteArray.empty, ByteArray.emptyWithCapacity]
  try rfl
def decGo (u : Nat) (L : List UInt8) : List UInt8 := if u = 0 then L else Lib.decDigits u ++ L
theorem decGo_step {u : Nat} (h : 0 < u) (L : List UInt8) : decGo u L = decGo (u / 10) (UInt8.ofNat (48 + u % 10) :: L) := by
  unfold decGo
  rw [if_neg (by omega), Lib.decDigits]
  by_cases h10 : u < 10
  · rw [dif_pos h10, if_pos (by omega), Nat.mod_eq_of_lt h10]; rfl
  · rw [dif_neg h10, if_neg (by omega)]; simp
theorem decGo_len (u : Nat) (L : List UInt8) : L.length ≤ (decGo u L).length := by
  unfold decGo; split
  · exact Nat.le_refl _
  · simp
theorem u8_dig {d : Nat} (h : d < 10) : Value.int .u8 (48 + (d : Int)) = u8v (UInt8.ofNat (48 + d)) := by
  unfold u8v
  rw [UInt8.toNat_ofNat_of_lt' (by simp [UInt8.size]; omega)]
  simp
theorem decGo_21 {m : Nat} (h : m ≤ 9223372036854775808) : (decGo m []).length ≤ 21 := by
  have h2 := Lib.itoa_length_le (-(m : Int)) (by omega) (by omega)
  unfold decGo
  split
  · simp
  · rename_i h0
    unfold Lib.itoa at h2
    rw [if_pos (by omega)] at h2
    simp at h2 ⊢
    omega
set_option maxRecDepth 20000 in
set_option maxHeartbeats 2000000 in
theorem l01Dec_pos (m : Nat) (h0 : 0 ≤ m) (h1 : m ≤ 9223372036854775807) (w : World) :
    Calls Tryd.prog 29 #[.int .i64 (m : Int)] w fun e w' => e = .returned (.string (decS (m : Int))) ∧ Below w.heap.size w w' := by
  obtain ⟨j0, hj0, jz0, jz1, jz2⟩ := info_parts (P := Tryd.prog) (e := 5) (z := .int .u8 0) (size := 1) (bytes := 1) (by kernel_rfl)
  have HL : Hid ((decGo m []).length ≤ 21) := hid (decGo_21 (by omega))
  go_enter Tryd.func29, Tryd.ntmps29
  go_wp2
  go_loopw [3, 4] (fun v i wr => ∃ (u : Nat) (L : List UInt8), u ≤ m ∧ i = .int .i64 (u : Int) ∧ Below w.heap.size w wr ∧ wr.ownsRow w.heap.size 5 1 v L.length (L.map u8v) ∧ Hid (decGo m [] = decGo u L)) (fun _ i _ => (intOf i).natAbs)
  case atStart => exact ⟨m, [], Nat.le_refl _, rfl, (by repeat (first | assumption | exact Below.refl _ _ | apply Below.al | apply Below.drewN' | apply Below.drew | (apply Below.tr; assumption))), own_lit0 _ _ _ (Nat.le_refl _), hid rfl⟩
  case round =>
    obtain ⟨u, L, hu, rfl, hb, own, HD⟩ := hrel
    have hz := hb.size
    have hll : L.length ≤ 21 := by have h1 := HL.out; have h2 := HD.out; have h3 := decGo_len u L; rw [h2] at h1; omega
    obtain ⟨Ar, cr, rfl⟩ := own_shape own
    by_cases hlt : 0 < u
    · have HN : Hid (Ar = none → L.length = 0 ∧ cr = 0) := hid (fun hA => by
        have h2 := own_nil own hA
        refine ⟨?_, h2⟩
        rcases Nat.eq_zero_or_pos L.length with h3 | h3
        · exact h3
        · obtain ⟨g, hg, _⟩ := own_form own h3
          rw [hA] at hg; cases hg)
      have HS := hid (decGo_step hlt L)
      have hd10 : u % 10 < 10 := Nat.mod_lt _ (by omega)
      have HO := hid own
      have HW : ∀ (ob : Obj) (ad : Addr), Ar = some ad → ∀ j x, (L.map u8v)[j]? = some x → (wr.alloc ob).cell? (ad.add j) = some x := fun ob ad hA j x hx => by
        subst hA
        have hj : j < L.length := by have := (List.getElem?_eq_some_iff.1 hx).1; simpa using this
        obtain ⟨g, hg, _, hgl⟩ := own_form own (by omega)
        cases hg
        have e0 : (⟨g, 0, none⟩ : Addr).add j = ⟨g, j, none⟩ := by simp [Addr.add]; try (intro e; exact e.symm)
        rw [e0, World.cell?_alloc_lt wr ob ⟨g, j, none⟩ hgl, own.cellAt j (by omega)]
        exact hx
      have HW := hid HW
      have H1 : Hid (∀ x ∈ L.map u8v, x.oneCell' = true) := hid (fun x hx => by
        obtain ⟨y, _, rfl⟩ := List.mem_map.1 hx; rfl)
      clear own
      have e2 : Int.tdiv (u : Int) 10 = ((u / 10 : Nat) : Int) := by exact (Int.ofNat_tdiv u 10).symm
      have e1 : Int.tmod (u : Int) 10 = ((u % 10 : Nat) : Int) := by exact (Int.ofNat_tmod u 10).symm
      have HU : Hid (Value.int .u8 (48 + (u : Int) % 10) = u8v (UInt8.ofNat (48 + u % 10))) := hid (by rw [← u8_dig hd10]; simp)
      go_wp2_with (at_builtin; go_must (refine wpList_append_rd rfl _ _ 59 rfl w.heap.size 5 j0 _ 1 1 Tryd.underlying59 hj0 jz0 jz1 jz2 rfl (by decide) _ _ _ rfl (World.ownsRow_lit wr #[.int .u8 (48 + (u : Int) % 10)] 1 hz (by unfold maxLen; omega) rfl) Ar L.length cr (L.map u8v) rfl HN.out (by simp) (HW.out _) H1.out (by unfold maxLen; omega) (by omega) (by simp; omega) ?_); intro v2 w2 own_w2 grow_w2 at_w2)
      go_roundw
      case rel =>
        refine ⟨u / 10, UInt8.ofNat (48 + u % 10) :: L, by omega, by first | go_num | (congr 1; push_cast; omega), ?_, ?_, hid (by rw [HD.out, HS.out])⟩
        · exact (hb.alloc hz _).grown grow_w2 (by simp; omega) (fun k hk => by cases hk; exact hz)
        · rw [List.length_cons, List.map_cons, ← HU.out, Nat.add_comm]
          exact own_w2
      case measure => simp [intOf]; omega
    · obtain rfl : u = 0 := by omega
      have HE : Hid (L = decGo m []) := hid (by rw [HD.out]; simp [decGo])
      rcases Nat.eq_zero_or_pos m with hm | hm
      · subst hm
        have hL : L.length = 0 := by rw [HE.out]; simp [decGo]
        have HV : Hid (decS ((0 : Nat) : Int) = ⟨#[48]⟩) := hid (by simp [decS, Lib.itoa, Lib.decDigits])
        go_wp2
        go_ret
        exact ⟨by rw [HV.out]; rfl, hb⟩
      · have HV : Hid (decS (m : Int) = ⟨L.toArray⟩) := hid (by unfold decS; rw [Lib.itoa_nonneg, HE.out]; unfold decGo; rw [if_neg (by omega)]; simp)
        have hL : 0 < L.length := by
          rw [HE.out]; unfold decGo; rw [if_neg (by omega), List.append_nil, Lib.decDigits_length]
          have := Lib.decDigits_length m
          unfold Lib.nDigits; split <;> omega
        obtain ⟨g, rfl, _, hg⟩ := own_form own hL
        have hcv := bytes_string own
        clear own
        go_wp2
        go_ret
        exact ⟨by rw [HV.out]; rfl, hb⟩
set_option maxRecDepth 20000 in
set_option maxHeartbeats 2000000 in
theorem l01Dec_neg (m : Nat) (h0 : 1 ≤ m) (h1 : m ≤ 9223372036854775808) (w : World) :
    Calls Tryd.prog 29 #[.int .i64 (-(m : Int))] w fun e w' => e = .returned (.string (decS (-(m : Int)))) ∧ Below w.heap.size w w' := by
  obtain ⟨j0, hj0, jz0, jz1, jz2⟩ := info_parts (P := Tryd.prog) (e := 5) (z := .int .u8 0) (size := 1) (bytes := 1) (by kernel_rfl)
  have HL : Hid ((decGo m []).length ≤ 21) := hid (decGo_21 (by omega))
  go_enter Tryd.func29, Tryd.ntmps29
  go_wp2
  go_loopw [3, 4] (fun v i wr => ∃ (u : Nat) (L : List UInt8), u ≤ m ∧ i = .int .i64 (-(u : Int)) ∧ Below w.heap.size w wr ∧ wr.ownsRow w.heap.size 5 1 v L.length (L.map u8v) ∧ Hid (decGo m [] = decGo u L)) (fun _ i _ => (intOf i).natAbs)
  case atStart => exact ⟨m, [], Nat.le_refl _, rfl, (by repeat (first | assumption | exact Below.refl _ _ | apply Below.al | apply Below.drewN' | apply Below.drew | (apply Below.tr; assumption))), own_lit0 _ _ _ (Nat.le_refl _), hid rfl⟩
  case round =>
    obtain ⟨u, L, hu, rfl, hb, own, HD⟩ := hrel
    have hz := hb.size
    have hll : L.length ≤ 21 := by have h1 := HL.out; have h2 := HD.out; have h3 := decGo_len u L; rw [h2] at h1; omega
    obtain ⟨Ar, cr, rfl⟩ := own_shape own
    by_cases hlt : 0 < u
    · have HN : Hid (Ar = none → L.length = 0 ∧ cr = 0) := hid (fun hA => by
        have h2 := own_nil own hA
        refine ⟨?_, h2⟩
        rcases Nat.eq_zero_or_pos L.length with h3 | h3
        · exact h3
        · obtain ⟨g, hg, _⟩ := own_form own h3
          rw [hA] at hg; cases hg)
      have HS := hid (decGo_step hlt L)
      have hd10 : u % 10 < 10 := Nat.mod_lt _ (by omega)
      have HO := hid own
      have HW : ∀ (ob : Obj) (ad : Addr), Ar = some ad → ∀ j x, (L.map u8v)[j]? = some x → (wr.alloc ob).cell? (ad.add j) = some x := fun ob ad hA j x hx => by
        subst hA
        have hj : j < L.length := by have := (List.getElem?_eq_some_iff.1 hx).1; simpa using this
        obtain ⟨g, hg, _, hgl⟩ := own_form own (by omega)
        cases hg
        have e0 : (⟨g, 0, none⟩ : Addr).add j = ⟨g, j, none⟩ := by simp [Addr.add]; try (intro e; exact e.symm)
        rw [e0, World.cell?_alloc_lt wr ob ⟨g, j, none⟩ hgl, own.cellAt j (by omega)]
        exact hx
      have HW := hid HW
      have H1 : Hid (∀ x ∈ L.map u8v, x.oneCell' = true) := hid (fun x hx => by
        obtain ⟨y, _, rfl⟩ := List.mem_map.1 hx; rfl)
      clear own
      have e2 : Int.tdiv (-(u : Int)) 10 = (-((u / 10 : Nat) : Int)) := by rw [Int.neg_tdiv, Int.ofNat_tdiv]; simp
      rcases Nat.eq_zero_or_pos (u % 10) with hd0 | hd0
      · have e1 : Int.tmod (-(u : Int)) 10 = 0 := by rw [Int.neg_tmod, show Int.tmod (u : Int) 10 = ((u % 10 : Nat) : Int) from (Int.ofNat_tmod u 10).symm, hd0]; rfl
        have HU : Hid (Value.int .u8 (48) = u8v (UInt8.ofNat (48 + u % 10))) := hid (by rw [← u8_dig hd10]; rw [hd0]; rfl)
        go_wp2_with (at_builtin; go_must (refine wpList_append_rd rfl _ _ 59 rfl w.heap.size 5 j0 _ 1 1 Tryd.underlying59 hj0 jz0 jz1 jz2 rfl (by decide) _ _ _ rfl (World.ownsRow_lit wr #[.int .u8 (48)] 1 hz (by unfold maxLen; omega) rfl) Ar L.length cr (L.map u8v) rfl HN.out (by simp) (HW.out _) H1.out (by unfold maxLen; omega) (by omega) (by simp; omega) ?_); intro v2 w2 own_w2 grow_w2 at_w2)
        go_roundw
        case rel =>
          refine ⟨u / 10, UInt8.ofNat (48 + u % 10) :: L, by omega, by first | go_num | (congr 1; push_cast; omega), ?_, ?_, hid (by rw [HD.out, HS.out])⟩
          · exact (hb.alloc hz _).grown grow_w2 (by simp; omega) (fun k hk => by cases hk; exact hz)
          · rw [List.length_cons, List.map_cons, ← HU.out, Nat.add_comm]
            exact own_w2
        case measure => simp [intOf]; omega
      · have e1 : Int.tmod (-(u : Int)) 10 = (-((u % 10 : Nat) : Int)) := by rw [Int.neg_tmod, Int.ofNat_tmod]; simp
        have HU : Hid (Value.int .u8 (48 + (u : Int) % 10) = u8v (UInt8.ofNat (48 + u % 10))) := hid (by rw [← u8_dig hd10]; simp)
        go_wp2_with (at_builtin; go_must (refine wpList_append_rd rfl _ _ 59 rfl w.heap.size 5 j0 _ 1 1 Tryd.underlying59 hj0 jz0 jz1 jz2 rfl (by decide) _ _ _ rfl (World.ownsRow_lit wr #[.int .u8 (48 + (u : Int) % 10)] 1 hz (by unfold maxLen; omega) rfl) Ar L.length cr (L.map u8v) rfl HN.out (by simp) (HW.out _) H1.out (by unfold maxLen; omega) (by omega) (by simp; omega) ?_); intro v2 w2 own_w2 grow_w2 at_w2)
        go_roundw
        case rel =>
          refine ⟨u / 10, UInt8.ofNat (48 + u % 10) :: L, by omega, by first | go_num | (congr 1; push_cast; omega), ?_, ?_, hid (by rw [HD.out, HS.out])⟩
          · exact (hb.alloc hz _).grown grow_w2 (by simp; omega) (fun k hk => by cases hk; exact hz)
          · rw [List.length_cons, List.map_cons, ← HU.out, Nat.add_comm]
            exact own_w2
        case measure => simp [intOf]; omega
    · obtain rfl : u = 0 := by omega
      have HE : Hid (L = decGo m []) := hid (by rw [HD.out]; simp [decGo])
      have HV : Hid (decS (-(m : Int)) = ⟨#[45]⟩ ++ ⟨L.toArray⟩) := hid (by
        unfold decS; rw [Lib.itoa_neg m h0, HE.out]; unfold decGo; rw [if_neg (by omega)]; apply ByteArray.ext; simp [ByteArray.data_append])
      have hL : 0 < L.length := by
        rw [HE.out]; unfold decGo; rw [if_neg (by omega), List.append_nil, Lib.decDigits_length]
        unfold Lib.nDigits; split <;> omega
      obtain ⟨g, rfl, _, hg⟩ := own_form own hL
      have hcv := bytes_string own
      have hsz : (ByteArray.mk L.toArray).size ≤ 21 := by simpa [ByteArray.size] using hll
      clear own
      go_wp2
      go_ret
      exact ⟨by rw [HV.out]; rfl, hb⟩
theorem l01Dec_any (n : Int) (h0 : -9223372036854775808 ≤ n) (h1 : n ≤ 9223372036854775807) (w : World) :
    Calls Tryd.prog 29 #[.int .i64 n] w fun e w' => e = .returned (.string (decS n)) ∧ Below w.heap.size w w' := by
  by_cases hn : n < 0
  · obtain ⟨m, rfl⟩ : ∃ m : Nat, n = -(m : Int) := ⟨n.natAbs, by omega⟩
    exact l01Dec_neg m (by omega) (by omega) w
  · obtain ⟨m, rfl⟩ : ∃ m : Nat, n = (m : Int) := ⟨n.toNat, by omega⟩
    exact l01Dec_pos m (by omega) (by omega) w
theorem decS_size (n : Int) (h0 : -9223372036854775808 ≤ n) (h1 : n ≤ 9223372036854775807) : (decS n).size ≤ 21 := Lib.itoa_length_le n h0 h1
end Go.Proofs.YtdklchklpmabdaaDoor
