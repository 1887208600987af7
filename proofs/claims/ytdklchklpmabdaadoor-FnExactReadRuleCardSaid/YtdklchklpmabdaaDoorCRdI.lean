/- Contracts: numbers and ranges read, in the program (by the library). -/
import Derived.Shelf.Strings.Prefix
import Derived.Shelf.Strings.SplitShaped
import Derived.Shelf.Strings.Cut
import Derived.Shelf.Strings.Split
import Derived.Shelf.Strconv.ErrVarParseInt
import Derived.Shelf.SlicesG.Turned
import Derived.Lib.SmallJoins
import Derived.Test.YtdklchklpmabdaaDoorCRdS
namespace Go.Proofs.YtdklchklpmabdaaDoor
open Go.RowKit
set_option linter.unusedVariables false
def tpreLRen : Go.Shelf.Ren := ⟨fun | 101 => 35 | 208 => 48 | 206 => 59 | n => n, fun | 9 => 9 | 4 => 4 | 3 => 3 | n => n, fun | n => n⟩
set_option maxRecDepth 100000 in
theorem tpreL : Lays.n101 Tryd.prog tpreLRen := {
  mixed := by kernel_rfl,
  f101 := Tryd.func35.trans (congrArg some (by kernel_rfl)),
  f206 := Tryd.func59.trans (congrArg some (by kernel_rfl)),
  f208 := Tryd.func48.trans (congrArg some (by kernel_rfl)),
  t3 := Tryd.underlying3,
  a3 := Tryd.isAgg3,
  z3 := Tryd.sizeOf3,
  v3 := Tryd.zeroValue3,
  t4 := Tryd.underlying4,
  a4 := Tryd.isAgg4,
  z4 := Tryd.sizeOf4,
  v4 := Tryd.zeroValue4,
  t9 := Tryd.underlying9,
  a9 := Tryd.isAgg9,
  z9 := Tryd.sizeOf9,
  v9 := Tryd.zeroValue9 }
def tsufLRen : Go.Shelf.Ren := ⟨fun | 102 => 15 | 209 => 24 | 207 => 37 | n => n, fun | 9 => 9 | 4 => 4 | 3 => 3 | n => n, fun | n => n⟩
set_option maxRecDepth 100000 in
theorem tsufL : Lays.n102 Tryd.prog tsufLRen := {
  mixed := by kernel_rfl,
  f102 := Tryd.func15.trans (congrArg some (by kernel_rfl)),
  f207 := Tryd.func37.trans (congrArg some (by kernel_rfl)),
  f209 := Tryd.func24.trans (congrArg some (by kernel_rfl)),
  t3 := Tryd.underlying3,
  a3 := Tryd.isAgg3,
  z3 := Tryd.sizeOf3,
  v3 := Tryd.zeroValue3,
  t4 := Tryd.underlying4,
  a4 := Tryd.isAgg4,
  z4 := Tryd.sizeOf4,
  v4 := Tryd.zeroValue4,
  t9 := Tryd.underlying9,
  a9 := Tryd.isAgg9,
  z9 := Tryd.sizeOf9,
  v9 := Tryd.zeroValue9 }
def cutLRen : Go.Shelf.Ren := ⟨fun | 145 => 22 | 220 => 34 | 219 => 47 | 217 => 55 | 225 => 56 | 224 => 57 | 267 => 58 | 266 => 71 | 314 => 72 | n => n, fun | 9 => 9 | 4 => 4 | 59 => 44 | 3 => 3 | 5 => 5 | 46 => 73 | 146 => 95 | 51 => 94 | n => n, fun | 1 => 0 | n => n⟩
set_option maxRecDepth 100000 in
theorem cutL : Lays.n145 Tryd.prog cutLRen := {
  mixed := by kernel_rfl,
  f145 := Tryd.func22.trans (congrArg some (by kernel_rfl)),
  f217 := Tryd.func55.trans (congrArg some (by kernel_rfl)),
  f219 := Tryd.func47.trans (congrArg some (by kernel_rfl)),
  f220 := Tryd.func34.trans (congrArg some (by kernel_rfl)),
  f224 := Tryd.func57.trans (congrArg some (by kernel_rfl)),
  f225 := Tryd.func56.trans (congrArg some (by kernel_rfl)),
  f266 := Tryd.func71.trans (congrArg some (by kernel_rfl)),
  f267 := Tryd.func58.trans (congrArg some (by kernel_rfl)),
  f314 := Tryd.func72.trans (congrArg some (by kernel_rfl)),
  t3 := Tryd.underlying3,
  a3 := Tryd.isAgg3,
  z3 := Tryd.sizeOf3,
  v3 := Tryd.zeroValue3,
  t4 := Tryd.underlying4,
  a4 := Tryd.isAgg4,
  z4 := Tryd.sizeOf4,
  v4 := Tryd.zeroValue4,
  t5 := Tryd.underlying5,
  a5 := Tryd.isAgg5,
  z5 := Tryd.sizeOf5,
  v5 := Tryd.zeroValue5,
  t9 := Tryd.underlying9,
  a9 := Tryd.isAgg9,
  z9 := Tryd.sizeOf9,
  v9 := Tryd.zeroValue9,
  t46 := Tryd.underlying73,
  a46 := Tryd.isAgg73,
  z46 := Tryd.sizeOf73,
  v46 := Tryd.zeroValue73,
  t51 := Tryd.underlying94,
  a51 := Tryd.isAgg94,
  z51 := Tryd.sizeOf94,
  v51 := Tryd.zeroValue94,
  t59 := Tryd.underlying44,
  a59 := Tryd.isAgg44,
  z59 := Tryd.sizeOf44,
  v59 := Tryd.zeroValue44,
  t146 := Tryd.underlying95,
  a146 := Tryd.isAgg95,
  z146 := Tryd.sizeOf95,
  v146 := Tryd.zeroValue95,
  g1 := by kernel_rfl }
def splLRen : Go.Shelf.Ren := ⟨fun | 146 => 11 | 221 => 21 | 268 => 31 | 138 => 32 | 143 => 33 | 195 => 44 | 197 => 45 | 218 => 46 | 219 => 47 | 260 => 54 | 217 => 55 | 225 => 56 | 224 => 57 | 267 => 58 | 266 => 71 | 314 => 72 | n => n, fun | 9 => 9 | 31 => 28 | 3 => 3 | 4 => 4 | 0 => 0 | 105 => 67 | 21 => 21 | 5 => 5 | 46 => 73 | 119 => 90 | 139 => 93 | 138 => 92 | 146 => 95 | 51 => 94 | n => n, fun | 1 => 0 | 3 => 1 | 4 => 2 | n => n⟩
set_option maxRecDepth 100000 in
theorem splL : Lays.n146 Tryd.prog splLRen := {
  mixed := by kernel_rfl,
  f138 := Tryd.func32.trans (congrArg some (by kernel_rfl)),
  f143 := Tryd.func33.trans (congrArg some (by kernel_rfl)),
  f146 := Tryd.func11.trans (congrArg some (by kernel_rfl)),
  f195 := Tryd.func44.trans (congrArg some (by kernel_rfl)),
  f197 := Tryd.func45.trans (congrArg some (by kernel_rfl)),
  f217 := Tryd.func55.trans (congrArg some (by kernel_rfl)),
  f218 := Tryd.func46.trans (congrArg some (by kernel_rfl)),
  f219 := Tryd.func47.trans (congrArg some (by kernel_rfl)),
  f221 := Tryd.func21.trans (congrArg some (by kernel_rfl)),
  f224 := Tryd.func57.trans (congrArg some (by kernel_rfl)),
  f225 := Tryd.func56.trans (congrArg some (by kernel_rfl)),
  f260 := Tryd.func54.trans (congrArg some (by kernel_rfl)),
  f266 := Tryd.func71.trans (congrArg some (by kernel_rfl)),
  f267 := Tryd.func58.trans (congrArg some (by kernel_rfl)),
  f268 := Tryd.func31.trans (congrArg some (by kernel_rfl)),
  f314 := Tryd.func72.trans (congrArg some (by kernel_rfl)),
  t0 := Tryd.underlying0,
  a0 := Tryd.isAgg0,
  z0 := Tryd.sizeOf0,
  v0 := Tryd.zeroValue0,
  t3 := Tryd.underlying3,
  a3 := Tryd.isAgg3,
  z3 := Tryd.sizeOf3,
  v3 := Tryd.zeroValue3,
  t4 := Tryd.underlying4,
  a4 := Tryd.isAgg4,
  z4 := Tryd.sizeOf4,
  v4 := Tryd.zeroValue4,
  t5 := Tryd.underlying5,
  a5 := Tryd.isAgg5,
  z5 := Tryd.sizeOf5,
  v5 := Tryd.zeroValue5,
  t9 := Tryd.underlying9,
  a9 := Tryd.isAgg9,
  z9 := Tryd.sizeOf9,
  v9 := Tryd.zeroValue9,
  t21 := Tryd.underlying21,
  a21 := Tryd.isAgg21,
  z21 := Tryd.sizeOf21,
  v21 := Tryd.zeroValue21,
  t31 := Tryd.underlying28,
  a31 := Tryd.isAgg28,
  z31 := Tryd.sizeOf28,
  v31 := Tryd.zeroValue28,
  t46 := Tryd.underlying73,
  a46 := Tryd.isAgg73,
  z46 := Tryd.sizeOf73,
  v46 := Tryd.zeroValue73,
  t51 := Tryd.underlying94,
  a51 := Tryd.isAgg94,
  z51 := Tryd.sizeOf94,
  v51 := Tryd.zeroValue94,
  t105 := Tryd.underlying67,
  a105 := Tryd.isAgg67,
  z105 := Tryd.sizeOf67,
  v105 := Tryd.zeroValue67,
  t119 := Tryd.underlying90,
  a119 := Tryd.isAgg90,
  z119 := Tryd.sizeOf90,
  t138 := Tryd.underlying92,
  a138 := Tryd.isAgg92,
  z138 := Tryd.sizeOf92,
  v138 := Tryd.zeroValue92,
  t139 := Tryd.underlying93,
  a139 := Tryd.isAgg93,
  z139 := Tryd.sizeOf93,
  v139 := Tryd.zeroValue93,
  t146 := Tryd.underlying95,
  a146 := Tryd.isAgg95,
  z146 := Tryd.sizeOf95,
  v146 := Tryd.zeroValue95,
  g1 := by kernel_rfl,
  g3 := by kernel_rfl,
  g4 := by kernel_rfl }
def pintLRen : Go.Shelf.Ren := ⟨fun | 174 => 36 | 247 => 49 | 245 => 50 | 287 => 60 | 279 => 61 | 280 => 62 | 281 => 63 | 282 => 64 | 321 => 73 | 322 => 74 | 316 => 75 | 171 => 77 | 205 => 76 | 243 => 83 | 246 => 51 | 283 => 65 | 284 => 66 | 285 => 67 | 286 => 68 | 129 => 79 | 317 => 78 | 318 => 80 | 319 => 81 | 320 => 82 | 337 => 84 | 338 => 85 | n => n, fun | 9 => 9 | 3 => 3 | 2 => 2 | 75 => 53 | 85 => 54 | 4 => 4 | 167 => 74 | 5 => 5 | 53 => 75 | 175 => 76 | 46 => 73 | 168 => 78 | 37 => 59 | 0 => 0 | 210 => 100 | 21 => 21 | 127 => 71 | 145 => 109 | 143 => 107 | 171 => 82 | 173 => 85 | 212 => 103 | 51 => 94 | 20 => 20 | 213 => 104 | 232 => 111 | 233 => 112 | 80 => 65 | n => n, fun | 15 => 3 | 16 => 4 | 17 => 5 | 18 => 6 | 19 => 7 | n => n⟩
set_option maxRecDepth 100000 in
theorem pintL : LaysC.n174 Tryd.prog pintLRen := {
  mixed := by kernel_rfl,
  f129 := Tryd.func79.trans (congrArg some (by kernel_rfl)),
  f171 := Tryd.func77.trans (congrArg some (by kernel_rfl)),
  f174 := Tryd.func36.trans (congrArg some (by kernel_rfl)),
  f205 := Tryd.func76.trans (congrArg some (by kernel_rfl)),
  f243 := Tryd.func83.trans (congrArg some (by kernel_rfl)),
  f245 := Tryd.func50.trans (congrArg some (by kernel_rfl)),
  f246 := Tryd.func51.trans (congrArg some (by kernel_rfl)),
  f247 := Tryd.func49.trans (congrArg some (by kernel_rfl)),
  f279 := Tryd.func61.trans (congrArg some (by kernel_rfl)),
  f280 := Tryd.func62.trans (congrArg some (by kernel_rfl)),
  f281 := Tryd.func63.trans (congrArg some (by kernel_rfl)),
  f282 := Tryd.func64.trans (congrArg some (by kernel_rfl)),
  f283 := Tryd.func65.trans (congrArg some (by kernel_rfl)),
  f284 := Tryd.func66.trans (congrArg some (by kernel_rfl)),
  f285 := Tryd.func67.trans (congrArg some (by kernel_rfl)),
  f286 := Tryd.func68.trans (congrArg some (by kernel_rfl)),
  f287 := Tryd.func60.trans (congrArg some (by kernel_rfl)),
  f316 := Tryd.func75.trans (congrArg some (by kernel_rfl)),
  f317 := Tryd.func78.trans (congrArg some (by kernel_rfl)),
  f318 := Tryd.func80.trans (congrArg some (by kernel_rfl)),
  f319 := Tryd.func81.trans (congrArg some (by kernel_rfl)),
  f320 := Tryd.func82.trans (congrArg some (by kernel_rfl)),
  f321 := Tryd.func73.trans (congrArg some (by kernel_rfl)),
  f322 := Tryd.func74.trans (congrArg some (by kernel_rfl)),
  f337 := Tryd.func84.trans (congrArg some (by kernel_rfl)),
  f338 := Tryd.func85.trans (congrArg some (by kernel_rfl)),
  t0 := Tryd.underlying0,
  a0 := Tryd.isAgg0,
  z0 := Tryd.sizeOf0,
  v0 := Tryd.zeroValue0,
  t2 := Tryd.underlying2,
  a2 := Tryd.isAgg2,
  z2 := Tryd.sizeOf2,
  v2 := Tryd.zeroValue2,
  t3 := Tryd.underlying3,
  a3 := Tryd.isAgg3,
  z3 := Tryd.sizeOf3,
  v3 := Tryd.zeroValue3,
  t4 := Tryd.underlying4,
  a4 := Tryd.isAgg4,
  z4 := Tryd.sizeOf4,
  v4 := Tryd.zeroValue4,
  t5 := Tryd.underlying5,
  a5 := Tryd.isAgg5,
  z5 := Tryd.sizeOf5,
  v5 := Tryd.zeroValue5,
  t9 := Tryd.underlying9,
  a9 := Tryd.isAgg9,
  z9 := Tryd.sizeOf9,
  v9 := Tryd.zeroValue9,
  t20 := Tryd.underlying20,
  a20 := Tryd.isAgg20,
  z20 := Tryd.sizeOf20,
  v20 := Tryd.zeroValue20,
  t21 := Tryd.underlying21,
  a21 := Tryd.isAgg21,
  z21 := Tryd.sizeOf21,
  v21 := Tryd.zeroValue21,
  t37 := Tryd.underlying59,
  a37 := Tryd.isAgg59,
  z37 := Tryd.sizeOf59,
  v37 := Tryd.zeroValue59,
  t46 := Tryd.underlying73,
  a46 := Tryd.isAgg73,
  z46 := Tryd.sizeOf73,
  v46 := Tryd.zeroValue73,
  t51 := Tryd.underlying94,
  a51 := Tryd.isAgg94,
  z51 := Tryd.sizeOf94,
  v51 := Tryd.zeroValue94,
  t53 := Tryd.underlying75,
  a53 := Tryd.isAgg75,
  z53 := Tryd.sizeOf75,
  v53 := Tryd.zeroValue75,
  t75 := Tryd.underlying53,
  a75 := Tryd.isAgg53,
  z75 := Tryd.sizeOf53,
  v75 := Tryd.zeroValue53,
  t85 := Tryd.underlying54,
  a85 := Tryd.isAgg54,
  z85 := Tryd.sizeOf54,
  v85 := Tryd.zeroValue54,
  t127 := Tryd.underlying71,
  a127 := Tryd.isAgg71,
  z127 := Tryd.sizeOf71,
  v127 := Tryd.zeroValue71,
  t143 := Tryd.underlying107,
  a143 := Tryd.isAgg107,
  z143 := Tryd.sizeOf107,
  v143 := Tryd.zeroValue107,
  t145 := Tryd.underlying109,
  a145 := Tryd.isAgg109,
  z145 := Tryd.sizeOf109,
  v145 := Tryd.zeroValue109,
  t167 := Tryd.underlying74,
  a167 := Tryd.isAgg74,
  z167 := Tryd.sizeOf74,
  v167 := Tryd.zeroValue74,
  t168 := Tryd.underlying78,
  a168 := Tryd.isAgg78,
  z168 := Tryd.sizeOf78,
  v168 := Tryd.zeroValue78,
  t171 := Tryd.underlying82,
  a171 := Tryd.isAgg82,
  z171 := Tryd.sizeOf82,
  v171 := Tryd.zeroValue82,
  t173 := Tryd.underlying85,
  a173 := Tryd.isAgg85,
  z173 := Tryd.sizeOf85,
  v173 := Tryd.zeroValue85,
  t175 := Tryd.underlying76,
  a175 := Tryd.isAgg76,
  z175 := Tryd.sizeOf76,
  v175 := Tryd.zeroValue76,
  t210 := Tryd.underlying100,
  a210 := Tryd.isAgg100,
  z210 := Tryd.sizeOf100,
  v210 := Tryd.zeroValue100,
  t212 := Tryd.underlying103,
  a212 := Tryd.isAgg103,
  z212 := Tryd.sizeOf103,
  v212 := Tryd.zeroValue103,
  t213 := Tryd.underlying104,
  a213 := Tryd.isAgg104,
  z213 := Tryd.sizeOf104,
  t232 := Tryd.underlying111,
  a232 := Tryd.isAgg111,
  z232 := Tryd.sizeOf111,
  v232 := Tryd.zeroValue111,
  t233 := Tryd.underlying112,
  a233 := Tryd.isAgg112,
  z233 := Tryd.sizeOf112,
  v233 := Tryd.zeroValue112,
  g15 := by kernel_rfl,
  g16 := by kernel_rfl,
  g17 := by kernel_rfl,
  g18 := by kernel_rfl,
  g19 := by kernel_rfl,
  t80 := Tryd.underlying65,
  a80 := Tryd.isAgg65,
  z80 := Tryd.sizeOf65,
  v80 := Tryd.zeroValue65,
  i0 := by kernel_rfl,
  i2 := by kernel_rfl,
  i3 := by kernel_rfl,
  i4 := by kernel_rfl,
  i5 := by kernel_rfl,
  i9 := by kernel_rfl,
  i20 := by kernel_rfl,
  i21 := by kernel_rfl,
  i37 := by kernel_rfl,
  i46 := by kernel_rfl,
  i51 := by kernel_rfl,
  i53 := by kernel_rfl,
  i75 := by kernel_rfl,
  i80 := by kernel_rfl,
  i85 := by kernel_rfl,
  i127 := by kernel_rfl,
  i143 := by kernel_rfl,
  i145 := by kernel_rfl,
  i167 := by kernel_rfl,
  i168 := by kernel_rfl,
  i171 := by kernel_rfl,
  i173 := by kernel_rfl,
  i175 := by kernel_rfl,
  i210 := by kernel_rfl,
  i212 := by kernel_rfl,
  i232 := by kernel_rfl,
  i233 := by kernel_rfl,
  m15 := by kernel_rfl,
  m16 := by kernel_rfl,
  m17 := by kernel_rfl,
  m18 := by kernel_rfl,
  m19 := by kernel_rfl,
  c0 := by kernel_rfl,
  c2 := by kernel_rfl,
  c3 := by kernel_rfl,
  c4 := by kernel_rfl,
  c5 := by kernel_rfl,
  c9 := by kernel_rfl,
  c20 := by kernel_rfl,
  c21 := by kernel_rfl,
  c37 := by kernel_rfl,
  c46 := by kernel_rfl,
  c51 := by kernel_rfl,
  c53 := by kernel_rfl,
  c75 := by kernel_rfl,
  c80 := by kernel_rfl,
  c85 := by kernel_rfl,
  c127 := by kernel_rfl,
  c143 := by kernel_rfl,
  c145 := by kernel_rfl,
  c167 := by kernel_rfl,
  c168 := by kernel_rfl,
  c171 := by kernel_rfl,
  c173 := by kernel_rfl,
  c175 := by kernel_rfl,
  c210 := by kernel_rfl,
  c212 := by kernel_rfl,
  c213 := by kernel_rfl,
  c232 := by kernel_rfl,
  c233 := by kernel_rfl }
def sidxLRen : Go.Shelf.Ren := ⟨fun | 30 => 13 | n => n, fun | 25 => 28 | 26 => 9 | 3 => 3 | 0 => 0 | 4 => 4 | n => n, fun | n => n⟩
set_option maxRecDepth 100000 in
theorem sidxL : SlLaysN.n30 Tryd.prog sidxLRen := {
  mixed := by kernel_rfl,
  f30 := ⟨Tryd.f13.name, by decide, Tryd.func13.trans (congrArg some (by kernel_rfl))⟩,
  t0 := Tryd.underlying0,
  a0 := Tryd.isAgg0,
  z0 := Tryd.sizeOf0,
  v0 := Tryd.zeroValue0,
  t3 := Tryd.underlying3,
  a3 := Tryd.isAgg3,
  z3 := Tryd.sizeOf3,
  v3 := Tryd.zeroValue3,
  t4 := Tryd.underlying4,
  a4 := Tryd.isAgg4,
  z4 := Tryd.sizeOf4,
  v4 := Tryd.zeroValue4,
  t25 := Tryd.underlying28,
  a25 := Tryd.isAgg28,
  z25 := Tryd.sizeOf28,
  v25 := Tryd.zeroValue28,
  t26 := Tryd.underlying9,
  a26 := Tryd.isAgg9,
  z26 := Tryd.sizeOf9,
  v26 := Tryd.zeroValue9 }
/-- What the package's variables hold. -/
structure GW (w : World) : Prop where
  tab : TabOk w
  es : ∃ tp p, w.var? Tryd.prog "strconv.ErrSyntax" = some #[.iface tp p]
  er : ∃ tp p, w.var? Tryd.prog "strconv.ErrRange" = some #[.iface tp p]
  ml : ∃ m, w.cell? ⟨0, 0, none⟩ = some (.int .i64 m)
theorem var_below {w w' : World} {n : String} {cs : Array Value} (h : w.var? Tryd.prog n = some cs) (hb : Below w.heap.size w w') : w'.var? Tryd.prog n = some cs := by
  unfold World.var? at *
  cases hg : Tryd.prog.globalNamed n with
  | none => rw [hg] at h; cases h
  | some g =>
    rw [hg] at h
    simp only [Option.bind_some] at h ⊢
    have hlt : g < w.heap.size := by
      rcases Nat.lt_or_ge g w.heap.size with hl | hl
      · exact hl
      · rw [Array.getElem?_eq_none hl] at h; cases h
    rw [hb.block g hlt]
    exact h
theorem GW.below {w w' : World} (h : GW w) (hb : Below w.heap.size w w') : GW w' := by
  obtain ⟨h1, ⟨a, b, h2⟩, ⟨c, d, h3⟩, m, h4⟩ := h
  have hlt := World.block_lt_of_cell? w _ h4
  exact ⟨tab_below h1 hb, ⟨a, b, var_below h2 hb⟩, ⟨c, d, var_below h3 hb⟩, m, by rw [(bcell hb).1 _ _ hlt]; exact h4⟩
theorem trim_body (l : L8) : Lib.trimPrefix l [45] = bodyN l := by
  unfold Lib.trimPrefix Lib.hasPrefix
  rcases bodyN_cases l with ⟨t, rfl, e⟩ | ⟨h, e⟩
  · rw [e]; rfl
  · rw [e]
    cases l with
    | nil => rfl
    | cons b t =>
      have hb : ¬ (45 : UInt8) = b := fun e => h t (by rw [e])
      simp [hb]
theorem parse_bd {l : L8} {v : Int} (h : Lib.parseIntB 64 l = .ok v) : -9223372036854775808 ≤ v ∧ v ≤ 9223372036854775807 := by
  unfold Lib.parseIntB at h
  split at h
  · cases h
  · simp only at h
    split at h
    · cases h
    · cases h
    · next u hu =>
      split at h
      · cases h
      · next h1 =>
        split at h
        · cases h
        · next h2 =>
          have e := Lib.NumEnd.ok.inj h
          subst e
          split
          · next h3 => simp only [h3, true_and] at h2; omega
          · next h3 => simp only [h3, not_false_eq_true, true_and] at h1; omega
theorem parseInt_any (s : ByteArray) (hs : s.size ≤ 1048576) (w : World) (hw : GW w) :
    Calls Tryd.prog 36 #[.string s, .int .i64 10, .int .i64 64] w fun e w' => Below w.heap.size w w' ∧
      ((∃ v, Lib.parseIntB 64 s.data.toList = .ok v ∧ e = .returned (.tuple #[.int .i64 v, .nilIface])) ∨
       ((∀ v, Lib.parseIntB 64 s.data.toList ≠ .ok v) ∧ ∃ (n : Int) (t : TypeId) (q : Addr), e = .returned (.tuple #[.int .i64 n, .iface t (.pointer (some q))]))) := by
  rcases hp : Lib.parseIntB 64 s.data.toList with v | _ | _
  · refine (Any.strconv_ParseInt_10_at64_ok pintL s (by omega) v hp w).mono fun e w' ⟨he, hw'⟩ => ⟨?_, .inl ⟨v, rfl, he⟩⟩
    rcases hw' with rfl | ⟨t, rfl⟩
    · exact Below.refl _ _
    · exact Lib.bytesWorld_below w _ t
  · obtain ⟨tp, p, hv⟩ := hw.es
    exact (Any.strconv_ParseInt_10_at64_syntax_var pintL s (by omega) hp tp p w hv).mono fun e w' ⟨N, he, _, _, hb⟩ => ⟨hb, .inr ⟨fun v hv => (by cases hv), _, _, _, he⟩⟩
  · obtain ⟨tp, p, hv⟩ := hw.er
    exact (Any.strconv_ParseInt_10_at64_range_var pintL s (by omega) hp tp p w hv).mono fun e w' ⟨N, he, _, _, hb⟩ => ⟨hb, .inr ⟨fun v hv => (by cases hv), _, _, _, he⟩⟩
set_option maxRecDepth 20000 in
set_option maxHeartbeats 2000000 in
theorem readDecimal_any (s : ByteArray) (hs : s.size ≤ 1048576) (w : World) (hw : GW w) :
    Calls Tryd.prog 23 #[.string s] w (numR s w) := by
  have C := Any.strings_TrimPrefix tpreL s ⟨#[45]⟩ w
  have eb : Lib.trimPrefix s.data.toList (⟨#[45]⟩ : ByteArray).data.toList = bodyN s.data.toList := trim_body _
  rw [eb] at C
  have C : Calls Tryd.prog 35 #[.string s, .string ⟨#[45]⟩] w fun e w' => e = .returned (.string ⟨(bodyN s.data.toList).toArray⟩) ∧ w' = w := C
  have hD : ((⟨(bodyN s.data.toList).toArray⟩ : ByteArray)).size = (bodyN s.data.toList).length := by simp [ByteArray.size]
  generalize hDD : (⟨(bodyN s.data.toList).toArray⟩ : ByteArray) = D at *
  clear hDD eb
  have HD := hid hD
  clear hD
  by_cases h1 : D.size < 1
  · have HN : Hid (numV s.data.toList = none) := hid (by unfold numV; rw [if_neg (fun h => by have := h.1; rw [← HD.out] at this; omega)])
    go_enter Tryd.func23, Tryd.ntmps23
    go_wp2_with (go_at_call 35; refine C.mono ?_; rintro e w1 ⟨rfl, rfl⟩)
    go_ret2
    exact ⟨by rw [HN.out]; rfl, Below.refl _ _⟩
  by_cases h18 : 18 < D.size
  · have HN : Hid (numV s.data.toList = none) := hid (by unfold numV; rw [if_neg (fun h => by have := h.2.1; rw [← HD.out] at this; omega)])
    go_enter Tryd.func23, Tryd.ntmps23
    go_wp2_with (go_at_call 35; refine C.mono ?_; rintro e w1 ⟨rfl, rfl⟩)
    go_ret2
    exact ⟨by rw [HN.out]; rfl, Below.refl _ _⟩
  have HR := hid (num_read s.data.toList (by rw [← HD.out]; omega) (by rw [← HD.out]; omega))
  have P := parseInt_any s hs w hw
  go_enter Tryd.func23, Tryd.ntmps23
  go_wp2_with (go_at_call 35; refine C.mono ?_; rintro e w1 ⟨rfl, rfl⟩)
  refine P.mono ?_
  rintro e w2 ⟨hb2, ⟨v, hv, rfl⟩ | ⟨hv, n, t, q, rfl⟩⟩
  · have HR2 : Hid (numV s.data.toList = if Lib.itoa v = s.data.toList then some v else none) := hid (by rw [HR.out, hv])
    obtain ⟨v0, v1⟩ := parse_bd hv
    have ht := (hw.below hb2).tab
    clear hv HR
    by_cases heq : Lib.itoa v = s.data.toList
    · have HW : Hid (numV s.data.toList = some v) := hid (by rw [HR2.out, if_pos heq])
      have hx : ((decS v).toList == s.toList) = true := by rw [ByteArray.toList_eq, ByteArray.toList_eq]; simp [decS, heq]
      clear heq HR2
      go_wp2_with (go_at_call 26; refine (implDecimal_any v v0 v1 _ ht).mono ?_; rintro e w5 ⟨rfl, hb5⟩)
      go_ret2
      exact ⟨by rw [HW.out]; rfl, Below.tr hb5 hb2⟩
    · have HW : Hid (numV s.data.toList = none) := hid (by rw [HR2.out, if_neg heq])
      have hx : ((decS v).toList == s.toList) = false := by rw [ByteArray.toList_eq, ByteArray.toList_eq]; simp [decS]; exact fun e => heq (by simpa using e)
      clear heq HR2
      go_wp2_with (go_at_call 26; refine (implDecimal_any v v0 v1 _ ht).mono ?_; rintro e w5 ⟨rfl, hb5⟩)
      go_ret2
      exact ⟨by rw [HW.out]; rfl, Below.tr hb5 hb2⟩
  · have HW : Hid (numV s.data.toList = none) := hid (by
      rw [HR.out]
      split
      · next v e => exact absurd e (hv v)
      · rfl)
    clear hv HR
    go_wp2
    go_ret2
    exact ⟨by rw [HW.out]; rfl, hb2⟩
theorem cut_len (l : L8) : (Lib.cut l [46, 46]).1.length ≤ l.length ∧ (Lib.cut l [46, 46]).2.1.length ≤ l.length := by
  unfold Lib.cut
  split
  · simp; omega
  · simp
set_option maxRecDepth 20000 in
set_option maxHeartbeats 2000000 in
theorem readRange_any (s : ByteArray) (hs : s.size ≤ 1048576) (w : World) (hw : GW w) :
    Calls Tryd.prog 12 #[.string s] w (RngRes s w) := by
  obtain ⟨m, hm⟩ := hw.ml
  have C := Any.strings_Cut cutL s ⟨#[46, 46]⟩ m w (by omega) hm
  have C : Calls Tryd.prog 22 #[.string s, .string ⟨#[46, 46]⟩] w fun e w' => e = .returned (.tuple #[.string ⟨(Lib.cut s.data.toList [46, 46]).1.toArray⟩, .string ⟨(Lib.cut s.data.toList [46, 46]).2.1.toArray⟩, .bool (Lib.cut s.data.toList [46, 46]).2.2]) ∧ ∃ n, w' = w.drewN n := C
  have HR := hid (rg_cut s.data.toList)
  obtain ⟨l1, l2⟩ := cut_len s.data.toList
  have hsz : s.data.toList.length = s.size := by simp
  obtain ⟨a, ha⟩ : ∃ a : ByteArray, a = ⟨(Lib.cut s.data.toList [46, 46]).1.toArray⟩ := ⟨_, rfl⟩
  obtain ⟨b, hb⟩ : ∃ b : ByteArray, b = ⟨(Lib.cut s.data.toList [46, 46]).2.1.toArray⟩ := ⟨_, rfl⟩
  have ea : a.data.toList = (Lib.cut s.data.toList [46, 46]).1 := by rw [ha]
  have eb : b.data.toList = (Lib.cut s.data.toList [46, 46]).2.1 := by rw [hb]
  have za : a.size ≤ 1048576 := by
    have : a.size = a.data.toList.length := by simp
    rw [this, ea]; omega
  have zb : b.size ≤ 1048576 := by
    have : b.size = b.data.toList.length := by simp
    rw [this, eb]; omega
  rw [← ha, ← hb] at C
  rw [← ea, ← eb] at HR
  clear ha hb ea eb l1 l2 hsz hm
  generalize (Lib.cut s.data.toList [46, 46]).2.2 = bb at C
  go_enter Tryd.func12, Tryd.ntmps12
  go_wp2_with fail
  refine C.mono ?_
  rintro e w1 ⟨rfl, n, rfl⟩
  have hb1 : Below w.heap.size w (w.drewN n) := Below.drewN' (Below.refl _ _) n
  go_wp2_with fail
  refine (readDecimal_any a za _ (hw.below hb1)).mono ?_
  rintro e w2 ⟨rfl, hb2⟩
  have hb2 := Below.tr hb2 hb1
  go_wp2_with fail
  refine (readDecimal_any b zb _ (hw.below hb2)).mono ?_
  rintro e w3 ⟨rfl, hb3⟩
  have BW := Below.tr hb3 hb2
  unfold twoN at HR
  generalize numV a.data.toList = na at *
  generalize numV b.data.toList = nb at *
  clear C
  cases na <;> cases nb
  all_goals
    simp only at HR
    go_wp2
    go_ret3
  · exact ⟨_, _, by rw [HR.out]; rfl, (fun p hp => by rw [HR.out] at hp; cases hp), BW⟩
  · exact ⟨_, _, by rw [HR.out]; rfl, (fun p hp => by rw [HR.out] at hp; cases hp), BW⟩
  · exact ⟨_, _, by rw [HR.out]; rfl, (fun p hp => by rw [HR.out] at hp; cases hp), BW⟩
  · exact ⟨_, _, by rw [HR.out]; rfl, (fun p hp => by rw [HR.out] at hp; cases hp; exact ⟨rfl, rfl⟩), BW⟩
theorem splitW_any (s : ByteArray) (hs : s.size ≤ 1048576) (w : World) (hw : GW w) :
    Calls Tryd.prog 11 #[.string s, .string ⟨#[32]⟩] w fun e w' => ∃ ys : List ByteArray, ys.map (·.data.toList) = wds 32 s.data.toList ∧ e = .returned (.slice (some ⟨w.heap.size, 0, none⟩) ys.length ys.length) ∧ w' = w.alloc (.cells (ys.map Value.string).toArray 9) := by
  obtain ⟨m, hm⟩ := hw.ml
  have C := Any.strings_Split splL (by kernel_rfl) s ⟨#[32]⟩ m w (by omega) hm (by decide)
  refine C.mono ?_
  rintro e w' ⟨rfl, rfl⟩
  obtain ⟨e1, e2⟩ := split_all 32 s.data.toList
  have e3 : (Lib.splitB ⟨#[32]⟩ 0 (Lib.countB s ⟨#[32]⟩) s).map (·.data.toList) = wds 32 s.data.toList := by rw [Lib.splitB_data]; exact e1
  have e4 : Lib.countB s ⟨#[32]⟩ + 1 = (Lib.splitB ⟨#[32]⟩ 0 (Lib.countB s ⟨#[32]⟩) s).length := by
    have := congrArg List.length e3
    rw [List.length_map] at this
    rw [this]; exact e2
  exact ⟨_, e3, by rw [← e4], rfl⟩
end Go.Proofs.YtdklchklpmabdaaDoor
