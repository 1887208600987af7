/- Contract: the program's walk through the lists of links. -/
import Derived.Test.YtalongdieglibaaC20e
import Derived.Test.YtalongdieglibaaCCopy
import Derived.Deep.RegionHeld3
import Derived.Deep.AppendLies
import Derived.Deep.RegionWith
import Derived.Deep.RegionLaw
import Derived.BigRegion
namespace Go.Proofs.Ytalongdieglibaa
open Go.RowKit
set_option linter.unusedVariables false
structure CapW (w : World) (bn bl bs po be : Nat) (r : Option Nat) (n m : Nat) (AL : Option Addr) (cL : Nat) (kk : Int) : Prop where
  cn : w.cell? ⟨bn, 0, none⟩ = some (.int .i64 kk)
  cl : w.cell? ⟨bl, 0, none⟩ = some (.slice AL m cL)
  cs : w.cell? ⟨bs, 0, none⟩ = some (.int .i64 (n : Int))
  ce : w.cell? ⟨be, 0, none⟩ = some (.func (.func 42) #[] #[.pointer (some ⟨bn, 0, none⟩), .pointer (some ⟨bl, 0, none⟩), .pointer (some ⟨bs, 0, none⟩), .pointer (some ⟨po, 0, none⟩), .pointer (some ⟨be, 0, none⟩)])
  zn : bn < w.heap.size ∧ bn ≠ po ∧ some bn ≠ r
  zl : bl < w.heap.size ∧ bl ≠ po ∧ some bl ≠ r
  zs : bs < w.heap.size ∧ bs ≠ po ∧ some bs ≠ r
  ze : be < w.heap.size ∧ be ≠ po ∧ some be ≠ r
theorem CapW.fr {w w' : World} {bn bl bs po be : Nat} {r r' : Option Nat} {n m : Nat} {AL : Option Addr} {cL : Nat} {kk : Int} (h : CapW w bn bl bs po be r n m AL cL kk) (hf : Fr w w' po r) (hr : r' = r ∨ ∃ g, r' = some g ∧ w.heap.size ≤ g) : CapW w' bn bl bs po be r' n m AL cL kk := by
  have K : ∀ b, b < w.heap.size ∧ b ≠ po ∧ some b ≠ r → b < w'.heap.size ∧ b ≠ po ∧ some b ≠ r' := fun b hb => ⟨Nat.lt_of_lt_of_le hb.1 hf.size, hb.2.1, by
    rcases hr with rfl | ⟨g, rfl, hg⟩
    · exact hb.2.2
    · simp; omega⟩
  exact ⟨(hf.cell h.zn.1 h.zn.2.1 h.zn.2.2).trans h.cn, (hf.cell h.zl.1 h.zl.2.1 h.zl.2.2).trans h.cl, (hf.cell h.zs.1 h.zs.2.1 h.zs.2.2).trans h.cs, (hf.cell h.ze.1 h.ze.2.1 h.ze.2.2).trans h.ce, K _ h.zn, K _ h.zl, K _ h.zs, K _ h.ze⟩
def moreO (n : Nat) (xs : List Lk) (pre : List Int) : List (List Int) := if okW n xs pre = true then [pre] else []
def ExtRes (po lo : Nat) (r : Option Nat) (Ls : List (List Int)) (w : World) (e : Ending) (w' : World) : Prop := e = .returned (.tuple #[]) ∧ ∃ v', OutS w' po lo v' Ls ∧ Fr w w' po r ∧ (v'.ownBlock = r ∨ ∃ g, v'.ownBlock = some g ∧ w.heap.size ≤ g)
set_option maxRecDepth 20000 in
set_option maxHeartbeats 4000000 in
theorem ext0_any (n lo bn bl bs po be : Nat) (AL : Option Addr) (cL : Nat) (xs : List Lk) (G : Option Addr) (cG : Nat) (pre : List Int) (iv : Int) (v : Value) (Ls : List (List Int)) (w : World) (n1 : 1 ≤ n) (n2 : n ≤ 10) (hn : xs.length ≤ 12) (V : Hid (∀ (k : Nat) (p : Lk), xs[k]? = some p → 0 ≤ p.a ∧ p.a < p.b ∧ p.b < n ∧ -5000 ≤ p.d ∧ p.d ≤ 5000))
    (h : Rd encLk 3 w w.heap.size AL xs) (hG : Rd encI 1 w w.heap.size G pre) (hz : G = none → cG = 0) (ha : AscW xs.length pre) (hC : CapW w bn bl bs po be v.ownBlock n xs.length AL cL (pre.length : Int)) (hS : OutS w po lo v Ls) (hlo : lo ≤ w.heap.size) (hLs : Ls.length ≤ 1000000) :
    Calls Try.prog 42 #[.slice G pre.length cG, .int .i64 iv, .pointer (some ⟨bn, 0, none⟩), .pointer (some ⟨bl, 0, none⟩), .pointer (some ⟨bs, 0, none⟩), .pointer (some ⟨po, 0, none⟩), .pointer (some ⟨be, 0, none⟩)] w (ExtRes po lo v.ownBlock (Ls ++ moreO n xs pre) w) := by
  have hpl := ha.len
  have cn := hC.cn
  have cl := hC.cl
  have z1 := hC.zn.1
  have z2 := hC.zl.1
  have z3 := hC.zs.1
  have hHO := hid (rfl : okW n xs pre = (jnRun (jn0 n) (restW pre 0 xs)).ok)
  obtain ⟨i0, hi0, iz0, iz1, iz2⟩ := info_parts (P := Try.prog) (e := 2) (z := .int .i64 0) (size := 1) (bytes := 8) (by kernel_rfl)
  obtain ⟨l0, hl0, lz0, lz1, lz2⟩ := info_parts (P := Try.prog) (e := 47) (z := .agg #[.int .i64 0, .int .i64 0, .int .i64 0]) (size := 3) (bytes := 24) (by kernel_rfl)
  have hHh := hid h
  have HGG := hid hG
  clear h hG
  go_enter Try.func42, Try.ntmps42
  go_wp2
  go_loopw [9, 10, 24] (fun vr vn vi wr => ∃ (i j : Nat), i ≤ xs.length ∧ vi = .int .i64 (i : Int) ∧ vn = .int .i64 (j : Int) ∧ Hid (NxW pre j i) ∧ j ≤ pre.length ∧ Below w.heap.size w wr ∧ (restW pre 0 (xs.take i)).length ≤ i ∧ Hid (wr.ownsRow w.heap.size 47 3 vr (restW pre 0 (xs.take i)).length ((restW pre 0 (xs.take i)).flatMap encLk))) (fun _ _ vi _ => xs.length - (intOf vi).toNat)
  case atStart => exact ⟨0, 0, Nat.zero_le _, rfl, rfl, hid (NxW.zero ha), Nat.zero_le _, (by repeat (first | assumption | exact Below.refl _ _ | apply Below.al | apply Below.drewN' | apply Below.drew | (apply Below.tr; assumption))), by simp [restW], hid (own_lit0 _ _ _ (Nat.le_refl _))⟩
  case round =>
    obtain ⟨i, j, hi, rfl, rfl, HN, hj, hb, hrl, H0⟩ := hrel
    have hsz := hb.size
    by_cases hlt : i < xs.length
    · obtain ⟨p, hp⟩ := getx hlt
      obtain ⟨bb, o, e, hbB, c0, c1, c2⟩ := (hHh.out.below hb (Nat.le_refl _)).at3 hp rfl
      subst e
      have y0 : wr.cell? ⟨bn, 0, none⟩ = some (.int .i64 (pre.length : Int)) := ((bcell hb).1 bn 0 z1).trans cn
      have HX : Hid (restW pre 0 (xs.take (i + 1)) = restW pre 0 (xs.take i) ++ (if pre.contains (i : Int) then [] else [p])) := hid (by rw [List.take_add_one, hp, Option.toList_some, restW_snoc, List.length_take, Nat.min_eq_left (by omega), Nat.zero_add])
      have zn2 : bn < wr.heap.size := by omega
      have zb2 : bb < wr.heap.size := by omega
      clear hp
      have hrl2 : (restW pre 0 (xs.take (i + 1))).length ≤ i + 1 := by have := restW_len pre (xs.take (i + 1)) 0; rw [List.length_take] at this; omega
      by_cases hjl : j < pre.length
      · obtain ⟨x, hx⟩ := getx hjl
        obtain ⟨gb, go', rfl, hgB, x0⟩ := (HGG.out.below hb (Nat.le_refl _)).at1 hx rfl
        have zg2 : gb < wr.heap.size := by omega
        obtain ⟨k1, k2⟩ := nxW_some ha HN.out hx
        clear hx
        have hd : decide ((j : Int) < (pre.length : Int)) = true := by simp; omega
        by_cases hxi : x = (i : Int)
        · obtain ⟨k3, k4⟩ := k1 hxi
          have hxe : (x == (i : Int)) = true := by simpa using hxi
          have HXX : Hid (restW pre 0 (xs.take (i + 1)) = restW pre 0 (xs.take i)) := hid (by rw [HX.out, k3, if_pos rfl, List.append_nil])
          have K4 := hid k4
          clear k3 k4 HX hxi k1 k2
          go_wp2
          go_roundw
          case rel => exact ⟨i + 1, j + 1, by omega, by go_num, by go_num, K4, by omega, (by repeat (first | assumption | exact Below.refl _ _ | apply Below.al | apply Below.drewN' | apply Below.drew | (apply Below.tr; assumption))), hrl2, hid (by rw [HXX.out]; exact H0.out.alloc _)⟩
          case measure => simp [intOf]; omega
        · obtain ⟨k3, k4⟩ := k2 hxi
          have hxe : (x == (i : Int)) = false := by simpa using hxi
          clear hxi k1 k2
          have HXX : Hid (restW pre 0 (xs.take (i + 1)) = restW pre 0 (xs.take i) ++ [p]) := hid (by rw [HX.out, k3]; rfl)
          clear k3 HX
          have K4 := hid k4
          clear k4
          go_wp2_with (at_builtin; go_must (refine wpList_append_own _ rfl _ _ 26 rfl (w.heap.size) 47 l0 _ 3 24 Try.underlying26 hl0 lz0 lz1 lz2 rfl (by decide) _ _ _ rfl ((H0.out.alloc _).alloc _) ⟨(wr.heap.size + 1), 0, none⟩ 1 1 [.int .i64 p.a, .int .i64 p.b, .int .i64 p.d] rfl rfl (by have hh := news_at (wr.alloc (.cells #[.int .i64 p.a, .int .i64 p.b, .int .i64 p.d] 47)) [.int .i64 p.a, .int .i64 p.b, .int .i64 p.d] 47; simp only [World.size_alloc] at hh; exact hh) (by simp [Value.oneCell']) (by unfold maxLen; omega) (by omega) (by first | omega | (simp; done) | (simp; omega)) ?_); intro v3 w3 own_w3 grow_w3 _)
          go_roundw
          case rel => exact ⟨i + 1, j, by omega, by go_num, rfl, K4, hj, Below.ap (Below.al hb _) (by simp; omega) (H0.out.alloc _) (Nat.le_refl _) grow_w3, hrl2, hid (by rw [HXX.out]; simpa [encLk] using own_w3)⟩
          case measure => simp [intOf]; omega
      · obtain ⟨k3, k4⟩ := nxW_none HN.out hjl
        have hd : decide ((j : Int) < (pre.length : Int)) = false := by simp; omega
        have HXX : Hid (restW pre 0 (xs.take (i + 1)) = restW pre 0 (xs.take i) ++ [p]) := hid (by rw [HX.out, k3]; rfl)
        clear k3 HX
        have K4 := hid k4
        clear k4
        go_wp2_with (at_builtin; go_must (refine wpList_append_own _ rfl _ _ 26 rfl (w.heap.size) 47 l0 _ 3 24 Try.underlying26 hl0 lz0 lz1 lz2 rfl (by decide) _ _ _ rfl ((H0.out.alloc _).alloc _) ⟨(wr.heap.size + 1), 0, none⟩ 1 1 [.int .i64 p.a, .int .i64 p.b, .int .i64 p.d] rfl rfl (by have hh := news_at (wr.alloc (.cells #[.int .i64 p.a, .int .i64 p.b, .int .i64 p.d] 47)) [.int .i64 p.a, .int .i64 p.b, .int .i64 p.d] 47; simp only [World.size_alloc] at hh; exact hh) (by simp [Value.oneCell']) (by unfold maxLen; omega) (by omega) (by first | omega | (simp; done) | (simp; omega)) ?_); intro v3 w3 own_w3 grow_w3 _)
        go_roundw
        case rel => exact ⟨i + 1, j, by omega, by go_num, rfl, K4, hj, Below.ap (Below.al hb _) (by simp; omega) (H0.out.alloc _) (Nat.le_refl _) grow_w3, hrl2, hid (by rw [HXX.out]; simpa [encLk] using own_w3)⟩
        case measure => simp [intOf]; omega
    · obtain rfl : i = xs.length := by omega
      rw [List.take_length] at hrl H0
      have hVR : Hid (∀ (k : Nat) (p : Lk), (restW pre 0 xs)[k]? = some p → 0 ≤ p.a ∧ p.a < p.b ∧ p.b < n ∧ -5000 ≤ p.d ∧ p.d ≤ 5000) := hid (fun k p hk => by obtain ⟨k2, hk2⟩ := List.mem_iff_getElem?.1 (restW_mem pre xs 0 p (List.mem_of_getElem? hk)); exact V.out k2 p hk2)
      have HOK : Hid (okW n xs pre = (jnRun (jn0 n) (restW pre 0 xs)).ok) := hid rfl
      generalize restW pre 0 xs = R at *
      obtain ⟨A9, c9, rfl⟩ := own_shape H0.out
      have CO := offsets_any n A9 c9 R wr (rd_of_own (enc := encLk) (k := 3) (fun _ => rfl) H0.out) n1 n2 (by omega) hVR
      have y2 : wr.cell? ⟨bs, 0, none⟩ = some (.int .i64 (n : Int)) := ((bcell hb).1 bs 0 z3).trans hC.cs
      generalize jnRun (jn0 n) R = P at *
      obtain ⟨PF, PN, pk⟩ := P
      have armO : True := trivial
      cases pk
      · have HM : Hid (Ls ++ moreO n xs pre = Ls) := hid (by simp [moreO, HOK.out])
        go_wp2_with (go_at_call 33; refine CO.mono ?_; rintro e w5 ⟨gF, cF, gN, cN, rfl, oF, oN, hb5⟩)
        refine bodyPost_ret (results_none rfl _ _ _) rfl ?_
        exact ⟨rfl, v, by rw [HM.out]; exact hS.below (Below.tr hb5 hb), Fr.of (Below.tr hb5 hb), .inl rfl⟩
      · have HM : Hid (Ls ++ moreO n xs pre = Ls ++ [pre]) := hid (by simp [moreO, HOK.out])
        go_wp2_with (go_at_call 33; refine CO.mono ?_; rintro e w5 ⟨gF, cF, gN, cN, rfl, oF, oN, hb5⟩)
        have HB := Below.tr hb5 hb
        obtain ⟨hs, ownO, hin⟩ := (hS.below HB).ex
        have S5 := hS.below HB
        obtain ⟨Av, cv, rfl⟩ := own_shape ownO
        have e1 := S5.c
        have zpo := S5.lp
        have CP : ∀ W, Below w5.heap.size w5 W → Calls Try.prog 43 #[.slice G pre.length cG] W (OwnRes 2 1 encI pre W) := fun W hW => copyOfInt64_any G cG pre W (((HGG.out.below HB (Nat.le_refl _)).below hW (by have := HB.size; omega)).more (by have := HB.size; have := hW.size; omega)) (by omega) hz
        obtain ⟨j0, hj0, jz0, jz1, jz2⟩ := info_parts (P := Try.prog) (e := 36) (z := .slice none 0 0) (size := 1) (bytes := 24) (by kernel_rfl)
        have hbz := HB.size
        clear oF oN hb5 CO hVR H0 hrl y2 HN
        have e1d : w5.drew.cell? ⟨po, 0, none⟩ = some (.slice Av Ls.length cv) := e1
        refine wp_region_any (by kernel_rfl) ?_
        change wpAny _ _ _ _ _ _ _ (World.drew _)
        refine wpAny_take (i := 1) (v := ?vv) rfl (by kernel_rfl) (by kernel_rfl) (by kernel_rfl) (fun _ _ _ h => h) (Or.inl ⟨by rfl, ?hy⟩) ?rest
        case hy => (intro w; go_simp; try with_reducible rfl)
        case' rest => skip
        refine wpAny_ready (rs := [0, 2]) (by kernel_rfl) (by simp) ?_
        refine AllReady.cons rfl (fun K hK => ?_) ?_
        · go_simp
          refine hK _ _ ?_
          clear hK K
          refine wpAny_ready (rs := [2]) (by kernel_rfl) (by simp) ?_
          refine AllReady.cons rfl (fun K hK => ?_) ?_
          · go_simp
            go_wp2_with (go_at_call 43; refine (CP _ (by repeat (first | assumption | exact Below.refl _ _ | apply Below.al | apply Below.drew))).mono ?_; rintro e w6 ⟨A6, c6, rfl, own6, hb6⟩; have hb6' : Below w5.heap.size w5 w6 := Below.trans (by repeat (first | assumption | exact Below.refl _ _ | apply Below.al | apply Below.drew)) (hb6.mono (by simp)); have S6 := S5.below hb6'; have e6 := S6.c; have g6 := S6.f; have zp6 := S6.lp; have zz6 := hb6'.size; have ownO6 := own_below ownO hb6' (Nat.le_refl _))
            refine wpAny_ready (rs := [3]) (by kernel_rfl) (by simp) ?_
            refine AllReady.cons rfl (fun K hK => ?_) ?_
            · go_simp
              refine hK _ _ ?_
              clear hK K
              refine wpAny_ready (rs := [4]) (by kernel_rfl) (by simp) ?_
              refine AllReady.cons rfl (fun K hK => ?_) ?_
              · refine step_append_lies _ (by rfl) _ _ _ (by rfl) lo 36 j0 _ 1 24 Try.underlying30 hj0 jz0 jz1 jz2 rfl (by omega) _ Ls.length _ (by rfl) (ownO6.alloc _) ⟨w6.heap.size, 0, none⟩ 1 1 [.slice A6 pre.length c6] (by rfl) (by rfl) (World.news_of_block (cs := #[.slice A6 pre.length c6]) (t := 36) (fr := (0, 0)) (heap_alloc_new w6 _)) (by simp [Value.oneCell']) (by omega) (by unfold maxLen; omega) (by omega) (by simp; omega) (w6.heap.size + 1) (by simp) ?_
                intro gg cap w8 hown8 hgrow hat hlt8
                have hbk8 := hgrow.block po (by simp; omega) (Ne.symm S6.nv)
                have h8c := (World.cell?_of_block (a := ⟨po, 0, none⟩) hbk8).trans ((World.cell?_alloc_lt w6 _ ⟨po, 0, none⟩ zp6).trans e6)
                have h8f := (World.frozen?_of_block (a := ⟨po, 0, none⟩) hbk8).trans ((World.frozen?_alloc_old w6 _ _ (by simp; omega)).trans g6)
                have own6' := own_lo (lo' := lo) own6 (by simp; omega)
                have nb6 : ∀ b, (Value.slice A6 pre.length c6).ownBlock = some b → w5.heap.size ≤ b := fun b hb => by have := (own6.lt b hb).1; simpa using this
                have PU := OutS.push (n := 0) (v2 := .slice (some ⟨gg, 0, none⟩) (Ls.length + 1) cap) S6.nv zp6 e6 g6 (hin.fr (Fr.of hb6') rfl) (by have := ownO.1; omega) own6' (fun e => by have := nb6 _ e; omega) (by
                  cases hA : (Value.slice A6 pre.length c6).ownBlock with
                  | none => left; rfl
                  | some b => right; intro e; have := nb6 _ hA; have := (ownO.lt b e.symm).2; omega) hown8 hgrow (by
                  rcases hat with e | e
                  · left; rw [e]; rfl
                  · right; rw [e]; simp [Value.ownBlock])
                clear hown8 hgrow hbk8
                refine hK _ _ ?_
                clear hK K
                refine wpAny_ready (rs := [5]) (by kernel_rfl) (by simp) ?_
                refine AllReady.cons rfl (fun K hK => ?_) ?_
                · go_simp
                  refine hK _ _ ?_
                  clear hK K
                  refine wpAny_done (by kernel_rfl) ?_ _
                  go_wp2
                  refine bodyPost_ret (results_none rfl _ _ _) rfl ?_
                  refine ⟨rfl, _, by rw [HM.out]; exact PU.1, (Fr.of (Below.tr hb6' HB)).trans PU.2 (.inl rfl), ?_⟩
                  rcases hat with e | e
                  · left; rw [e]; rfl
                  · right; exact ⟨gg, rfl, by omega⟩
                exact AllReady.nil
              exact AllReady.nil
            exact AllReady.nil
          exact AllReady.nil
        refine AllReady.cons rfl (fun K hK => ?_) ?_
        · go_simp
          go_wp2_with (go_at_call 43; refine (CP _ (by repeat (first | assumption | exact Below.refl _ _ | apply Below.al | apply Below.drew))).mono ?_; rintro e w6 ⟨A6, c6, rfl, own6, hb6⟩; have hb6' : Below w5.heap.size w5 w6 := Below.trans (by repeat (first | assumption | exact Below.refl _ _ | apply Below.al | apply Below.drew)) (hb6.mono (by simp)); have S6 := S5.below hb6'; have e6 := S6.c; have g6 := S6.f; have zp6 := S6.lp; have zz6 := hb6'.size; have ownO6 := own_below ownO hb6' (Nat.le_refl _))
          refine wpAny_ready (rs := [0, 3]) (by kernel_rfl) (by simp) ?_
          refine AllReady.cons rfl (fun K hK => ?_) ?_
          · go_simp
            refine hK _ _ ?_
            clear hK K
            refine wpAny_ready (rs := [3]) (by kernel_rfl) (by simp) ?_
            refine AllReady.cons rfl (fun K hK => ?_) ?_
            · go_simp
              refine hK _ _ ?_
              clear hK K
              refine wpAny_ready (rs := [4]) (by kernel_rfl) (by simp) ?_
              refine AllReady.cons rfl (fun K hK => ?_) ?_
              · refine step_append_lies _ (by rfl) _ _ _ (by rfl) lo 36 j0 _ 1 24 Try.underlying30 hj0 jz0 jz1 jz2 rfl (by omega) _ Ls.length _ (by rfl) (ownO6.alloc _) ⟨w6.heap.size, 0, none⟩ 1 1 [.slice A6 pre.length c6] (by rfl) (by rfl) (World.news_of_block (cs := #[.slice A6 pre.length c6]) (t := 36) (fr := (0, 0)) (heap_alloc_new w6 _)) (by simp [Value.oneCell']) (by omega) (by unfold maxLen; omega) (by omega) (by simp; omega) (w6.heap.size + 1) (by simp) ?_
                intro gg cap w8 hown8 hgrow hat hlt8
                have hbk8 := hgrow.block po (by simp; omega) (Ne.symm S6.nv)
                have h8c := (World.cell?_of_block (a := ⟨po, 0, none⟩) hbk8).trans ((World.cell?_alloc_lt w6 _ ⟨po, 0, none⟩ zp6).trans e6)
                have h8f := (World.frozen?_of_block (a := ⟨po, 0, none⟩) hbk8).trans ((World.frozen?_alloc_old w6 _ _ (by simp; omega)).trans g6)
                have own6' := own_lo (lo' := lo) own6 (by simp; omega)
                have nb6 : ∀ b, (Value.slice A6 pre.length c6).ownBlock = some b → w5.heap.size ≤ b := fun b hb => by have := (own6.lt b hb).1; simpa using this
                have PU := OutS.push (n := 0) (v2 := .slice (some ⟨gg, 0, none⟩) (Ls.length + 1) cap) S6.nv zp6 e6 g6 (hin.fr (Fr.of hb6') rfl) (by have := ownO.1; omega) own6' (fun e => by have := nb6 _ e; omega) (by
                  cases hA : (Value.slice A6 pre.length c6).ownBlock with
                  | none => left; rfl
                  | some b => right; intro e; have := nb6 _ hA; have := (ownO.lt b e.symm).2; omega) hown8 hgrow (by
                  rcases hat with e | e
                  · left; rw [e]; rfl
                  · right; rw [e]; simp [Value.ownBlock])
                clear hown8 hgrow hbk8
                refine hK _ _ ?_
                clear hK K
                refine wpAny_ready (rs := [5]) (by kernel_rfl) (by simp) ?_
                refine AllReady.cons rfl (fun K hK => ?_) ?_
                · go_simp
                  refine hK _ _ ?_
                  clear hK K
                  refine wpAny_done (by kernel_rfl) ?_ _
                  go_wp2
                  refine bodyPost_ret (results_none rfl _ _ _) rfl ?_
                  refine ⟨rfl, _, by rw [HM.out]; exact PU.1, (Fr.of (Below.tr hb6' HB)).trans PU.2 (.inl rfl), ?_⟩
                  rcases hat with e | e
                  · left; rw [e]; rfl
                  · right; exact ⟨gg, rfl, by omega⟩
                exact AllReady.nil
              exact AllReady.nil
            exact AllReady.nil
          refine AllReady.cons rfl (fun K hK => ?_) ?_
          · go_simp
            refine hK _ _ ?_
            clear hK K
            refine wpAny_ready (rs := [0]) (by kernel_rfl) (by simp) ?_
            refine AllReady.cons rfl (fun K hK => ?_) ?_
            · go_simp
              refine hK _ _ ?_
              clear hK K
              refine wpAny_ready (rs := [4]) (by kernel_rfl) (by simp) ?_
              refine AllReady.cons rfl (fun K hK => ?_) ?_
              · refine step_append_lies _ (by rfl) _ _ _ (by rfl) lo 36 j0 _ 1 24 Try.underlying30 hj0 jz0 jz1 jz2 rfl (by omega) _ Ls.length _ (by rfl) (ownO6.alloc _) ⟨w6.heap.size, 0, none⟩ 1 1 [.slice A6 pre.length c6] (by rfl) (by rfl) (World.news_of_block (cs := #[.slice A6 pre.length c6]) (t := 36) (fr := (0, 0)) (heap_alloc_new w6 _)) (by simp [Value.oneCell']) (by omega) (by unfold maxLen; omega) (by omega) (by simp; omega) (w6.heap.size + 1) (by simp) ?_
                intro gg cap w8 hown8 hgrow hat hlt8
                have hbk8 := hgrow.block po (by simp; omega) (Ne.symm S6.nv)
                have h8c := (World.cell?_of_block (a := ⟨po, 0, none⟩) hbk8).trans ((World.cell?_alloc_lt w6 _ ⟨po, 0, none⟩ zp6).trans e6)
                have h8f := (World.frozen?_of_block (a := ⟨po, 0, none⟩) hbk8).trans ((World.frozen?_alloc_old w6 _ _ (by simp; omega)).trans g6)
                have own6' := own_lo (lo' := lo) own6 (by simp; omega)
                have nb6 : ∀ b, (Value.slice A6 pre.length c6).ownBlock = some b → w5.heap.size ≤ b := fun b hb => by have := (own6.lt b hb).1; simpa using this
                have PU := OutS.push (n := 0) (v2 := .slice (some ⟨gg, 0, none⟩) (Ls.length + 1) cap) S6.nv zp6 e6 g6 (hin.fr (Fr.of hb6') rfl) (by have := ownO.1; omega) own6' (fun e => by have := nb6 _ e; omega) (by
                  cases hA : (Value.slice A6 pre.length c6).ownBlock with
                  | none => left; rfl
                  | some b => right; intro e; have := nb6 _ hA; have := (ownO.lt b e.symm).2; omega) hown8 hgrow (by
                  rcases hat with e | e
                  · left; rw [e]; rfl
                  · right; rw [e]; simp [Value.ownBlock])
                clear hown8 hgrow hbk8
                refine hK _ _ ?_
                clear hK K
                refine wpAny_ready (rs := [5]) (by kernel_rfl) (by simp) ?_
                refine AllReady.cons rfl (fun K hK => ?_) ?_
                · go_simp
                  refine hK _ _ ?_
                  clear hK K
                  refine wpAny_done (by kernel_rfl) ?_ _
                  go_wp2
                  refine bodyPost_ret (results_none rfl _ _ _) rfl ?_
                  refine ⟨rfl, _, by rw [HM.out]; exact PU.1, (Fr.of (Below.tr hb6' HB)).trans PU.2 (.inl rfl), ?_⟩
                  rcases hat with e | e
                  · left; rw [e]; rfl
                  · right; exact ⟨gg, rfl, by omega⟩
                exact AllReady.nil
              exact AllReady.nil
            exact AllReady.nil
          exact AllReady.nil
        exact AllReady.nil
end Go.Proofs.Ytalongdieglibaa
