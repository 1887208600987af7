/- Contracts of the lists of alerts, in the reference. -/
import Derived.Test.YtpfdfbebeckohaaC19s
import Derived.Deep.RegionHeld3
import Derived.Deep.AppendLies
namespace Go.Proofs.Ytpfdfbebeckohaa
open Go.RowKit
set_option linter.unusedVariables false
theorem Below.apd {B base n : Nat} {w W w2 : World} {o : Obj} {v : Value} {e : TypeId} {size : Nat} {ys : List Value} (hb : Below B w W) (hB : B ≤ W.heap.size) (own : W.ownsRow base e size v n ys) (hbase : B ≤ base)
    (hg : ((W.alloc o).drew).grownBy w2 v.ownBlock) : Below B w w2 :=
  (hb.alloc hB o).drew.grown hg (by simp; omega) (fun k hk => Nat.le_trans hbase (own.lt k hk).1)
def wl (a m : Int) : Int := if m < a then m else a
def wg (a m : Int) : Int := if a < m then m else a
/-- One point: the alerts that are done, and the one that goes on. -/
def alStep (wo : Int → Int → Int) (done : List Al) (cur : Option Al) (p : Pt) (s : Bool) : List Al × Option Al :=
  match cur, s with
  | none, true => (done, some ⟨p.t, -1, p.m⟩)
  | some a, true => (done, some ⟨a.b, a.e, wo a.p p.m⟩)
  | some a, false => (done ++ [⟨a.b, p.t, a.p⟩], none)
  | none, false => (done, none)
def alRun (wo : Int → Int → Int) (done : List Al) (cur : Option Al) : List Pt → List Bool → List Al
  | p :: r, s :: t => alRun wo (alStep wo done cur p s).1 (alStep wo done cur p s).2 r t
  | [], _ => done ++ cur.toList
  | _ :: _, [] => done ++ cur.toList
set_option maxRecDepth 20000 in
set_option maxHeartbeats 6000000 in
theorem l19AlertsL_any (A : Option Addr) (c : Nat) (xs : List Pt) (A2 : Option Addr) (c2 : Nat) (ss : List Bool) (w : World) (h : Rd encPt 2 w w.heap.size A xs) (hn : xs.length ≤ 1048576) (hs : Rd encBo 1 w w.heap.size A2 ss) (hl : ss.length = xs.length)
    (V : Hid (∀ (k : Nat) (p : Pt), xs[k]? = some p → 0 ≤ p.t ∧ p.t ≤ 10000000 ∧ -2000 ≤ p.m ∧ p.m ≤ 20000)) :
    Calls Try.prog 76 #[.slice A xs.length c, .slice A2 ss.length c2, .int .i64 (1)] w (OwnRes 78 3 encAl (alRun wl [] none xs ss) w) := by
  have HL := hid hl
  clear hl
  obtain ⟨i0, hi0, iz0, iz1, iz2⟩ := info_parts (P := Try.prog) (e := 78) (z := .agg #[.int .i64 0, .int .i64 0, .int .i64 0]) (size := 3) (bytes := 24) (by kernel_rfl)
  go_enter Try.func76, Try.ntmps76
  go_wp2
  go_loopw [7, 8] (fun v i wr => ∃ (k m : Nat) (done : List Al) (cur : Option Al), k ≤ xs.length ∧ i = .int .i64 k ∧ m = (done ++ cur.toList).length ∧ Below w.heap.size w wr ∧ wr.ownsRow w.heap.size 78 3 v m ((done ++ cur.toList).flatMap encAl) ∧ m ≤ k ∧
      Hid (alRun wl [] none xs ss = alRun wl done cur (xs.drop k) (ss.drop k)) ∧ Hid (cur.isSome = if k = 0 then false else (ss[k-1]?).getD false) ∧ (∀ a, cur = some a → -2000 ≤ a.p ∧ a.p ≤ 20000)) (fun _ i _ => xs.length - (intOf i).toNat)
  case atStart => exact ⟨0, 0, [], none, Nat.zero_le _, rfl, rfl, (by repeat (first | assumption | exact Below.refl _ _ | apply Below.al | apply Below.drewN' | apply Below.drew | (apply Below.tr; assumption))), own_lit0 _ _ _ (Nat.le_refl _), Nat.zero_le _, hid rfl, hid rfl, fun a ha => by cases ha⟩
  case round =>
    obtain ⟨k, m, done, cur, hk, rfl, hm, hb, hown, hlen, H, HQ, hcur⟩ := hrel
    obtain ⟨Ar, cr, rfl⟩ := own_shape hown
    by_cases hlt : k < xs.length
    · obtain ⟨p, hp⟩ := getx hlt
      obtain ⟨b, o, rfl, hbB, c0, c1⟩ := (h.below hb (Nat.le_refl _)).at2 hp rfl
      have hsz := hb.size
      obtain ⟨p1, p2, p3, p4⟩ := V.out k p hp
      obtain ⟨s, hsk⟩ : ∃ s, ss[k]? = some s := getx (by have := HL.out; omega)
      obtain ⟨b', o', rfl, hbB', e0⟩ := (hs.below hb (Nat.le_refl _)).at1 hsk rfl
      have b0 : b < wr.heap.size := by omega
      have b1 : b' < wr.heap.size := by omega
      have ky : k < ss.length := by have := HL.out; omega
      have hst : Hid (ss[k]? = some s) := hsk
      have HS : Hid (alRun wl done cur (xs.drop k) (ss.drop k) = alRun wl (alStep wl done cur p s).1 (alStep wl done cur p s).2 (xs.drop (k+1)) (ss.drop (k+1))) := by rw [dropx hp, dropx hsk]; rfl
      clear hp hsk
      cases cur with
      | none =>
        obtain rfl : m = done.length := by simpa using hm
        have H0 : Hid (wr.ownsRow w.heap.size 78 3 (.slice Ar done.length cr) done.length (done.flatMap encAl)) := hid (by simpa using hown)
        clear hm
        clear hown hcur
        cases s
        · by_cases hk0 : k = 0
          · subst hk0
            simp only [Nat.zero_mul, Nat.add_zero] at c0 c1 e0
            go_wp2
            go_roundw
            case rel => exact ⟨0 + 1, done.length, done, none, by omega, by go_num, by simp, hb, by simpa using H0.out, by omega, hid (by rw [H.out, HS.out]; rfl), hid (by rw [if_neg (by omega)]; simp [hst.out]), fun a ha => by cases ha⟩
            case measure => simp [intOf]; omega
          · obtain ⟨q, hq⟩ : ∃ q, ss[k-1]? = some q := getx (by omega)
            have hqv : q = false := by have := HQ.out; rw [if_neg (by omega), hq] at this; simpa using this.symm
            subst hqv
            obtain ⟨b'', o'', e2, _, d0⟩ := (hs.below hb (Nat.le_refl _)).at1 hq rfl
            simp at e2; obtain ⟨rfl, rfl⟩ := e2
            have z0 : ((k : Int) == 0) = false := by simp; omega
            have zg : decide (0 < (k : Int)) = true := by simp; omega
            clear hq
            go_wp2
            go_roundw
            case rel => exact ⟨k + 1, done.length, done, none, by omega, by go_num, by simp, hb, by simpa using H0.out, by omega, hid (by rw [H.out, HS.out]; rfl), hid (by rw [if_neg (by omega)]; simp [hst.out]), fun a ha => by cases ha⟩
            case measure => simp [intOf]; omega
        · by_cases hk0 : k = 0
          · subst hk0
            simp only [Nat.zero_mul, Nat.add_zero] at c0 c1 e0
            have ag : (Value.slice Ar done.length cr).ownBlock ≠ some b := fun hx => by have := (H0.out.lt b hx).1; omega
            go_wp2
            go_region_held3 (fun w' => w'.cell? ⟨b, o, none⟩ = some (.int .i64 p.t) ∧ w'.cell? ⟨b, o + 1, none⟩ = some (.int .i64 p.m)) (first | go_keep | (go_split_ands; refine ⟨?_, ?_⟩ <;> (rw [hgrow.cell_far _ (by simp; omega) (Ne.symm ag)]; assumption)))
              ((refine step_append_lies _ (by rfl) _ _ _ (by rfl) w.heap.size 78 i0 _ 3 24 Try.underlying26 hi0 iz0 iz1 iz2 rfl (by omega) _ done.length _ (by rfl) ((H0.out.alloc _).drew) ⟨wr.heap.size, 0, none⟩ 1 1 [.int .i64 p.t, .int .i64 (-1), .int .i64 p.m] (by rfl) (by rfl) (World.news_of_block (cs := #[.int .i64 p.t, .int .i64 (-1), .int .i64 p.m]) (t := 78) (fr := (0, 0)) (heap_alloc_new wr _)) (by simp [Value.oneCell']) (by omega) (by unfold maxLen; omega) (by omega) (by simp; omega) (wr.heap.size + 1) (by simp) ?_; intro gg cap w1 hown1 hgrow hat hlt1))
            go_wp2
            go_roundw
            case rel => exact ⟨0 + 1, done.length + 1, done, some ⟨p.t, -1, p.m⟩, by omega, by go_num, by simp, Below.apd hb hb.size H0.out (Nat.le_refl _) hgrow, by simpa [encAl] using hown1, by omega, hid (by rw [H.out, HS.out]; rfl), hid (by rw [if_neg (by omega)]; simp [hst.out]), fun a ha => by cases ha; exact ⟨p3, p4⟩⟩
            case measure => simp [intOf]; omega
          · obtain ⟨q, hq⟩ : ∃ q, ss[k-1]? = some q := getx (by omega)
            have hqv : q = false := by have := HQ.out; rw [if_neg (by omega), hq] at this; simpa using this.symm
            subst hqv
            obtain ⟨b'', o'', e2, _, d0⟩ := (hs.below hb (Nat.le_refl _)).at1 hq rfl
            simp at e2; obtain ⟨rfl, rfl⟩ := e2
            have z0 : ((k : Int) == 0) = false := by simp; omega
            have zg : decide (0 < (k : Int)) = true := by simp; omega
            clear hq
            have ag : (Value.slice Ar done.length cr).ownBlock ≠ some b := fun hx => by have := (H0.out.lt b hx).1; omega
            go_wp2
            go_region_held3 (fun w' => w'.cell? ⟨b, o + k * 2, none⟩ = some (.int .i64 p.t) ∧ w'.cell? ⟨b, o + k * 2 + 1, none⟩ = some (.int .i64 p.m)) (first | go_keep | (go_split_ands; refine ⟨?_, ?_⟩ <;> (rw [hgrow.cell_far _ (by simp; omega) (Ne.symm ag)]; assumption)))
              ((refine step_append_lies _ (by rfl) _ _ _ (by rfl) w.heap.size 78 i0 _ 3 24 Try.underlying26 hi0 iz0 iz1 iz2 rfl (by omega) _ done.length _ (by rfl) ((H0.out.alloc _).drew) ⟨wr.heap.size, 0, none⟩ 1 1 [.int .i64 p.t, .int .i64 (-1), .int .i64 p.m] (by rfl) (by rfl) (World.news_of_block (cs := #[.int .i64 p.t, .int .i64 (-1), .int .i64 p.m]) (t := 78) (fr := (0, 0)) (heap_alloc_new wr _)) (by simp [Value.oneCell']) (by omega) (by unfold maxLen; omega) (by omega) (by simp; omega) (wr.heap.size + 1) (by simp) ?_; intro gg cap w1 hown1 hgrow hat hlt1))
            go_wp2
            go_roundw
            case rel => exact ⟨k + 1, done.length + 1, done, some ⟨p.t, -1, p.m⟩, by omega, by go_num, by simp, Below.apd hb hb.size H0.out (Nat.le_refl _) hgrow, by simpa [encAl] using hown1, by omega, hid (by rw [H.out, HS.out]; rfl), hid (by rw [if_neg (by omega)]; simp [hst.out]), fun a ha => by cases ha; exact ⟨p3, p4⟩⟩
            case measure => simp [intOf]; omega
      | some a =>
        obtain ⟨a1, a2⟩ := hcur a rfl
        have hk0 : ¬ k = 0 := by intro hk0; have := HQ.out; rw [if_pos hk0] at this; cases this
        obtain rfl : m = done.length + 1 := by simpa using hm
        have H0 : Hid (wr.ownsRow w.heap.size 78 3 (.slice Ar (done.length + 1) cr) (done.length + 1) (done.flatMap encAl ++ [.int .i64 a.b, .int .i64 a.e, .int .i64 a.p])) := hid (by simpa [encAl] using hown)
        have hown1 := H0.out
        clear hm
        obtain ⟨g, rfl, hlo, hgw⟩ := own_form hown1 (by omega)
        have hfl : (done.flatMap encAl).length = done.length * 3 := flat_len (k := 3) (fun _ => rfl) done
        have x0 : wr.cell? ⟨g, done.length * 3, none⟩ = some (.int .i64 a.b) := by have := hown1.cellAt (done.length * 3) (by omega); rw [List.getElem?_append_right (by omega)] at this; simpa [hfl] using this
        have x1 : wr.cell? ⟨g, done.length * 3 + 1, none⟩ = some (.int .i64 a.e) := by have := hown1.cellAt (done.length * 3 + 1) (by omega); rw [List.getElem?_append_right (by omega)] at this; simpa [hfl] using this
        have x2 : wr.cell? ⟨g, done.length * 3 + 2, none⟩ = some (.int .i64 a.p) := by have := hown1.cellAt (done.length * 3 + 2) (by omega); rw [List.getElem?_append_right (by omega)] at this; simpa [hfl] using this
        have y0 : wr.frozen? ⟨g, done.length * 3, none⟩ = false := hown1.frozenAt _
        have y1 : wr.frozen? ⟨g, done.length * 3 + 1, none⟩ = false := hown1.frozenAt _
        have y2 : wr.frozen? ⟨g, done.length * 3 + 2, none⟩ = false := hown1.frozenAt _
        clear hown hown1 hcur hfl
        obtain ⟨q, hq⟩ : ∃ q, ss[k-1]? = some q := getx (by omega)
        have hqv : q = true := by have := HQ.out; rw [if_neg (by omega), hq] at this; simpa using this.symm
        subst hqv
        obtain ⟨b'', o'', e2, _, d0⟩ := (hs.below hb (Nat.le_refl _)).at1 hq rfl
        simp at e2; obtain ⟨rfl, rfl⟩ := e2
        have z0 : ((k : Int) == 0) = false := by simp; omega
        have zg : decide (0 < (k : Int)) = true := by simp; omega
        clear hq
        cases s
        · go_wp2
          go_roundw
          case rel =>
            refine ⟨k + 1, done.length + 1, done ++ [⟨a.b, p.t, a.p⟩], none, by omega, by go_num, by simp, (by repeat (first | assumption | exact Below.refl _ _ | apply Below.al | apply Below.drewN' | apply Below.drew | (refine Below.sc ?_ (by first | omega | (simp; done) | (simp; omega)) _) | (apply Below.tr; assumption))), ?_, by omega, hid (by rw [H.out, HS.out]; rfl), hid (by rw [if_neg (by omega)]; simp [hst.out]), fun a ha => by cases ha⟩
            have hy := fun (W4 : World) (hW : Below wr.heap.size wr W4) => own_set3 (j := done.length * 3) (own_below H0.out hW (Nat.le_refl _)) (by rw [flat_len (k := 3) (fun _ => rfl)]) (.int .i64 a.b) (.int .i64 p.t) (.int .i64 a.p)
            have e9 : (done ++ [(⟨a.b, p.t, a.p⟩ : Al)] ++ (none : Option Al).toList).flatMap encAl = done.flatMap encAl ++ [.int .i64 a.b, .int .i64 p.t, .int .i64 a.p] := by simp [encAl]
            rw [e9]
            first
              | exact hy _ (by repeat (first | assumption | exact Below.refl _ _ | apply Below.al | apply Below.drewN' | apply Below.drew | (refine Below.sc ?_ (by first | omega | (simp; done) | (simp; omega)) _) | (apply Below.tr; assumption)))
              | exact own_below (hy wr (Below.refl _ _)) (Below.al (Below.refl _ _) _) (Nat.le_refl _)
          case measure => simp [intOf]; omega
        · by_cases gl : p.m < a.p
          · have g1' : decide (p.m < a.p) = true := by simpa using gl
            have g2' : decide (1 * p.m < 1 * a.p) = true := by simpa using gl
            go_wp2
            refine wp_region_ext (by kernel_rfl) (by kernel_rfl) ?_
            repeat (go_big_quiet_step ((first | fail)))
            refine wpQuiet_nil ?_
            intro w3 hb3
            obtain ⟨hc_w3, hf_w3⟩ := bcell hb3
            have hz_w3 := hb3.size
            simp at hz_w3
            have b3 : b < w3.heap.size := by omega
            have gr3 : g < w3.heap.size := by omega
            go_wp2
            go_roundw
            case rel =>
              refine ⟨k + 1, done.length + 1, done, some ⟨a.b, a.e, p.m⟩, by omega, by go_num, by simp, (by repeat (first | assumption | exact Below.refl _ _ | apply Below.al | apply Below.drewN' | apply Below.drew | (refine Below.sc ?_ (by first | omega | (simp; done) | (simp; omega)) _) | (apply Below.tr; assumption))), ?_, by omega, hid (by rw [H.out, HS.out]; simp only [alStep, wl]; rw [if_pos (by omega)]), hid (by rw [if_neg (by omega)]; simp [hst.out]), fun x hx => by cases hx; constructor <;> (simp only []; omega)⟩
              have hy := fun (W4 : World) (hW : Below wr.heap.size wr W4) => own_set3 (j := done.length * 3) (own_below H0.out hW (Nat.le_refl _)) (by rw [flat_len (k := 3) (fun _ => rfl)]) (.int .i64 a.b) (.int .i64 a.e) (.int .i64 p.m)
              have e9 : (done ++ (some (⟨a.b, a.e, p.m⟩ : Al)).toList).flatMap encAl = done.flatMap encAl ++ [.int .i64 a.b, .int .i64 a.e, .int .i64 p.m] := by simp [encAl]
              rw [e9]
              first
                | exact hy _ (by repeat (first | assumption | exact Below.refl _ _ | apply Below.al | apply Below.drewN' | apply Below.drew | (refine Below.sc ?_ (by first | omega | (simp; done) | (simp; omega)) _) | (apply Below.tr; assumption)))
                | exact own_below (hy wr (Below.refl _ _)) (Below.al (Below.refl _ _) _) (Nat.le_refl _)
            case measure => simp [intOf]; omega
          · have g1' : decide (p.m < a.p) = false := by simpa using gl
            have g2' : decide (1 * p.m < 1 * a.p) = false := by simpa using gl
            go_wp2
            refine wp_region_ext (by kernel_rfl) (by kernel_rfl) ?_
            repeat (go_big_quiet_step ((first | fail)))
            refine wpQuiet_nil ?_
            intro w3 hb3
            obtain ⟨hc_w3, hf_w3⟩ := bcell hb3
            have hz_w3 := hb3.size
            simp at hz_w3
            have b3 : b < w3.heap.size := by omega
            have gr3 : g < w3.heap.size := by omega
            go_wp2
            go_roundw
            case rel =>
              refine ⟨k + 1, done.length + 1, done, some ⟨a.b, a.e, a.p⟩, by omega, by go_num, by simp, (by repeat (first | assumption | exact Below.refl _ _ | apply Below.al | apply Below.drewN' | apply Below.drew | (refine Below.sc ?_ (by first | omega | (simp; done) | (simp; omega)) _) | (apply Below.tr; assumption))), ?_, by omega, hid (by rw [H.out, HS.out]; simp only [alStep, wl]; rw [if_neg (by omega)]), hid (by rw [if_neg (by omega)]; simp [hst.out]), fun x hx => by cases hx; constructor <;> (simp only []; omega)⟩
              have hy := fun (W4 : World) (hW : Below wr.heap.size wr W4) => own_set3 (j := done.length * 3) (own_below H0.out hW (Nat.le_refl _)) (by rw [flat_len (k := 3) (fun _ => rfl)]) (.int .i64 a.b) (.int .i64 a.e) (.int .i64 a.p)
              have e9 : (done ++ (some (⟨a.b, a.e, a.p⟩ : Al)).toList).flatMap encAl = done.flatMap encAl ++ [.int .i64 a.b, .int .i64 a.e, .int .i64 a.p] := by simp [encAl]
              rw [e9]
              first
                | exact hy _ (by repeat (first | assumption | exact Below.refl _ _ | apply Below.al | apply Below.drewN' | apply Below.drew | (refine Below.sc ?_ (by first | omega | (simp; done) | (simp; omega)) _) | (apply Below.tr; assumption)))
                | exact own_below (hy wr (Below.refl _ _)) (Below.al (Below.refl _ _) _) (Nat.le_refl _)
            case measure => simp [intOf]; omega
    · obtain rfl : k = xs.length := by omega
      have HE : Hid (alRun wl [] none xs ss = done ++ cur.toList) := hid (by rw [H.out, List.drop_eq_nil_of_le (by omega)]; rfl)
      subst hm
      have H0 := hid hown
      clear hown
      go_wp2
      go_ret
      exact ⟨Ar, cr, by rw [HE.out]; simp, by rw [HE.out]; exact H0.out, hb⟩
set_option maxRecDepth 20000 in
set_option maxHeartbeats 6000000 in
theorem l19AlertsG_any (A : Option Addr) (c : Nat) (xs : List Pt) (A2 : Option Addr) (c2 : Nat) (ss : List Bool) (w : World) (h : Rd encPt 2 w w.heap.size A xs) (hn : xs.length ≤ 1048576) (hs : Rd encBo 1 w w.heap.size A2 ss) (hl : ss.length = xs.length)
    (V : Hid (∀ (k : Nat) (p : Pt), xs[k]? = some p → 0 ≤ p.t ∧ p.t ≤ 10000000 ∧ -2000 ≤ p.m ∧ p.m ≤ 20000)) :
    Calls Try.prog 76 #[.slice A xs.length c, .slice A2 ss.length c2, .int .i64 (-1)] w (OwnRes 78 3 encAl (alRun wg [] none xs ss) w) := by
  have HL := hid hl
  clear hl
  obtain ⟨i0, hi0, iz0, iz1, iz2⟩ := info_parts (P := Try.prog) (e := 78) (z := .agg #[.int .i64 0, .int .i64 0, .int .i64 0]) (size := 3) (bytes := 24) (by kernel_rfl)
  go_enter Try.func76, Try.ntmps76
  go_wp2
  go_loopw [7, 8] (fun v i wr => ∃ (k m : Nat) (done : List Al) (cur : Option Al), k ≤ xs.length ∧ i = .int .i64 k ∧ m = (done ++ cur.toList).length ∧ Below w.heap.size w wr ∧ wr.ownsRow w.heap.size 78 3 v m ((done ++ cur.toList).flatMap encAl) ∧ m ≤ k ∧
      Hid (alRun wg [] none xs ss = alRun wg done cur (xs.drop k) (ss.drop k)) ∧ Hid (cur.isSome = if k = 0 then false else (ss[k-1]?).getD false) ∧ (∀ a, cur = some a → -2000 ≤ a.p ∧ a.p ≤ 20000)) (fun _ i _ => xs.length - (intOf i).toNat)
  case atStart => exact ⟨0, 0, [], none, Nat.zero_le _, rfl, rfl, (by repeat (first | assumption | exact Below.refl _ _ | apply Below.al | apply Below.drewN' | apply Below.drew | (apply Below.tr; assumption))), own_lit0 _ _ _ (Nat.le_refl _), Nat.zero_le _, hid rfl, hid rfl, fun a ha => by cases ha⟩
  case round =>
    obtain ⟨k, m, done, cur, hk, rfl, hm, hb, hown, hlen, H, HQ, hcur⟩ := hrel
    obtain ⟨Ar, cr, rfl⟩ := own_shape hown
    by_cases hlt : k < xs.length
    · obtain ⟨p, hp⟩ := getx hlt
      obtain ⟨b, o, rfl, hbB, c0, c1⟩ := (h.below hb (Nat.le_refl _)).at2 hp rfl
      have hsz := hb.size
      obtain ⟨p1, p2, p3, p4⟩ := V.out k p hp
      obtain ⟨s, hsk⟩ : ∃ s, ss[k]? = some s := getx (by have := HL.out; omega)
      obtain ⟨b', o', rfl, hbB', e0⟩ := (hs.below hb (Nat.le_refl _)).at1 hsk rfl
      have b0 : b < wr.heap.size := by omega
      have b1 : b' < wr.heap.size := by omega
      have ky : k < ss.length := by have := HL.out; omega
      have hst : Hid (ss[k]? = some s) := hsk
      have HS : Hid (alRun wg done cur (xs.drop k) (ss.drop k) = alRun wg (alStep wg done cur p s).1 (alStep wg done cur p s).2 (xs.drop (k+1)) (ss.drop (k+1))) := by rw [dropx hp, dropx hsk]; rfl
      clear hp hsk
      cases cur with
      | none =>
        obtain rfl : m = done.length := by simpa using hm
        have H0 : Hid (wr.ownsRow w.heap.size 78 3 (.slice Ar done.length cr) done.length (done.flatMap encAl)) := hid (by simpa using hown)
        clear hm
        clear hown hcur
        cases s
        · by_cases hk0 : k = 0
          · subst hk0
            simp only [Nat.zero_mul, Nat.add_zero] at c0 c1 e0
            go_wp2
            go_roundw
            case rel => exact ⟨0 + 1, done.length, done, none, by omega, by go_num, by simp, hb, by simpa using H0.out, by omega, hid (by rw [H.out, HS.out]; rfl), hid (by rw [if_neg (by omega)]; simp [hst.out]), fun a ha => by cases ha⟩
            case measure => simp [intOf]; omega
          · obtain ⟨q, hq⟩ : ∃ q, ss[k-1]? = some q := getx (by omega)
            have hqv : q = false := by have := HQ.out; rw [if_neg (by omega), hq] at this; simpa using this.symm
            subst hqv
            obtain ⟨b'', o'', e2, _, d0⟩ := (hs.below hb (Nat.le_refl _)).at1 hq rfl
            simp at e2; obtain ⟨rfl, rfl⟩ := e2
            have z0 : ((k : Int) == 0) = false := by simp; omega
            have zg : decide (0 < (k : Int)) = true := by simp; omega
            clear hq
            go_wp2
            go_roundw
            case rel => exact ⟨k + 1, done.length, done, none, by omega, by go_num, by simp, hb, by simpa using H0.out, by omega, hid (by rw [H.out, HS.out]; rfl), hid (by rw [if_neg (by omega)]; simp [hst.out]), fun a ha => by cases ha⟩
            case measure => simp [intOf]; omega
        · by_cases hk0 : k = 0
          · subst hk0
            simp only [Nat.zero_mul, Nat.add_zero] at c0 c1 e0
            have ag : (Value.slice Ar done.length cr).ownBlock ≠ some b := fun hx => by have := (H0.out.lt b hx).1; omega
            go_wp2
            go_region_held3 (fun w' => w'.cell? ⟨b, o, none⟩ = some (.int .i64 p.t) ∧ w'.cell? ⟨b, o + 1, none⟩ = some (.int .i64 p.m)) (first | go_keep | (go_split_ands; refine ⟨?_, ?_⟩ <;> (rw [hgrow.cell_far _ (by simp; omega) (Ne.symm ag)]; assumption)))
              ((refine step_append_lies _ (by rfl) _ _ _ (by rfl) w.heap.size 78 i0 _ 3 24 Try.underlying26 hi0 iz0 iz1 iz2 rfl (by omega) _ done.length _ (by rfl) ((H0.out.alloc _).drew) ⟨wr.heap.size, 0, none⟩ 1 1 [.int .i64 p.t, .int .i64 (-1), .int .i64 p.m] (by rfl) (by rfl) (World.news_of_block (cs := #[.int .i64 p.t, .int .i64 (-1), .int .i64 p.m]) (t := 78) (fr := (0, 0)) (heap_alloc_new wr _)) (by simp [Value.oneCell']) (by omega) (by unfold maxLen; omega) (by omega) (by simp; omega) (wr.heap.size + 1) (by simp) ?_; intro gg cap w1 hown1 hgrow hat hlt1))
            go_wp2
            go_roundw
            case rel => exact ⟨0 + 1, done.length + 1, done, some ⟨p.t, -1, p.m⟩, by omega, by go_num, by simp, Below.apd hb hb.size H0.out (Nat.le_refl _) hgrow, by simpa [encAl] using hown1, by omega, hid (by rw [H.out, HS.out]; rfl), hid (by rw [if_neg (by omega)]; simp [hst.out]), fun a ha => by cases ha; exact ⟨p3, p4⟩⟩
            case measure => simp [intOf]; omega
          · obtain ⟨q, hq⟩ : ∃ q, ss[k-1]? = some q := getx (by omega)
            have hqv : q = false := by have := HQ.out; rw [if_neg (by omega), hq] at this; simpa using this.symm
            subst hqv
            obtain ⟨b'', o'', e2, _, d0⟩ := (hs.below hb (Nat.le_refl _)).at1 hq rfl
            simp at e2; obtain ⟨rfl, rfl⟩ := e2
            have z0 : ((k : Int) == 0) = false := by simp; omega
            have zg : decide (0 < (k : Int)) = true := by simp; omega
            clear hq
            have ag : (Value.slice Ar done.length cr).ownBlock ≠ some b := fun hx => by have := (H0.out.lt b hx).1; omega
            go_wp2
            go_region_held3 (fun w' => w'.cell? ⟨b, o + k * 2, none⟩ = some (.int .i64 p.t) ∧ w'.cell? ⟨b, o + k * 2 + 1, none⟩ = some (.int .i64 p.m)) (first | go_keep | (go_split_ands; refine ⟨?_, ?_⟩ <;> (rw [hgrow.cell_far _ (by simp; omega) (Ne.symm ag)]; assumption)))
              ((refine step_append_lies _ (by rfl) _ _ _ (by rfl) w.heap.size 78 i0 _ 3 24 Try.underlying26 hi0 iz0 iz1 iz2 rfl (by omega) _ done.length _ (by rfl) ((H0.out.alloc _).drew) ⟨wr.heap.size, 0, none⟩ 1 1 [.int .i64 p.t, .int .i64 (-1), .int .i64 p.m] (by rfl) (by rfl) (World.news_of_block (cs := #[.int .i64 p.t, .int .i64 (-1), .int .i64 p.m]) (t := 78) (fr := (0, 0)) (heap_alloc_new wr _)) (by simp [Value.oneCell']) (by omega) (by unfold maxLen; omega) (by omega) (by simp; omega) (wr.heap.size + 1) (by simp) ?_; intro gg cap w1 hown1 hgrow hat hlt1))
            go_wp2
            go_roundw
            case rel => exact ⟨k + 1, done.length + 1, done, some ⟨p.t, -1, p.m⟩, by omega, by go_num, by simp, Below.apd hb hb.size H0.out (Nat.le_refl _) hgrow, by simpa [encAl] using hown1, by omega, hid (by rw [H.out, HS.out]; rfl), hid (by rw [if_neg (by omega)]; simp [hst.out]), fun a ha => by cases ha; exact ⟨p3, p4⟩⟩
            case measure => simp [intOf]; omega
      | some a =>
        obtain ⟨a1, a2⟩ := hcur a rfl
        have hk0 : ¬ k = 0 := by intro hk0; have := HQ.out; rw [if_pos hk0] at this; cases this
        obtain rfl : m = done.length + 1 := by simpa using hm
        have H0 : Hid (wr.ownsRow w.heap.size 78 3 (.slice Ar (done.length + 1) cr) (done.length + 1) (done.flatMap encAl ++ [.int .i64 a.b, .int .i64 a.e, .int .i64 a.p])) := hid (by simpa [encAl] using hown)
        have hown1 := H0.out
        clear hm
        obtain ⟨g, rfl, hlo, hgw⟩ := own_form hown1 (by omega)
        have hfl : (done.flatMap encAl).length = done.length * 3 := flat_len (k := 3) (fun _ => rfl) done
        have x0 : wr.cell? ⟨g, done.length * 3, none⟩ = some (.int .i64 a.b) := by have := hown1.cellAt (done.length * 3) (by omega); rw [List.getElem?_append_right (by omega)] at this; simpa [hfl] using this
        have x1 : wr.cell? ⟨g, done.length * 3 + 1, none⟩ = some (.int .i64 a.e) := by have := hown1.cellAt (done.length * 3 + 1) (by omega); rw [List.getElem?_append_right (by omega)] at this; simpa [hfl] using this
        have x2 : wr.cell? ⟨g, done.length * 3 + 2, none⟩ = some (.int .i64 a.p) := by have := hown1.cellAt (done.length * 3 + 2) (by omega); rw [List.getElem?_append_right (by omega)] at this; simpa [hfl] using this
        have y0 : wr.frozen? ⟨g, done.length * 3, none⟩ = false := hown1.frozenAt _
        have y1 : wr.frozen? ⟨g, done.length * 3 + 1, none⟩ = false := hown1.frozenAt _
        have y2 : wr.frozen? ⟨g, done.length * 3 + 2, none⟩ = false := hown1.frozenAt _
        clear hown hown1 hcur hfl
        obtain ⟨q, hq⟩ : ∃ q, ss[k-1]? = some q := getx (by omega)
        have hqv : q = true := by have := HQ.out; rw [if_neg (by omega), hq] at this; simpa using this.symm
        subst hqv
        obtain ⟨b'', o'', e2, _, d0⟩ := (hs.below hb (Nat.le_refl _)).at1 hq rfl
        simp at e2; obtain ⟨rfl, rfl⟩ := e2
        have z0 : ((k : Int) == 0) = false := by simp; omega
        have zg : decide (0 < (k : Int)) = true := by simp; omega
        clear hq
        cases s
        · go_wp2
          go_roundw
          case rel =>
            refine ⟨k + 1, done.length + 1, done ++ [⟨a.b, p.t, a.p⟩], none, by omega, by go_num, by simp, (by repeat (first | assumption | exact Below.refl _ _ | apply Below.al | apply Below.drewN' | apply Below.drew | (refine Below.sc ?_ (by first | omega | (simp; done) | (simp; omega)) _) | (apply Below.tr; assumption))), ?_, by omega, hid (by rw [H.out, HS.out]; rfl), hid (by rw [if_neg (by omega)]; simp [hst.out]), fun a ha => by cases ha⟩
            have hy := fun (W4 : World) (hW : Below wr.heap.size wr W4) => own_set3 (j := done.length * 3) (own_below H0.out hW (Nat.le_refl _)) (by rw [flat_len (k := 3) (fun _ => rfl)]) (.int .i64 a.b) (.int .i64 p.t) (.int .i64 a.p)
            have e9 : (done ++ [(⟨a.b, p.t, a.p⟩ : Al)] ++ (none : Option Al).toList).flatMap encAl = done.flatMap encAl ++ [.int .i64 a.b, .int .i64 p.t, .int .i64 a.p] := by simp [encAl]
            rw [e9]
            first
              | exact hy _ (by repeat (first | assumption | exact Below.refl _ _ | apply Below.al | apply Below.drewN' | apply Below.drew | (refine Below.sc ?_ (by first | omega | (simp; done) | (simp; omega)) _) | (apply Below.tr; assumption)))
              | exact own_below (hy wr (Below.refl _ _)) (Below.al (Below.refl _ _) _) (Nat.le_refl _)
          case measure => simp [intOf]; omega
        · by_cases gl : a.p < p.m
          · have g1' : decide (a.p < p.m) = true := by simpa using gl
            have g2' : decide (-1 * p.m < -1 * a.p) = true := by simp; omega
            have g3' : decide (-p.m < -a.p) = true := by simp; omega
            go_wp2
            refine wp_region_ext (by kernel_rfl) (by kernel_rfl) ?_
            repeat (go_big_quiet_step ((first | fail)))
            refine wpQuiet_nil ?_
            intro w3 hb3
            obtain ⟨hc_w3, hf_w3⟩ := bcell hb3
            have hz_w3 := hb3.size
            simp at hz_w3
            have b3 : b < w3.heap.size := by omega
            have gr3 : g < w3.heap.size := by omega
            go_wp2
            go_roundw
            case rel =>
              refine ⟨k + 1, done.length + 1, done, some ⟨a.b, a.e, p.m⟩, by omega, by go_num, by simp, (by repeat (first | assumption | exact Below.refl _ _ | apply Below.al | apply Below.drewN' | apply Below.drew | (refine Below.sc ?_ (by first | omega | (simp; done) | (simp; omega)) _) | (apply Below.tr; assumption))), ?_, by omega, hid (by rw [H.out, HS.out]; simp only [alStep, wg]; rw [if_pos (by omega)]), hid (by rw [if_neg (by omega)]; simp [hst.out]), fun x hx => by cases hx; constructor <;> (simp only []; omega)⟩
              have hy := fun (W4 : World) (hW : Below wr.heap.size wr W4) => own_set3 (j := done.length * 3) (own_below H0.out hW (Nat.le_refl _)) (by rw [flat_len (k := 3) (fun _ => rfl)]) (.int .i64 a.b) (.int .i64 a.e) (.int .i64 p.m)
              have e9 : (done ++ (some (⟨a.b, a.e, p.m⟩ : Al)).toList).flatMap encAl = done.flatMap encAl ++ [.int .i64 a.b, .int .i64 a.e, .int .i64 p.m] := by simp [encAl]
              rw [e9]
              first
                | exact hy _ (by repeat (first | assumption | exact Below.refl _ _ | apply Below.al | apply Below.drewN' | apply Below.drew | (refine Below.sc ?_ (by first | omega | (simp; done) | (simp; omega)) _) | (apply Below.tr; assumption)))
                | exact own_below (hy wr (Below.refl _ _)) (Below.al (Below.refl _ _) _) (Nat.le_refl _)
            case measure => simp [intOf]; omega
          · have g1' : decide (a.p < p.m) = false := by simpa using gl
            have g2' : decide (-1 * p.m < -1 * a.p) = false := by simp; omega
            have g3' : decide (-p.m < -a.p) = false := by simp; omega
            go_wp2
            refine wp_region_ext (by kernel_rfl) (by kernel_rfl) ?_
            repeat (go_big_quiet_step ((first | fail)))
            refine wpQuiet_nil ?_
            intro w3 hb3
            obtain ⟨hc_w3, hf_w3⟩ := bcell hb3
            have hz_w3 := hb3.size
            simp at hz_w3
            have b3 : b < w3.heap.size := by omega
            have gr3 : g < w3.heap.size := by omega
            go_wp2
            go_roundw
            case rel =>
              refine ⟨k + 1, done.length + 1, done, some ⟨a.b, a.e, a.p⟩, by omega, by go_num, by simp, (by repeat (first | assumption | exact Below.refl _ _ | apply Below.al | apply Below.drewN' | apply Below.drew | (refine Below.sc ?_ (by first | omega | (simp; done) | (simp; omega)) _) | (apply Below.tr; assumption))), ?_, by omega, hid (by rw [H.out, HS.out]; simp only [alStep, wg]; rw [if_neg (by omega)]), hid (by rw [if_neg (by omega)]; simp [hst.out]), fun x hx => by cases hx; constructor <;> (simp only []; omega)⟩
              have hy := fun (W4 : World) (hW : Below wr.heap.size wr W4) => own_set3 (j := done.length * 3) (own_below H0.out hW (Nat.le_refl _)) (by rw [flat_len (k := 3) (fun _ => rfl)]) (.int .i64 a.b) (.int .i64 a.e) (.int .i64 a.p)
              have e9 : (done ++ (some (⟨a.b, a.e, a.p⟩ : Al)).toList).flatMap encAl = done.flatMap encAl ++ [.int .i64 a.b, .int .i64 a.e, .int .i64 a.p] := by simp [encAl]
              rw [e9]
              first
                | exact hy _ (by repeat (first | assumption | exact Below.refl _ _ | apply Below.al | apply Below.drewN' | apply Below.drew | (refine Below.sc ?_ (by first | omega | (simp; done) | (simp; omega)) _) | (apply Below.tr; assumption)))
                | exact own_below (hy wr (Below.refl _ _)) (Below.al (Below.refl _ _) _) (Nat.le_refl _)
            case measure => simp [intOf]; omega
    · obtain rfl : k = xs.length := by omega
      have HE : Hid (alRun wg [] none xs ss = done ++ cur.toList) := hid (by rw [H.out, List.drop_eq_nil_of_le (by omega)]; rfl)
      subst hm
      have H0 := hid hown
      clear hown
      go_wp2
      go_ret
      exact ⟨Ar, cr, by rw [HE.out]; simp, by rw [HE.out]; exact H0.out, hb⟩
end Go.Proofs.Ytpfdfbebeckohaa
