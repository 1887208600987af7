/- Contracts: magnitudes with far ones left out again and again, in the program and in the reference. -/
import Derived.Test.YtfohoidbiiipgaaC21e
namespace Go.Proofs.Ytfohoidbiiipgaa
open Go.RowKit
set_option linter.unusedVariables false
def lenV : Value → Nat
  | .slice _ n _ => n
  | _ => 0
def cpV (xs : List Int) (t : Int) : List Int := if wfC xs t = 0 then clipN t xs.length xs else []
theorem cpV_len (xs : List Int) (t : Int) : (cpV xs t).length ≤ xs.length := by
  unfold cpV; split
  · exact clipN_len t _ xs
  · simp
set_option maxRecDepth 20000 in
set_option maxHeartbeats 2000000 in
theorem specClipMags_any (A : Option Addr) (c : Nat) (xs : List Int) (t : Int) (w : World) (h : Rd encI 1 w w.heap.size A xs) (hn : xs.length ≤ 1048576) (hz : A = none → c = 0) :
    Calls Try.prog 17 #[.slice A xs.length c, .int .i64 t] w (OwnTup 2 1 encI (cpV xs t) (wfC xs t) w) := by
  by_cases hc : wfC xs t = 0
  · obtain ⟨hm, hne, t0, t1⟩ := wfC_zero hc
    obtain ⟨hl, hx⟩ := magsB_true hm
    have HV : Hid (cpV xs t = clipN t xs.length xs) := hid (if_pos hc)
    have HR := hid (show ∀ x ∈ xs, -2000 ≤ x ∧ x ≤ 20000 from fun x hxm => by obtain ⟨k, hk⟩ := List.mem_iff_getElem?.1 hxm; exact hx k x hk)
    have HC := hid hc
    clear hc hm hx
    go_enter Try.func17, Try.ntmps17
    go_wp2_with fail
    refine (l21Times_any A c xs t _ h hn).mono ?_
    rw [HC.out]
    rintro e w1 ⟨rfl, hb1⟩
    go_wp2_with fail
    refine (l00Own_any A c xs _ ((h.below hb1 (Nat.le_refl _)).more hb1.size) hn hz).mono ?_
    rintro e w2 ⟨Ar, cr, rfl, own, hb2⟩
    have hb2' := Below.tr hb2 hb1
    have o2 := hid (own_lo own hb1.size)
    clear own hb1 hb2
    go_wp2_with fail
    go_loopw [7] (fun lv wr => ∃ (m : Nat) (Y : List Int) (Ay : Option Addr) (cy : Nat), lv = .slice Ay Y.length cy ∧ 0 < Y.length ∧ Y.length ≤ m ∧ m ≤ 100 ∧ Hid (∀ x ∈ Y, -2000 ≤ x ∧ x ≤ 20000) ∧ Hid (cpV xs t = clipN t m Y) ∧ Below w.heap.size w wr ∧ Hid (wr.ownsRow w.heap.size 2 1 (.slice Ay Y.length cy) Y.length (Y.flatMap encI))) (fun lv _ => lenV lv)
    case atStart => exact ⟨xs.length, xs, Ar, cr, rfl, hne, Nat.le_refl _, hl, HR, HV, hb2', o2⟩
    case round =>
      clear o2 hb2'
      obtain ⟨m, Y, Ay, cy, rfl, y0, ym, m1, RY, CY, hb, OW⟩ := hrel
      obtain ⟨m', rfl⟩ : ∃ m', m = m' + 1 := ⟨m - 1, by omega⟩
      have ry := rd_of_own (enc := encI) (k := 1) (fun _ => rfl) OW.out
      have hsz := hb.size
      have kl := kpL_len t Y
      have ks := kpL_some t0 y0 RY.out
      go_wp2_with fail
      refine (l21Kept_any Ay cy Y t _ ry y0 (by omega) RY.out t0 t1).mono ?_
      rintro e w4 ⟨Ak, ck, rfl, own, hb4⟩
      have hb4' := Below.tr hb4 hb
      have O4 := hid (own_lo own hsz)
      have OY := hid (own_below OW.out hb4 (Nat.le_refl _))
      clear own
      by_cases he : (kpL t Y).length = Y.length
      · have HE : Hid (cpV xs t = Y) := hid (by rw [CY.out, clipN, if_pos he])
        have he' : (((kpL t Y).length : Int) == (Y.length : Int)) = true := by simp; omega
        have he2 : ((kpL t Y).length == Y.length) = true := by simpa using he
        clear he
        go_wp2
        go_ret2
        exact ⟨Ay, cy, by rw [HE.out, HC.out]; rfl, by rw [HE.out]; exact OY.out, hb4'⟩
      · have HE : Hid (cpV xs t = clipN t m' (kpL t Y)) := hid (by rw [CY.out, clipN, if_neg he])
        have he' : (((kpL t Y).length : Int) == (Y.length : Int)) = false := by simp; omega
        have he2 : ((kpL t Y).length == Y.length) = false := by simpa using he
        have hlt : (kpL t Y).length < Y.length := by omega
        go_wp2
        go_roundw
        case rel => exact ⟨m', kpL t Y, Ak, ck, rfl, ks, by omega, by omega, hid (fun x hx => RY.out x (kpL_in hx)), HE, hb4', O4⟩
        case measure => simp [lenV]; omega
  · have HN : (wfC xs t != 0) = true := by simp [hc]
    have HV : Hid (cpV xs t = []) := hid (if_neg hc)
    clear hc
    go_enter Try.func17, Try.ntmps17
    go_wp2_with fail
    refine (l21Times_any A c xs t _ h hn).mono ?_
    rintro e w1 ⟨rfl, hb1⟩
    go_wp2
    go_ret2
    exact ⟨none, 0, by rw [HV.out]; rfl, by rw [HV.out]; exact World.ownsRow_nil _ _ _ _, hb1⟩
set_option maxRecDepth 20000 in
set_option maxHeartbeats 2000000 in
theorem implClipMags_any (A : Option Addr) (c : Nat) (xs : List Int) (t : Int) (w : World) (h : Rd encI 1 w w.heap.size A xs) (hn : xs.length ≤ 1048576) (hz : A = none → c = 0) :
    Calls Try.prog 18 #[.slice A xs.length c, .int .i64 t] w (OwnTup 2 1 encI (cpV xs t) (wfC xs t) w) := by
  by_cases hc : wfC xs t = 0
  · obtain ⟨hm, hne, t0, t1⟩ := wfC_zero hc
    obtain ⟨hl, hx⟩ := magsB_true hm
    have HV : Hid (cpV xs t = clipN t xs.length xs) := hid (if_pos hc)
    have HR := hid (show ∀ x ∈ xs, -2000 ≤ x ∧ x ≤ 20000 from fun x hxm => by obtain ⟨k, hk⟩ := List.mem_iff_getElem?.1 hxm; exact hx k x hk)
    have HC := hid hc
    clear hc hm hx
    go_enter Try.func18, Try.ntmps18
    go_wp2_with fail
    refine (withFactor_any A c xs t _ h hn).mono ?_
    rw [HC.out]
    rintro e w1 ⟨rfl, hb1⟩
    go_wp2_with fail
    refine (copyOfInt64_any A c xs _ ((h.below hb1 (Nat.le_refl _)).more hb1.size) hn hz).mono ?_
    rintro e w2 ⟨Ar, cr, rfl, own, hb2⟩
    have hb2' := Below.tr hb2 hb1
    have o2 := hid (own_lo own hb1.size)
    clear own hb1 hb2
    go_wp2_with fail
    go_loopw [7] (fun lv wr => ∃ (m : Nat) (Y : List Int) (Ay : Option Addr) (cy : Nat), lv = .slice Ay Y.length cy ∧ 0 < Y.length ∧ Y.length ≤ m ∧ m ≤ 100 ∧ Hid (∀ x ∈ Y, -2000 ≤ x ∧ x ≤ 20000) ∧ Hid (cpV xs t = clipN t m Y) ∧ Below w.heap.size w wr ∧ Hid (wr.ownsRow w.heap.size 2 1 (.slice Ay Y.length cy) Y.length (Y.flatMap encI))) (fun lv _ => lenV lv)
    case atStart => exact ⟨xs.length, xs, Ar, cr, rfl, hne, Nat.le_refl _, hl, HR, HV, hb2', o2⟩
    case round =>
      clear o2 hb2'
      obtain ⟨m, Y, Ay, cy, rfl, y0, ym, m1, RY, CY, hb, OW⟩ := hrel
      obtain ⟨m', rfl⟩ : ∃ m', m = m' + 1 := ⟨m - 1, by omega⟩
      have ry := rd_of_own (enc := encI) (k := 1) (fun _ => rfl) OW.out
      have hsz := hb.size
      have kl := kpL_len t Y
      have ks := kpL_some t0 y0 RY.out
      go_wp2_with fail
      refine (kept_any Ay cy Y t _ ry y0 (by omega) RY.out t0 t1).mono ?_
      rintro e w4 ⟨Ak, ck, rfl, own, hb4⟩
      have hb4' := Below.tr hb4 hb
      have O4 := hid (own_lo own hsz)
      have OY := hid (own_below OW.out hb4 (Nat.le_refl _))
      clear own
      by_cases he : (kpL t Y).length = Y.length
      · have HE : Hid (cpV xs t = Y) := hid (by rw [CY.out, clipN, if_pos he])
        have he' : (((kpL t Y).length : Int) == (Y.length : Int)) = true := by simp; omega
        have he2 : ((kpL t Y).length == Y.length) = true := by simpa using he
        clear he
        go_wp2
        go_ret2
        exact ⟨Ay, cy, by rw [HE.out, HC.out]; rfl, by rw [HE.out]; exact OY.out, hb4'⟩
      · have HE : Hid (cpV xs t = clipN t m' (kpL t Y)) := hid (by rw [CY.out, clipN, if_neg he])
        have he' : (((kpL t Y).length : Int) == (Y.length : Int)) = false := by simp; omega
        have he2 : ((kpL t Y).length == Y.length) = false := by simpa using he
        have hlt : (kpL t Y).length < Y.length := by omega
        go_wp2
        go_roundw
        case rel => exact ⟨m', kpL t Y, Ak, ck, rfl, ks, by omega, by omega, hid (fun x hx => RY.out x (kpL_in hx)), HE, hb4', O4⟩
        case measure => simp [lenV]; omega
  · have HN : (wfC xs t != 0) = true := by simp [hc]
    have HV : Hid (cpV xs t = []) := hid (if_neg hc)
    clear hc
    go_enter Try.func18, Try.ntmps18
    go_wp2_with fail
    refine (withFactor_any A c xs t _ h hn).mono ?_
    rintro e w1 ⟨rfl, hb1⟩
    go_wp2
    go_ret2
    exact ⟨none, 0, by rw [HV.out]; rfl, by rw [HV.out]; exact World.ownsRow_nil _ _ _ _, hb1⟩
end Go.Proofs.Ytfohoidbiiipgaa
