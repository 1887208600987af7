/- Contract: the reference's noting of all links but some. -/
import Derived.Test.YtalongdieglibaaC20s
namespace Go.Proofs.Ytalongdieglibaa
open Go.RowKit
set_option linter.unusedVariables false
theorem grow_frz {W w2 : World} {ob : Obj} {v : Value} {g off : Nat} (hg : (W.alloc ob).grownBy w2 v.ownBlock) (ag : v.ownBlock ≠ some g) (hlt : g < W.heap.size) (hc : W.frozen? ⟨g, off, none⟩ = false) : w2.frozen? ⟨g, off, none⟩ = false := by
  have h1 : (W.alloc ob).frozen? ⟨g, off, none⟩ = W.frozen? ⟨g, off, none⟩ := World.frozen?_alloc_old W _ _ (by simp; omega)
  have h2 : w2.frozen? ⟨g, off, none⟩ = (W.alloc ob).frozen? ⟨g, off, none⟩ := World.frozen?_of_block (hg.block g (by simp; omega) (Ne.symm ag))
  rw [h2, h1, hc]
theorem JnOk.wider {n : Nat} {M M' : Int} {p : Jn} (h : JnOk n M p) (hM : M ≤ M') : JnOk n M' p := ⟨h.lf, h.ln, h.fb, fun i x hx => by have := h.nb i x hx; omega⟩
theorem l00Has_eq {xs : List Int} {n : Int} {v : Bool} (hv : xs.contains n = v) (A : Option Addr) (c : Nat) (w : World) (h : Rd encI 1 w w.heap.size A xs) (hn : xs.length ≤ 1048576) :
    Calls Try.prog 44 #[.slice A xs.length c, .int .i64 n] w fun e w' => e = .returned (.bool v) ∧ Below w.heap.size w w' := by
  subst hv; exact l00Has_any A c xs n w h hn
set_option maxRecDepth 20000 in
set_option maxHeartbeats 8000000 in
theorem l20Join_any (n : Nat) (A : Option Addr) (c : Nat) (xs : List Lk) (A' : Option Addr) (c' : Nat) (ws : List Int) (w : World) (h : Rd encLk 3 w w.heap.size A xs) (h' : Rd encI 1 w w.heap.size A' ws) (n1 : 1 ≤ n) (n2 : n ≤ 10) (hn : xs.length ≤ 12) (hn' : ws.length ≤ 1048576)
    (V : Hid (∀ (k : Nat) (p : Lk), xs[k]? = some p → 0 ≤ p.a ∧ p.a < p.b ∧ p.b < n ∧ -5000 ≤ p.d ∧ p.d ≤ 5000)) :
    Calls Try.prog 32 #[.int .i64 (n : Int), .slice A xs.length c, .slice A' ws.length c'] w fun e w' => ∃ g, e = .returned (.pointer (some ⟨g, 0, none⟩)) ∧ JnW w' w.heap.size g n (jnGo ws (jn0 n) 0 xs) ∧ Below w.heap.size w w' := by
  obtain ⟨i0, hi0, iz0, iz1, iz2⟩ := info_parts (P := Try.prog) (e := 2) (z := .int .i64 0) (size := 1) (bytes := 8) (by kernel_rfl)
  go_enter Try.func32, Try.ntmps32
  go_wp2_with (at_make; refine wpList_make_full _ rfl _ _ 36 rfl w.heap.size 2 i0 _ 1 Try.underlying36 hi0 iz0 iz1 _ _ _ _ n rfl rfl rfl rfl (by rw [iz2]; omega) (by unfold maxLen; omega) (Nat.le_refl _) ?_; intro w1 hown1 hg1)
  have hb1 : Below w.heap.size w w1 := (Below.refl _ _).grown hg1 (Nat.le_refl _) (by simp)
  have z1 : w.heap.size < w1.heap.size := (hown1.lt w.heap.size rfl).2
  have oN1 : w1.ownsRow w.heap.size 2 1 ((.slice (some ⟨w.heap.size, 0, none⟩) n n)) n (List.replicate n (.int .i64 0)) := by (have t := hown1; rw [show (madeCells (Value.cells (.int .i64 0)) (n * 1)).toList = List.replicate n (.int .i64 0) from by rw [Nat.mul_one]; exact toList_madeCells_one _ _] at t; exact t)
  have hb2 : Below w.heap.size w (w1.alloc (.cells #[.slice none 0 0, .slice (some ⟨w.heap.size, 0, none⟩) n n, .bool true] 56)) := Below.al hb1 _
  have s0 := hid (show (w1.alloc (.cells #[.slice none 0 0, .slice (some ⟨w.heap.size, 0, none⟩) n n, .bool true] 56)).cell? ⟨w1.heap.size, 0, none⟩ = some (.slice none 0 0) by simp [go_sem])
  have s1 := hid (show (w1.alloc (.cells #[.slice none 0 0, .slice (some ⟨w.heap.size, 0, none⟩) n n, .bool true] 56)).cell? ⟨w1.heap.size, 1, none⟩ = some (.slice (some ⟨w.heap.size, 0, none⟩) n n) by simp [go_sem])
  have s2 := hid (show (w1.alloc (.cells #[.slice none 0 0, .slice (some ⟨w.heap.size, 0, none⟩) n n, .bool true] 56)).cell? ⟨w1.heap.size, 2, none⟩ = some (.bool true) by simp [go_sem])
  have s3 := hid (show (w1.alloc (.cells #[.slice none 0 0, .slice (some ⟨w.heap.size, 0, none⟩) n n, .bool true] 56)).frozen? ⟨w1.heap.size, 0, none⟩ = false by simp [go_sem])
  have s4 := hid (show (w1.alloc (.cells #[.slice none 0 0, .slice (some ⟨w.heap.size, 0, none⟩) n n, .bool true] 56)).frozen? ⟨w1.heap.size, 2, none⟩ = false by simp [go_sem])
  have s5 := hid (show w1.heap.size < (World.heap (w1.alloc (.cells #[.slice none 0 0, .slice (some ⟨w.heap.size, 0, none⟩) n n, .bool true] 56))).size by simp)
  have s6 : Hid ((w1.alloc (.cells #[.slice none 0 0, .slice (some ⟨w.heap.size, 0, none⟩) n n, .bool true] 56)).ownsRow w.heap.size 2 1 ((.slice (some ⟨w.heap.size, 0, none⟩) n n)) n (List.replicate n (.int .i64 0))) := hid (oN1.alloc _)
  have hB := hid hb2
  clear hown1 oN1 hg1 hb1 hb2
  generalize (w1.alloc (.cells #[.slice none 0 0, .slice (some ⟨w.heap.size, 0, none⟩) n n, .bool true] 56)) = W2 at *
  generalize w1.heap.size = g at *
  go_loopw [8] (fun i wr => ∃ (k : Nat) (v : Value), k ≤ n ∧ i = .int .i64 k ∧ Below w.heap.size w wr ∧ g < wr.heap.size ∧ wr.cell? ⟨g, 0, none⟩ = some v ∧ wr.cell? ⟨g, 1, none⟩ = some (.slice (some ⟨w.heap.size, 0, none⟩) n n) ∧ wr.cell? ⟨g, 2, none⟩ = some (.bool true) ∧ wr.frozen? ⟨g, 0, none⟩ = false ∧ wr.frozen? ⟨g, 2, none⟩ = false ∧ v.ownBlock ≠ some g ∧ v.ownBlock ≠ some w.heap.size ∧
      wr.ownsRow w.heap.size 2 1 (v) k (fI ((List.range k).map fun (i : Nat) => (i : Int))) ∧ wr.ownsRow w.heap.size 2 1 ((.slice (some ⟨w.heap.size, 0, none⟩) n n)) n (List.replicate n (.int .i64 0))) (fun i _ => n - (intOf i).toNat)
  case atStart => exact ⟨0, .slice none 0 0, Nat.zero_le _, rfl, hB.out, s5.out, s0.out, s1.out, s2.out, s3.out, s4.out, by simp [Value.ownBlock], by simp [Value.ownBlock], World.ownsRow_nil _ _ _ _, s6.out⟩
  case round =>
    clear s0 s1 s2 s3 s4 s5 s6 hB
    obtain ⟨k, v, hk, rfl, hb, gz, c0, c1, c2, f0, f2, ag, agN, oF, oN⟩ := hrel
    have hsz := hb.size
    obtain ⟨Ar, cr, rfl⟩ := own_shape oF
    by_cases hlt : k < n
    · have H0 := hid oF
      have HN := hid oN
      have gzN : w.heap.size < wr.heap.size := (oN.lt _ rfl).2
      clear oF oN
      go_wp2_with (at_builtin; go_must (refine wpList_append_own_at _ rfl _ _ 36 rfl (w.heap.size) 2 i0 _ 1 8 Try.underlying36 hi0 iz0 iz1 iz2 rfl (by decide) _ _ _ rfl (H0.out.alloc _) ⟨(wr).heap.size, 0, none⟩ 1 1 [.int .i64 (k : Nat)] rfl rfl (news_at wr [.int .i64 (k : Nat)] 2) (by simp [Value.oneCell']) (by unfold maxLen; omega) (by omega) (by first | omega | (simp; done) | (simp; omega)) ?_); intro v2 w4 own_w4 grow_w4 _ at_w4; have x0 := grow_box grow_w4 ag gz c0; have x1 := grow_box grow_w4 ag gz c1; have x2 := grow_box grow_w4 ag gz c2; have y0 := grow_frz grow_w4 ag gz f0; have y2 := grow_frz grow_w4 ag gz f2; obtain ⟨Ar2, cr2, rfl⟩ := own_shape own_w4)
      go_roundw
      case rel =>
        have ag2 := grow_ne at_w4 ag gz
        have agN2 := grow_ne at_w4 agN gzN
        have hb4 := Below.ap hb hb.size H0.out (Nat.le_refl _) grow_w4
        have hg := grown_set w4 g 0 (.slice Ar2 (k + 1) cr2)
        refine ⟨k + 1, .slice Ar2 (k + 1) cr2, by omega, by go_num, hb4.setCell (p := ⟨g, 0, none⟩) (Nat.le_of_lt z1) _, Nat.lt_of_lt_of_le gz (Nat.le_trans (by have := grow_w4.size; simp at this; omega) hg.size), by simp [go_sem, x0], by simp [go_sem, x1], by simp [go_sem, x2], by rw [World.frozen?_setCell]; exact y0, by rw [World.frozen?_setCell]; exact y2, ag2, agN2, ?_, ?_⟩
        · have t := own_w4.kept hg (.inr ag2)
          rw [List.range_succ]
          simpa [fI] using t
        · exact ((HN.out.alloc _).kept grow_w4 (.inr (Ne.symm agN))).kept hg (.inr (by simp [Value.ownBlock]; omega))
      case measure => simp [intOf]; omega
    · obtain rfl : n = k := by omega
      obtain ⟨gF, hA, q1, q2⟩ := own_form oF (by omega)
      subst hA
      have JW0 : Hid (JnW wr w.heap.size g n (jn0 n)) := hid ⟨gF, cr, w.heap.size, n, by omega, gz, fun e => ag (by rw [e]; rfl), by omega, fun e => agN (by rw [e]; rfl), c0, c1, c2, f2, oF, by have t := oN; simpa [jn0, fI] using t⟩
      clear c0 c1 c2 f0 f2 oF oN ag agN q1 q2 hk hlt hsz
      go_wp2
      go_loopw [9] (fun i wr => ∃ (k : Nat) (p : Jn), k ≤ xs.length ∧ i = .int .i64 k ∧ Below w.heap.size w wr ∧ JnW wr w.heap.size g n p ∧ Hid (JnOk n (bdN k) p) ∧ Hid (jnGo ws (jn0 n) 0 xs = jnGo ws p k (xs.drop k))) (fun i _ => xs.length - (intOf i).toNat)
      case atStart => exact ⟨0, jn0 n, Nat.zero_le _, rfl, hb, JW0.out, hid (jn0_ok n), hid rfl⟩
      case round =>
        clear hb JW0 gz
        obtain ⟨k, p, hk, rfl, hb, JW, JK, H⟩ := hrel
        have hsz := hb.size
        by_cases hlt : k < xs.length
        · obtain ⟨q, hq⟩ := getx hlt
          obtain ⟨a, b, d⟩ := q
          obtain ⟨bb, o, rfl, hbB, c0, c1, c2⟩ := (h.below hb (Nat.le_refl _)).at3 hq rfl
          obtain ⟨q1, q2, q3, q4, q5⟩ := V.out k _ hq
          simp only at q1 q2 q3 q4 q5 c0 c1 c2
          obtain ⟨a, rfl⟩ : ∃ n : Nat, a = n := ⟨a.toNat, by omega⟩
          obtain ⟨b, rfl⟩ : ∃ n : Nat, b = n := ⟨b.toNat, by omega⟩
          have HS : Hid (jnGo ws p k (xs.drop k) = jnGo ws (if ws.contains (k : Int) then p else jnStep p ⟨a, b, d⟩) (k + 1) (xs.drop (k+1))) := by rw [dropx hq]; rfl
          obtain ⟨M0, M1⟩ := bdN_le (k := k) (by omega)
          have zb : bb < wr.heap.size := by omega
          have hm := bdN_mono 1 k
          have HO : Hid (JnOk n (bdN (k + 1)) (jnStep p ⟨a, b, d⟩)) := hid (jnStep_ok JK.out M0 (V.out k _ hq))
          have HO2 : Hid (JnOk n (bdN (k + 1)) p) := hid (JK.out.wider hm)
          have JH := hid JW
          clear hq JW hm
          cases hw : ws.contains (k : Int)
          · go_wp2_with (go_at_call 44; refine (l00Has_eq hw A' c' _ (((h'.below hb (Nat.le_refl _)).more hb.size)) hn').mono ?_; rintro e w5 ⟨rfl, hb5⟩; obtain ⟨hc_w5, hf_w5⟩ := bcell hb5; have hz_w5 := hb5.size; (try simp at hz_w5); (try have g_w5 : w.heap.size < w5.heap.size := (by omega)); (have zb5 : bb < w5.heap.size := (by omega)); (have JW5 : JnW w5 w.heap.size g n p := (by obtain ⟨gF, cF, gN, cN, t⟩ := JH.out; exact ⟨gF, cF, gN, cN, t.below hb5⟩)))
            refine (l20Add_any n w.heap.size g p (bdN k) a b d _ JW5 (by omega) JK M0 M1 (by omega) (by omega) q4 q5 n2).mono ?_
            rintro e w6 ⟨rfl, JW6, hb6⟩
            go_wp2
            go_roundw
            case rel => exact ⟨k + 1, _, by omega, by go_num, (Below.tr hb5 hb).trans hb6, JW6, HO, hid (by rw [H.out, HS.out, hw]; rfl)⟩
            case measure => simp [intOf]; omega
          · go_wp2_with (go_at_call 44; refine (l00Has_eq hw A' c' _ (((h'.below hb (Nat.le_refl _)).more hb.size)) hn').mono ?_; rintro e w5 ⟨rfl, hb5⟩; obtain ⟨hc_w5, hf_w5⟩ := bcell hb5; have hz_w5 := hb5.size; (try simp at hz_w5); (try have g_w5 : w.heap.size < w5.heap.size := (by omega)))
            go_roundw
            case rel => exact ⟨k + 1, p, by omega, by go_num, Below.tr hb5 hb, (by obtain ⟨gF, cF, gN, cN, t⟩ := JH.out; exact ⟨gF, cF, gN, cN, t.below hb5⟩), HO2, hid (by rw [H.out, HS.out, hw]; rfl)⟩
            case measure => simp [intOf]; omega
        · have HE : Hid (jnGo ws (jn0 n) 0 xs = p) := hid (by rw [H.out, List.drop_eq_nil_of_le (by omega)]; rfl)
          have JH := hid JW
          clear JW
          go_wp2
          go_ret
          exact ⟨g, rfl, by rw [HE.out]; exact JH.out, hb⟩
end Go.Proofs.Ytalongdieglibaa
