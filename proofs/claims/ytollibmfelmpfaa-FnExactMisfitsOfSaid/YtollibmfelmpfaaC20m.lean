/- Contracts: the misfits of links, in the program and in the reference. -/
import Derived.Test.YtollibmfelmpfaaC20a
import Derived.Test.YtollibmfelmpfaaCInt
import Derived.Deep.RegionHeld3
import Derived.Deep.AppendLies
namespace Go.Proofs.Ytollibmfelmpfaa
open Go.RowKit
set_option linter.unusedVariables false
def mfC (stars : Int) (xs : List Lk) (os : List Int) : Int := if vlB stars xs = true then (if (os.length : Int) = stars ∧ (os.all fun x => inB x (-100000) 100000) = true then 0 else 2) else 1
def mfE (os : List Int) (l : Lk) : Int := l.d - (os.getD l.b.toNat 0 - os.getD l.a.toNat 0)
def mfV (stars : Int) (xs : List Lk) (os : List Int) : List Int := if mfC stars xs os = 0 then xs.map (mfE os) else []
theorem mfV_len (stars : Int) (xs : List Lk) (os : List Int) : (mfV stars xs os).length ≤ xs.length := by unfold mfV; split <;> simp
theorem vlB_at {stars : Int} {xs : List Lk} (h : vlB stars xs = true) : 1 ≤ stars ∧ stars ≤ 10 ∧ xs.length ≤ 12 ∧ ∀ (k : Nat) (p : Lk), xs[k]? = some p → 0 ≤ p.a ∧ p.a < p.b ∧ p.b < stars ∧ -5000 ≤ p.d ∧ p.d ≤ 5000 := by
  simp only [vlB, Bool.and_eq_true, inB_true, decide_eq_true_eq, List.all_eq_true] at h
  refine ⟨h.1.1, h.1.2, h.2.1, fun k p hp => ?_⟩
  have := h.2.2 p (List.mem_of_getElem? hp)
  simp only [lkB, Bool.and_eq_true, decide_eq_true_eq, inB_true] at this
  omega
theorem all_at {os : List Int} {lo hi : Int} (h : (os.all fun x => inB x lo hi) = true) : ∀ (k : Nat) (p : Int), os[k]? = some p → lo ≤ p ∧ p ≤ hi := by
  intro k p hp
  rw [List.all_eq_true] at h
  exact inB_true.1 (h p (List.mem_of_getElem? hp))
theorem mfE_at {os : List Int} {a b : Nat} {d u v : Int} (ha : os[a]? = some u) (hb : os[b]? = some v) : mfE os ⟨a, b, d⟩ = d - (v - u) := by
  simp [mfE, List.getD_eq_getElem?_getD, ha, hb]
theorem apd20 {B base n gg cap : Nat} {w W W1 w2 : World} {o : Option Nat} {e : TypeId} {size : Nat} {ys : List Value} {v : Value} (hb : Below B w W) (hB : B ≤ W.heap.size) (own : W.ownsRow base e size v n ys) (hbase : B ≤ base)
    (hX : Below W.heap.size W W1) (hg : W1.grownBy w2 v.ownBlock) : Below B w w2 :=
  (hb.trans (hX.mono hB)).grown hg (Nat.le_trans hB hX.size) (fun k hk => Nat.le_trans hbase (own.lt k hk).1)
theorem countI_any (A : Option Addr) (n c : Nat) (w : World) :
    Calls Try.prog 30 #[.slice A n c] w fun e w' => e = .returned (.int .i64 (n : Int)) ∧ w = w' := by
  go_enter Try.func30, Try.ntmps30
  go_wp2
  go_ret
  exact ⟨rfl, rfl⟩
set_option maxRecDepth 20000 in
set_option maxHeartbeats 4000000 in
theorem implMisfitsOf_any (stars : Int) (A : Option Addr) (c : Nat) (xs : List Lk) (A' : Option Addr) (c' : Nat) (os : List Int) (w : World) (h : Rd encLk 3 w w.heap.size A xs) (hn : xs.length ≤ 1048576) (h' : Rd encI 1 w w.heap.size A' os) (hn' : os.length ≤ 1048576) :
    Calls Try.prog 14 #[.int .i64 stars, .slice A xs.length c, .slice A' os.length c'] w (OwnTup 2 1 encI (mfV stars xs os) (mfC stars xs os) w) := by
  cases h1 : vlB stars xs
  · have HC : Hid (mfC stars xs os = 1) := by simp [Hid, mfC, h1]
    have HV : Hid (mfV stars xs os = []) := by simp [Hid, mfV, HC.out]
    go_enter Try.func14, Try.ntmps14
    go_wp2_with (first | (go_at_call 26; refine (implValidLinks_any _ A c xs _ h hn).mono ?_; rintro e w1 ⟨rfl, hb1⟩; obtain ⟨hc_w1, hf_w1⟩ := bcell hb1; have hz_w1 := hb1.size; (try simp at hz_w1); (try have g_w1 : w.heap.size < w1.heap.size := (by omega))) | (go_at_call 30; refine (countI_any _ _ _ _).mono ?_; rintro e w' ⟨rfl, rfl⟩) | (go_at_call 31; refine (allIn_any _ _ A' c' os _ ((h'.below (B' := w.heap.size) (by repeat (first | assumption | exact Below.refl _ _ | apply Below.al | apply Below.drewN' | apply Below.drew | (apply Below.tr; assumption))) (Nat.le_refl _)).more (by omega)) hn').mono ?_; rintro e w2 ⟨rfl, hb2⟩; obtain ⟨hc_w2, hf_w2⟩ := bcell hb2; have hz_w2 := hb2.size))
    go_ret2
    exact ⟨none, 0, by rw [HV.out, HC.out]; rfl, by rw [HV.out]; exact World.ownsRow_nil _ _ _ _, (by repeat (first | assumption | exact Below.refl _ _ | apply Below.al | apply Below.drewN' | apply Below.drew | (apply Below.tr; assumption)))⟩
  by_cases h2 : (os.length : Int) = stars
  rotate_left
  · have h2' : ((os.length : Int) != stars) = true := by simpa using h2
    have HC : Hid (mfC stars xs os = 2) := by simp [Hid, mfC, h1, h2]
    have HV : Hid (mfV stars xs os = []) := by simp [Hid, mfV, HC.out]
    go_enter Try.func14, Try.ntmps14
    go_wp2_with (first | (go_at_call 26; refine (implValidLinks_any _ A c xs _ h hn).mono ?_; rintro e w1 ⟨rfl, hb1⟩; obtain ⟨hc_w1, hf_w1⟩ := bcell hb1; have hz_w1 := hb1.size; (try simp at hz_w1); (try have g_w1 : w.heap.size < w1.heap.size := (by omega))) | (go_at_call 30; refine (countI_any _ _ _ _).mono ?_; rintro e w' ⟨rfl, rfl⟩) | (go_at_call 31; refine (allIn_any _ _ A' c' os _ ((h'.below (B' := w.heap.size) (by repeat (first | assumption | exact Below.refl _ _ | apply Below.al | apply Below.drewN' | apply Below.drew | (apply Below.tr; assumption))) (Nat.le_refl _)).more (by omega)) hn').mono ?_; rintro e w2 ⟨rfl, hb2⟩; obtain ⟨hc_w2, hf_w2⟩ := bcell hb2; have hz_w2 := hb2.size))
    go_ret2
    exact ⟨none, 0, by rw [HV.out, HC.out]; rfl, by rw [HV.out]; exact World.ownsRow_nil _ _ _ _, (by repeat (first | assumption | exact Below.refl _ _ | apply Below.al | apply Below.drewN' | apply Below.drew | (apply Below.tr; assumption)))⟩
  subst h2
  cases h3 : os.all fun x => inB x (-100000) 100000
  · have HC : Hid (mfC (os.length : Int) xs os = 2) := by simp [Hid, mfC, h1, h3]
    have HV : Hid (mfV (os.length : Int) xs os = []) := by simp [Hid, mfV, HC.out]
    go_enter Try.func14, Try.ntmps14
    go_wp2_with (first | (go_at_call 26; refine (implValidLinks_any _ A c xs _ h hn).mono ?_; rintro e w1 ⟨rfl, hb1⟩; obtain ⟨hc_w1, hf_w1⟩ := bcell hb1; have hz_w1 := hb1.size; (try simp at hz_w1); (try have g_w1 : w.heap.size < w1.heap.size := (by omega))) | (go_at_call 30; refine (countI_any _ _ _ _).mono ?_; rintro e w' ⟨rfl, rfl⟩) | (go_at_call 31; refine (allIn_any _ _ A' c' os _ ((h'.below (B' := w.heap.size) (by repeat (first | assumption | exact Below.refl _ _ | apply Below.al | apply Below.drewN' | apply Below.drew | (apply Below.tr; assumption))) (Nat.le_refl _)).more (by omega)) hn').mono ?_; rintro e w2 ⟨rfl, hb2⟩; obtain ⟨hc_w2, hf_w2⟩ := bcell hb2; have hz_w2 := hb2.size))
    go_ret2
    exact ⟨none, 0, by rw [HV.out, HC.out]; rfl, by rw [HV.out]; exact World.ownsRow_nil _ _ _ _, (by repeat (first | assumption | exact Below.refl _ _ | apply Below.al | apply Below.drewN' | apply Below.drew | (apply Below.tr; assumption)))⟩
  have HC : Hid (mfC (os.length : Int) xs os = 0) := by simp [Hid, mfC, h1, h3]
  have HV : Hid (mfV (os.length : Int) xs os = xs.map (mfE os)) := by simp [Hid, mfV, HC.out]
  obtain ⟨s1, s2, s3, v⟩ := vlB_at h1
  have V := hid v
  have VO := hid (all_at h3)
  clear v
  obtain ⟨i0, hi0, iz0, iz1, iz2⟩ := info_parts (P := Try.prog) (e := 2) (z := .int .i64 0) (size := 1) (bytes := 8) (by kernel_rfl)
  go_enter Try.func14, Try.ntmps14
  go_wp2_with (first | (go_at_call 26; refine (implValidLinks_any _ A c xs _ h hn).mono ?_; rintro e w1 ⟨rfl, hb1⟩; obtain ⟨hc_w1, hf_w1⟩ := bcell hb1; have hz_w1 := hb1.size; (try simp at hz_w1); (try have g_w1 : w.heap.size < w1.heap.size := (by omega))) | (go_at_call 30; refine (countI_any _ _ _ _).mono ?_; rintro e w' ⟨rfl, rfl⟩) | (go_at_call 31; refine (allIn_any _ _ A' c' os _ ((h'.below (B' := w.heap.size) (by repeat (first | assumption | exact Below.refl _ _ | apply Below.al | apply Below.drewN' | apply Below.drew | (apply Below.tr; assumption))) (Nat.le_refl _)).more (by omega)) hn').mono ?_; rintro e w2 ⟨rfl, hb2⟩; obtain ⟨hc_w2, hf_w2⟩ := bcell hb2; have hz_w2 := hb2.size))
  have H1 := hid h1
  have H3 := hid h3
  clear h1 h3
  go_loopw [8, 29] (fun v i wr => ∃ k : Nat, k ≤ xs.length ∧ i = .int .i64 k ∧ Below w.heap.size w wr ∧ wr.ownsRow w.heap.size 2 1 v k (((xs.take k).map (mfE os)).flatMap encI)) (fun _ i _ => xs.length - (intOf i).toNat)
  case atStart => exact ⟨0, Nat.zero_le _, rfl, (by repeat (first | assumption | exact Below.refl _ _ | apply Below.al | apply Below.drewN' | apply Below.drew | (apply Below.tr; assumption))), own_lit0 _ _ _ (by first | omega | (simp; omega))⟩
  case round =>
    obtain ⟨k, hk, rfl, hb, hown⟩ := hrel
    have hsz := hb.size
    obtain ⟨Ar, cr, rfl⟩ := own_shape hown
    by_cases hlt : k < xs.length
    · obtain ⟨p, hp⟩ := getx hlt
      obtain ⟨pa, pb, pd⟩ := p
      obtain ⟨b, o, rfl, hbB, c0, c1, c2⟩ := (h.below hb (Nat.le_refl _)).at3 hp rfl
      obtain ⟨q1, q2, q3, q4, q5⟩ := V.out k _ hp
      simp only at q1 q2 q3 q4 q5 c0 c1 c2
      obtain ⟨ka, rfl⟩ : ∃ n : Nat, pa = n := ⟨pa.toNat, by omega⟩
      obtain ⟨kb, rfl⟩ : ∃ n : Nat, pb = n := ⟨pb.toNat, by omega⟩
      obtain ⟨u1, hu1⟩ : ∃ u, os[ka]? = some u := getx (by omega)
      obtain ⟨u2, hu2⟩ : ∃ u, os[kb]? = some u := getx (by omega)
      obtain ⟨b', o', rfl, hbB', d0⟩ := (h'.below hb (Nat.le_refl _)).at1 hu1 rfl
      obtain ⟨_, _, e1, _, d1⟩ := (h'.below hb (Nat.le_refl _)).at1 hu2 rfl
      simp at e1; obtain ⟨rfl, rfl⟩ := e1
      obtain ⟨r1, r2⟩ := VO.out _ _ hu1
      obtain ⟨r3, r4⟩ := VO.out _ _ hu2
      have b0 : b < wr.heap.size := by omega
      have b1 : b' < wr.heap.size := by omega
      have lka : ka < os.length := by omega
      have lkb : kb < os.length := by omega
      have HE : Hid (mfE os ⟨ka, kb, pd⟩ = (pd - (u2 - u1))) := hid (by rw [mfE_at hu1 hu2])
      have wr1 : IntKind.i64.wrap (u2 - u1) = u2 - u1 := IntWalk.i64_in _ (by omega)
      have wr3 : IntKind.i64.wrap (pd - u2) = pd - u2 := IntWalk.i64_in _ (by omega)
      have wr4 : IntKind.i64.wrap (pd - u2 + u1) = pd - u2 + u1 := IntWalk.i64_in _ (by omega)
      have wr2 : IntKind.i64.wrap (pd - (u2 - u1)) = pd - (u2 - u1) := IntWalk.i64_in _ (by omega)
      have HP := hid hp
      have H0 := hid hown
      have ag : (Value.slice Ar k cr).ownBlock ≠ some b := fun hx => by have := (H0.out.lt b hx).1; omega
      have ag' : (Value.slice Ar k cr).ownBlock ≠ some b' := fun hx => by have := (H0.out.lt b' hx).1; omega
      have ag2 : (Value.slice Ar k cr).ownBlock ≠ some wr.heap.size := fun hx => by have := (H0.out.lt _ hx).2; omega
      clear hp hu1 hu2 hown
      go_wp2
      go_region_held3 (fun w' => w'.cell? ⟨wr.heap.size, 0, none⟩ = some (.int .i64 (ka : Int)) ∧ w'.cell? ⟨wr.heap.size, 1, none⟩ = some (.int .i64 (kb : Int)) ∧ w'.cell? ⟨wr.heap.size, 2, none⟩ = some (.int .i64 pd) ∧ w'.cell? ⟨b', o' + ka, none⟩ = some (.int .i64 u1) ∧ w'.cell? ⟨b', o' + kb, none⟩ = some (.int .i64 u2)) (first | go_keep | (go_split_ands; refine ⟨?_, ?_, ?_, ?_, ?_⟩ <;> (first | (rw [hgrow.cell_far _ (by simp; omega) (Ne.symm ag)]; assumption) | (rw [hgrow.cell_far _ (by simp; omega) (Ne.symm ag')]; assumption) | (rw [hgrow.cell_far _ (by simp; omega) (Ne.symm ag2)]; assumption) | go_keep)))
        ((refine step_append_lies _ (by rfl) _ _ _ (by rfl) w.heap.size 2 i0 _ 1 8 Try.underlying30 hi0 iz0 iz1 iz2 rfl (by omega) _ k _ (by rfl) (((H0.out.alloc _).alloc _).drew) ⟨wr.heap.size + 1, 0, none⟩ 1 1 [.int .i64 (pd - (u2 - u1))] (by rfl) (by rfl) (World.news_of_block (cs := #[.int .i64 (pd - (u2 - u1))]) (t := 2) (fr := (0, 0)) (by have hh := heap_alloc_new (wr.alloc (.cells #[.int .i64 (ka : Int), .int .i64 (kb : Int), .int .i64 pd] 47)) (.cells #[.int .i64 (pd - (u2 - u1))] 2); rw [show (World.heap (wr.alloc (.cells #[.int .i64 (ka : Int), .int .i64 (kb : Int), .int .i64 pd] 47))).size = wr.heap.size + 1 from by simp] at hh; exact hh)) (by simp [Value.oneCell']) (by omega) (by unfold maxLen; omega) (by omega) (by simp; omega) (wr.heap.size + 2) (by simp) ?_; intro gg cap w1 hown1 hgrow hat hlt1))
      go_wp2
      go_roundw
      case rel => exact ⟨k + 1, by omega, by go_num, apd20 (gg := 0) (cap := 0) (o := none) hb hb.size H0.out (Nat.le_refl _) (by repeat (first | assumption | exact Below.refl _ _ | apply Below.al | apply Below.drewN' | apply Below.drew | (apply Below.tr; assumption))) hgrow, by rw [List.take_add_one, HP.out]; simpa [encI, HE.out] using hown1⟩
      case measure => simp [intOf]; omega
    · obtain rfl : k = xs.length := by omega
      have H0 := hid hown
      clear hown
      go_wp2
      go_ret2
      exact ⟨Ar, cr, by rw [HV.out, HC.out]; simp, by rw [HV.out]; have := H0.out; simpa using this, hb⟩
set_option maxRecDepth 20000 in
set_option maxHeartbeats 4000000 in
theorem specMisfitsOf_any (stars : Int) (A : Option Addr) (c : Nat) (xs : List Lk) (A' : Option Addr) (c' : Nat) (os : List Int) (w : World) (h : Rd encLk 3 w w.heap.size A xs) (hn : xs.length ≤ 1048576) (h' : Rd encI 1 w w.heap.size A' os) (hn' : os.length ≤ 1048576) :
    Calls Try.prog 12 #[.int .i64 stars, .slice A xs.length c, .slice A' os.length c'] w (OwnTup 2 1 encI (mfV stars xs os) (mfC stars xs os) w) := by
  cases h1 : vlB stars xs
  · have HC : Hid (mfC stars xs os = 1) := by simp [Hid, mfC, h1]
    have HV : Hid (mfV stars xs os = []) := by simp [Hid, mfV, HC.out]
    go_enter Try.func12, Try.ntmps12
    go_wp2_with (first | (go_at_call 23; refine (l20Ok_any _ A c xs _ h hn).mono ?_; rintro e w1 ⟨rfl, hb1⟩; obtain ⟨hc_w1, hf_w1⟩ := bcell hb1; have hz_w1 := hb1.size; (try simp at hz_w1); (try have g_w1 : w.heap.size < w1.heap.size := (by omega))))
    go_ret2
    exact ⟨none, 0, by rw [HV.out, HC.out]; rfl, by rw [HV.out]; exact World.ownsRow_nil _ _ _ _, (by repeat (first | assumption | exact Below.refl _ _ | apply Below.al | apply Below.drewN' | apply Below.drew | (apply Below.tr; assumption)))⟩
  by_cases h2 : (os.length : Int) = stars
  rotate_left
  · have h2' : ((os.length : Int) != stars) = true := by simpa using h2
    have HC : Hid (mfC stars xs os = 2) := by simp [Hid, mfC, h1, h2]
    have HV : Hid (mfV stars xs os = []) := by simp [Hid, mfV, HC.out]
    go_enter Try.func12, Try.ntmps12
    go_wp2_with (first | (go_at_call 23; refine (l20Ok_any _ A c xs _ h hn).mono ?_; rintro e w1 ⟨rfl, hb1⟩; obtain ⟨hc_w1, hf_w1⟩ := bcell hb1; have hz_w1 := hb1.size; (try simp at hz_w1); (try have g_w1 : w.heap.size < w1.heap.size := (by omega))))
    go_ret2
    exact ⟨none, 0, by rw [HV.out, HC.out]; rfl, by rw [HV.out]; exact World.ownsRow_nil _ _ _ _, (by repeat (first | assumption | exact Below.refl _ _ | apply Below.al | apply Below.drewN' | apply Below.drew | (apply Below.tr; assumption)))⟩
  subst h2
  cases h3 : os.all fun x => inB x (-100000) 100000
  · have HC : Hid (mfC (os.length : Int) xs os = 2) := by simp [Hid, mfC, h1, h3]
    have HV : Hid (mfV (os.length : Int) xs os = []) := by simp [Hid, mfV, HC.out]
    go_enter Try.func12, Try.ntmps12
    go_wp2_with (first | (go_at_call 23; refine (l20Ok_any _ A c xs _ h hn).mono ?_; rintro e w1 ⟨rfl, hb1⟩; obtain ⟨hc_w1, hf_w1⟩ := bcell hb1; have hz_w1 := hb1.size; (try simp at hz_w1); (try have g_w1 : w.heap.size < w1.heap.size := (by omega))))
    go_loopw [8] (fun i wr => ∃ k : Nat, k ≤ os.length ∧ i = .int .i64 k ∧ Below w.heap.size w wr ∧ Hid ((os.all fun x => inB x (-100000) 100000) = ((os.drop k).all fun x => inB x (-100000) 100000))) (fun i _ => os.length - (intOf i).toNat)
    case atStart => exact ⟨0, Nat.zero_le _, rfl, (by repeat (first | assumption | exact Below.refl _ _ | apply Below.al | apply Below.drewN' | apply Below.drew | (apply Below.tr; assumption))), hid rfl⟩
    case round =>
      obtain ⟨k, hk, rfl, hb, H⟩ := hrel
      have hsz := hb.size
      by_cases hlt : k < os.length
      · obtain ⟨p, hp⟩ := getx hlt
        obtain ⟨b, o, rfl, hbB, c0⟩ := (h'.below hb (Nat.le_refl _)).at1 hp rfl
        have b0 : b < wr.heap.size := by omega
        have HS : Hid (((os.drop k).all fun x => inB x (-100000) 100000) = (inB p (-100000) 100000 && ((os.drop (k+1)).all fun x => inB x (-100000) 100000))) := by rw [dropx hp]; rfl
        clear hp
        cases q : inB p (-100000) 100000
        · go_wp2_with (go_at_call 29; refine (l00In_any _ _ _ _).mono ?_; rintro e w' ⟨rfl, rfl⟩)
          go_ret2
          exact ⟨none, 0, by rw [HV.out, HC.out]; rfl, by rw [HV.out]; exact World.ownsRow_nil _ _ _ _, (by repeat (first | assumption | exact Below.refl _ _ | apply Below.al | apply Below.drewN' | apply Below.drew | (apply Below.tr; assumption)))⟩
        · skip
          go_wp2_with (go_at_call 29; refine (l00In_any _ _ _ _).mono ?_; rintro e w' ⟨rfl, rfl⟩)
          go_roundw
          case rel => exact ⟨k + 1, by omega, by go_num, (by repeat (first | assumption | exact Below.refl _ _ | apply Below.al | apply Below.drewN' | apply Below.drew | (apply Below.tr; assumption))), hid (by rw [H.out, HS.out, q]; rfl)⟩
          case measure => simp [intOf]; omega
      · exfalso; have := H.out; rw [List.drop_eq_nil_of_le (by omega)] at this; rw [h3] at this; cases this
  have HC : Hid (mfC (os.length : Int) xs os = 0) := by simp [Hid, mfC, h1, h3]
  have HV : Hid (mfV (os.length : Int) xs os = xs.map (mfE os)) := by simp [Hid, mfV, HC.out]
  obtain ⟨s1, s2, s3, v⟩ := vlB_at h1
  have V := hid v
  have VO := hid (all_at h3)
  clear v
  obtain ⟨i0, hi0, iz0, iz1, iz2⟩ := info_parts (P := Try.prog) (e := 2) (z := .int .i64 0) (size := 1) (bytes := 8) (by kernel_rfl)
  go_enter Try.func12, Try.ntmps12
  go_wp2_with (first | (go_at_call 23; refine (l20Ok_any _ A c xs _ h hn).mono ?_; rintro e w1 ⟨rfl, hb1⟩; obtain ⟨hc_w1, hf_w1⟩ := bcell hb1; have hz_w1 := hb1.size; (try simp at hz_w1); (try have g_w1 : w.heap.size < w1.heap.size := (by omega))))
  have H1 := hid h1
  have H3 := hid h3
  clear h1 h3
  go_loopw [8] (fun i wr => ∃ k : Nat, k ≤ os.length ∧ i = .int .i64 k ∧ Below w.heap.size w wr ∧ Hid ((os.all fun x => inB x (-100000) 100000) = ((os.drop k).all fun x => inB x (-100000) 100000))) (fun i _ => os.length - (intOf i).toNat)
  case atStart => exact ⟨0, Nat.zero_le _, rfl, (by repeat (first | assumption | exact Below.refl _ _ | apply Below.al | apply Below.drewN' | apply Below.drew | (apply Below.tr; assumption))), hid rfl⟩
  case round =>
    obtain ⟨k, hk, rfl, hb, H⟩ := hrel
    have hsz := hb.size
    by_cases hlt : k < os.length
    · obtain ⟨p, hp⟩ := getx hlt
      obtain ⟨b, o, rfl, hbB, c0⟩ := (h'.below hb (Nat.le_refl _)).at1 hp rfl
      have b0 : b < wr.heap.size := by omega
      have HS : Hid (((os.drop k).all fun x => inB x (-100000) 100000) = (inB p (-100000) 100000 && ((os.drop (k+1)).all fun x => inB x (-100000) 100000))) := by rw [dropx hp]; rfl
      have HPp := hid hp
      clear hp
      cases q : inB p (-100000) 100000
      · exfalso; exact absurd (VO.out k p HPp.out) (by have := inB_false.1 q; omega)
      · skip
        go_wp2_with (go_at_call 29; refine (l00In_any _ _ _ _).mono ?_; rintro e w' ⟨rfl, rfl⟩)
        go_roundw
        case rel => exact ⟨k + 1, by omega, by go_num, (by repeat (first | assumption | exact Below.refl _ _ | apply Below.al | apply Below.drewN' | apply Below.drew | (apply Below.tr; assumption))), hid (by rw [H.out, HS.out, q]; rfl)⟩
        case measure => simp [intOf]; omega
    · obtain rfl : k = os.length := by omega
      clear H hk hlt
      go_wp2
      go_loopw [9, 10] (fun v i wr => ∃ k : Nat, k ≤ xs.length ∧ i = .int .i64 k ∧ Below w.heap.size w wr ∧ wr.ownsRow w.heap.size 2 1 v k (((xs.take k).map (mfE os)).flatMap encI)) (fun _ i _ => xs.length - (intOf i).toNat)
      case atStart => exact ⟨0, Nat.zero_le _, rfl, (by repeat (first | assumption | exact Below.refl _ _ | apply Below.al | apply Below.drewN' | apply Below.drew | (apply Below.tr; assumption))), own_lit0 _ _ _ (by first | omega | (simp; omega))⟩
      case round =>
        obtain ⟨k, hk, rfl, hb, hown⟩ := hrel
        have hsz := hb.size
        obtain ⟨Ar, cr, rfl⟩ := own_shape hown
        by_cases hlt : k < xs.length
        · obtain ⟨p, hp⟩ := getx hlt
          obtain ⟨pa, pb, pd⟩ := p
          obtain ⟨b, o, rfl, hbB, c0, c1, c2⟩ := (h.below hb (Nat.le_refl _)).at3 hp rfl
          obtain ⟨q1, q2, q3, q4, q5⟩ := V.out k _ hp
          simp only at q1 q2 q3 q4 q5 c0 c1 c2
          obtain ⟨ka, rfl⟩ : ∃ n : Nat, pa = n := ⟨pa.toNat, by omega⟩
          obtain ⟨kb, rfl⟩ : ∃ n : Nat, pb = n := ⟨pb.toNat, by omega⟩
          obtain ⟨u1, hu1⟩ : ∃ u, os[ka]? = some u := getx (by omega)
          obtain ⟨u2, hu2⟩ : ∃ u, os[kb]? = some u := getx (by omega)
          obtain ⟨b', o', rfl, hbB', d0⟩ := (h'.below hb (Nat.le_refl _)).at1 hu1 rfl
          obtain ⟨_, _, e1, _, d1⟩ := (h'.below hb (Nat.le_refl _)).at1 hu2 rfl
          simp at e1; obtain ⟨rfl, rfl⟩ := e1
          obtain ⟨r1, r2⟩ := VO.out _ _ hu1
          obtain ⟨r3, r4⟩ := VO.out _ _ hu2
          have b0 : b < wr.heap.size := by omega
          have b1 : b' < wr.heap.size := by omega
          have lka : ka < os.length := by omega
          have lkb : kb < os.length := by omega
          have HE : Hid (mfE os ⟨ka, kb, pd⟩ = (pd - u2 + u1)) := hid (by rw [mfE_at hu1 hu2]; omega)
          have wr1 : IntKind.i64.wrap (u2 - u1) = u2 - u1 := IntWalk.i64_in _ (by omega)
          have wr3 : IntKind.i64.wrap (pd - u2) = pd - u2 := IntWalk.i64_in _ (by omega)
          have wr4 : IntKind.i64.wrap (pd - u2 + u1) = pd - u2 + u1 := IntWalk.i64_in _ (by omega)
          have wr2 : IntKind.i64.wrap (pd - (u2 - u1)) = pd - (u2 - u1) := IntWalk.i64_in _ (by omega)
          have HP := hid hp
          have H0 := hid hown
          have ag : (Value.slice Ar k cr).ownBlock ≠ some b := fun hx => by have := (H0.out.lt b hx).1; omega
          have ag' : (Value.slice Ar k cr).ownBlock ≠ some b' := fun hx => by have := (H0.out.lt b' hx).1; omega
          have ag2 : (Value.slice Ar k cr).ownBlock ≠ some wr.heap.size := fun hx => by have := (H0.out.lt _ hx).2; omega
          clear hp hu1 hu2 hown
          go_wp2
          go_region_held3 (fun w' => w'.cell? ⟨b, o + k * 3, none⟩ = some (.int .i64 (ka : Int)) ∧ w'.cell? ⟨b, o + k * 3 + 1, none⟩ = some (.int .i64 (kb : Int)) ∧ w'.cell? ⟨b, o + k * 3 + 2, none⟩ = some (.int .i64 pd) ∧ w'.cell? ⟨b', o' + ka, none⟩ = some (.int .i64 u1) ∧ w'.cell? ⟨b', o' + kb, none⟩ = some (.int .i64 u2)) (first | go_keep | (go_split_ands; refine ⟨?_, ?_, ?_, ?_, ?_⟩ <;> (first | (rw [hgrow.cell_far _ (by simp; omega) (Ne.symm ag)]; assumption) | (rw [hgrow.cell_far _ (by simp; omega) (Ne.symm ag')]; assumption) | (rw [hgrow.cell_far _ (by simp; omega) (Ne.symm ag2)]; assumption) | go_keep)))
            ((refine step_append_lies _ (by rfl) _ _ _ (by rfl) w.heap.size 2 i0 _ 1 8 Try.underlying30 hi0 iz0 iz1 iz2 rfl (by omega) _ k _ (by rfl) ((H0.out.alloc _).drew) ⟨wr.heap.size, 0, none⟩ 1 1 [.int .i64 (pd - u2 + u1)] (by rfl) (by rfl) (World.news_of_block (cs := #[.int .i64 (pd - u2 + u1)]) (t := 2) (fr := (0, 0)) (heap_alloc_new wr _)) (by simp [Value.oneCell']) (by omega) (by unfold maxLen; omega) (by omega) (by simp; omega) (wr.heap.size + 1) (by simp) ?_; intro gg cap w1 hown1 hgrow hat hlt1))
          go_wp2
          go_roundw
          case rel => exact ⟨k + 1, by omega, by go_num, apd20 (gg := 0) (cap := 0) (o := none) hb hb.size H0.out (Nat.le_refl _) (by repeat (first | assumption | exact Below.refl _ _ | apply Below.al | apply Below.drewN' | apply Below.drew | (apply Below.tr; assumption))) hgrow, by rw [List.take_add_one, HP.out]; simpa [encI, HE.out] using hown1⟩
          case measure => simp [intOf]; omega
        · obtain rfl : k = xs.length := by omega
          have H0 := hid hown
          clear hown
          go_wp2
          go_ret2
          exact ⟨Ar, cr, by rw [HV.out, HC.out]; simp, by rw [HV.out]; have := H0.out; simpa using this, hb⟩
end Go.Proofs.Ytollibmfelmpfaa
