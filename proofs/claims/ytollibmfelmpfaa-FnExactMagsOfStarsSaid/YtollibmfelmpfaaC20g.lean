/- Contracts: the magnitudes of linked stars, in the program and in the reference. -/
import Derived.Test.YtollibmfelmpfaaC20o
import Derived.Test.YtollibmfelmpfaaCInt
import Derived.Deep.RegionHeld3
import Derived.Deep.AppendLies
namespace Go.Proofs.Ytollibmfelmpfaa
open Go.RowKit
set_option linter.unusedVariables false
def mgL (p : Jn) (kn : Nat) (mag : Int) : List Int := p.N.map fun y => mag + y - p.N.getD kn 0
def sameF (p : Jn) (kn : Nat) : Bool := p.F.all fun x => x == p.F.getD kn 0
def msC (stars : Int) (xs : List Lk) (known mag : Int) : Int := if vlB stars xs = true then (if inB known 0 (stars - 1) = true ∧ inB mag (-2000) 20000 = true then (if (jnP stars xs).ok = true then (if sameF (jnP stars xs) known.toNat = true then (if ((mgL (jnP stars xs) known.toNat mag).all fun x => inB x (-2000) 20000) = true then 0 else 5) else 3) else 6) else 2) else 1
def msV (stars : Int) (xs : List Lk) (known mag : Int) : List Int := if msC stars xs known mag = 0 then mgL (jnP stars xs) known.toNat mag else []
theorem mgL_len (p : Jn) (kn : Nat) (mag : Int) : (mgL p kn mag).length = p.N.length := by simp [mgL]
theorem msV_len (stars : Int) (xs : List Lk) (known mag : Int) : (msV stars xs known mag).length ≤ 10 := by
  cases h : vlB stars xs
  · simp [msV, msC, h]
  · obtain ⟨n, rfl, n1, n2, _, _⟩ := vlB_nat h
    have := (jnP_ok h).ln
    unfold msV
    split
    · rw [mgL_len]; omega
    · simp
theorem mgL_at {p : Jn} {kn k : Nat} {mag y y0 : Int} (hy : p.N[k]? = some y) (h0 : p.N[kn]? = some y0) : (mgL p kn mag)[k]? = some (mag + y - y0) := by
  simp [mgL, hy, List.getD_eq_getElem?_getD, h0]
theorem offsets_p {n : Nat} {p : Jn} {xs : List Lk} (hp : jnRun (jn0 n) xs = p) (A : Option Addr) (c : Nat) (w : World) (h : Rd encLk 3 w w.heap.size A xs) (n1 : 1 ≤ n) (n2 : n ≤ 10) (hn : xs.length ≤ 12) (V : Hid (∀ (k : Nat) (p : Lk), xs[k]? = some p → 0 ≤ p.a ∧ p.a < p.b ∧ p.b < n ∧ -5000 ≤ p.d ∧ p.d ≤ 5000)) :
    Calls Try.prog 27 #[.int .i64 (n : Int), .slice A xs.length c] w (OffRes n p w) := by
  subst hp; exact offsets_any n A c xs w h n1 n2 hn V
set_option maxRecDepth 20000 in
set_option maxHeartbeats 8000000 in
theorem implMagsOfStars_any (stars : Int) (A : Option Addr) (c : Nat) (xs : List Lk) (known mag : Int) (w : World) (h : Rd encLk 3 w w.heap.size A xs) (hn : xs.length ≤ 1048576) :
    Calls Try.prog 22 #[.int .i64 stars, .slice A xs.length c, .int .i64 known, .int .i64 mag] w (OwnTup 2 1 encI (msV stars xs known mag) (msC stars xs known mag) w) := by
  cases h1 : vlB stars xs
  · have HC : Hid (msC stars xs known mag = 1) := by simp [Hid, msC, h1]
    have HV : Hid (msV stars xs known mag = []) := by simp [Hid, msV, HC.out]
    go_enter Try.func22, Try.ntmps22
    go_wp2_with (go_at_call 26; refine (implValidLinks_any _ A c xs _ h hn).mono ?_; rintro e w1 ⟨rfl, hb1⟩; obtain ⟨hc_w1, hf_w1⟩ := bcell hb1; have hz_w1 := hb1.size; (try simp at hz_w1); (try have g_w1 : w.heap.size < w1.heap.size := (by omega)); (try have rd1 : Rd encLk 3 w1 w1.heap.size A xs := (h.below hb1 (Nat.le_refl _)).more hb1.size))
    go_ret2
    exact ⟨none, 0, by rw [HV.out, HC.out]; rfl, by rw [HV.out]; exact World.ownsRow_nil _ _ _ _, (by repeat (first | assumption | exact Below.refl _ _ | apply Below.al | apply Below.drewN' | apply Below.drew | (apply Below.tr; assumption)))⟩
  obtain ⟨n, rfl, n1, n2, n3, v⟩ := vlB_nat h1
  have V := hid v
  clear v
  cases h2 : inB known 0 ((n : Int) - 1)
  · have HC : Hid (msC (n : Int) xs known mag = 2) := by simp [Hid, msC, h1, h2]
    have HV : Hid (msV (n : Int) xs known mag = []) := by simp [Hid, msV, HC.out]
    go_enter Try.func22, Try.ntmps22
    go_wp2_with (first | (go_at_call 26; refine (implValidLinks_any _ A c xs _ h hn).mono ?_; rintro e w1 ⟨rfl, hb1⟩; obtain ⟨hc_w1, hf_w1⟩ := bcell hb1; have hz_w1 := hb1.size; (try simp at hz_w1); (try have g_w1 : w.heap.size < w1.heap.size := (by omega)); (try have rd1 : Rd encLk 3 w1 w1.heap.size A xs := (h.below hb1 (Nat.le_refl _)).more hb1.size)) | (go_at_call 33; refine (in_any _ _ _ _).mono ?_; rintro e w' ⟨rfl, rfl⟩) | (go_at_call 34; refine (validMag_any _ _).mono ?_; rintro e w' ⟨rfl, rfl⟩))
    go_ret2
    exact ⟨none, 0, by rw [HV.out, HC.out]; rfl, by rw [HV.out]; exact World.ownsRow_nil _ _ _ _, (by repeat (first | assumption | exact Below.refl _ _ | apply Below.al | apply Below.drewN' | apply Below.drew | (apply Below.tr; assumption)))⟩
  cases h3 : inB mag (-2000) 20000
  · have HC : Hid (msC (n : Int) xs known mag = 2) := by simp [Hid, msC, h1, h2, h3]
    have HV : Hid (msV (n : Int) xs known mag = []) := by simp [Hid, msV, HC.out]
    go_enter Try.func22, Try.ntmps22
    go_wp2_with (first | (go_at_call 26; refine (implValidLinks_any _ A c xs _ h hn).mono ?_; rintro e w1 ⟨rfl, hb1⟩; obtain ⟨hc_w1, hf_w1⟩ := bcell hb1; have hz_w1 := hb1.size; (try simp at hz_w1); (try have g_w1 : w.heap.size < w1.heap.size := (by omega)); (try have rd1 : Rd encLk 3 w1 w1.heap.size A xs := (h.below hb1 (Nat.le_refl _)).more hb1.size)) | (go_at_call 33; refine (in_any _ _ _ _).mono ?_; rintro e w' ⟨rfl, rfl⟩) | (go_at_call 34; refine (validMag_any _ _).mono ?_; rintro e w' ⟨rfl, rfl⟩))
    go_ret2
    exact ⟨none, 0, by rw [HV.out, HC.out]; rfl, by rw [HV.out]; exact World.ownsRow_nil _ _ _ _, (by repeat (first | assumption | exact Below.refl _ _ | apply Below.al | apply Below.drewN' | apply Below.drew | (apply Below.tr; assumption)))⟩
  obtain ⟨p, hp⟩ : ∃ p, jnRun (jn0 n) xs = p := ⟨_, rfl⟩
  have EP : jnP (n : Int) xs = p := by rw [← hp]; rfl
  have JK : Hid (JnOk n (bdN xs.length) p) := hid (by have := jnP_ok h1; rw [EP, Int.toNat_natCast] at this; exact this)
  cases hk : p.ok
  · have HC : Hid (msC (n : Int) xs known mag = 6) := by simp [Hid, msC, h1, h2, h3, EP, hk]
    have HV : Hid (msV (n : Int) xs known mag = []) := by simp [Hid, msV, HC.out]
    go_enter Try.func22, Try.ntmps22
    go_wp2_with (first | (go_at_call 26; refine (implValidLinks_any _ A c xs _ h hn).mono ?_; rintro e w1 ⟨rfl, hb1⟩; obtain ⟨hc_w1, hf_w1⟩ := bcell hb1; have hz_w1 := hb1.size; (try simp at hz_w1); (try have g_w1 : w.heap.size < w1.heap.size := (by omega)); (try have rd1 : Rd encLk 3 w1 w1.heap.size A xs := (h.below hb1 (Nat.le_refl _)).more hb1.size)) | (go_at_call 33; refine (in_any _ _ _ _).mono ?_; rintro e w' ⟨rfl, rfl⟩) | (go_at_call 34; refine (validMag_any _ _).mono ?_; rintro e w' ⟨rfl, rfl⟩) | (go_at_call 27; refine (offsets_p hp A c _ rd1 n1 n2 n3 V).mono ?_; rintro e w5 ⟨gF, cF, gN, cN, rfl, oF, oN, hb5⟩))
    go_ret2
    exact ⟨none, 0, by rw [HV.out, HC.out]; rfl, by rw [HV.out]; exact World.ownsRow_nil _ _ _ _, (by repeat (first | assumption | exact Below.refl _ _ | apply Below.al | apply Below.drewN' | apply Below.drew | (apply Below.tr; assumption)))⟩
  have MB := bdN_le (k := xs.length) (by omega)
  generalize bdN xs.length = M at *
  obtain ⟨M0, M1⟩ := MB
  have M2 := inB_true.1 h3
  have M3 := inB_true.1 h2
  obtain ⟨kn, rfl⟩ : ∃ k : Nat, known = k := ⟨known.toNat, by omega⟩
  obtain ⟨f0, y0, hf0, hy0, f1, f2, y1, y2⟩ := jn_read JK.out (i := kn) (by omega)
  have lf := JK.out.lf
  have ln := JK.out.ln
  have EF0 : p.F.getD kn 0 = f0 := by simp [List.getD_eq_getElem?_getD, hf0]
  have HS0 : Hid (sameF p kn = p.F.all fun x => x == f0) := hid (by unfold sameF; rw [EF0])
  have HML : Hid ((mgL p kn mag).length = n) := hid (by rw [mgL_len]; exact ln)
  obtain ⟨i0, hi0, iz0, iz1, iz2⟩ := info_parts (P := Try.prog) (e := 2) (z := .int .i64 0) (size := 1) (bytes := 8) (by kernel_rfl)
  go_enter Try.func22, Try.ntmps22
  go_wp2_with (first | (go_at_call 26; refine (implValidLinks_any _ A c xs _ h hn).mono ?_; rintro e w1 ⟨rfl, hb1⟩; obtain ⟨hc_w1, hf_w1⟩ := bcell hb1; have hz_w1 := hb1.size; (try simp at hz_w1); (try have g_w1 : w.heap.size < w1.heap.size := (by omega)); (try have rd1 : Rd encLk 3 w1 w1.heap.size A xs := (h.below hb1 (Nat.le_refl _)).more hb1.size)) | (go_at_call 33; refine (in_any _ _ _ _).mono ?_; rintro e w' ⟨rfl, rfl⟩) | (go_at_call 34; refine (validMag_any _ _).mono ?_; rintro e w' ⟨rfl, rfl⟩) | (go_at_call 27; refine (offsets_p hp A c _ rd1 n1 n2 n3 V).mono ?_; rintro e w5 ⟨gF, cF, gN, cN, rfl, oF, oN, hb5⟩))
  have zF : gF < w5.heap.size := (oF.lt gF rfl).2
  have zN : gN < w5.heap.size := (oN.lt gN rfl).2
  have ef0 : w5.cell? ⟨gF, kn, none⟩ = some (.int .i64 f0) := by (have := oF.cellAt kn (by omega); rw [this]; simp [fI, hf0])
  have ey0 : w5.cell? ⟨gN, kn, none⟩ = some (.int .i64 y0) := by (have := oN.cellAt kn (by omega); rw [this]; simp [fI, hy0])
  have hw5 : Below w.heap.size w w5 := (by repeat (first | assumption | exact Below.refl _ _ | apply Below.al | apply Below.drewN' | apply Below.drew | (apply Below.tr; assumption)))
  have OF := hid oF
  have ON := hid oN
  go_loopw [13, 43] (fun v i wr => ∃ k : Nat, k ≤ n ∧ i = .int .i64 k ∧ Below w5.heap.size w5 wr ∧ wr.ownsRow w5.heap.size 2 1 v k (fI ((mgL p kn mag).take k)) ∧ Hid ((p.F.all fun x => x == f0) = ((p.F.drop k).all fun x => x == f0))) (fun _ i _ => n - (intOf i).toNat)
  case atStart => exact ⟨0, Nat.zero_le _, rfl, (by repeat (first | assumption | exact Below.refl _ _ | apply Below.al | apply Below.drewN' | apply Below.drew | (apply Below.tr; assumption))), own_lit0 _ _ _ (Nat.le_refl _), hid rfl⟩
  case round =>
    obtain ⟨k, hk9, rfl, hb, hown, H⟩ := hrel
    have hsz := hb.size
    obtain ⟨Ar, cr, rfl⟩ := own_shape hown
    by_cases hlt : k < n
    · obtain ⟨x, y, hx, hy, x1, x2, v1, v2⟩ := jn_read JK.out (i := k) (by omega)
      have ex : wr.cell? ⟨gF, k, none⟩ = some (.int .i64 x) := by (have := oF.cellAt k (by omega); rw [(bcell hb).1 gF _ zF, this]; simp [fI, hx])
      have ey : wr.cell? ⟨gN, k, none⟩ = some (.int .i64 y) := by (have := oN.cellAt k (by omega); rw [(bcell hb).1 gN _ zN, this]; simp [fI, hy])
      have ef : wr.cell? ⟨gF, kn, none⟩ = some (.int .i64 f0) := ((bcell hb).1 gF _ zF).trans ef0
      have eg : wr.cell? ⟨gN, kn, none⟩ = some (.int .i64 y0) := ((bcell hb).1 gN _ zN).trans ey0
      have zF2 : gF < wr.heap.size := by omega
      have zN2 : gN < wr.heap.size := by omega
      have lk : k < n := hlt
      have lkn : kn < n := by omega
      have HS : Hid (((p.F.drop k).all fun x => x == f0) = (x == f0 && ((p.F.drop (k+1)).all fun x => x == f0))) := by rw [dropx hx]; rfl
      have HM := hid (mgL_at (mag := mag) hy hy0)
      have H0 := hid hown
      have wr1 : IntKind.i64.wrap (mag + y) = mag + y := IntWalk.i64_in _ (by omega)
      have wr2 : IntKind.i64.wrap (mag + y - y0) = mag + y - y0 := IntWalk.i64_in _ (by omega)
      clear hown hx hy
      by_cases hxf : x = f0
      · have hne : (x != f0) = false := by simp [hxf]
        have HS2 : Hid (((p.F.drop k).all fun x => x == f0) = ((p.F.drop (k+1)).all fun x => x == f0)) := hid (by rw [HS.out, hxf]; simp)
        clear hxf HS
        go_wp2_with fail
        refine wp_region_ext (by kernel_rfl) (by kernel_rfl) ?_
        repeat (go_big_quiet_step ((first | fail)))
        refine wpQuiet_nil ?_
        intro w3 hb3
        obtain ⟨hc_w3, hf_w3⟩ := bcell hb3
        have hz_w3 := hb3.size
        have hb9 := Below.tr hb3 hb
        have hz9 := hb9.size
        have H3 := hid (own_below H0.out hb3 (Nat.le_refl _))
        have ey3 : w3.cell? ⟨gN, k, none⟩ = some (.int .i64 y) := (hc_w3 gN _ zN2).trans ey
        have eg3 : w3.cell? ⟨gN, kn, none⟩ = some (.int .i64 y0) := (hc_w3 gN _ zN2).trans eg
        have zN3 : gN < w3.heap.size := by omega
        have agN : (Value.slice Ar k cr).ownBlock ≠ some gN := fun hx => by have := (H3.out.lt gN hx).1; omega
        clear ex ey ef eg hc_w3 hf_w3
        go_wp2
        go_region_held3 (fun w' => w'.cell? ⟨gN, k, none⟩ = some (.int .i64 y) ∧ w'.cell? ⟨gN, kn, none⟩ = some (.int .i64 y0)) (first | go_keep | (go_split_ands; refine ⟨?_, ?_⟩ <;> (rw [hgrow.cell_far _ (by simp; omega) (Ne.symm agN)]; assumption)))
          ((refine step_append_lies _ (by rfl) _ _ _ (by rfl) w5.heap.size 2 i0 _ 1 8 Try.underlying30 hi0 iz0 iz1 iz2 rfl (by omega) _ k _ (by rfl) ((H3.out.alloc _).drew) ⟨w3.heap.size, 0, none⟩ 1 1 [.int .i64 (mag + y - y0)] (by rfl) (by rfl) (World.news_of_block (cs := #[.int .i64 (mag + y - y0)]) (t := 2) (fr := (0, 0)) (heap_alloc_new w3 _)) (by simp [Value.oneCell']) (by omega) (by unfold maxLen; omega) (by omega) (by simp; omega) (w3.heap.size + 1) (by simp) ?_; intro gg cap w8 hown8 hgrow hat hlt8))
        go_wp2
        go_roundw
        case rel =>
          have hb8 : Below w5.heap.size w5 w8 := (hb9.trans (Below.mono (show Below w3.heap.size w3 (w3.alloc (.cells #[.int .i64 (mag + y - y0)] 2)).drew from (by repeat (first | assumption | exact Below.refl _ _ | apply Below.al | apply Below.drewN' | apply Below.drew | (apply Below.tr; assumption)))) hz9)).grown hgrow (by simp; omega) (fun q hq => (H3.out.lt q hq).1)
          exact ⟨k + 1, by omega, by go_num, hb8, by rw [List.take_add_one, HM.out]; simpa [fI] using hown8, hid (by rw [H.out, HS2.out])⟩
        case measure => simp [intOf]; omega
      · have hne : (x != f0) = true := by simpa using hxf
        have hs9 : sameF p kn = false := by rw [HS0.out, H.out, HS.out]; simp [hxf]
        have HC : Hid (msC (n : Int) xs (kn : Int) mag = 3) := hid (by simp [msC, h1, h2, h3, EP, hk, hs9])
        have HV : Hid (msV (n : Int) xs (kn : Int) mag = []) := hid (by simp [msV, HC.out])
        go_wp2_with fail
        refine wp_region_ext (by kernel_rfl) (by kernel_rfl) ?_
        repeat (go_big_quiet_step ((first | fail)))
        refine wpQuiet_nil ?_
        intro w3 hb3
        obtain ⟨hc_w3, hf_w3⟩ := bcell hb3
        have hz_w3 := hb3.size
        go_wp2
        go_ret2
        exact ⟨none, 0, by rw [HV.out, HC.out]; rfl, by rw [HV.out]; exact World.ownsRow_nil _ _ _ _, (by repeat (first | assumption | exact Below.refl _ _ | apply Below.al | apply Below.drewN' | apply Below.drew | (apply Below.tr; assumption)))⟩
    · obtain rfl : k = n := by omega
      have hs9 : sameF p kn = true := by rw [HS0.out, H.out, List.drop_eq_nil_of_le (by omega)]; rfl
      have hw : Below w.heap.size w wr := Below.tr hb hw5
      have H0 : Hid (wr.ownsRow w5.heap.size 2 1 (.slice Ar k cr) k ((mgL p kn mag).flatMap encI)) := hid (by have t := hown; rw [List.take_of_length_le (by have := HML.out; omega)] at t; rw [fI_flat]; exact t)
      have hA := fun (W : World) (hr : Rd encI 1 W W.heap.size Ar (mgL p kn mag)) => allIn_any (-2000) 20000 Ar cr (mgL p kn mag) W hr (by have := HML.out; omega)
      simp only [HML.out] at hA
      have hr : Rd encI 1 wr wr.heap.size Ar (mgL p kn mag) := rd_of_own (enc := encI) (k := 1) (c := cr) (fun _ => rfl) (by have t := H0.out; rw [← HML.out] at t; exact t)
      clear hown
      cases h5 : (mgL p kn mag).all fun x => inB x (-2000) 20000
      · have HC : Hid (msC (k : Int) xs (kn : Int) mag = 5) := hid (by simp [msC, h1, h2, h3, EP, hk, hs9, h5])
        have HV : Hid (msV (k : Int) xs (kn : Int) mag = []) := hid (by simp [msV, HC.out])
        rw [h5] at hA
        go_wp2_with (go_at_call 31; refine (hA _ hr).mono ?_; rintro e w9 ⟨rfl, hb9⟩; obtain ⟨hc_w9, hf_w9⟩ := bcell hb9; have hz_w9 := hb9.size)
        go_ret2
        exact ⟨none, 0, by rw [HV.out, HC.out]; rfl, by rw [HV.out]; exact World.ownsRow_nil _ _ _ _, (by repeat (first | assumption | exact Below.refl _ _ | apply Below.al | apply Below.drewN' | apply Below.drew | (apply Below.tr; assumption)))⟩
      · have HC : Hid (msC (k : Int) xs (kn : Int) mag = 0) := hid (by simp [msC, h1, h2, h3, EP, hk, hs9, h5])
        have HV : Hid (msV (k : Int) xs (kn : Int) mag = mgL p kn mag) := hid (by simp [msV, HC.out, EP])
        rw [h5] at hA
        go_wp2_with (go_at_call 31; refine (hA _ hr).mono ?_; rintro e w9 ⟨rfl, hb9⟩; obtain ⟨hc_w9, hf_w9⟩ := bcell hb9; have hz_w9 := hb9.size)
        have O9 := own_lo (lo' := w.heap.size) (own_below H0.out hb9 (Nat.le_refl _)) hw5.size
        go_ret2
        exact ⟨Ar, cr, by rw [HV.out, HC.out, HML.out]; rfl, by rw [HV.out, HML.out]; exact O9, Below.tr hb9 hw⟩
theorem l20Join_p {n : Nat} {p : Jn} {xs : List Lk} (hp : jnRun (jn0 n) xs = p) (A : Option Addr) (c : Nat) (w : World) (h : Rd encLk 3 w w.heap.size A xs) (n1 : 1 ≤ n) (n2 : n ≤ 10) (hn : xs.length ≤ 12) (V : Hid (∀ (k : Nat) (p : Lk), xs[k]? = some p → 0 ≤ p.a ∧ p.a < p.b ∧ p.b < n ∧ -5000 ≤ p.d ∧ p.d ≤ 5000)) :
    Calls Try.prog 24 #[.int .i64 (n : Int), .slice A xs.length c, .slice none 0 0] w fun e w' => ∃ g, e = .returned (.pointer (some ⟨g, 0, none⟩)) ∧ JnW w' w.heap.size g n p ∧ Below w.heap.size w w' := by
  subst hp
  have t := l20Join_any n A c xs none 0 [] w h (fun hx => absurd rfl hx) n1 n2 hn (by decide) V
  rw [jnGo_nil] at t
  exact t
set_option maxRecDepth 20000 in
set_option maxHeartbeats 8000000 in
theorem specMagsOfStars_any (stars : Int) (A : Option Addr) (c : Nat) (xs : List Lk) (known mag : Int) (w : World) (h : Rd encLk 3 w w.heap.size A xs) (hn : xs.length ≤ 1048576) :
    Calls Try.prog 21 #[.int .i64 stars, .slice A xs.length c, .int .i64 known, .int .i64 mag] w (OwnTup 2 1 encI (msV stars xs known mag) (msC stars xs known mag) w) := by
  cases h1 : vlB stars xs
  · have HC : Hid (msC stars xs known mag = 1) := by simp [Hid, msC, h1]
    have HV : Hid (msV stars xs known mag = []) := by simp [Hid, msV, HC.out]
    go_enter Try.func21, Try.ntmps21
    go_wp2_with (go_at_call 23; refine (l20Ok_any _ A c xs _ h hn).mono ?_; rintro e w1 ⟨rfl, hb1⟩; obtain ⟨hc_w1, hf_w1⟩ := bcell hb1; have hz_w1 := hb1.size; (try simp at hz_w1); (try have g_w1 : w.heap.size < w1.heap.size := (by omega)); (try have rd1 : Rd encLk 3 w1 w1.heap.size A xs := (h.below hb1 (Nat.le_refl _)).more hb1.size))
    go_ret2
    exact ⟨none, 0, by rw [HV.out, HC.out]; rfl, by rw [HV.out]; exact World.ownsRow_nil _ _ _ _, (by repeat (first | assumption | exact Below.refl _ _ | apply Below.al | apply Below.drewN' | apply Below.drew | (apply Below.tr; assumption)))⟩
  obtain ⟨n, rfl, n1, n2, n3, v⟩ := vlB_nat h1
  have V := hid v
  clear v
  cases h2 : inB known 0 ((n : Int) - 1)
  · have HC : Hid (msC (n : Int) xs known mag = 2) := by simp [Hid, msC, h1, h2]
    have HV : Hid (msV (n : Int) xs known mag = []) := by simp [Hid, msV, HC.out]
    go_enter Try.func21, Try.ntmps21
    go_wp2_with (first | (go_at_call 23; refine (l20Ok_any _ A c xs _ h hn).mono ?_; rintro e w1 ⟨rfl, hb1⟩; obtain ⟨hc_w1, hf_w1⟩ := bcell hb1; have hz_w1 := hb1.size; (try simp at hz_w1); (try have g_w1 : w.heap.size < w1.heap.size := (by omega)); (try have rd1 : Rd encLk 3 w1 w1.heap.size A xs := (h.below hb1 (Nat.le_refl _)).more hb1.size)) | (go_at_call 29; refine (l00In_any _ _ _ _).mono ?_; rintro e w' ⟨rfl, rfl⟩) | (go_at_call 32; refine (l02Mag_any _ _).mono ?_; rintro e w' ⟨rfl, rfl⟩))
    go_ret2
    exact ⟨none, 0, by rw [HV.out, HC.out]; rfl, by rw [HV.out]; exact World.ownsRow_nil _ _ _ _, (by repeat (first | assumption | exact Below.refl _ _ | apply Below.al | apply Below.drewN' | apply Below.drew | (apply Below.tr; assumption)))⟩
  cases h3 : inB mag (-2000) 20000
  · have HC : Hid (msC (n : Int) xs known mag = 2) := by simp [Hid, msC, h1, h2, h3]
    have HV : Hid (msV (n : Int) xs known mag = []) := by simp [Hid, msV, HC.out]
    go_enter Try.func21, Try.ntmps21
    go_wp2_with (first | (go_at_call 23; refine (l20Ok_any _ A c xs _ h hn).mono ?_; rintro e w1 ⟨rfl, hb1⟩; obtain ⟨hc_w1, hf_w1⟩ := bcell hb1; have hz_w1 := hb1.size; (try simp at hz_w1); (try have g_w1 : w.heap.size < w1.heap.size := (by omega)); (try have rd1 : Rd encLk 3 w1 w1.heap.size A xs := (h.below hb1 (Nat.le_refl _)).more hb1.size)) | (go_at_call 29; refine (l00In_any _ _ _ _).mono ?_; rintro e w' ⟨rfl, rfl⟩) | (go_at_call 32; refine (l02Mag_any _ _).mono ?_; rintro e w' ⟨rfl, rfl⟩))
    go_ret2
    exact ⟨none, 0, by rw [HV.out, HC.out]; rfl, by rw [HV.out]; exact World.ownsRow_nil _ _ _ _, (by repeat (first | assumption | exact Below.refl _ _ | apply Below.al | apply Below.drewN' | apply Below.drew | (apply Below.tr; assumption)))⟩
  obtain ⟨p, hp⟩ : ∃ p, jnRun (jn0 n) xs = p := ⟨_, rfl⟩
  have EP : jnP (n : Int) xs = p := by rw [← hp]; rfl
  have JK : Hid (JnOk n (bdN xs.length) p) := hid (by have := jnP_ok h1; rw [EP, Int.toNat_natCast] at this; exact this)
  cases hk : p.ok
  · have HC : Hid (msC (n : Int) xs known mag = 6) := by simp [Hid, msC, h1, h2, h3, EP, hk]
    have HV : Hid (msV (n : Int) xs known mag = []) := by simp [Hid, msV, HC.out]
    go_enter Try.func21, Try.ntmps21
    go_wp2_with (first | (go_at_call 23; refine (l20Ok_any _ A c xs _ h hn).mono ?_; rintro e w1 ⟨rfl, hb1⟩; obtain ⟨hc_w1, hf_w1⟩ := bcell hb1; have hz_w1 := hb1.size; (try simp at hz_w1); (try have g_w1 : w.heap.size < w1.heap.size := (by omega)); (try have rd1 : Rd encLk 3 w1 w1.heap.size A xs := (h.below hb1 (Nat.le_refl _)).more hb1.size)) | (go_at_call 29; refine (l00In_any _ _ _ _).mono ?_; rintro e w' ⟨rfl, rfl⟩) | (go_at_call 32; refine (l02Mag_any _ _).mono ?_; rintro e w' ⟨rfl, rfl⟩) | (go_at_call 24; refine (l20Join_p hp A c _ rd1 n1 n2 n3 V).mono ?_; rintro e w5 ⟨g, rfl, ⟨gF, cF, gN, cN, JX⟩, hb5⟩; have k0 := JX.c0; have k1 := JX.c1; have k2 := JX.c2; have kg := JX.lg; have oF := JX.oF; have oN := JX.oN))
    go_ret2
    exact ⟨none, 0, by rw [HV.out, HC.out]; rfl, by rw [HV.out]; exact World.ownsRow_nil _ _ _ _, (by repeat (first | assumption | exact Below.refl _ _ | apply Below.al | apply Below.drewN' | apply Below.drew | (apply Below.tr; assumption)))⟩
  have MB := bdN_le (k := xs.length) (by omega)
  generalize bdN xs.length = M at *
  obtain ⟨M0, M1⟩ := MB
  have M2 := inB_true.1 h3
  have M3 := inB_true.1 h2
  obtain ⟨kn, rfl⟩ : ∃ k : Nat, known = k := ⟨known.toNat, by omega⟩
  obtain ⟨f0, y0, hf0, hy0, f1, f2, y1, y2⟩ := jn_read JK.out (i := kn) (by omega)
  have lf := JK.out.lf
  have ln := JK.out.ln
  have EF0 : p.F.getD kn 0 = f0 := by simp [List.getD_eq_getElem?_getD, hf0]
  have HS0 : Hid (sameF p kn = p.F.all fun x => x == f0) := hid (by unfold sameF; rw [EF0])
  have HML : Hid ((mgL p kn mag).length = n) := hid (by rw [mgL_len]; exact ln)
  obtain ⟨i0, hi0, iz0, iz1, iz2⟩ := info_parts (P := Try.prog) (e := 2) (z := .int .i64 0) (size := 1) (bytes := 8) (by kernel_rfl)
  go_enter Try.func21, Try.ntmps21
  go_wp2_with (first | (go_at_call 23; refine (l20Ok_any _ A c xs _ h hn).mono ?_; rintro e w1 ⟨rfl, hb1⟩; obtain ⟨hc_w1, hf_w1⟩ := bcell hb1; have hz_w1 := hb1.size; (try simp at hz_w1); (try have g_w1 : w.heap.size < w1.heap.size := (by omega)); (try have rd1 : Rd encLk 3 w1 w1.heap.size A xs := (h.below hb1 (Nat.le_refl _)).more hb1.size)) | (go_at_call 29; refine (l00In_any _ _ _ _).mono ?_; rintro e w' ⟨rfl, rfl⟩) | (go_at_call 32; refine (l02Mag_any _ _).mono ?_; rintro e w' ⟨rfl, rfl⟩) | (go_at_call 24; refine (l20Join_p hp A c _ rd1 n1 n2 n3 V).mono ?_; rintro e w5 ⟨g, rfl, ⟨gF, cF, gN, cN, JX⟩, hb5⟩; have k0 := JX.c0; have k1 := JX.c1; have k2 := JX.c2; have kg := JX.lg; have oF := JX.oF; have oN := JX.oN))
  have zF : gF < w5.heap.size := (oF.lt gF rfl).2
  have zN : gN < w5.heap.size := (oN.lt gN rfl).2
  have ef0 : w5.cell? ⟨gF, kn, none⟩ = some (.int .i64 f0) := by (have := oF.cellAt kn (by omega); rw [this]; simp [fI, hf0])
  have ey0 : w5.cell? ⟨gN, kn, none⟩ = some (.int .i64 y0) := by (have := oN.cellAt kn (by omega); rw [this]; simp [fI, hy0])
  have hw5 : Below w.heap.size w w5 := (by repeat (first | assumption | exact Below.refl _ _ | apply Below.al | apply Below.drewN' | apply Below.drew | (apply Below.tr; assumption)))
  go_loopw [11] (fun i wr => ∃ k : Nat, k ≤ n ∧ i = .int .i64 k ∧ Below w5.heap.size w5 wr ∧ Hid ((p.F.all fun x => x == f0) = ((p.F.drop k).all fun x => x == f0))) (fun i _ => n - (intOf i).toNat)
  case atStart => exact ⟨0, Nat.zero_le _, rfl, (by repeat (first | assumption | exact Below.refl _ _ | apply Below.al | apply Below.drewN' | apply Below.drew | (apply Below.tr; assumption))), hid rfl⟩
  case round =>
    obtain ⟨k, hk9, rfl, hb, H⟩ := hrel
    have hsz := hb.size
    by_cases hlt : k < n
    · obtain ⟨x, y, hx, hy, x1, x2, v1, v2⟩ := jn_read JK.out (i := k) (by omega)
      have ex : wr.cell? ⟨gF, k, none⟩ = some (.int .i64 x) := by (have := oF.cellAt k (by omega); rw [(bcell hb).1 gF _ zF, this]; simp [fI, hx])
      have ey : wr.cell? ⟨gN, k, none⟩ = some (.int .i64 y) := by (have := oN.cellAt k (by omega); rw [(bcell hb).1 gN _ zN, this]; simp [fI, hy])
      have ef : wr.cell? ⟨gF, kn, none⟩ = some (.int .i64 f0) := ((bcell hb).1 gF _ zF).trans ef0
      have eg : wr.cell? ⟨gN, kn, none⟩ = some (.int .i64 y0) := ((bcell hb).1 gN _ zN).trans ey0
      have zF2 : gF < wr.heap.size := by omega
      have zN2 : gN < wr.heap.size := by omega
      have lk : k < n := hlt
      have lkn : kn < n := by omega
      have HS : Hid (((p.F.drop k).all fun x => x == f0) = (x == f0 && ((p.F.drop (k+1)).all fun x => x == f0))) := by rw [dropx hx]; rfl
      have JXr := JX.below hb
      have m0 := JXr.c0
      have m1 := JXr.c1
      have mg := JXr.lg
      clear hx hy
      by_cases hxf : x = f0
      · have hne : (x != f0) = false := by simp [hxf]
        have HS2 : Hid (((p.F.drop k).all fun x => x == f0) = ((p.F.drop (k+1)).all fun x => x == f0)) := hid (by rw [HS.out, hxf]; simp)
        clear hxf HS
        go_wp2_with fail
        refine wp_region_ext (by kernel_rfl) (by kernel_rfl) ?_
        repeat (go_big_quiet_step ((first | fail)))
        refine wpQuiet_nil ?_
        intro w3 hb3
        obtain ⟨hc_w3, hf_w3⟩ := bcell hb3
        have hz_w3 := hb3.size
        go_wp2
        go_roundw
        case rel => exact ⟨k + 1, by omega, by go_num, Below.tr hb3 hb, hid (by rw [H.out, HS2.out])⟩
        case measure => simp [intOf]; omega
      · have hne : (x != f0) = true := by simpa using hxf
        have hs9 : sameF p kn = false := by rw [HS0.out, H.out, HS.out]; simp [hxf]
        have HC : Hid (msC (n : Int) xs (kn : Int) mag = 3) := hid (by simp [msC, h1, h2, h3, EP, hk, hs9])
        have HV : Hid (msV (n : Int) xs (kn : Int) mag = []) := hid (by simp [msV, HC.out])
        go_wp2_with fail
        refine wp_region_ext (by kernel_rfl) (by kernel_rfl) ?_
        repeat (go_big_quiet_step ((first | fail)))
        refine wpQuiet_nil ?_
        intro w3 hb3
        obtain ⟨hc_w3, hf_w3⟩ := bcell hb3
        have hz_w3 := hb3.size
        go_wp2
        go_ret2
        exact ⟨none, 0, by rw [HV.out, HC.out]; rfl, by rw [HV.out]; exact World.ownsRow_nil _ _ _ _, (by repeat (first | assumption | exact Below.refl _ _ | apply Below.al | apply Below.drewN' | apply Below.drew | (apply Below.tr; assumption)))⟩
    · obtain rfl : n = k := by omega
      have hs9 : sameF p kn = true := by rw [HS0.out, H.out, List.drop_eq_nil_of_le (by omega)]; rfl
      have hb0 := hb
      clear H hlt hk9
      go_wp2
      go_loopw [12, 13] (fun v i wr => ∃ k : Nat, k ≤ n ∧ i = .int .i64 k ∧ Below w5.heap.size w5 wr ∧ wr.ownsRow w5.heap.size 2 1 v k (fI ((mgL p kn mag).take k)) ∧ Hid (((mgL p kn mag).all fun x => inB x (-2000) 20000) = (((mgL p kn mag).drop k).all fun x => inB x (-2000) 20000))) (fun _ i _ => n - (intOf i).toNat)
      case atStart => exact ⟨0, Nat.zero_le _, rfl, (by repeat (first | assumption | exact Below.refl _ _ | apply Below.al | apply Below.drewN' | apply Below.drew | (apply Below.tr; assumption))), own_lit0 _ _ _ hsz, hid rfl⟩
      case round =>
        clear hsz hb
        obtain ⟨k, hk9, rfl, hb, hown, H⟩ := hrel
        have hsz := hb.size
        obtain ⟨Ar, cr, rfl⟩ := own_shape hown
        by_cases hlt : k < n
        · obtain ⟨x, y, hx, hy, x1, x2, v1, v2⟩ := jn_read JK.out (i := k) (by omega)
          have ex : wr.cell? ⟨gF, k, none⟩ = some (.int .i64 x) := by (have := oF.cellAt k (by omega); rw [(bcell hb).1 gF _ zF, this]; simp [fI, hx])
          have ey : wr.cell? ⟨gN, k, none⟩ = some (.int .i64 y) := by (have := oN.cellAt k (by omega); rw [(bcell hb).1 gN _ zN, this]; simp [fI, hy])
          have ef : wr.cell? ⟨gF, kn, none⟩ = some (.int .i64 f0) := ((bcell hb).1 gF _ zF).trans ef0
          have eg : wr.cell? ⟨gN, kn, none⟩ = some (.int .i64 y0) := ((bcell hb).1 gN _ zN).trans ey0
          have zF2 : gF < wr.heap.size := by omega
          have zN2 : gN < wr.heap.size := by omega
          have lk : k < n := hlt
          have lkn : kn < n := by omega
          have JXr := JX.below hb
          have m0 := JXr.c0
          have m1 := JXr.c1
          have mg := JXr.lg
          have hm := mgL_at (mag := mag) hy hy0
          have HM := hid hm
          have HS : Hid ((((mgL p kn mag).drop k).all fun x => inB x (-2000) 20000) = (inB (mag + y - y0) (-2000) 20000 && (((mgL p kn mag).drop (k+1)).all fun x => inB x (-2000) 20000))) := by rw [dropx hm]; rfl
          have H0 := hid hown
          clear hown hx hy hm
          cases h6 : inB (mag + y - y0) (-2000) 20000
          · have h5 : ((mgL p kn mag).all fun x => inB x (-2000) 20000) = false := by rw [H.out, HS.out, h6]; rfl
            have HC : Hid (msC (n : Int) xs (kn : Int) mag = 5) := hid (by simp [msC, h1, h2, h3, EP, hk, hs9, h5])
            have HV : Hid (msV (n : Int) xs (kn : Int) mag = []) := hid (by simp [msV, HC.out])
            go_wp2_with fail
            refine wp_region_ext (by kernel_rfl) (by kernel_rfl) ?_
            repeat (go_big_quiet_step ((first | fail)))
            refine wpQuiet_nil ?_
            intro w3 hb3
            obtain ⟨hc_w3, hf_w3⟩ := bcell hb3
            have hz_w3 := hb3.size
            go_wp2_with (go_at_call 32; refine (l02Mag_any _ _).mono ?_; rintro e w' ⟨rfl, rfl⟩)
            go_ret2
            exact ⟨none, 0, by rw [HV.out, HC.out]; rfl, by rw [HV.out]; exact World.ownsRow_nil _ _ _ _, (by repeat (first | assumption | exact Below.refl _ _ | apply Below.al | apply Below.drewN' | apply Below.drew | (apply Below.tr; assumption)))⟩
          · go_wp2_with fail
            refine wp_region_ext (by kernel_rfl) (by kernel_rfl) ?_
            repeat (go_big_quiet_step ((first | fail)))
            refine wpQuiet_nil ?_
            intro w3 hb3
            obtain ⟨hc_w3, hf_w3⟩ := bcell hb3
            have hz_w3 := hb3.size
            have hb9 := Below.tr hb3 hb
            have hz9 := hb9.size
            have H3 := hid (own_below H0.out hb3 (Nat.le_refl _))
            go_wp2_with (first | (go_at_call 32; refine (l02Mag_any _ _).mono ?_; rintro e w' ⟨rfl, rfl⟩) | (at_builtin; go_must (refine wpList_append_own _ rfl _ _ 30 rfl (w5.heap.size) 2 i0 _ 1 8 Try.underlying30 hi0 iz0 iz1 iz2 rfl (by decide) _ _ _ rfl (H3.out.alloc _) ⟨(w3).heap.size, 0, none⟩ 1 1 [.int .i64 (mag + y - y0)] rfl rfl (news_at w3 [.int .i64 (mag + y - y0)] 2) (by simp [Value.oneCell']) (by unfold maxLen; omega) (by omega) (by first | omega | (simp; done) | (simp; omega)) ?_); intro v2 w4 own_w4 grow_w4 _))
            go_roundw
            case rel => exact ⟨k + 1, by omega, by go_num, Below.ap hb9 hb9.size H3.out (Nat.le_refl _) grow_w4, by rw [List.take_add_one, HM.out]; simpa [fI] using own_w4, hid (by rw [H.out, HS.out, h6]; rfl)⟩
            case measure => simp [intOf]; omega
        · obtain rfl : k = n := by omega
          have h5 : ((mgL p kn mag).all fun x => inB x (-2000) 20000) = true := by rw [H.out, List.drop_eq_nil_of_le (by have := HML.out; omega)]; rfl
          have HC : Hid (msC (k : Int) xs (kn : Int) mag = 0) := hid (by simp [msC, h1, h2, h3, EP, hk, hs9, h5])
          have HV : Hid (msV (k : Int) xs (kn : Int) mag = mgL p kn mag) := hid (by simp [msV, HC.out, EP])
          have H0 : Hid (wr.ownsRow w5.heap.size 2 1 (.slice Ar k cr) k ((mgL p kn mag).flatMap encI)) := hid (by have t := hown; rw [List.take_of_length_le (by have := HML.out; omega)] at t; rw [fI_flat]; exact t)
          clear hown
          go_wp2
          go_ret2
          exact ⟨Ar, cr, by rw [HV.out, HC.out, HML.out]; rfl, by rw [HV.out, HML.out]; exact own_lo H0.out hw5.size, Below.tr hb hw5⟩
end Go.Proofs.Ytollibmfelmpfaa
