/- Contracts: the numbers of linked stars, whether links are consistent; in the program and in the reference. -/
import Derived.Test.YtollibmfelmpfaaC20f
import Derived.Test.YtollibmfelmpfaaC20t
namespace Go.Proofs.Ytollibmfelmpfaa
open Go.RowKit
set_option linter.unusedVariables false
def jnP (stars : Int) (xs : List Lk) : Jn := jnRun (jn0 stars.toNat) xs
theorem jnRun_ok : ∀ (ls : List Lk) (n k : Nat) (p : Jn), JnOk n (bdN k) p → (∀ (j : Nat) (l : Lk), ls[j]? = some l → 0 ≤ l.a ∧ l.a < l.b ∧ l.b < n ∧ -5000 ≤ l.d ∧ l.d ≤ 5000) → JnOk n (bdN (k + ls.length)) (jnRun p ls)
  | [], n, k, p, h, _ => by simpa [jnRun] using h
  | l :: r, n, k, p, h, hl => by
    have h1 := jnStep_ok h (bdN_nn k) (hl 0 l rfl)
    have h2 := jnRun_ok r n (k + 1) (jnStep p l) h1 (fun j x hx => hl (j + 1) x (by simpa using hx))
    simp only [List.length_cons]
    rw [show k + (r.length + 1) = k + 1 + r.length by omega]
    exact h2
theorem jnP_ok {stars : Int} {xs : List Lk} (h : vlB stars xs = true) : JnOk stars.toNat (bdN xs.length) (jnP stars xs) := by
  simp only [vlB, Bool.and_eq_true, inB_true, decide_eq_true_eq, List.all_eq_true] at h
  have := jnRun_ok xs stars.toNat 0 (jn0 stars.toNat) (jn0_ok _) (fun k p hp => by
    have := h.2.2 p (List.mem_of_getElem? hp)
    simp only [lkB, Bool.and_eq_true, decide_eq_true_eq, inB_true] at this
    omega)
  rw [Nat.zero_add] at this
  exact this
theorem vlB_nat {stars : Int} {xs : List Lk} (h : vlB stars xs = true) : ∃ n : Nat, stars = n ∧ 1 ≤ n ∧ n ≤ 10 ∧ xs.length ≤ 12 ∧ ∀ (k : Nat) (p : Lk), xs[k]? = some p → 0 ≤ p.a ∧ p.a < p.b ∧ p.b < n ∧ -5000 ≤ p.d ∧ p.d ≤ 5000 := by
  simp only [vlB, Bool.and_eq_true, inB_true, decide_eq_true_eq, List.all_eq_true] at h
  refine ⟨stars.toNat, by omega, by omega, by omega, h.2.1, fun k p hp => ?_⟩
  have := h.2.2 p (List.mem_of_getElem? hp)
  simp only [lkB, Bool.and_eq_true, decide_eq_true_eq, inB_true] at this
  omega
def acB (stars : Int) (xs : List Lk) : Bool := if vlB stars xs = true then (jnP stars xs).ok else false
def acC (stars : Int) (xs : List Lk) : Int := if vlB stars xs = true then 0 else 1
def ofC (stars : Int) (xs : List Lk) : Int := if vlB stars xs = true then (if (jnP stars xs).ok = true then 0 else 6) else 1
def ofV (stars : Int) (xs : List Lk) : List Int := if ofC stars xs = 0 then (jnP stars xs).N else []
theorem ofV_len (stars : Int) (xs : List Lk) : (ofV stars xs).length ≤ 10 := by
  cases h : vlB stars xs
  · simp [ofV, ofC, h]
  · obtain ⟨n, rfl, n1, n2, _, _⟩ := vlB_nat h
    have := (jnP_ok h).ln
    unfold ofV
    split
    · omega
    · simp
theorem own_as {w : World} {lo n g c T : Nat} {L : List Int} (h : w.ownsRow lo T 1 (.slice (some ⟨g, 0, none⟩) n c) n (fI L)) (hl : L.length = n) : w.ownsRow lo T 1 (.slice (some ⟨g, 0, none⟩) L.length c) L.length (L.flatMap encI) := by
  rw [hl, fI_flat]; exact h
set_option maxRecDepth 20000 in
set_option maxHeartbeats 2000000 in
theorem implAreConsistent_any (stars : Int) (A : Option Addr) (c : Nat) (xs : List Lk) (w : World) (h : Rd encLk 3 w w.heap.size A xs) (hn : xs.length ≤ 1048576) :
    Calls Try.prog 10 #[.int .i64 stars, .slice A xs.length c] w fun e w' => e = .returned (.tuple #[.bool (acB stars xs), .int .i64 (acC stars xs)]) ∧ Below w.heap.size w w' := by
  cases h1 : vlB stars xs
  · have HC : Hid (acC stars xs = 1) := by simp [Hid, acC, h1]
    have HV : Hid (acB stars xs = false) := by simp [Hid, acB, h1]
    go_enter Try.func10, Try.ntmps10
    go_wp2_with (go_at_call 26; refine (implValidLinks_any _ A c xs _ h hn).mono ?_; rintro e w1 ⟨rfl, hb1⟩; obtain ⟨hc_w1, hf_w1⟩ := bcell hb1; have hz_w1 := hb1.size; (try simp at hz_w1); (try have g_w1 : w.heap.size < w1.heap.size := (by omega)); (try have rd1 : Rd encLk 3 w1 w1.heap.size A xs := (h.below hb1 (Nat.le_refl _)).more hb1.size))
    go_ret2
    exact ⟨by rw [HV.out, HC.out]; rfl, (by repeat (first | assumption | exact Below.refl _ _ | apply Below.al | apply Below.drewN' | apply Below.drew | (apply Below.tr; assumption)))⟩
  obtain ⟨n, rfl, n1, n2, n3, v⟩ := vlB_nat h1
  have V := hid v
  clear v
  have HC : Hid (acC (n : Int) xs = 0) := by simp [Hid, acC, h1]
  have HV : Hid (acB (n : Int) xs = (jnRun (jn0 n) xs).ok) := by simp [Hid, acB, h1, jnP]
  go_enter Try.func10, Try.ntmps10
  go_wp2_with (go_at_call 26; refine (implValidLinks_any _ A c xs _ h hn).mono ?_; rintro e w1 ⟨rfl, hb1⟩; obtain ⟨hc_w1, hf_w1⟩ := bcell hb1; have hz_w1 := hb1.size; (try simp at hz_w1); (try have g_w1 : w.heap.size < w1.heap.size := (by omega)); (try have rd1 : Rd encLk 3 w1 w1.heap.size A xs := (h.below hb1 (Nat.le_refl _)).more hb1.size))
  refine (offsets_any n A c xs _ rd1 n1 n2 n3 V).mono ?_
  rintro e w5 ⟨gF, cF, gN, cN, rfl, oF, oN, hb5⟩
  have hw : Below w.heap.size w w5 := (by repeat (first | assumption | exact Below.refl _ _ | apply Below.al | apply Below.drewN' | apply Below.drew | (apply Below.tr; assumption)))
  go_wp2
  go_ret2
  exact ⟨by rw [HV.out, HC.out]; rfl, hw⟩
set_option maxRecDepth 20000 in
set_option maxHeartbeats 2000000 in
theorem specAreConsistent_any (stars : Int) (A : Option Addr) (c : Nat) (xs : List Lk) (w : World) (h : Rd encLk 3 w w.heap.size A xs) (hn : xs.length ≤ 1048576) :
    Calls Try.prog 8 #[.int .i64 stars, .slice A xs.length c] w fun e w' => e = .returned (.tuple #[.bool (acB stars xs), .int .i64 (acC stars xs)]) ∧ Below w.heap.size w w' := by
  cases h1 : vlB stars xs
  · have HC : Hid (acC stars xs = 1) := by simp [Hid, acC, h1]
    have HV : Hid (acB stars xs = false) := by simp [Hid, acB, h1]
    go_enter Try.func8, Try.ntmps8
    go_wp2_with (go_at_call 23; refine (l20Ok_any _ A c xs _ h hn).mono ?_; rintro e w1 ⟨rfl, hb1⟩; obtain ⟨hc_w1, hf_w1⟩ := bcell hb1; have hz_w1 := hb1.size; (try simp at hz_w1); (try have g_w1 : w.heap.size < w1.heap.size := (by omega)); (try have rd1 : Rd encLk 3 w1 w1.heap.size A xs := (h.below hb1 (Nat.le_refl _)).more hb1.size))
    go_ret2
    exact ⟨by rw [HV.out, HC.out]; rfl, (by repeat (first | assumption | exact Below.refl _ _ | apply Below.al | apply Below.drewN' | apply Below.drew | (apply Below.tr; assumption)))⟩
  obtain ⟨n, rfl, n1, n2, n3, v⟩ := vlB_nat h1
  have V := hid v
  clear v
  have HC : Hid (acC (n : Int) xs = 0) := by simp [Hid, acC, h1]
  have HV : Hid (acB (n : Int) xs = (jnRun (jn0 n) xs).ok) := by simp [Hid, acB, h1, jnP]
  go_enter Try.func8, Try.ntmps8
  go_wp2_with (go_at_call 23; refine (l20Ok_any _ A c xs _ h hn).mono ?_; rintro e w1 ⟨rfl, hb1⟩; obtain ⟨hc_w1, hf_w1⟩ := bcell hb1; have hz_w1 := hb1.size; (try simp at hz_w1); (try have g_w1 : w.heap.size < w1.heap.size := (by omega)); (try have rd1 : Rd encLk 3 w1 w1.heap.size A xs := (h.below hb1 (Nat.le_refl _)).more hb1.size))
  refine (l20Join_any n A c xs none 0 [] _ rd1 (fun hx => absurd rfl hx) n1 n2 n3 (by decide) V).mono ?_
  rintro e w5 ⟨g, rfl, ⟨gF, cF, gN, cN, JX⟩, hb5⟩
  rw [jnGo_nil] at JX
  have hw : Below w.heap.size w w5 := (by repeat (first | assumption | exact Below.refl _ _ | apply Below.al | apply Below.drewN' | apply Below.drew | (apply Below.tr; assumption)))
  have k1 := JX.c1
  have k2 := JX.c2
  have oN := JX.oN
  go_wp2
  go_ret2
  exact ⟨by rw [HV.out, HC.out]; rfl, hw⟩
set_option maxRecDepth 20000 in
set_option maxHeartbeats 2000000 in
theorem implOffsetsOf_any (stars : Int) (A : Option Addr) (c : Nat) (xs : List Lk) (w : World) (h : Rd encLk 3 w w.heap.size A xs) (hn : xs.length ≤ 1048576) :
    Calls Try.prog 20 #[.int .i64 stars, .slice A xs.length c] w (OwnTup 2 1 encI (ofV stars xs) (ofC stars xs) w) := by
  cases h1 : vlB stars xs
  · have HC : Hid (ofC stars xs = 1) := by simp [Hid, ofC, h1]
    have HV : Hid (ofV stars xs = []) := by simp [Hid, ofV, HC.out]
    go_enter Try.func20, Try.ntmps20
    go_wp2_with (go_at_call 26; refine (implValidLinks_any _ A c xs _ h hn).mono ?_; rintro e w1 ⟨rfl, hb1⟩; obtain ⟨hc_w1, hf_w1⟩ := bcell hb1; have hz_w1 := hb1.size; (try simp at hz_w1); (try have g_w1 : w.heap.size < w1.heap.size := (by omega)); (try have rd1 : Rd encLk 3 w1 w1.heap.size A xs := (h.below hb1 (Nat.le_refl _)).more hb1.size))
    go_ret2
    exact ⟨none, 0, by rw [HV.out, HC.out]; rfl, by rw [HV.out]; exact World.ownsRow_nil _ _ _ _, (by repeat (first | assumption | exact Below.refl _ _ | apply Below.al | apply Below.drewN' | apply Below.drew | (apply Below.tr; assumption)))⟩
  obtain ⟨n, rfl, n1, n2, n3, v⟩ := vlB_nat h1
  have V := hid v
  clear v
  have HL : Hid ((jnRun (jn0 n) xs).N.length = n) := hid (by have := (jnP_ok h1).ln; simpa [jnP] using this)
  cases hk : (jnP (n : Int) xs).ok
  · have HC : Hid (ofC (n : Int) xs = 6) := by simp [Hid, ofC, h1, hk]
    have HV : Hid (ofV (n : Int) xs = []) := by simp [Hid, ofV, HC.out]
    go_enter Try.func20, Try.ntmps20
    go_wp2_with (go_at_call 26; refine (implValidLinks_any _ A c xs _ h hn).mono ?_; rintro e w1 ⟨rfl, hb1⟩; obtain ⟨hc_w1, hf_w1⟩ := bcell hb1; have hz_w1 := hb1.size; (try simp at hz_w1); (try have g_w1 : w.heap.size < w1.heap.size := (by omega)); (try have rd1 : Rd encLk 3 w1 w1.heap.size A xs := (h.below hb1 (Nat.le_refl _)).more hb1.size))
    refine (offsets_any n A c xs _ rd1 n1 n2 n3 V).mono ?_
    rintro e w5 ⟨gF, cF, gN, cN, rfl, oF, oN, hb5⟩
    have hw : Below w.heap.size w w5 := (by repeat (first | assumption | exact Below.refl _ _ | apply Below.al | apply Below.drewN' | apply Below.drew | (apply Below.tr; assumption)))
    have hk2 : (jnRun (jn0 n) xs).ok = false := hk
    go_wp2
    go_ret2
    exact ⟨none, 0, by rw [HV.out, HC.out]; rfl, by rw [HV.out]; exact World.ownsRow_nil _ _ _ _, (by repeat (first | assumption | exact Below.refl _ _ | apply Below.al | apply Below.drewN' | apply Below.drew | (apply Below.tr; assumption)))⟩
  · have HC : Hid (ofC (n : Int) xs = 0) := by simp [Hid, ofC, h1, hk]
    have HV : Hid (ofV (n : Int) xs = (jnRun (jn0 n) xs).N) := by simp [Hid, ofV, HC.out, jnP]
    go_enter Try.func20, Try.ntmps20
    go_wp2_with (go_at_call 26; refine (implValidLinks_any _ A c xs _ h hn).mono ?_; rintro e w1 ⟨rfl, hb1⟩; obtain ⟨hc_w1, hf_w1⟩ := bcell hb1; have hz_w1 := hb1.size; (try simp at hz_w1); (try have g_w1 : w.heap.size < w1.heap.size := (by omega)); (try have rd1 : Rd encLk 3 w1 w1.heap.size A xs := (h.below hb1 (Nat.le_refl _)).more hb1.size))
    refine (offsets_any n A c xs _ rd1 n1 n2 n3 V).mono ?_
    rintro e w5 ⟨gF, cF, gN, cN, rfl, oF, oN, hb5⟩
    have hw : Below w.heap.size w w5 := (by repeat (first | assumption | exact Below.refl _ _ | apply Below.al | apply Below.drewN' | apply Below.drew | (apply Below.tr; assumption)))
    have hk2 : (jnRun (jn0 n) xs).ok = true := hk
    go_wp2
    go_ret2
    exact ⟨some ⟨gN, 0, none⟩, cN, by rw [HV.out, HC.out, HL.out]; rfl, by rw [HV.out]; exact own_as (own_lo oN hb1.size) HL.out, hw⟩
set_option maxRecDepth 20000 in
set_option maxHeartbeats 2000000 in
theorem specOffsetsOf_any (stars : Int) (A : Option Addr) (c : Nat) (xs : List Lk) (w : World) (h : Rd encLk 3 w w.heap.size A xs) (hn : xs.length ≤ 1048576) :
    Calls Try.prog 19 #[.int .i64 stars, .slice A xs.length c] w (OwnTup 2 1 encI (ofV stars xs) (ofC stars xs) w) := by
  cases h1 : vlB stars xs
  · have HC : Hid (ofC stars xs = 1) := by simp [Hid, ofC, h1]
    have HV : Hid (ofV stars xs = []) := by simp [Hid, ofV, HC.out]
    go_enter Try.func19, Try.ntmps19
    go_wp2_with (go_at_call 23; refine (l20Ok_any _ A c xs _ h hn).mono ?_; rintro e w1 ⟨rfl, hb1⟩; obtain ⟨hc_w1, hf_w1⟩ := bcell hb1; have hz_w1 := hb1.size; (try simp at hz_w1); (try have g_w1 : w.heap.size < w1.heap.size := (by omega)); (try have rd1 : Rd encLk 3 w1 w1.heap.size A xs := (h.below hb1 (Nat.le_refl _)).more hb1.size))
    go_ret2
    exact ⟨none, 0, by rw [HV.out, HC.out]; rfl, by rw [HV.out]; exact World.ownsRow_nil _ _ _ _, (by repeat (first | assumption | exact Below.refl _ _ | apply Below.al | apply Below.drewN' | apply Below.drew | (apply Below.tr; assumption)))⟩
  obtain ⟨n, rfl, n1, n2, n3, v⟩ := vlB_nat h1
  have V := hid v
  clear v
  have HL : Hid ((jnRun (jn0 n) xs).N.length = n) := hid (by have := (jnP_ok h1).ln; simpa [jnP] using this)
  cases hk : (jnP (n : Int) xs).ok
  · have HC : Hid (ofC (n : Int) xs = 6) := by simp [Hid, ofC, h1, hk]
    have HV : Hid (ofV (n : Int) xs = []) := by simp [Hid, ofV, HC.out]
    go_enter Try.func19, Try.ntmps19
    go_wp2_with (go_at_call 23; refine (l20Ok_any _ A c xs _ h hn).mono ?_; rintro e w1 ⟨rfl, hb1⟩; obtain ⟨hc_w1, hf_w1⟩ := bcell hb1; have hz_w1 := hb1.size; (try simp at hz_w1); (try have g_w1 : w.heap.size < w1.heap.size := (by omega)); (try have rd1 : Rd encLk 3 w1 w1.heap.size A xs := (h.below hb1 (Nat.le_refl _)).more hb1.size))
    refine (l20Join_any n A c xs none 0 [] _ rd1 (fun hx => absurd rfl hx) n1 n2 n3 (by decide) V).mono ?_
    rintro e w5 ⟨g, rfl, ⟨gF, cF, gN, cN, JX⟩, hb5⟩
    rw [jnGo_nil] at JX
    have hw : Below w.heap.size w w5 := (by repeat (first | assumption | exact Below.refl _ _ | apply Below.al | apply Below.drewN' | apply Below.drew | (apply Below.tr; assumption)))
    have k1 := JX.c1
    have k2 := JX.c2
    have oN := JX.oN
    have hk2 : (jnRun (jn0 n) xs).ok = false := hk
    go_wp2
    go_ret2
    exact ⟨none, 0, by rw [HV.out, HC.out]; rfl, by rw [HV.out]; exact World.ownsRow_nil _ _ _ _, (by repeat (first | assumption | exact Below.refl _ _ | apply Below.al | apply Below.drewN' | apply Below.drew | (apply Below.tr; assumption)))⟩
  · have HC : Hid (ofC (n : Int) xs = 0) := by simp [Hid, ofC, h1, hk]
    have HV : Hid (ofV (n : Int) xs = (jnRun (jn0 n) xs).N) := by simp [Hid, ofV, HC.out, jnP]
    go_enter Try.func19, Try.ntmps19
    go_wp2_with (go_at_call 23; refine (l20Ok_any _ A c xs _ h hn).mono ?_; rintro e w1 ⟨rfl, hb1⟩; obtain ⟨hc_w1, hf_w1⟩ := bcell hb1; have hz_w1 := hb1.size; (try simp at hz_w1); (try have g_w1 : w.heap.size < w1.heap.size := (by omega)); (try have rd1 : Rd encLk 3 w1 w1.heap.size A xs := (h.below hb1 (Nat.le_refl _)).more hb1.size))
    refine (l20Join_any n A c xs none 0 [] _ rd1 (fun hx => absurd rfl hx) n1 n2 n3 (by decide) V).mono ?_
    rintro e w5 ⟨g, rfl, ⟨gF, cF, gN, cN, JX⟩, hb5⟩
    rw [jnGo_nil] at JX
    have hw : Below w.heap.size w w5 := (by repeat (first | assumption | exact Below.refl _ _ | apply Below.al | apply Below.drewN' | apply Below.drew | (apply Below.tr; assumption)))
    have k1 := JX.c1
    have k2 := JX.c2
    have oN := JX.oN
    have hk2 : (jnRun (jn0 n) xs).ok = true := hk
    go_wp2
    go_ret2
    exact ⟨some ⟨gN, 0, none⟩, cN, by rw [HV.out, HC.out, HL.out]; rfl, by rw [HV.out]; exact own_as (own_lo oN hb1.size) HL.out, hw⟩
end Go.Proofs.Ytollibmfelmpfaa
