/- Contracts: drawn light curves; the magnitude at a time, the longest gap; in the program. -/
import Derived.Test.YthlolfhjnfkcfaaC00
import Derived.Test.YthlolfhjnfkcfaaC8a
namespace Go.Proofs.Ythlolfhjnfkcfaa
open Go.RowKit
set_option linter.unusedVariables false
def CvOk (ys : List Pt) : Prop := ys.Pairwise (fun p q => p.t < q.t) ∧ ∀ p ∈ ys, 0 ≤ p.t ∧ p.t ≤ 60000 ∧ 8000 ≤ p.m ∧ p.m ≤ 9980 ∧ p.t % 100 = 0
theorem CvOk.snoc {ys : List Pt} {p : Pt} (h : CvOk ys) (hl : ∀ q ∈ ys, q.t < p.t) (hp : 0 ≤ p.t ∧ p.t ≤ 60000 ∧ 8000 ≤ p.m ∧ p.m ≤ 9980 ∧ p.t % 100 = 0) : CvOk (ys ++ [p]) := by
  refine ⟨?_, fun q hq => ?_⟩
  · rw [List.pairwise_append]
    exact ⟨h.1, by simp, fun a ha b hb => by simp at hb; subst hb; exact hl a ha⟩
  · rcases List.mem_append.1 hq with hq | hq
    · exact h.2 q hq
    · simp at hq; subst hq; exact hp
theorem ptGo_of : ∀ (xs : List Pt) (prev : Option Pt), xs.Pairwise (fun p q => p.t < q.t) → (∀ p ∈ xs, 0 ≤ p.t ∧ p.t ≤ 60000 ∧ 8000 ≤ p.m ∧ p.m ≤ 9980) → (∀ q, prev = some q → ∀ p ∈ xs, q.t < p.t) → ptGo prev xs = true
  | [], _, _, _, _ => rfl
  | p :: r, prev, h1, h2, h3 => by
    have hp := h2 p (List.mem_cons_self)
    rw [List.pairwise_cons] at h1
    have ih := ptGo_of r (some p) h1.2 (fun q hq => h2 q (List.mem_cons_of_mem _ hq)) (fun q hq s hs => by cases hq; exact h1.1 s hs)
    have hk : ptOk prev p = true := by
      unfold ptOk
      rw [inB_true.2 (by omega), inB_true.2 (by omega)]
      cases prev with
      | none => rfl
      | some q => simpa using h3 q rfl p (List.mem_cons_self)
    simp only [ptGo, hk, ih, Bool.and_self]
theorem CvOk.cv {ys : List Pt} (h : CvOk ys) (hl : ys.length ≤ 12) : cvB ys = true := by
  unfold cvB
  rw [ptGo_of ys none h.1 (fun p hp => by have := h.2 p hp; exact ⟨this.1, this.2.1, this.2.2.1, this.2.2.2.1⟩) (fun q hq => by cases hq)]
  simp; omega
theorem CvOk.lt {ys : List Pt} (h : CvOk ys) {j k : Nat} {p q : Pt} (hj : ys[j]? = some p) (hk : ys[k]? = some q) (hjk : j < k) : p.t < q.t := by
  obtain ⟨h1, rfl⟩ := List.getElem?_eq_some_iff.1 hj
  obtain ⟨h2, rfl⟩ := List.getElem?_eq_some_iff.1 hk
  exact List.pairwise_iff_getElem.1 h.1 j k h1 h2 hjk
theorem CvOk.rng {ys : List Pt} (h : CvOk ys) {k : Nat} {p : Pt} (hk : ys[k]? = some p) : 0 ≤ p.t ∧ p.t ≤ 60000 ∧ 8000 ≤ p.m ∧ p.m ≤ 9980 := by
  have := h.2 p (List.mem_of_getElem? hk)
  exact ⟨this.1, this.2.1, this.2.2.1, this.2.2.2.1⟩
theorem CvOk.mod {ys : List Pt} (h : CvOk ys) {p : Pt} (hp : p ∈ ys) : p.t % 100 = 0 := (h.2 p hp).2.2.2.2
/-! ### The magnitude at a time -/
def midM (a b : Pt) (T : Int) : Int := nearI (a.m * (b.t - a.t) + (b.m - a.m) * (T - a.t)) (b.t - a.t)
def maGo (T : Int) : Option Pt → List Pt → Option Int
  | _, [] => none
  | none, b :: r => if b.t = T then some b.m else maGo T (some b) r
  | some a, b :: r => if b.t = T then some b.m else if a.t < T ∧ T < b.t then some (midM a b T) else maGo T (some b) r
def prevP (xs : List Pt) (k : Nat) : Option Pt := if k = 0 then none else xs[k-1]?
theorem prevP_succ (xs : List Pt) (k : Nat) : prevP xs (k + 1) = xs[k]? := by simp [prevP]
theorem maGo_skip {xs : List Pt} {T : Int} (h : CvOk xs) : ∀ (k : Nat), k ≤ xs.length → (∀ (j : Nat) (p : Pt), j < k → xs[j]? = some p → p.t < T) → maGo T none xs = maGo T (prevP xs k) (xs.drop k)
  | 0, _, _ => by simp [prevP]
  | k + 1, hk, hl => by
    rw [maGo_skip h k (by omega) (fun j p hj => hl j p (by omega))]
    obtain ⟨p, hp⟩ := getx (xs := xs) (k := k) (by omega)
    have h1 := hl k p (by omega) hp
    rw [dropx hp, prevP_succ, hp]
    unfold prevP
    split
    · rw [maGo, if_neg (by omega)]
    · obtain ⟨q, hq⟩ := getx (xs := xs) (k := k - 1) (by omega)
      rw [hq, maGo, if_neg (by omega), if_neg (by omega)]
theorem maGo_at {xs : List Pt} {k : Nat} {p : Pt} (h : CvOk xs) (hp : xs[k]? = some p) : maGo p.t none xs = some p.m := by
  rw [maGo_skip h k (by have := (List.getElem?_eq_some_iff.1 hp).1; omega) (fun j q hj hq => h.lt hq hp hj), dropx hp]
  cases prevP xs k <;> simp [maGo]
theorem maGo_mid {xs : List Pt} {k : Nat} {a b : Pt} {T : Int} (h : CvOk xs) (ha : xs[k]? = some a) (hb : xs[k+1]? = some b) (h1 : a.t < T) (h2 : T < b.t) : maGo T none xs = some (midM a b T) := by
  rw [maGo_skip h (k + 1) (by have := (List.getElem?_eq_some_iff.1 hb).1; omega) (fun j q hj hq => by
    rcases Nat.lt_or_ge j k with hlt | hge
    · have := h.lt hq ha hlt; omega
    · obtain rfl : j = k := by omega
      rw [ha] at hq; cases hq; exact h1), dropx hb, prevP_succ, ha, maGo, if_neg (by omega), if_pos ⟨h1, h2⟩]
theorem near_lo {N S v : Int} (hS : 0 < S) (h : v * S ≤ N) : v ≤ nearI N S := by
  rw [nearI_round N S hS, Int.le_ediv_iff_mul_le (by omega)]
  have e : v * (2 * S) = 2 * (v * S) := by rw [← Int.mul_assoc, Int.mul_comm v 2, Int.mul_assoc]
  omega
theorem near_hi {N S v : Int} (hS : 0 < S) (h : N ≤ v * S) : nearI N S ≤ v := by
  rw [nearI_round N S hS]
  have : (2 * N + S) / (2 * S) < v + 1 := by
    rw [Int.ediv_lt_iff_lt_mul (by omega)]
    have e : (v + 1) * (2 * S) = 2 * (v * S) + 2 * S := by rw [Int.add_mul, ← Int.mul_assoc, Int.mul_comm v 2, Int.mul_assoc, Int.one_mul]
    omega
  omega
theorem midM_bd {a b : Pt} {T : Int} (h1 : a.t ≤ T) (h2 : T ≤ b.t) (h3 : a.t < b.t) : (a.m ≤ b.m → a.m ≤ midM a b T ∧ midM a b T ≤ b.m) ∧ (b.m ≤ a.m → b.m ≤ midM a b T ∧ midM a b T ≤ a.m) := by
  have hS : 0 < b.t - a.t := by omega
  have eb : b.m * (b.t - a.t) = a.m * (b.t - a.t) + (b.m - a.m) * (b.t - a.t) := by rw [← Int.add_mul]; congr 1; omega
  constructor
  · intro h
    have p1 : 0 ≤ (b.m - a.m) * (T - a.t) := Int.mul_nonneg (by omega) (by omega)
    have p2 : (b.m - a.m) * (T - a.t) ≤ (b.m - a.m) * (b.t - a.t) := Int.mul_le_mul_of_nonneg_left (by omega) (by omega)
    exact ⟨near_lo hS (by omega), near_hi hS (by omega)⟩
  · intro h
    have p1 : (b.m - a.m) * (T - a.t) ≤ 0 := Int.mul_nonpos_of_nonpos_of_nonneg (by omega) (by omega)
    have p2 : (b.m - a.m) * (b.t - a.t) ≤ (b.m - a.m) * (T - a.t) := Int.mul_le_mul_of_nonpos_left (by omega) (by omega)
    exact ⟨near_lo hS (by omega), near_hi hS (by omega)⟩
def CurveRes (lo : Nat) (w : World) (e : Ending) (w' : World) : Prop := ∃ (ys : List Pt) (Ad : Option Addr) (c : Nat), e = .returned (.slice Ad ys.length c) ∧ w'.ownsRow lo 45 2 (.slice Ad ys.length c) ys.length (ys.flatMap encPt) ∧ Below lo w w' ∧ ys.length ≤ 12 ∧ CvOk ys
set_option maxRecDepth 20000 in
set_option maxHeartbeats 2000000 in
theorem l08Draw_any (lo g : Nat) (w : World) (h : Src w lo g 0) :
    Calls Try.prog 24 #[.pointer (some ⟨g, 0, none⟩), .int .i64 12] w (CurveRes lo w) := by
  have hg : lo ≤ g := h.1
  have zg : g < w.heap.size := h.2.1
  obtain ⟨i0, hi0, iz0, iz1, iz2⟩ := info_parts (P := Try.prog) (e := 45) (z := .agg #[.int .i64 0, .int .i64 0]) (size := 2) (bytes := 16) (by kernel_rfl)
  go_enter Try.func24, Try.ntmps24
  go_wp2_with fail
  refine (pick00_any lo g 0 9 _ (h.below (Below.al (Below.refl _ _) _)) (by omega) (by omega) (by omega)).mono ?_
  rintro e w1 ⟨x, rfl, x0, x1, s1, g1⟩
  go_wp2_with fail
  refine (pick00_any lo g 2 13 _ s1 (by omega) (by omega) (by omega)).mono ?_
  rintro e w2 ⟨k0, rfl, k1, k2, s2, g2⟩
  have g12 := grown_trans' g1 g2
  have hb2 : Below lo w w2 := ((Below.refl lo w).alloc (by omega) (.cells #[] 45)).grown g12 (by simp; omega) (fun q hq => by cases hq; exact hg)
  have o2 : w2.ownsRow lo 45 2 (.slice (some ⟨w.heap.size, 0, none⟩) 0 0) 0 [] := (own_lit0 w 45 2 (by omega)).kept g12 (.inr (by simp [Value.ownBlock]; omega))
  have ne2 : (Value.slice (some ⟨w.heap.size, 0, none⟩) 0 0).ownBlock ≠ some g := by simp [Value.ownBlock]; omega
  clear s1 g1 g2 g12 h
  go_wp2_with fail
  generalize Value.slice (some ⟨w.heap.size, 0, none⟩) 0 0 = v2 at *
  go_loopw [5, 6, 7] (fun vv av kv wr => ∃ (k at_ : Int) (ys : List Pt) (m : Nat), kv = .int .i64 k ∧ av = .int .i64 at_ ∧ 0 ≤ k ∧ k ≤ 12 ∧ ys.length + k ≤ 12 ∧ 0 ≤ at_ ∧ at_ ≤ 8000 + 4000 * ys.length ∧ m + 10 * k ≤ 300 ∧ Hid (CvOk ys) ∧ at_ % 100 = 0 ∧ Hid (∀ p ∈ ys, p.t < at_) ∧ Src wr lo g m ∧ Below lo w wr ∧ vv.ownBlock ≠ some g ∧ wr.ownsRow lo 45 2 vv ys.length (ys.flatMap encPt)) (fun _ _ kv _ => (intOf kv).toNat)
  case atStart => exact ⟨k0, 1000 * x, [], 4, rfl, rfl, k1, by omega, by simp; omega, by omega, by simp; omega, by omega, hid ⟨by simp, by simp⟩, by omega, hid (by simp), s2, hb2, ne2, o2⟩
  case round =>
    clear s2 hb2 ne2 o2
    obtain ⟨k, at_, ys, m, rfl, rfl, q0, q1, q3, q4, q5, q6, CV, QM, LT, s, hb, ne, own⟩ := hrel
    obtain ⟨Ar, cr, rfl⟩ := own_shape own
    by_cases hk : 0 < k
    · have OW := hid own
      have hsz := hb.size
      have zgr : lo ≤ wr.heap.size := by have := s.2.1; omega
      clear own
      go_wp2_with fail
      refine (pick00_any lo g m 100 _ s (by omega) (by omega) (by omega)).mono ?_
      rintro e w5 ⟨y, rfl, y0, y1, s5, g5⟩
      have own5 := hid (OW.out.kept g5 (.inr ne))
      have hb5 : Below lo w w5 := hb.grown g5 zgr (fun q hq => by cases hq; exact hg)
      have zg5 : g < w5.heap.size := s5.2.1
      have zl5 : lo ≤ w5.heap.size := by omega
      go_wp2_with (at_builtin; go_must (refine wpList_append_own_at _ rfl _ _ 38 rfl (lo) 45 i0 _ 2 16 Try.underlying38 hi0 iz0 iz1 iz2 rfl (by decide) _ _ _ rfl (own5.out.alloc _) ⟨(w5).heap.size, 0, none⟩ 1 1 [.int .i64 at_, .int .i64 (8000 + 20 * y)] rfl rfl (news_at w5 [.int .i64 at_, .int .i64 (8000 + 20 * y)] 45) (by simp [Value.oneCell']) (by unfold maxLen; omega) (by omega) (by first | omega | (simp; done) | (simp; omega)) ?_); intro v2 w6 own_w6 grow_w6 _ at_w6)
      have s6 := (s5.below (Below.al (Below.refl _ _) (.cells #[.int .i64 at_, .int .i64 (8000 + 20 * y)] 45))).kept grow_w6 (fun q hq => ⟨(own5.out.lt q hq).1, fun e => ne (e ▸ hq)⟩)
      have hb6 : Below lo w w6 := Below.ap hb5 zl5 own5.out (Nat.le_refl _) grow_w6
      have ne6 := grow_ne' at_w6 ne zg5
      have zl6 : lo ≤ w6.heap.size := by have := s6.2.1; omega
      refine (pick00_any lo g (m + 2) 40 _ s6 (by omega) (by omega) (by omega)).mono ?_
      rintro e w7 ⟨z, rfl, z0, z1, s7, g7⟩
      have own7 := own_w6.kept g7 (.inr ne6)
      have hb7 : Below lo w w7 := hb6.grown g7 zl6 (fun q hq => by cases hq; exact hg)
      have O7 := hid own7
      clear own7 own_w6
      go_wp2
      go_roundw
      case rel => exact ⟨k - 1, at_ + 100 * (1 + z), ys ++ [⟨at_, 8000 + 20 * y⟩], m + 4, by go_num, by first | rfl | go_num, by omega, by omega, by simp; omega, by omega, by simp; omega, by omega, hid (CV.out.snoc LT.out ⟨q4, by simp only; omega, by simp only; omega, by simp only; omega, by simp only; omega⟩), by omega, hid (fun p hp => by rcases List.mem_append.1 hp with hp | hp; (have := LT.out p hp; omega); (simp at hp; subst hp; simp only; omega)), s7, hb7, ne6, by simpa [encPt] using O7.out⟩
      case measure => simp [intOf]; omega
    · have OW := hid own
      clear own
      go_wp2
      go_ret
      exact ⟨ys, Ar, cr, rfl, OW.out, hb, by omega, CV.out⟩
theorem a2Curve_any (A : Option Addr) (c : Nat) (xs : List Int) (w : World) (h : Rd encB 1 w w.heap.size A xs) (v : ∀ x ∈ xs, 0 ≤ x ∧ x < 256) (l : xs.length ≤ 3000) :
    Calls Try.prog 12 #[.slice A xs.length c] w (CurveRes w.heap.size w) := by
  go_enter Try.func12, Try.ntmps12
  go_wp2_with fail
  refine (l00From_any A c xs _ h v l).mono ?_
  rintro e w1 ⟨g, rfl, s1, hb1⟩
  go_wp2_with fail
  refine (l08Draw_any w.heap.size g _ s1).mono ?_
  rintro e w2 ⟨ys, Ad, c, rfl, o2, hb2, l2, cv⟩
  go_wp2
  go_ret
  exact ⟨ys, Ad, c, rfl, o2, hb1.trans hb2, l2, cv⟩
end Go.Proofs.Ythlolfhjnfkcfaa
