/- Contracts: a rule at another place, in the program and in the reference. -/
import Derived.Test.YtflffbieefmaiaaC18x
namespace Go.Proofs.Ytflffbieefmaiaa
open Go.RowKit
set_option linter.unusedVariables false
def roC (xs : List Ru) (a b : Int) : Int := if ruL xs = true then (if inB a 0 ((xs.length : Int) - 1) = true ∧ inB b 0 ((xs.length : Int) - 1) = true then 0 else 2) else 1
def mvV (xs : List Ru) (a b : Int) : List Ru := if roC xs a b = 0 then (match xs[a.toNat]? with | some x => mvI (mvR xs a.toNat) b.toNat x | none => []) else []
theorem mvV_len (xs : List Ru) (a b : Int) : (mvV xs a b).length ≤ xs.length := by
  unfold mvV
  split
  · split
    · next x hx =>
      have h1 := mvR_len (List.getElem?_eq_some_iff.1 hx).1
      have h2 : (mvI (mvR xs a.toNat) b.toNat x).length = (mvR xs a.toNat).length + 1 := by
        unfold mvI
        have := congrArg List.length (List.take_append_drop b.toNat (mvR xs a.toNat))
        simp only [List.length_append, List.length_singleton] at this ⊢
        omega
      omega
    · simp
  · simp
theorem ruL_len {xs : List Ru} (h : ruL xs = true) : xs.length ≤ 12 := by
  unfold ruL at h
  simp only [Bool.and_eq_true, decide_eq_true_eq] at h
  exact h.1
theorem own_cmax {w : World} {lo n c : Nat} {Ad : Option Addr} {e : TypeId} {size : Nat} {ys : List Value} (h : w.ownsRow lo e size (.slice Ad n c) n ys) : c ≤ maxLen := by
  rcases h.2 with ⟨hv, h0⟩ | ⟨g, cap, cur, hv, hg, hh, hc, hm, _⟩
  · simp at hv; have := hv.2; omega
  · simp at hv; omega
theorem rd_takek {α : Type} {enc : α → List Value} {k B : Nat} {w : World} {A : Option Addr} {xs : List α} (h : Rd enc k w B A xs) (n : Nat) : Rd enc k w B A (xs.take n) := fun hx => by
  have hne : xs ≠ [] := by rintro rfl; simp at hx
  obtain ⟨b, o, h1, h2, h3⟩ := h hne
  refine ⟨b, o, h1, h2, fun i x hi j v hj => ?_⟩
  have : i < n := by
    have := (List.getElem?_eq_some_iff.1 hi).1
    rw [List.length_take] at this; omega
  rw [List.getElem?_take_of_lt this] at hi
  exact h3 i x hi j v hj
theorem rd_dropk {α : Type} {enc : α → List Value} {k B b o c n : Nat} {w : World} {A : Addr} {xs : List α} (h : Rd enc k w B (some ⟨b, o, none⟩) xs) (hc : xs.length ≤ c) (hA : (if c = n then (some (⟨b, o, none⟩ : Addr)) else some ⟨b, o + n * k, none⟩) = some A) : Rd enc k w B (some A) (xs.drop n) := fun hx => by
  have hne : xs ≠ [] := by rintro rfl; simp at hx
  have hn : n < xs.length := by
    rcases Nat.lt_or_ge n xs.length with h | h
    · exact h
    · exact absurd (List.drop_eq_nil_of_le h) hx
  rw [if_neg (by omega)] at hA
  cases hA
  obtain ⟨b', o', h1, h2, h3⟩ := h hne
  cases h1
  refine ⟨b, o + n * k, rfl, h2, fun i x hi j v hj => ?_⟩
  rw [List.getElem?_drop] at hi
  have := h3 (n + i) x hi j v hj
  rw [show o + n * k + i * k + j = o + (n + i) * k + j from by rw [Nat.add_mul]; omega]
  exact this
theorem own_nn {v v' : Value} {k : Nat} (h : v'.ownBlock = v.ownBlock ∨ v'.ownBlock = some k) (hv : v.ownBlock ≠ none) : v'.ownBlock ≠ none := by
  rcases h with h | h
  · rw [h]; exact hv
  · rw [h]; simp
theorem own_some4 {w : World} {lo n c : Nat} {Ad : Option Addr} {e : TypeId} {size : Nat} {ys : List Value} (h : w.ownsRow lo e size (.slice Ad n c) n ys) (hn : (Value.slice Ad n c).ownBlock ≠ none) : ∃ g, Ad = some ⟨g, 0, none⟩ := by
  rcases h.2 with ⟨hv, _⟩ | ⟨g, cap, cur, hv, _⟩
  · rw [hv] at hn; simp [Value.ownBlock] at hn
  · simp at hv; exact ⟨g, hv.1⟩
theorem countR_any (A : Option Addr) (n c : Nat) (w : World) :
    Calls Try.prog 17 #[.slice A n c] w fun e w' => e = .returned (.int .i64 (n : Int)) ∧ w = w' := by
  go_enter Try.func17, Try.ntmps17
  go_wp2
  go_ret
  exact ⟨rfl, rfl⟩
set_option maxRecDepth 20000 in
set_option maxHeartbeats 4000000 in
theorem implMoveRule_any (A : Option Addr) (c : Nat) (xs : List Ru) (a b : Int) (w : World) (h : Rd encRu 6 w w.heap.size A xs) (hn : xs.length ≤ 1048576) (hcap : xs.length ≤ c) (wf : ∀ x ∈ xs, x.s.size ≤ maxLen) (hz : A = none → c = 0) :
    Calls Try.prog 7 #[.slice A xs.length c, .int .i64 a, .int .i64 b] w (OwnTup 36 6 encRu (mvV xs a b) (roC xs a b) w) := by
  cases h1 : ruL xs
  · have HC : Hid (roC xs a b = 1) := by simp [Hid, roC, h1]
    have HV : Hid (mvV xs a b = []) := by simp [Hid, mvV, HC.out]
    go_enter Try.func7, Try.ntmps7
    go_wp2_with (first | (go_at_call 15; refine (validRules_any A c xs _ ((h.below (B' := w.heap.size) (by repeat (first | assumption | exact Below.refl _ _ | apply Below.al | apply Below.drewN' | apply Below.drew | (apply Below.tr; assumption))) (Nat.le_refl _)).more (by first | (simp; done) | (simp; omega))) hn wf).mono ?_; rintro e w1 ⟨rfl, hb1⟩; obtain ⟨hc_w1, hf_w1⟩ := bcell hb1; have hz_w1 := hb1.size; (try simp at hz_w1); (try have g_w1 : w.heap.size < w1.heap.size := (by omega))) | (go_at_call 17; refine (countR_any _ _ _ _).mono ?_; rintro e w' ⟨rfl, rfl⟩) | (go_at_call 16; refine (in_any _ _ _ _).mono ?_; rintro e w' ⟨rfl, rfl⟩))
    go_ret2
    exact ⟨none, 0, by rw [HV.out, HC.out]; rfl, by rw [HV.out]; exact World.ownsRow_nil _ _ _ _, (by repeat (first | assumption | exact Below.refl _ _ | apply Below.al | apply Below.drewN' | apply Below.drew | (apply Below.tr; assumption)))⟩
  cases h2 : inB a 0 ((xs.length : Int) - 1)
  · have HC : Hid (roC xs a b = 2) := by simp [Hid, roC, h1, h2]
    have HV : Hid (mvV xs a b = []) := by simp [Hid, mvV, HC.out]
    go_enter Try.func7, Try.ntmps7
    go_wp2_with (first | (go_at_call 15; refine (validRules_any A c xs _ ((h.below (B' := w.heap.size) (by repeat (first | assumption | exact Below.refl _ _ | apply Below.al | apply Below.drewN' | apply Below.drew | (apply Below.tr; assumption))) (Nat.le_refl _)).more (by first | (simp; done) | (simp; omega))) hn wf).mono ?_; rintro e w1 ⟨rfl, hb1⟩; obtain ⟨hc_w1, hf_w1⟩ := bcell hb1; have hz_w1 := hb1.size; (try simp at hz_w1); (try have g_w1 : w.heap.size < w1.heap.size := (by omega))) | (go_at_call 17; refine (countR_any _ _ _ _).mono ?_; rintro e w' ⟨rfl, rfl⟩) | (go_at_call 16; refine (in_any _ _ _ _).mono ?_; rintro e w' ⟨rfl, rfl⟩))
    go_ret2
    exact ⟨none, 0, by rw [HV.out, HC.out]; rfl, by rw [HV.out]; exact World.ownsRow_nil _ _ _ _, (by repeat (first | assumption | exact Below.refl _ _ | apply Below.al | apply Below.drewN' | apply Below.drew | (apply Below.tr; assumption)))⟩
  cases h3 : inB b 0 ((xs.length : Int) - 1)
  · have HC : Hid (roC xs a b = 2) := by simp [Hid, roC, h1, h2, h3]
    have HV : Hid (mvV xs a b = []) := by simp [Hid, mvV, HC.out]
    go_enter Try.func7, Try.ntmps7
    go_wp2_with (first | (go_at_call 15; refine (validRules_any A c xs _ ((h.below (B' := w.heap.size) (by repeat (first | assumption | exact Below.refl _ _ | apply Below.al | apply Below.drewN' | apply Below.drew | (apply Below.tr; assumption))) (Nat.le_refl _)).more (by first | (simp; done) | (simp; omega))) hn wf).mono ?_; rintro e w1 ⟨rfl, hb1⟩; obtain ⟨hc_w1, hf_w1⟩ := bcell hb1; have hz_w1 := hb1.size; (try simp at hz_w1); (try have g_w1 : w.heap.size < w1.heap.size := (by omega))) | (go_at_call 17; refine (countR_any _ _ _ _).mono ?_; rintro e w' ⟨rfl, rfl⟩) | (go_at_call 16; refine (in_any _ _ _ _).mono ?_; rintro e w' ⟨rfl, rfl⟩))
    go_ret2
    exact ⟨none, 0, by rw [HV.out, HC.out]; rfl, by rw [HV.out]; exact World.ownsRow_nil _ _ _ _, (by repeat (first | assumption | exact Below.refl _ _ | apply Below.al | apply Below.drewN' | apply Below.drew | (apply Below.tr; assumption)))⟩
  have HC : Hid (roC xs a b = 0) := by simp [Hid, roC, h1, h2, h3]
  obtain ⟨ka, rfl⟩ : ∃ k : Nat, a = k := ⟨a.toNat, by have := inB_true.1 h2; omega⟩
  obtain ⟨kb, rfl⟩ : ∃ k : Nat, b = k := ⟨b.toNat, by have := inB_true.1 h3; omega⟩
  have la : ka < xs.length := by have := inB_true.1 h2; omega
  have lb : kb < xs.length := by have := inB_true.1 h3; omega
  have l12 : xs.length ≤ 12 := ruL_len h1
  obtain ⟨m, hm⟩ : ∃ m, Hid (xs.length = m + 1) := ⟨xs.length - 1, hid (by omega)⟩
  obtain ⟨x, hx⟩ := getx la
  have HV : Hid (mvV xs ka kb = mvI (mvR xs ka) kb x) := hid (by unfold mvV; rw [if_pos HC.out]; simp only [Int.toNat_natCast, hx])
  obtain ⟨bb, oo, rfl, hbB, c0, c1, c2, c3, c4, c5⟩ := h.at6 hx rfl
  clear hx
  go_enter Try.func7, Try.ntmps7
  go_wp2_with (first | (go_at_call 15; refine (validRules_any _ c xs _ ((h.below (B' := w.heap.size) (by repeat (first | assumption | exact Below.refl _ _ | apply Below.al | apply Below.drewN' | apply Below.drew | (apply Below.tr; assumption))) (Nat.le_refl _)).more (by first | (simp; done) | (simp; omega))) hn wf).mono ?_; rintro e w1 ⟨rfl, hb1⟩; obtain ⟨hc_w1, hf_w1⟩ := bcell hb1; have hz_w1 := hb1.size; (try simp at hz_w1); (try have g_w1 : w.heap.size < w1.heap.size := (by omega)); (try have zb1 : bb < w1.heap.size := (by omega))) | (go_at_call 17; refine (countR_any _ _ _ _).mono ?_; rintro e w' ⟨rfl, rfl⟩) | (go_at_call 16; refine (in_any _ _ _ _).mono ?_; rintro e w' ⟨rfl, rfl⟩))
  have b1 : Below w.heap.size w (w1.alloc (.cells #[.string x.s, .int .i64 x.fa, .int .i64 x.ta, .int .i64 x.fp, .int .i64 x.tp, .int .i64 x.sh] 36)) := (by repeat (first | assumption | exact Below.refl _ _ | apply Below.al | apply Below.drewN' | apply Below.drew | (apply Below.tr; assumption)))
  have q : (w1.alloc (.cells #[.string x.s, .int .i64 x.fa, .int .i64 x.ta, .int .i64 x.fp, .int .i64 x.tp, .int .i64 x.sh] 36)).heap[w1.heap.size]? = some (.cells #[.string x.s, .int .i64 x.fa, .int .i64 x.ta, .int .i64 x.fp, .int .i64 x.tp, .int .i64 x.sh] 36 (0, 0)) := heap_alloc_new w1 _
  have z1 : w1.heap.size < (w1.alloc (.cells #[.string x.s, .int .i64 x.fa, .int .i64 x.ta, .int .i64 x.fp, .int .i64 x.tp, .int .i64 x.sh] 36)).heap.size := by simp
  clear hc_w1 hf_w1 hb1
  generalize hW : (w1.alloc (.cells #[.string x.s, .int .i64 x.fa, .int .i64 x.ta, .int .i64 x.fp, .int .i64 x.tp, .int .i64 x.sh] 36)) = W at *
  clear hW
  have CP := copyOfRule_any (some ⟨bb, oo, none⟩) c xs W ((h.below b1 (Nat.le_refl _)).more b1.size) (by omega) (by simp)
  refine CP.mono ?_
  rintro e w5 ⟨Ar, cr, rfl, o5, b5⟩
  obtain ⟨g, rfl, zg1, zg2⟩ := own_form o5 (by omega)
  have hmx := own_cmax o5
  have hm2 := hm.out
  rw [hm2] at o5
  have D := delete_any W.heap.size g m cr ka xs w5 o5 hm2 (by omega) (by omega) hmx
  rw [← hm2] at D
  clear hm2
  have D := hid D
  go_wp2_with fail
  refine D.out.mono ?_
  rintro e w6 ⟨rfl, o6, g6⟩
  rw [hm.out] at o6
  clear D
  have q6 : w6.heap[w1.heap.size]? = some (.cells #[.string x.s, .int .i64 x.fa, .int .i64 x.ta, .int .i64 x.fp, .int .i64 x.tp, .int .i64 x.sh] 36 (0, 0)) := (g6.block _ (by omega) (by simp; omega)).trans ((b5.block _ z1).trans q)
  have p0 : w6.cell? ⟨w1.heap.size, 0, none⟩ = some (.string x.s) := by simp [World.cell?, q6]
  have p1 : w6.cell? ⟨w1.heap.size, 1, none⟩ = some (.int .i64 x.fa) := by simp [World.cell?, q6]
  have p2 : w6.cell? ⟨w1.heap.size, 2, none⟩ = some (.int .i64 x.ta) := by simp [World.cell?, q6]
  have p3 : w6.cell? ⟨w1.heap.size, 3, none⟩ = some (.int .i64 x.fp) := by simp [World.cell?, q6]
  have p4 : w6.cell? ⟨w1.heap.size, 4, none⟩ = some (.int .i64 x.tp) := by simp [World.cell?, q6]
  have p5 : w6.cell? ⟨w1.heap.size, 5, none⟩ = some (.int .i64 x.sh) := by simp [World.cell?, q6]
  have z6 : w1.heap.size < w6.heap.size := by have := g6.size; omega
  have O6 := hid o6
  have G6 := hid g6
  clear q q6 CP o6 g6
  go_wp2_with fail
  have D2 := insert_any W.heap.size g m cr kb w6.heap.size (mvR xs ka) zRu x (w6.alloc (.cells #[.string x.s, .int .i64 x.fa, .int .i64 x.ta, .int .i64 x.fp, .int .i64 x.tp, .int .i64 x.sh] 36)) (O6.out.alloc _) (by have := mvR_len (xs := xs) (i := ka) (by omega); have := hm.out; omega) (by have := hm.out; omega) (by have := hm.out; omega) hmx (by exact heap_alloc_new w6 (.cells #[.string x.s, .int .i64 x.fa, .int .i64 x.ta, .int .i64 x.fp, .int .i64 x.tp, .int .i64 x.sh] 36)) (by have := (O6.out.lt g rfl).2; omega)
  refine D2.mono ?_
  rintro e w7 ⟨rfl, o7, g7⟩
  have BF : Below w.heap.size w w7 := (((Below.tr b5 b1).grown G6.out (Below.tr b5 b1).size (fun k hk => by cases hk; have := b1.size; omega)).alloc (by have := (Below.tr b5 b1).size; have := G6.out.size; omega) _).grown g7 (by simp; have := (Below.tr b5 b1).size; have := G6.out.size; omega) (fun k hk => by cases hk; have := b1.size; omega)
  have O7 := hid o7
  clear o7 g7
  go_wp2
  go_ret2
  have HL : (mvV xs ka kb).length = m + 1 := by
    have t1 := mvR_len (xs := xs) (i := ka) (by omega)
    have t2 := hm.out
    rw [HV.out, mvI_len x (by omega)]; omega
  exact ⟨some ⟨g, 0, none⟩, cr, by rw [HL, HC.out]; simp, by rw [HL, HV.out]; exact own_lo O7.out b1.size, BF⟩
set_option maxRecDepth 20000 in
set_option maxHeartbeats 4000000 in
theorem specMoveRule_any (A : Option Addr) (c : Nat) (xs : List Ru) (a b : Int) (w : World) (h : Rd encRu 6 w w.heap.size A xs) (hn : xs.length ≤ 1048576) (hcap : xs.length ≤ c) (wf : ∀ x ∈ xs, x.s.size ≤ maxLen) (hz : A = none → c = 0) :
    Calls Try.prog 5 #[.slice A xs.length c, .int .i64 a, .int .i64 b] w (OwnTup 36 6 encRu (mvV xs a b) (roC xs a b) w) := by
  cases h1 : ruL xs
  · have HC : Hid (roC xs a b = 1) := by simp [Hid, roC, h1]
    have HV : Hid (mvV xs a b = []) := by simp [Hid, mvV, HC.out]
    go_enter Try.func5, Try.ntmps5
    go_wp2_with (first | (go_at_call 12; refine (l18Ok_any A c xs _ ((h.below (B' := w.heap.size) (by repeat (first | assumption | exact Below.refl _ _ | apply Below.al | apply Below.drewN' | apply Below.drew | (apply Below.tr; assumption))) (Nat.le_refl _)).more (by first | (simp; done) | (simp; omega))) hn wf).mono ?_; rintro e w1 ⟨rfl, hb1⟩; obtain ⟨hc_w1, hf_w1⟩ := bcell hb1; have hz_w1 := hb1.size; (try simp at hz_w1); (try have g_w1 : w.heap.size < w1.heap.size := (by omega))) | (go_at_call 13; refine (l00In_any _ _ _ _).mono ?_; rintro e w' ⟨rfl, rfl⟩))
    go_ret2
    exact ⟨none, 0, by rw [HV.out, HC.out]; rfl, by rw [HV.out]; exact World.ownsRow_nil _ _ _ _, (by repeat (first | assumption | exact Below.refl _ _ | apply Below.al | apply Below.drewN' | apply Below.drew | (apply Below.tr; assumption)))⟩
  cases h2 : inB a 0 ((xs.length : Int) - 1)
  · have HC : Hid (roC xs a b = 2) := by simp [Hid, roC, h1, h2]
    have HV : Hid (mvV xs a b = []) := by simp [Hid, mvV, HC.out]
    go_enter Try.func5, Try.ntmps5
    go_wp2_with (first | (go_at_call 12; refine (l18Ok_any A c xs _ ((h.below (B' := w.heap.size) (by repeat (first | assumption | exact Below.refl _ _ | apply Below.al | apply Below.drewN' | apply Below.drew | (apply Below.tr; assumption))) (Nat.le_refl _)).more (by first | (simp; done) | (simp; omega))) hn wf).mono ?_; rintro e w1 ⟨rfl, hb1⟩; obtain ⟨hc_w1, hf_w1⟩ := bcell hb1; have hz_w1 := hb1.size; (try simp at hz_w1); (try have g_w1 : w.heap.size < w1.heap.size := (by omega))) | (go_at_call 13; refine (l00In_any _ _ _ _).mono ?_; rintro e w' ⟨rfl, rfl⟩))
    go_ret2
    exact ⟨none, 0, by rw [HV.out, HC.out]; rfl, by rw [HV.out]; exact World.ownsRow_nil _ _ _ _, (by repeat (first | assumption | exact Below.refl _ _ | apply Below.al | apply Below.drewN' | apply Below.drew | (apply Below.tr; assumption)))⟩
  cases h3 : inB b 0 ((xs.length : Int) - 1)
  · have HC : Hid (roC xs a b = 2) := by simp [Hid, roC, h1, h2, h3]
    have HV : Hid (mvV xs a b = []) := by simp [Hid, mvV, HC.out]
    go_enter Try.func5, Try.ntmps5
    go_wp2_with (first | (go_at_call 12; refine (l18Ok_any A c xs _ ((h.below (B' := w.heap.size) (by repeat (first | assumption | exact Below.refl _ _ | apply Below.al | apply Below.drewN' | apply Below.drew | (apply Below.tr; assumption))) (Nat.le_refl _)).more (by first | (simp; done) | (simp; omega))) hn wf).mono ?_; rintro e w1 ⟨rfl, hb1⟩; obtain ⟨hc_w1, hf_w1⟩ := bcell hb1; have hz_w1 := hb1.size; (try simp at hz_w1); (try have g_w1 : w.heap.size < w1.heap.size := (by omega))) | (go_at_call 13; refine (l00In_any _ _ _ _).mono ?_; rintro e w' ⟨rfl, rfl⟩))
    go_ret2
    exact ⟨none, 0, by rw [HV.out, HC.out]; rfl, by rw [HV.out]; exact World.ownsRow_nil _ _ _ _, (by repeat (first | assumption | exact Below.refl _ _ | apply Below.al | apply Below.drewN' | apply Below.drew | (apply Below.tr; assumption)))⟩
  have HC : Hid (roC xs a b = 0) := by simp [Hid, roC, h1, h2, h3]
  obtain ⟨ka, rfl⟩ : ∃ k : Nat, a = k := ⟨a.toNat, by have := inB_true.1 h2; omega⟩
  obtain ⟨kb, rfl⟩ : ∃ k : Nat, b = k := ⟨b.toNat, by have := inB_true.1 h3; omega⟩
  have la : ka < xs.length := by have := inB_true.1 h2; omega
  have lb : kb < xs.length := by have := inB_true.1 h3; omega
  have l12 : xs.length ≤ 12 := ruL_len h1
  obtain ⟨m, hm⟩ : ∃ m, Hid (xs.length = m + 1) := ⟨xs.length - 1, hid (by omega)⟩
  obtain ⟨x, hx⟩ := getx la
  have HV : Hid (mvV xs ka kb = mvI (mvR xs ka) kb x) := hid (by unfold mvV; rw [if_pos HC.out]; simp only [Int.toNat_natCast, hx])
  obtain ⟨bb, oo, rfl, hbB, c0, c1, c2, c3, c4, c5⟩ := h.at6 hx rfl
  clear hx
  have hkc : ka ≤ c := by omega
  have hkc2 : ka + 1 ≤ c := by omega
  have hk1 : (0 : Int) ≤ (ka : Int) + 1 := by omega
  obtain ⟨A1, hA1⟩ : ∃ A1 : Addr, (if c = ka + 1 then (some (⟨bb, oo, none⟩ : Addr)) else some ⟨bb, oo + (ka + 1) * 6, none⟩) = some A1 := by split <;> exact ⟨_, rfl⟩
  have rdD := rd_dropk h hcap hA1
  have HM : Hid ((mvR xs ka).length = m) := hid (by have := mvR_len la; have := hm.out; omega)
  have hkm : kb ≤ m := by have := hm.out; omega
  obtain ⟨i0, hi0, iz0, iz1, iz2⟩ := info_parts (P := Try.prog) (e := 36) (z := .agg #[.string ByteArray.empty, .int .i64 0, .int .i64 0, .int .i64 0, .int .i64 0, .int .i64 0]) (size := 6) (bytes := 56) (by kernel_rfl)
  go_enter Try.func5, Try.ntmps5
  go_wp2_with (first | (go_at_call 12; refine (l18Ok_any _ c xs _ ((h.below (B' := w.heap.size) (by repeat (first | assumption | exact Below.refl _ _ | apply Below.al | apply Below.drewN' | apply Below.drew | (apply Below.tr; assumption))) (Nat.le_refl _)).more (by first | (simp; done) | (simp; omega))) hn wf).mono ?_; rintro e w1 ⟨rfl, hb1⟩; obtain ⟨hc_w1, hf_w1⟩ := bcell hb1; have hz_w1 := hb1.size; (try simp at hz_w1); (try have g_w1 : w.heap.size < w1.heap.size := (by omega)); have zb1 : bb < w1.heap.size := (by omega); have y0 := (hc_w1 bb (oo + ka * 6) hbB).trans c0; have y1 := (hc_w1 bb (oo + ka * 6 + 1) hbB).trans c1; have y2 := (hc_w1 bb (oo + ka * 6 + 2) hbB).trans c2; have y3 := (hc_w1 bb (oo + ka * 6 + 3) hbB).trans c3; have y4 := (hc_w1 bb (oo + ka * 6 + 4) hbB).trans c4; have y5 := (hc_w1 bb (oo + ka * 6 + 5) hbB).trans c5; have rdx : Rd encRu 6 (w1.alloc (.cells #[] 36)) w.heap.size (some ⟨bb, oo, none⟩) xs := (h.below (B' := w.heap.size) (by repeat (first | assumption | exact Below.refl _ _ | apply Below.al | apply Below.drewN' | apply Below.drew | (apply Below.tr; assumption))) (Nat.le_refl _))) | (go_at_call 13; refine (l00In_any _ _ _ _).mono ?_; rintro e w' ⟨rfl, rfl⟩) | (at_builtin; refine wpList_append_rd rfl _ _ 24 rfl (w1.heap.size) 36 i0 _ 6 56 Try.underlying24 hi0 iz0 iz1 iz2 rfl (by decide) _ (0) _ rfl ((own_lit0 w1 36 6 (lo := w1.heap.size) (Nat.le_refl _))) _ (ka) _ ((xs.take ka).flatMap encRu) rfl (fun e => by cases e) (by rw [flat_len (k := 6) (fun _ => rfl), List.length_take]; omega) (rd_flat' (k := 6) (fun _ => rfl) (by decide) (rd_takek rdx ka)) (flat_one (by simp [encRu, Value.oneCell']) _) (by unfold maxLen; omega) (by omega) (by first | omega | (simp; done) | (simp; omega)) ?_; intro v3 w3 own_w3 grow_w3 at_w3; have b3 : Below w1.heap.size w1 w3 := Below.gr (v := .slice (some ⟨w1.heap.size, 0, none⟩) 0 0) (Below.al (Below.refl _ _) (.cells #[] 36)) (by simp) (own_lit0 w1 36 6 (lo := w1.heap.size) (Nat.le_refl _)) (Nat.le_refl _) grow_w3; have H3 := hid own_w3; have z3 := b3.size; have rd3 : Rd encRu 6 w3 w.heap.size (some A1) (xs.drop (ka + 1)) := (rdD.below hb1 (Nat.le_refl _)).below b3 hz_w1; have n3 : v3.ownBlock ≠ none := own_nn (v := .slice (some ⟨w1.heap.size, 0, none⟩) 0 0) at_w3 (by simp [Value.ownBlock]); clear own_w3 grow_w3 at_w3) | (at_builtin; refine wpList_append_rd rfl _ _ 24 rfl (w1.heap.size) 36 i0 _ 6 56 Try.underlying24 hi0 iz0 iz1 iz2 rfl (by decide) _ (0 + ka) _ rfl (H3.out) _ (xs.length - (ka + 1)) _ ((xs.drop (ka + 1)).flatMap encRu) rfl (fun e => by cases e) (by rw [flat_len (k := 6) (fun _ => rfl), List.length_drop]) (rd_flat' (k := 6) (fun _ => rfl) (by decide) (rd3)) (flat_one (by simp [encRu, Value.oneCell']) _) (by unfold maxLen; omega) (by omega) (by first | omega | (simp; done) | (simp; omega)) ?_; intro v4 w4 own_w4 grow_w4 at_w4; have b4 : Below w1.heap.size w1 w4 := Below.gr b3 z3 H3.out (Nat.le_refl _) grow_w4; have zz4 := b4.size; have n4 : v4.ownBlock ≠ none := own_nn at_w4 n3; have e4 : 0 + ka + (xs.length - (ka + 1)) = m := (by have := hm.out; omega); rw [e4] at own_w4; obtain ⟨A4, c4, rfl⟩ := own_shape own_w4; obtain ⟨g4, rfl⟩ := own_some4 own_w4 n4; have q4 := own_cap own_w4; have z4 := (own_w4.lt g4 rfl).2; have z4' := (own_w4.lt g4 rfl).1; have R4 : Rd encRu 6 w4 w4.heap.size (some ⟨g4, 0, none⟩) (mvR xs ka) := (by have t := own_w4; rw [← HM.out] at t; exact rd_of_own (c := c4) (fun _ => rfl) (by simpa [mvR] using t)); obtain ⟨A5, hA5⟩ : ∃ A5 : Addr, (if c4 = kb then (some (⟨g4, 0, none⟩ : Addr)) else some ⟨g4, kb * 6, none⟩) = some A5 := (by split <;> exact ⟨_, rfl⟩); have RD5 := rd_dropk (c := c4) (n := kb) R4 (by have := HM.out; omega) (by rw [Nat.zero_add]; exact hA5); have hq1 : kb ≤ c4 := (by omega); clear own_w4 grow_w4 at_w4; have R4' : Rd encRu 6 (w4.alloc (.cells #[] 36)) w4.heap.size (some ⟨g4, 0, none⟩) (mvR xs ka) := R4.below (B' := w4.heap.size) (by repeat (first | assumption | exact Below.refl _ _ | apply Below.al | apply Below.drewN' | apply Below.drew | (apply Below.tr; assumption))) (Nat.le_refl _)) | (at_builtin; refine wpList_append_rd rfl _ _ 24 rfl (w4.heap.size) 36 i0 _ 6 56 Try.underlying24 hi0 iz0 iz1 iz2 rfl (by decide) _ (0) _ rfl ((own_lit0 w4 36 6 (lo := w4.heap.size) (Nat.le_refl _))) _ (kb) _ (((mvR xs ka).take kb).flatMap encRu) rfl (fun e => by cases e) (by rw [flat_len (k := 6) (fun _ => rfl), List.length_take]; have := HM.out; omega) (rd_flat' (k := 6) (fun _ => rfl) (by decide) (rd_takek R4' kb)) (flat_one (by simp [encRu, Value.oneCell']) _) (by unfold maxLen; omega) (by omega) (by first | omega | (simp; done) | (simp; omega)) ?_; intro v5 w5 own_w5 grow_w5 at_w5; have b5 : Below w4.heap.size w4 w5 := Below.gr (v := .slice (some ⟨w4.heap.size, 0, none⟩) 0 0) (Below.al (Below.refl _ _) (.cells #[] 36)) (by simp) (own_lit0 w4 36 6 (lo := w4.heap.size) (Nat.le_refl _)) (Nat.le_refl _) grow_w5; have H5 := hid own_w5; have z5 := b5.size; have b15 := Below.trans b4 (b5.mono zz4); have rd5 := RD5.below b5 (Nat.le_refl _); have u0 := ((bcell b15).1 bb (oo + ka * 6) zb1).trans y0; have u1 := ((bcell b15).1 bb (oo + ka * 6 + 1) zb1).trans y1; have u2 := ((bcell b15).1 bb (oo + ka * 6 + 2) zb1).trans y2; have u3 := ((bcell b15).1 bb (oo + ka * 6 + 3) zb1).trans y3; have u4 := ((bcell b15).1 bb (oo + ka * 6 + 4) zb1).trans y4; have u5 := ((bcell b15).1 bb (oo + ka * 6 + 5) zb1).trans y5; clear own_w5 grow_w5 at_w5) | (at_builtin; (refine wpList_append_own _ rfl _ _ 24 rfl (w4.heap.size) 36 i0 _ 6 56 Try.underlying24 hi0 iz0 iz1 iz2 rfl (by decide) _ _ _ rfl (H5.out.alloc _) ⟨(w5).heap.size, 0, none⟩ 1 1 [.string x.s, .int .i64 x.fa, .int .i64 x.ta, .int .i64 x.fp, .int .i64 x.tp, .int .i64 x.sh] rfl rfl (news_at w5 [.string x.s, .int .i64 x.fa, .int .i64 x.ta, .int .i64 x.fp, .int .i64 x.tp, .int .i64 x.sh] 36) (by simp [Value.oneCell']) (by unfold maxLen; omega) (by omega) (by first | omega | (simp; done) | (simp; omega)) ?_); intro v6 w6 own_w6 grow_w6 _; have b6 : Below w4.heap.size w4 w6 := Below.ap b5 z5 H5.out (Nat.le_refl _) grow_w6; have H6 := hid own_w6; have z6 := b6.size; have rd6 := RD5.below b6 (Nat.le_refl _); clear own_w6 grow_w6) | (at_builtin; refine wpList_append_rd rfl _ _ 24 rfl (w4.heap.size) 36 i0 _ 6 56 Try.underlying24 hi0 iz0 iz1 iz2 rfl (by decide) _ (0 + kb + 1) _ rfl (H6.out) _ (m - kb) _ (((mvR xs ka).drop kb).flatMap encRu) rfl (fun e => by cases e) (by rw [flat_len (k := 6) (fun _ => rfl), List.length_drop]; have := HM.out; omega) (rd_flat' (k := 6) (fun _ => rfl) (by decide) (rd6)) (flat_one (by simp [encRu, Value.oneCell']) _) (by unfold maxLen; omega) (by omega) (by first | omega | (simp; done) | (simp; omega)) ?_; intro v7 w7 own_w7 grow_w7 at_w7; have b7 : Below w4.heap.size w4 w7 := Below.gr b6 z6 H6.out (Nat.le_refl _) grow_w7; have b17 := Below.trans b4 (b7.mono zz4); have e7 : 0 + kb + 1 + (m - kb) = m + 1 := (by omega); rw [e7] at own_w7; obtain ⟨A7, c7, rfl⟩ := own_shape own_w7; have H7 := hid own_w7; clear own_w7 grow_w7 at_w7))
  go_ret2
  have HL : (mvV xs ka kb).length = m + 1 := by rw [HV.out, mvI_len x (by have := HM.out; omega), HM.out]
  have HF : Hid ((mvV xs ka kb).flatMap encRu = ([] ++ ((mvR xs ka).take kb).flatMap encRu ++ [.string x.s, .int .i64 x.fa, .int .i64 x.ta, .int .i64 x.fp, .int .i64 x.tp, .int .i64 x.sh]) ++ ((mvR xs ka).drop kb).flatMap encRu) := hid (by rw [HV.out]; simp [mvI, encRu])
  exact ⟨A7, c7, by rw [HL, HC.out]; simp, by rw [HL, HF.out]; exact own_lo H7.out (by omega), Below.tr b17 hb1⟩
end Go.Proofs.Ytflffbieefmaiaa
