/- Contracts: copies of slices; slices that are appended whole. -/
import Derived.Test.YtflffbieefmaiaaCAppR
import Derived.Test.YtflffbieefmaiaaC1
import Derived.Test.YtflffbieefmaiaaCRuB
namespace Go.Proofs.Ytflffbieefmaiaa
open Go.RowKit
set_option linter.unusedVariables false
set_option maxHeartbeats 1000000 in
theorem copyOfRule_any (A : Option Addr) (c : Nat) (xs : List Ru) (w : World) (h : Rd encRu 6 w w.heap.size A xs) (hn : xs.length ≤ 1048576) (hz : A = none → c = 0) :
    Calls Try.prog 19 #[.slice A xs.length c] w (OwnRes 36 6 encRu xs w) := by
  obtain ⟨i0, hi0, iz0, iz1, iz2⟩ := info_parts (P := Try.prog) (e := 36) (z := .agg #[.string ByteArray.empty, .int .i64 0, .int .i64 0, .int .i64 0, .int .i64 0, .int .i64 0]) (size := 6) (bytes := 56) (by kernel_rfl)
  have h2 : Rd encRu 6 (w.alloc (.cells #[] 36)) (World.heap (w.alloc (.cells #[] 36))).size A xs := (h.below (B' := w.heap.size) (by repeat (first | assumption | exact Below.refl _ _ | apply Below.al | apply Below.drewN' | apply Below.drew | (apply Below.tr; assumption))) (Nat.le_refl _)).more (by simp)
  have o0 := own_lit0 w 36 6 (lo := w.heap.size) (Nat.le_refl _)
  go_enter Try.func19, Try.ntmps19
  go_wp2_with (at_builtin; go_must (refine wpList_append_rd rfl _ _ 24 rfl (w.heap.size) 36 i0 _ 6 56 Try.underlying24 hi0 iz0 iz1 iz2 rfl (by decide) _ 0 _ rfl (o0) _ (xs.length) _ ((xs).flatMap encRu) rfl (rd_n0 (h2) (hz)) (flat_len (k := 6) (fun _ => rfl) _) (rd_flat' (k := 6) (fun _ => rfl) (by decide) (h2)) (flat_one (by simp [encRu, Value.oneCell']) _) (by unfold maxLen; omega) (by omega) (by first | omega | (simp; done) | (simp; omega)) ?_); intro v2 w2 own_w2 grow_w2 at_w2)
  obtain ⟨Ar, cr, rfl⟩ := own_shape own_w2
  have hb := Below.gr (v := .slice (some ⟨w.heap.size, 0, none⟩) 0 0) (Below.al (Below.refl w.heap.size w) (.cells #[] 36)) (by simp) o0 (Nat.le_refl _) grow_w2
  rw [Nat.zero_add, List.nil_append] at own_w2
  go_ret
  exact ⟨Ar, cr, by simp, own_w2, hb⟩
