/- Made, walked. -/
import Derived.Test.YtfkmngmnnlgjdaaArgJ
import Derived.Test.YtfkmngmnnlgjdaaGrLike
namespace Go.Proofs.Ytfkmngmnnlgjdaa.Gr
open Go Go.RowKit Go.Proofs.Ytfkmngmnnlgjdaa.Gf Go.Proofs.Ytfkmngmnnlgjdaa.Pu Go.Proofs.Ytfkmngmnnlgjdaa.Pr Go.Proofs.Ytfkmngmnnlgjdaa.Mw Go.Proofs.YtfkmngmnnlgjdaaW.PrintWords Go.Proofs.YtfkmngmnnlgjdaaW.PrintLast Go.Proofs.YtfkmngmnnlgjdaaW.PrintMore
set_option linter.unusedVariables false
set_option linter.unusedSimpArgs false
/-- The joins behind the first k of a row of joins. -/
def jt (n : Nat) (js : List (Int × Int)) : Nat → Adj
  | 0 => fun _ _ => false
  | k + 1 => jn n (jt n js k) (js.getD k (0, 0)).1 (js.getD k (0, 0)).2
theorem jt_sane (n : Nat) (js : List (Int × Int)) (k : Nat) : Sane n (jt n js k) := by
  induction k with
  | zero => exact sane_none n
  | succ k ih => exact jn_sane ih _ _
/-- The numbers that Made looks at. -/
def madeOk (n : Int) (l : Nat) : Bool := decide (0 ≤ n) && decide (n ≤ 40) && decide (l ≤ 800)
set_option maxRecDepth 100000 in
set_option maxHeartbeats 1000000 in
theorem Made_no (w : World) (n : Int) (A : Option Addr) (l c : Nat) (h : madeOk n l = false) :
    Calls Try.prog 21 #[.int .i64 n, .slice A l c] w fun e w' => e = .returned (.tuple #[.pointer none, .agg #[.int .i64 0, .slice none 0 0]]) ∧ Below w.heap.size w w' := by
  have hu29 := Try.underlying29
  by_cases h1 : n < 0
  · have hd1 : decide (n < 0) = true := decide_eq_true h1
    clear h
    go_enter Try.func21, Try.ntmps21
    go_wp2_with (first | ((with_reducible refine gate_dst (N := 5) rfl ?_); refine box_event ?hg (N := 5) ?hd (cs := #[.int .i64 0, .slice none 0 0]) (t := 29) ?hr ?_; (case hd => rfl); (case hg => rfl); (case hr => first | (go_simp; done) | (go_simp; rfl)); intro ge hge w1 hbox hB; have BE := Aside0.mk hbox; have HB := Aside0.mk hB; have HE := Aside0.mk (show w.heap.size ≤ ge by rw [hge]; exact Nat.le_refl _); clear hbox hB hge; have hez0 : w1.cell? ⟨ge, 0, none⟩ = some (.int .i64 0) := (blk_cell BE.out 0).trans rfl; have hez1 : w1.cell? ⟨ge, 1, none⟩ = some (.slice none 0 0) := (blk_cell BE.out 1).trans rfl; have hefz0 := blk_frozen BE.out 0; have hefz1 := blk_frozen BE.out 1))
    have hE1 := blk_put (cs := #[.int .i64 0, .slice none 0 0]) BE.out 0 (.int .i64 0) (cs' := #[.int .i64 0, .slice none 0 0]) rfl
    refine bodyPost_ret (results_tc rfl _ _ ge 29 #[.int .i64 0, .slice none 0 0] (0, 0) _ rfl (blk_put (cs := #[.int .i64 0, .slice none 0 0]) hE1 1 _ rfl) hu29 rfl (by kernel_rfl)) rfl ?_
    exact ⟨rfl, (HB.out.setCell (p := ⟨ge, 0, none⟩) HE.out _).setCell (p := ⟨ge, 1, none⟩) HE.out _⟩
  · by_cases h2 : 40 < n
    · have hd1 : decide (n < 0) = false := decide_eq_false h1
      have hd2 : decide (40 < n) = true := decide_eq_true h2
      clear h
      go_enter Try.func21, Try.ntmps21
      go_wp2_with (first | ((with_reducible refine gate_dst (N := 5) rfl ?_); refine box_event ?hg (N := 5) ?hd (cs := #[.int .i64 0, .slice none 0 0]) (t := 29) ?hr ?_; (case hd => rfl); (case hg => rfl); (case hr => first | (go_simp; done) | (go_simp; rfl)); intro ge hge w1 hbox hB; have BE := Aside0.mk hbox; have HB := Aside0.mk hB; have HE := Aside0.mk (show w.heap.size ≤ ge by rw [hge]; exact Nat.le_refl _); clear hbox hB hge; have hez0 : w1.cell? ⟨ge, 0, none⟩ = some (.int .i64 0) := (blk_cell BE.out 0).trans rfl; have hez1 : w1.cell? ⟨ge, 1, none⟩ = some (.slice none 0 0) := (blk_cell BE.out 1).trans rfl; have hefz0 := blk_frozen BE.out 0; have hefz1 := blk_frozen BE.out 1))
      have hE1 := blk_put (cs := #[.int .i64 0, .slice none 0 0]) BE.out 0 (.int .i64 0) (cs' := #[.int .i64 0, .slice none 0 0]) rfl
      refine bodyPost_ret (results_tc rfl _ _ ge 29 #[.int .i64 0, .slice none 0 0] (0, 0) _ rfl (blk_put (cs := #[.int .i64 0, .slice none 0 0]) hE1 1 _ rfl) hu29 rfl (by kernel_rfl)) rfl ?_
      exact ⟨rfl, (HB.out.setCell (p := ⟨ge, 0, none⟩) HE.out _).setCell (p := ⟨ge, 1, none⟩) HE.out _⟩
    · have h3 : 800 < l := by
        unfold madeOk at h
        simp only [Bool.and_eq_false_iff, decide_eq_false_iff_not] at h
        omega
      have hd1 : decide (n < 0) = false := decide_eq_false h1
      have hd2 : decide (40 < n) = false := decide_eq_false h2
      have hd3 : decide ((800 : Int) < (l : Int)) = true := decide_eq_true (by omega)
      clear h
      go_enter Try.func21, Try.ntmps21
      go_wp2_with (first | ((with_reducible refine gate_dst (N := 5) rfl ?_); refine box_event ?hg (N := 5) ?hd (cs := #[.int .i64 0, .slice none 0 0]) (t := 29) ?hr ?_; (case hd => rfl); (case hg => rfl); (case hr => first | (go_simp; done) | (go_simp; rfl)); intro ge hge w1 hbox hB; have BE := Aside0.mk hbox; have HB := Aside0.mk hB; have HE := Aside0.mk (show w.heap.size ≤ ge by rw [hge]; exact Nat.le_refl _); clear hbox hB hge; have hez0 : w1.cell? ⟨ge, 0, none⟩ = some (.int .i64 0) := (blk_cell BE.out 0).trans rfl; have hez1 : w1.cell? ⟨ge, 1, none⟩ = some (.slice none 0 0) := (blk_cell BE.out 1).trans rfl; have hefz0 := blk_frozen BE.out 0; have hefz1 := blk_frozen BE.out 1))
      have hE1 := blk_put (cs := #[.int .i64 0, .slice none 0 0]) BE.out 0 (.int .i64 0) (cs' := #[.int .i64 0, .slice none 0 0]) rfl
      refine bodyPost_ret (results_tc rfl _ _ ge 29 #[.int .i64 0, .slice none 0 0] (0, 0) _ rfl (blk_put (cs := #[.int .i64 0, .slice none 0 0]) hE1 1 _ rfl) hu29 rfl (by kernel_rfl)) rfl ?_
      exact ⟨rfl, (HB.out.setCell (p := ⟨ge, 0, none⟩) HE.out _).setCell (p := ⟨ge, 1, none⟩) HE.out _⟩
end Go.Proofs.Ytfkmngmnnlgjdaa.Gr
