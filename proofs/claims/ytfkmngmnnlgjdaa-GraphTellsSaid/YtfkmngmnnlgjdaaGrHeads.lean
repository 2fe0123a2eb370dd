/- The chapter's example, walked. -/
import Derived.Test.YtfkmngmnnlgjdaaGrRJoin2
namespace Go.Proofs.Ytfkmngmnnlgjdaa.Gr
open Go Go.RowKit Go.Proofs.Ytfkmngmnnlgjdaa.Gf Go.Proofs.Ytfkmngmnnlgjdaa.Pu Go.Proofs.Ytfkmngmnnlgjdaa.Pr Go.Proofs.Ytfkmngmnnlgjdaa.Mw Go.Proofs.YtfkmngmnnlgjdaaW.PrintWords Go.Proofs.YtfkmngmnnlgjdaaW.PrintLast Go.Proofs.YtfkmngmnnlgjdaaW.PrintMore
set_option linter.unusedVariables false
set_option linter.unusedSimpArgs false

def adjH0 : Adj := fun _ _ => false
def adjH1 : Adj := put (fun _ _ => false) 0 1
theorem JoinH0 (w : World) (g : Nat) (v : Value) (h : GIs w g v 4 adjH0) : Calls Try.prog 14 #[.pointer (some ⟨g, 0, none⟩), .int .i64 0, .int .i64 1] w fun e w' => e = .returned (.bool true) ∧ GIs w' g v 4 adjH1 ∧ w.grownBy w' v.ownBlock := by
  refine (Join_any w g 4 v (fun _ _ => false) 0 1 h).mono ?_
  rintro e w' ⟨he, hG, hg⟩
  rw [okH0] at he
  exact ⟨he, hG, hg⟩
theorem JoinH1 (w : World) (g : Nat) (v : Value) (h : GIs w g v 4 adjH1) : Calls Try.prog 14 #[.pointer (some ⟨g, 0, none⟩), .int .i64 1, .int .i64 2] w fun e w' => e = .returned (.bool true) ∧ GIs w' g v 4 adjH ∧ w.grownBy w' v.ownBlock := by
  refine (Join_any w g 4 v (put (fun _ _ => false) 0 1) 1 2 h).mono ?_
  rintro e w' ⟨he, hG, hg⟩
  rw [okH1] at he
  exact ⟨he, hG, hg⟩
theorem JoinH2 (w : World) (g : Nat) (v : Value) (h : GIs w g v 4 adjH) : Calls Try.prog 14 #[.pointer (some ⟨g, 0, none⟩), .int .i64 2, .int .i64 1] w fun e w' => e = .returned (.bool false) ∧ GIs w' g v 4 adjH ∧ w.grownBy w' v.ownBlock := by
  refine (Join_any w g 4 v adjH 2 1 h).mono ?_
  rintro e w' ⟨he, hG, hg⟩
  rw [okH2] at he
  rw [jnH2] at hG
  exact ⟨he, hG, hg⟩
theorem NewH (w : World) : Calls Try.prog 9 #[.int .i64 4] w fun e w' => ∃ b v, e = .returned (.pointer (some ⟨b, 0, none⟩)) ∧ GIs w' b v 4 adjH0 ∧ w.heap.size ≤ b ∧ (∀ k, v.ownBlock = some k → w.heap.size ≤ k) ∧ Below w.heap.size w w' := New_is w 4 (by omega)
theorem HasH1 (w : World) (g : Nat) (v : Value) (h : GIs w g v 4 adjH) : Calls Try.prog 16 #[.pointer (some ⟨g, 0, none⟩), .int .i64 2, .int .i64 1] w fun e w' => e = .returned (.bool true) ∧ Below w.heap.size w w' := by
  refine (Has_is w g v 4 adjH 2 1 h (by omega) (by omega)).mono ?_
  rintro e w' ⟨he, hD⟩
  rw [show hasN 4 adjH 2 1 = true by decide] at he
  exact ⟨he, hD.below⟩
theorem HasH2 (w : World) (g : Nat) (v : Value) (h : GIs w g v 4 adjH) : Calls Try.prog 16 #[.pointer (some ⟨g, 0, none⟩), .int .i64 0, .int .i64 2] w fun e w' => e = .returned (.bool false) ∧ Below w.heap.size w w' := by
  refine (Has_is w g v 4 adjH 0 2 h (by omega) (by omega)).mono ?_
  rintro e w' ⟨he, hD⟩
  rw [show hasN 4 adjH 0 2 = false by decide] at he
  exact ⟨he, hD.below⟩
theorem LenH (w : World) (g : Nat) (v : Value) (h : GIs w g v 4 adjH) : Calls Try.prog 11 #[.pointer (some ⟨g, 0, none⟩)] w fun e w' => e = .returned (.int .i64 4) ∧ w = w' := Len_is w g v 4 adjH h
theorem PartsH (w : World) (g : Nat) (v : Value) (h : GIs w g v 4 adjH) : Calls Try.prog 22 #[.pointer (some ⟨g, 0, none⟩)] w fun e w' => ∃ v', e = .returned v' ∧ Kd.R (Kd.slice 3 (Kd.int .i64)) 38 w' w.heap.size (fun _ => True) v' [[0, 1, 2], [3]] ∧ Below w.heap.size w w' := by
  have := Parts_is w g 4 v adjH h
  rw [partsH] at this
  exact this
theorem ShellH (w : World) (g : Nat) (v : Value) (h : GIs w g v 4 adjH) : Calls Try.prog 26 #[.pointer (some ⟨g, 0, none⟩)] w fun e w' => ∃ v', e = .returned v' ∧ (Kd.int .i64).R 3 w' w.heap.size (fun _ => True) v' [3, 0, 1, 2] ∧ Below w.heap.size w w' := by
  have := Shell_is w g 4 v adjH h
  rw [shellH] at this
  exact this
/-- Two rows of numbers, compared. -/
theorem Ints_is (w : World) (v u : Value) (l m : List Int) {b1 b2 : Nat} {ok1 ok2 : Nat → Prop} (h1 : (Kd.int .i64).R 3 w b1 ok1 v l) (h2 : (Kd.int .i64).R 3 w b2 ok2 u m) :
    Calls Try.prog 18 #[v, u] w fun e w' => e = .returned (.bool (decide (l = m))) ∧ Below w.heap.size w w' := by
  obtain ⟨A, c, rfl, hc, hC⟩ := Kd.R_reads h1
  obtain ⟨B, d, rfl, hd, hD⟩ := Kd.R_reads h2
  obtain ⟨k, hk⟩ := (ints_f l m (Kd.C_max hC)).rounds
  refine (horariumref03_Ints.calls k A c l B d m _ w hC hc hD hd hk).mono ?_
  rintro e w' ⟨he, hD⟩
  exact ⟨he, hD.below⟩
theorem Rows_is (w : World) (v u : Value) (l m : List (List Int)) {b1 b2 : Nat} {ok1 ok2 : Nat → Prop} (h1 : Kd.R (Kd.slice 3 (Kd.int .i64)) 38 w b1 ok1 v l) (h2 : Kd.R (Kd.slice 3 (Kd.int .i64)) 38 w b2 ok2 u m) (hl : l.length ≤ 9223372036854775807) (hin : ∀ j, (l.getD j []).length ≤ 9223372036854775807) :
    Calls Try.prog 24 #[v, u] w fun e w' => e = .returned (.bool (decide (l = m))) ∧ Below w.heap.size w w' := by
  obtain ⟨A, c, rfl, hc, hC⟩ := Kd.R_reads h1
  obtain ⟨B, d, rfl, hd, hD⟩ := Kd.R_reads h2
  obtain ⟨k, hk⟩ := (rows_f l m hl hin).rounds
  refine (horariumref14_Rows.calls k A c l B d m _ w hC hc hD hd hk).mono ?_
  rintro e w' ⟨he, hD⟩
  exact ⟨he, hD.below⟩
end Go.Proofs.Ytfkmngmnnlgjdaa.Gr
