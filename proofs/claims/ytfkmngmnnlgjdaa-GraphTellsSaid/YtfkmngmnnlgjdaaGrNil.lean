/- Parts and Shell of no graph; a graph that nobody made. -/
import Derived.Test.YtfkmngmnnlgjdaaGrHeads2
namespace Go.Proofs.Ytfkmngmnnlgjdaa.Gr
open Go Go.RowKit Go.Proofs.Ytfkmngmnnlgjdaa.Gf Go.Proofs.Ytfkmngmnnlgjdaa.Pu Go.Proofs.Ytfkmngmnnlgjdaa.Pr Go.Proofs.Ytfkmngmnnlgjdaa.Mw Go.Proofs.YtfkmngmnnlgjdaaW.PrintWords Go.Proofs.YtfkmngmnnlgjdaaW.PrintLast Go.Proofs.YtfkmngmnnlgjdaaW.PrintMore
set_option linter.unusedVariables false
set_option linter.unusedSimpArgs false
theorem Shell_nil (w : World) : Calls Try.prog 26 #[.pointer none] w fun e w' => e = .returned (.slice none 0 0) ∧ Below w.heap.size w w' := by
  have hmm := @run_makeMap Try.prog
  go_enter Try.func26, Try.ntmps26
  go_wp2_with (go_at_call 11; refine (Len_nil _).mono ?_; rintro e w' ⟨rfl, rfl⟩)
  go_loopw [17] (fun v17 wr => v17 = .int .i64 0 ∧ Aside0 (MIs MII wr w.heap.size 0 (fun _ => none)) ∧ Aside0 (Below w.heap.size w wr)) (fun _ _ => 0)
  case atStart => exact ⟨rfl, ⟨MIs.made MII w⟩, ⟨below_alloc (Below.refl _ _) _⟩⟩
  case round =>
    clear hmm
    obtain ⟨rfl, HM, HB⟩ := hrel
    go_wp2
    go_loopw [5] (fun v5 wr => v5 = .slice none 0 0 ∧ Aside0 (MIs MII wr w.heap.size 0 (fun _ => none)) ∧ Aside0 (Below w.heap.size w wr)) (fun _ _ => 0)
    case atStart => exact ⟨rfl, HM, HB⟩
    case round =>
      clear HM HB
      obtain ⟨rfl, HM, HB⟩ := hrel
      go_wp2_with (first
        | ((with_reducible refine gate_builtin (b := .len) (xs := #[.tmp 27]) rfl ?_); refine wl_len HM.out rfl _ rfl rfl ?_))
      go_ret
      exact ⟨rfl, HB.out⟩
theorem Parts_nil (w : World) : Calls Try.prog 22 #[.pointer none] w fun e w' => e = .returned (.slice none 0 0) ∧ Below w.heap.size w w' := by
  have hmm := @run_makeMap Try.prog
  go_enter Try.func22, Try.ntmps22
  go_wp2_with (go_at_call 11; refine (Len_nil _).mono ?_; rintro e w' ⟨rfl, rfl⟩)
  go_loopw [15] (fun v15 wr => v15 = .int .i64 0 ∧ Aside0 (Below w.heap.size w wr)) (fun _ _ => 0)
  case atStart => exact ⟨rfl, ⟨below_alloc (Below.refl _ _) _⟩⟩
  case round =>
    clear hmm
    obtain ⟨rfl, HB⟩ := hrel
    go_wp2_with (go_at_call 11; refine (Len_nil _).mono ?_; rintro e w' ⟨rfl, rfl⟩)
    go_loopw [5, 23] (fun v5 v23 wr => v23 = .int .i64 0 ∧ v5 = .slice none 0 0 ∧ Aside0 (Below w.heap.size w wr)) (fun _ _ _ => 0)
    case atStart => exact ⟨rfl, rfl, HB⟩
    case round =>
      clear HB
      obtain ⟨rfl, rfl, HB⟩ := hrel
      go_wp2
      go_ret
      exact ⟨rfl, HB.out⟩
def no : Adj := fun _ _ => false
theorem sane_no : Sane 0 no := sane_none 0
theorem GIs.empty {w : World} {b : Nat} (h : w.heap[b]? = some (.cells #[.slice none 0 0] 57 (0, 0))) : GIs w b (.slice none 0 0) 0 no :=
  ⟨h, [], Kd.R_nil _ _ _ _ _, rfl, by omega, sane_no, fun a ha => by omega⟩
theorem parts0 : parts 0 no = [] := rfl
theorem shell0 : shell 0 no = [] := rfl
theorem R_empty {α : Type} {d : Kd α} {w : World} {e base : Nat} {ok : Nat → Prop} {v : Value} (hR : d.R e w base ok v []) : ∃ A c, v = .slice A 0 c := Kd.R_slice hR
theorem Parts0 (w : World) (g : Nat) (v : Value) (h : GIs w g v 0 no) : Calls Try.prog 22 #[.pointer (some ⟨g, 0, none⟩)] w fun e w' => ∃ A c, e = .returned (.slice A 0 c) ∧ Below w.heap.size w w' := by
  refine (Parts_is w g 0 v no h).mono ?_
  rintro e w' ⟨v', rfl, hR, hB⟩
  rw [parts0] at hR
  obtain ⟨A, c, rfl⟩ := R_empty hR
  exact ⟨A, c, rfl, hB⟩
theorem Shell0 (w : World) (g : Nat) (v : Value) (h : GIs w g v 0 no) : Calls Try.prog 26 #[.pointer (some ⟨g, 0, none⟩)] w fun e w' => ∃ A c, e = .returned (.slice A 0 c) ∧ Below w.heap.size w w' := by
  refine (Shell_is w g 0 v no h).mono ?_
  rintro e w' ⟨v', rfl, hR, hB⟩
  rw [shell0] at hR
  obtain ⟨A, c, rfl⟩ := R_empty (d := Kd.int .i64) hR
  exact ⟨A, c, rfl, hB⟩
theorem Near0 (w : World) (g : Nat) (v : Value) (a : Int) (h : GIs w g v 0 no) : Calls Try.prog 19 #[.pointer (some ⟨g, 0, none⟩), .int .i64 a] w fun e w' => ∃ A c, e = .returned (.slice A 0 c) ∧ Below w.heap.size w w' := by
  refine (Near_is w g v 0 no a h).mono ?_
  rintro e w' ⟨v', rfl, hR, hB⟩
  have : nearI 0 no a = [] := by
    unfold nearI
    by_cases h : isN 0 a = true
    · rw [if_pos h]; rfl
    · rw [if_neg h]
  rw [this] at hR
  obtain ⟨A, c, rfl⟩ := R_empty (d := Kd.int .i64) hR
  exact ⟨A, c, rfl, hB⟩
theorem isN0 (a : Int) : isN 0 a = false := by
  unfold isN
  by_cases h : 0 ≤ a
  · simp [h]
  · simp [h]
theorem Has0 (w : World) (g : Nat) (v : Value) (a b : Int) (h : GIs w g v 0 no) (hb0 : -9223372036854775808 ≤ b) (hb1 : b ≤ 9223372036854775807) : Calls Try.prog 16 #[.pointer (some ⟨g, 0, none⟩), .int .i64 a, .int .i64 b] w fun e w' => e = .returned (.bool false) ∧ Below w.heap.size w w' := by
  refine (Has_is w g v 0 no a b h hb0 hb1).mono ?_
  rintro e w' ⟨he, hD⟩
  rw [show hasN 0 no a b = false by unfold hasN; rw [isN0]; rfl] at he
  exact ⟨he, hD.below⟩
theorem Join0 (w : World) (g : Nat) (v : Value) (a b : Int) (h : GIs w g v 0 no) : Calls Try.prog 14 #[.pointer (some ⟨g, 0, none⟩), .int .i64 a, .int .i64 b] w fun e w' => e = .returned (.bool false) ∧ Below w.heap.size w w' := by
  have hj : joinOk 0 no a b = false := by unfold joinOk; rw [isN0]; rfl
  refine (Join_no w g 0 v no a b h hj).mono ?_
  rintro e w' ⟨he, hD⟩
  exact ⟨he, hD.below⟩
theorem Len0 (w : World) (g : Nat) (v : Value) (h : GIs w g v 0 no) : Calls Try.prog 11 #[.pointer (some ⟨g, 0, none⟩)] w fun e w' => e = .returned (.int .i64 0) ∧ w = w' := Len_is w g v 0 no h
end Go.Proofs.Ytfkmngmnnlgjdaa.Gr
