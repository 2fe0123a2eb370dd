/- A row of joins among a law's arguments. -/
import Derived.Test.YtfkmngmnnlgjdaaGrNobody
import Derived.Deep.Slices
import Derived.ChangeSame
import Derived.OpenShut
namespace Go.Proofs.Ytfkmngmnnlgjdaa.Gr
open Go Go.RowKit Go.ChangeShapes Go.WideShapes Go.Proofs.YtfkmngmnnlgjdaaW.PrintWords
set_option linter.unusedVariables false
set_option linter.unusedSimpArgs false

/-- l joins behind A: what they read as. -/
structure JIs (w : World) (A : Option Addr) (l : Nat) (js : List (Int × Int)) : Prop where
  len : js.length = l
  lo : ∀ i, i < l → -9223372036854775808 ≤ (js.getD i (0, 0)).2 ∧ (js.getD i (0, 0)).2 ≤ 9223372036854775807
  cells : ∀ i, i < l → ∃ ad, A = some ad ∧ w.cell? (ad.add (i * 2)) = some (.int .i64 (js.getD i (0, 0)).1) ∧ w.cell? (ad.add (i * 2 + 1)) = some (.int .i64 (js.getD i (0, 0)).2)
theorem JIs.below {w w' : World} {A : Option Addr} {l : Nat} {js : List (Int × Int)} (h : JIs w A l js) (hb : Below w.heap.size w w') : JIs w' A l js := by
  refine ⟨h.len, h.lo, fun i hi => ?_⟩
  obtain ⟨ad, rfl, h1, h2⟩ := h.cells i hi
  exact ⟨ad, rfl, pw_cell_below hb h1, pw_cell_below hb h2⟩
section
variable {H : Type} {enc : TypeId × Value → H} {P : Program} {w : World} {base : Nat} {spare : Nat → Bool} {held : Bool}
theorem pair_of {e it : TypeId} (he : P.underlying e = some (.array 2 it)) (hi : P.underlying it = some (.int .i64)) (ce : P.cellsOf e = 2) (ci : P.cellsOf it = 1) {n : Nat} {v0 v1 : Value} {x : DataW H × List MemPlace}
    (h : DataW.trod enc P w base spare held n e [v0, v1] = some x) : ∃ a b, v0 = .int .i64 a ∧ v1 = .int .i64 b ∧ (Lit.int .i64 b).wf = true := by
  cases n with
  | zero => simp [DataW.trod] at h
  | succ m =>
    rw [DataW.trod_step] at h
    unfold DataW.trodStep at h
    simp only [he] at h
    rw [if_pos (by rw [ce]; rfl)] at h
    simp only [Option.map_eq_some_iff] at h
    obtain ⟨ys, hy, _⟩ := h
    rw [show List.range 2 = [0, 1] from rfl, ci, List.mapM_cons, List.mapM_cons, List.mapM_nil] at hy
    simp only [bind, Option.bind_eq_some_iff, pure, Option.some.injEq] at hy
    obtain ⟨y0, h0, ys1, ⟨y1, h1, _⟩, _⟩ := hy
    obtain ⟨a, ea, _, wa⟩ := DataW.trod_int hi h0
    obtain ⟨b, eb, _, wb⟩ := DataW.trod_int hi h1
    refine ⟨a, b, ?_, ?_, wb⟩
    · simpa using ea
    · simpa using eb
theorem open_pairs {t e it : TypeId} (ht : P.underlying t = some (.slice e)) (he : P.underlying e = some (.array 2 it)) (hi : P.underlying it = some (.int .i64)) (ce : P.cellsOf e = 2) (ci : P.cellsOf it = 1) {A : Option Addr} {l c : Nat} {d : DataW H} {ps : List MemPlace}
    (h : DataW.Trod enc P w base spare held t (.slice A l c) d ps) : ∃ js, JIs w A l js := by
  obtain ⟨fuel, hf⟩ := h
  rcases Deep.open_slice ht hf with ⟨hcs, _⟩ | ⟨a, len, cap, m, n, D, Pl, hcs, hb, hl, hm, hmm, _, hx⟩
  · simp [Value.cells] at hcs
    obtain ⟨rfl, rfl, rfl⟩ := hcs
    exact ⟨[], rfl, fun i hi => by omega, fun i hi => by omega⟩
  · simp [Value.cells] at hcs
    obtain ⟨rfl, rfl, rfl⟩ := hcs
    have hlm : l ≤ m := by rw [hmm]; split <;> omega
    have key : ∀ i, i < l → ∃ p : Int × Int, w.cell? (a.add (i * 2)) = some (.int .i64 p.1) ∧ w.cell? (a.add (i * 2 + 1)) = some (.int .i64 p.2) ∧ (Lit.int .i64 p.2).wf = true := by
      intro i hi2
      obtain ⟨cs', h1, h2⟩ := hx i (by omega)
      rw [ce] at h1
      obtain ⟨_, hlen, hcell⟩ := World.cells?_some h1
      match cs', hlen with
      | [v0, v1], _ =>
        obtain ⟨p, q, rfl, rfl, wq⟩ := pair_of he hi ce ci h2
        have e0 := hcell 0 (by omega)
        have e1 := hcell 1 (by omega)
        rw [Deep.add_add] at e0 e1
        exact ⟨(p, q), by simpa using e0, by simpa using e1, wq⟩
    obtain ⟨q, hq⟩ := Deep.choose_lt key
    have hg : ∀ i, i < l → ((List.range l).map q).getD i (0, 0) = q i := by
      intro i hi2
      rw [List.getD_eq_getElem?_getD, List.getElem?_map, List.getElem?_range hi2]
      rfl
    refine ⟨(List.range l).map q, by simp, fun i hi2 => ?_, fun i hi2 => ?_⟩
    · rw [hg i hi2]
      exact ⟨i64_lo (hq i hi2).2.2, i64_hi (hq i hi2).2.2⟩
    · rw [hg i hi2]
      exact ⟨a, rfl, (hq i hi2).1, (hq i hi2).2.1⟩
end
theorem open_joins {H : Type} {enc : TypeId × Value → H} {w : World} {base : Nat} {spare : Nat → Bool} {held : Bool} {A : Option Addr} {l c : Nat} {d : DataW H} {ps : List MemPlace}
    (h : DataW.Trod enc Try.prog w base spare held 22 (.slice A l c) d ps) : ∃ js, JIs w A l js :=
  open_pairs Try.underlying22 Try.underlying33 Try.underlying3 (by kernel_rfl) (by kernel_rfl) h
end Go.Proofs.Ytfkmngmnnlgjdaa.Gr
