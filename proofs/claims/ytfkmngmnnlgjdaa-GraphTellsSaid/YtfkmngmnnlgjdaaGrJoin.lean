/- Join, told once for all arguments; the chapter's example as plain facts. -/
import Derived.Test.YtfkmngmnnlgjdaaGr6
import Derived.Test.YtfkmngmnnlgjdaaGrParts
namespace Go.Proofs.Ytfkmngmnnlgjdaa.Gr
open Go Go.RowKit Go.Proofs.Ytfkmngmnnlgjdaa.Gf Go.Proofs.Ytfkmngmnnlgjdaa.Pu Go.Proofs.Ytfkmngmnnlgjdaa.Mw Go.Proofs.YtfkmngmnnlgjdaaW.PrintWords Go.Proofs.YtfkmngmnnlgjdaaW.PrintLast Go.Proofs.YtfkmngmnnlgjdaaW.PrintMore
set_option linter.unusedVariables false
set_option linter.unusedSimpArgs false

/-- The joins behind a Join. -/
def jn (n : Nat) (adj : Adj) (a b : Int) : Adj := if joinOk n adj a b then put adj a.toNat b.toNat else adj
theorem joinOk_nat {n : Nat} {adj : Adj} {a b : Int} (h : joinOk n adj a b = true) : ∃ x y : Nat, a = x ∧ b = y ∧ x < n ∧ y < n ∧ x ≠ y ∧ adj x y = false := by
  simp only [joinOk, hasN, isN, Bool.and_eq_true, decide_eq_true_eq, Bool.not_eq_true', beq_eq_false_iff_ne] at h
  obtain ⟨⟨⟨⟨ha0, ha1⟩, hb0, hb1⟩, hab⟩, hh⟩ := h
  obtain ⟨x, rfl⟩ := Int.eq_ofNat_of_zero_le ha0
  obtain ⟨y, rfl⟩ := Int.eq_ofNat_of_zero_le hb0
  refine ⟨x, y, rfl, rfl, by omega, by omega, by omega, ?_⟩
  simpa [ha1, ha0, hb0] using hh
theorem jn_sane {n : Nat} {adj : Adj} (h : Sane n adj) (a b : Int) : Sane n (jn n adj a b) := by
  unfold jn
  cases hj : joinOk n adj a b with
  | false => exact h
  | true =>
    obtain ⟨x, y, rfl, rfl, hx, hy, hxy, hadj⟩ := joinOk_nat hj
    simpa using h.put hx hy hxy
theorem GIs.full {w : World} {g n : Nat} {v : Value} {adj : Adj} (h : GIs w g v n adj) (hn : 0 < n) : ∃ ga c, v = .slice (some ⟨ga, 0, none⟩) n c := by
  obtain ⟨A, c, rfl, _, _⟩ := h.head
  obtain ⟨_, rows, hR, hr⟩ := h
  obtain ⟨inner, ho⟩ := Kd.R_own hR
  obtain ⟨_, h2 | ⟨b, cap, cur, he, _⟩⟩ := ho
  · exfalso
    have := (Kd.R_reads' hR).1
    have := h2.2
    omega
  · injection he with e1 e2 e3
    exact ⟨b, c, by rw [e1]⟩
theorem Join_any (w : World) (g n : Nat) (v : Value) (adj : Adj) (a b : Int) (h : GIs w g v n adj) :
    Calls Try.prog 14 #[.pointer (some ⟨g, 0, none⟩), .int .i64 a, .int .i64 b] w fun e w' => e = .returned (.bool (joinOk n adj a b)) ∧ GIs w' g v n (jn n adj a b) ∧ w.grownBy w' v.ownBlock := by
  cases hj : joinOk n adj a b with
  | false =>
    refine (Join_no w g n v adj a b h hj).mono ?_
    rintro e w' ⟨rfl, hD⟩
    refine ⟨rfl, ?_, grown_of_below hD.below _⟩
    unfold jn
    rw [hj]
    exact h.below hD.below
  | true =>
    obtain ⟨x, y, rfl, rfl, hx, hy, hxy, hadj⟩ := joinOk_nat hj
    obtain ⟨ga, c, rfl⟩ := h.full (by omega)
    refine (Join_yes w g ga n c adj x y h hx hy hxy hadj).mono ?_
    rintro e w' ⟨rfl, hG, hg⟩
    refine ⟨rfl, ?_, by simpa [Value.ownBlock] using hg⟩
    unfold jn
    rw [hj]
    simpa using hG
/-- The example's joins. -/
def adjH : Adj := put (put (fun _ _ => false) 0 1) 1 2
theorem jnH0 : jn 4 (fun _ _ => false) 0 1 = put (fun _ _ => false) 0 1 := rfl
theorem jnH1 : jn 4 (put (fun _ _ => false) 0 1) 1 2 = adjH := rfl
theorem okH0 : joinOk 4 (fun _ _ => false) 0 1 = true := by decide
theorem okH1 : joinOk 4 (put (fun _ _ => false) 0 1) 1 2 = true := by decide
theorem okH2 : joinOk 4 adjH 2 1 = false := by decide
theorem jnH2 : jn 4 adjH 2 1 = adjH := by unfold jn; rw [okH2]; rfl
theorem shellH : shell 4 adjH = [3, 0, 1, 2] := by decide
theorem saneH : Sane 4 adjH := by
  rw [← jnH1, ← jnH0]
  exact jn_sane (jn_sane (sane_none 4) _ _) _ _
theorem adjH_true {x y : Nat} (h : adjH x y = true) : (x = 0 ∧ y = 1) ∨ (x = 1 ∧ y = 0) ∨ (x = 1 ∧ y = 2) ∨ (x = 2 ∧ y = 1) := by
  simp [adjH, put] at h
  omega
theorem reachH {x y : Nat} (h : Pu.Reach adjH x y) (hx : x ≤ 2) : y ≤ 2 := by
  refine h.inside (I := fun z => z ≤ 2) hx ?_
  intro a b ha hab
  rcases adjH_true hab with h | h | h | h <;> omega
theorem reachH3 {y : Nat} (h : Pu.Reach adjH 3 y) : y = 3 := by
  refine h.inside (I := fun z => z = 3) rfl ?_
  intro a b ha hab
  rcases adjH_true hab with h | h | h | h <;> omega
theorem r01 : Pu.Reach adjH 0 1 := Pu.Reach.refl.step (by decide)
theorem r02 : Pu.Reach adjH 0 2 := r01.step (by decide)
theorem partsH : parts 4 adjH = [[0, 1, 2], [3]] := by
  have c0 : comp 4 adjH 0 = [0, 1, 2] := by
    rw [← comp_eq (n := 4) (I := fun x => decide (x ≤ 2))]
    · decide
    · intro b
      rw [decide_eq_true_iff]
      refine ⟨fun hb => ?_, fun hr => reachH hr (by omega)⟩
      have : b = 0 ∨ b = 1 ∨ b = 2 := by omega
      rcases this with rfl | rfl | rfl
      · exact .refl
      · exact r01
      · exact r02
  have c3 : comp 4 adjH 3 = [3] := by
    rw [← comp_eq (n := 4) (I := fun x => decide (x = 3))]
    · decide
    · intro b
      rw [decide_eq_true_iff]
      exact ⟨fun hb => hb ▸ .refl, reachH3⟩
  have l0 : Least adjH 0 := fun b hb => by omega
  have l1 : ¬ Least adjH 1 := fun h => h 0 (by omega) r01
  have l2 : ¬ Least adjH 2 := fun h => h 0 (by omega) r02
  have l3 : Least adjH 3 := fun b hb hr => by have := reachH hr (by omega); omega
  unfold parts
  rw [partsTo_yes l3, partsTo_no l2, partsTo_no l1, partsTo_yes l0, partsTo_zero, c0, c3]
  rfl
end Go.Proofs.Ytfkmngmnnlgjdaa.Gr
