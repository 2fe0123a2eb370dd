/- A graph in memory, and what Len, is and Has tell of it. -/
import Derived.Test.YtfkmngmnnlgjdaaGrBits
import Derived.Test.YtfkmngmnnlgjdaaPuGraph
import Derived.Deep.RegionHeld3
import Derived.Deep.DeepCutAuto
import Derived.Outline
import Derived.Lib.Hide
namespace Go.Proofs.Ytfkmngmnnlgjdaa.Gr
open Go Go.RowKit Go.Proofs.Ytfkmngmnnlgjdaa.Gf Go.Proofs.Ytfkmngmnnlgjdaa.Pu Go.Proofs.YtfkmngmnnlgjdaaW.PrintWords Go.Proofs.YtfkmngmnnlgjdaaW.PrintLast Go.Proofs.YtfkmngmnnlgjdaaW.PrintMore
set_option linter.unusedVariables false

/-- The rows of a graph: row a has the neighbours of a. -/
def RowsOf (n : Nat) (adj : Adj) (rows : List (List Int)) : Prop := rows.length = n ∧ n ≤ 400 ∧ Sane n adj ∧ ∀ a, a < n → Wd (rows.getD a []) ∧ (rows.getD a []).length ≤ 64 ∧ ∀ i, bitAt (rows.getD a []) i = adj a i
/-- The graph that lies at block b: v heads its rows. -/
def GIs (w : World) (b : Nat) (v : Value) (n : Nat) (adj : Adj) : Prop :=
  w.heap[b]? = some (.cells #[v] 57 (0, 0)) ∧ ∃ rows, Kd.R (Kd.slice 71 (Kd.int .u64)) 61 w 0 (fun _ => True) v rows ∧ RowsOf n adj rows

theorem GIs.lt {w : World} {b : Nat} {v : Value} {n : Nat} {adj : Adj} (h : GIs w b v n adj) : b < w.heap.size := (Array.getElem?_eq_some_iff.1 h.1).1
theorem GIs.below {w w' : World} {b : Nat} {v : Value} {n : Nat} {adj : Adj} (h : GIs w b v n adj) (hb : Below w.heap.size w w') : GIs w' b v n adj := by
  obtain ⟨h1, rows, h2, h3⟩ := h
  exact ⟨(hb.block b (Array.getElem?_eq_some_iff.1 h1).1).trans h1, rows, Kd.R_below h2 hb, h3⟩
theorem GIs.drewN {w : World} {b : Nat} {v : Value} {n : Nat} {adj : Adj} (h : GIs w b v n adj) (q : Nat) : GIs (w.drewN q) b v n adj := h.below (pw_below_drewN (Below.refl _ _) q)
theorem GIs.sane {w : World} {b : Nat} {v : Value} {n : Nat} {adj : Adj} (h : GIs w b v n adj) : Sane n adj := by
  obtain ⟨h1, rows, h2, h3⟩ := h
  exact h3.2.2.1
theorem GIs.le {w : World} {b : Nat} {v : Value} {n : Nat} {adj : Adj} (h : GIs w b v n adj) : n ≤ 400 := by
  obtain ⟨h1, rows, h2, h3⟩ := h
  exact h3.2.1
/-- What a walk reads of a graph: its cell, its rows' header. -/
theorem GIs.head {w : World} {b : Nat} {v : Value} {n : Nat} {adj : Adj} (h : GIs w b v n adj) : ∃ A c, v = .slice A n c ∧ n ≤ c ∧ w.cell? ⟨b, 0, none⟩ = some (.slice A n c) := by
  obtain ⟨h1, rows, h2, h3⟩ := h
  obtain ⟨A, c, rfl, hl, hC⟩ := Kd.R_reads h2
  rw [h3.1] at hl h1 ⊢
  exact ⟨A, c, rfl, hl, by simp [World.cell?, h1]⟩
/-- .. and a node's row. -/
theorem GIs.row {w : World} {b : Nat} {A : Option Addr} {c n : Nat} {adj : Adj} (h : GIs w b (.slice A n c) n adj) {a : Nat} (ha : a < n) :
    ∃ ad B cB l, A = some ad ∧ w.cell? (ad.add a) = some (.slice B l.length cB) ∧ l.length ≤ cB ∧ (Kd.int .u64).C w B l.length l ∧ Wd l ∧ l.length ≤ 64 ∧ ∀ i, bitAt l i = adj a i := by
  obtain ⟨h1, rows, h2, h3⟩ := h
  obtain ⟨A', c', he, hl, hC⟩ := Kd.R_reads h2
  rw [h3.1] at he hl hC
  injection he with e1 e2 e3
  subst e1 e3
  obtain ⟨ad, cs, e, _, hK, hc0⟩ := Kd.C_get hC ([] : List Int) (a : Int) (by omega) (by omega)
  obtain ⟨B, cB, rfl, l0, g0⟩ := hK
  rw [Int.toNat_natCast] at hc0 l0 g0
  have hc : w.cell? (ad.add (a * 1 + 0)) = _ := hc0 0 _ rfl
  rw [Nat.mul_one, Nat.add_zero] at hc
  have hr := h3.2.2.2 a ha
  exact ⟨ad, B, cB, rows.getD a [], e, hc, l0, g0, hr.1, hr.2.1, hr.2.2⟩

set_option maxHeartbeats 400000 in
theorem Len_is (w : World) (b : Nat) (v : Value) (n : Nat) (adj : Adj) (h : GIs w b v n adj) : Calls Try.prog 11 #[.pointer (some ⟨b, 0, none⟩)] w fun e w' => e = .returned (.int .i64 n) ∧ w = w' := by
  obtain ⟨A, c, rfl, hc, hcell⟩ := h.head
  clear h
  go_enter Try.func11, Try.ntmps11
  go_wp2
  go_ret
  exact ⟨rfl, rfl⟩
set_option maxHeartbeats 400000 in
theorem Len_nil (w : World) : Calls Try.prog 11 #[.pointer none] w fun e w' => e = .returned (.int .i64 0) ∧ w = w' := by
  go_enter Try.func11, Try.ntmps11
  go_wp2
  go_ret
  exact ⟨rfl, rfl⟩
end Go.Proofs.Ytfkmngmnnlgjdaa.Gr
