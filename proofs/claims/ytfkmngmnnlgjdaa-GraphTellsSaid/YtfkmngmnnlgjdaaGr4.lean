/- Join of a graph: the two rows, each with one number more, are stored in either order. -/
import Derived.Test.YtfkmngmnnlgjdaaGr3
namespace Go.Proofs.Ytfkmngmnnlgjdaa.Gr
open Go Go.RowKit Go.Proofs.Ytfkmngmnnlgjdaa.Gf Go.Proofs.Ytfkmngmnnlgjdaa.Pu Go.Proofs.YtfkmngmnnlgjdaaW.PrintWords Go.Proofs.YtfkmngmnnlgjdaaW.PrintLast Go.Proofs.YtfkmngmnnlgjdaaW.PrintMore
set_option linter.unusedVariables false

/-- A row of one's own that holds a set with i put in. -/
structure Plus (W : World) (v : Value) (l : List Int) (i : Nat) (r : List Int) : Prop where
  own : (Kd.int .u64).R 71 W 0 (fun _ => True) v r
  wd : Wd r
  len : r.length ≤ 64
  bit : ∀ j, bitAt r j = (bitAt l j || j == i)
theorem Plus.below {W W' : World} {v : Value} {l r : List Int} {i : Nat} (h : Plus W v l i r) (hb : Below W.heap.size W W') : Plus W' v l i r := ⟨Kd.R_below h.own hb, h.wd, h.len, h.bit⟩
theorem With_any (W : World) (B : Option Addr) (c : Nat) (l : List Int) (i : Nat) (hi : i < 4096) (hW : Wd l) (hl : l.length ≤ 64) (hc : l.length ≤ c) (hC : (Kd.int .u64).C W B l.length l) :
    Calls Try.prog 33 #[.slice B l.length c, .int .i64 i] W fun e w' => ∃ v r, e = .returned v ∧ Plus w' v l i r ∧ Below W.heap.size W w' := by
  obtain ⟨r, h1, h2, h3, h4⟩ := with_f hW hl hi
  obtain ⟨k, hk⟩ := h1.rounds
  exact (bits_With.calls k B c l i r W hC hc hk).mono fun e w' ⟨v, he, hR, hB⟩ => ⟨v, r, he, ⟨Kd.R_lower hR (Nat.zero_le _), h2, h3, h4⟩, hB⟩

/-- One row's header is stored. -/
theorem row_set {W : World} {ga n c i : Nat} {rows : List (List Int)} {v : Value} {r : List Int} (HO : Kd.R (Kd.slice 71 (Kd.int .u64)) 61 W 0 (fun _ => True) (.slice (some ⟨ga, 0, none⟩) n c) rows) (hi : i < n)
    (hv : (Kd.int .u64).R 71 W 0 (fun _ => True) v r) :
    Kd.R (Kd.slice 71 (Kd.int .u64)) 61 (W.setCell ⟨ga, i, none⟩ v) 0 (fun _ => True) (.slice (some ⟨ga, 0, none⟩) n c) (rows.set i r) ∧ W.grownBy (W.setCell ⟨ga, i, none⟩ v) (some ga) := by
  obtain ⟨A', c', he, hl, hC⟩ := Kd.R_reads HO
  injection he with e1 e2 e3
  obtain ⟨ad, cs, e, _, hK, hc0⟩ := Kd.C_get hC ([] : List Int) (i : Int) (by omega) (by omega)
  rw [← e1] at e
  injection e with e
  subst e
  obtain ⟨B, cB, rfl, l0, g0⟩ := hK
  obtain ⟨inner, ho⟩ := Kd.R_own HO
  obtain ⟨cells, hcells⟩ := own_typed ho ga (by simp [Value.ownBlock])
  have hv2 := Kd.R_types hv hcells (by decide)
  have := Kd.R_seg (d := Kd.slice 71 (Kd.int .u64)) (okp := fun k => True ∧ k ≠ ga) HO (i : Int) (by omega) (by omega) (c := [_]) (seg := [v]) (j := 0) rfl (fun j u hu => by
      have := hc0 j u hu
      rw [add_plain] at this
      exact this) (by show 0 + 1 ≤ 1; omega) (x' := r) ⟨v, rfl, hv2⟩ (fun k hk => hk)
  simpa [World.setCells, Kd.slice] using this

theorem getD_set2 (l : List (List Int)) (j i : Nat) (x : List Int) (hj : j < l.length) : (l.set j x).getD i [] = if j = i then x else l.getD i [] := by
  rw [List.getD_eq_getElem?_getD, List.getElem?_set, List.getD_eq_getElem?_getD]
  by_cases h : j = i
  · subst h; simp [hj]
  · simp [h]
/-- The graph behind both stores. -/
theorem GIs.join {W : World} {g ga n c a b : Nat} {adj : Adj} {la lb ra rb : List Int} {va vb : Value} (h : GIs W g (.slice (some ⟨ga, 0, none⟩) n c) n adj) (ha : a < n) (hb : b < n) (hab : a ≠ b) (hla : ∀ i, bitAt la i = adj a i) (hlb : ∀ i, bitAt lb i = adj b i)
    (hva : Plus W va la b ra) (hvb : Plus W vb lb a rb) : GIs ((W.setCell ⟨ga, a, none⟩ va).setCell ⟨ga, b, none⟩ vb) g (.slice (some ⟨ga, 0, none⟩) n c) n (put adj a b) ∧ W.grownBy ((W.setCell ⟨ga, a, none⟩ va).setCell ⟨ga, b, none⟩ vb) (some ga) := by
  obtain ⟨h1, rows, h2, h3, h4, hS, h5⟩ := h
  obtain ⟨inner, ho⟩ := Kd.R_own h2
  obtain ⟨cells, hcells⟩ := own_typed ho ga (by simp [Value.ownBlock])
  have hne : g ≠ ga := by
    rintro rfl
    rw [h1] at hcells
    injection hcells with hcells
    injection hcells with _ hcells
    exact absurd hcells (by decide)
  obtain ⟨k1, g1⟩ := row_set h2 ha hva.own
  have hvb2 : (Kd.int .u64).R 71 (W.setCell ⟨ga, a, none⟩ va) 0 (fun _ => True) vb rb := Kd.R_mono (Kd.R_far (p := ⟨ga, a, none⟩) (Kd.R_types hvb.own hcells (by decide)) (fun _ hk => hk.2) va) (fun _ _ => trivial)
  obtain ⟨k2, g2⟩ := row_set k1 hb hvb2
  refine ⟨⟨?_, (rows.set a ra).set b rb, k2, by simpa using h3, h4, hS.put ha hb hab, fun x hx => ?_⟩, g1.trans g2⟩
  · exact (Below.heap_setCell _ ⟨ga, b, none⟩ _ g hne).trans ((Below.heap_setCell _ ⟨ga, a, none⟩ _ g hne).trans h1)
  · rw [getD_set2 _ _ _ _ (by simp; omega), getD_set2 _ _ _ _ (by omega)]
    by_cases hxb : b = x
    · subst hxb
      rw [if_pos rfl]
      refine ⟨hvb.wd, hvb.len, fun i => ?_⟩
      rw [hvb.bit, hlb]
      unfold Pu.put
      have e1 : (b == a) = false := by rw [beq_eq_false_iff_ne]; omega
      simp [e1]
    · rw [if_neg hxb]
      by_cases hxa : a = x
      · subst hxa
        rw [if_pos rfl]
        refine ⟨hva.wd, hva.len, fun i => ?_⟩
        rw [hva.bit, hla]
        unfold Pu.put
        have e1 : (a == b) = false := by rw [beq_eq_false_iff_ne]; omega
        simp [e1]
      · rw [if_neg hxa]
        obtain ⟨m1, m2, m3⟩ := h5 x hx
        refine ⟨m1, m2, fun i => ?_⟩
        rw [m3]
        unfold Pu.put
        have e1 : (x == a) = false := by rw [beq_eq_false_iff_ne]; omega
        have e2 : (x == b) = false := by rw [beq_eq_false_iff_ne]; omega
        simp [e1, e2]
theorem put_comm (adj : Adj) (a b : Nat) : put adj b a = put adj a b := by
  funext x y
  unfold Pu.put
  cases adj x y <;> cases x == a <;> cases y == b <;> cases x == b <;> cases y == a <;> rfl
end Go.Proofs.Ytfkmngmnnlgjdaa.Gr
