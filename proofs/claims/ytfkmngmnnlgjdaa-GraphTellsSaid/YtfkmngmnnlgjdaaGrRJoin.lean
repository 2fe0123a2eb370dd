/- The document's Join, walked. -/
import Derived.Test.YtfkmngmnnlgjdaaGrJoin
import Derived.Test.YtfkmngmnnlgjdaaPuRef2
namespace Go.Proofs.Ytfkmngmnnlgjdaa.Gr
open Go Go.RowKit Go.Proofs.Ytfkmngmnnlgjdaa.Gf Go.Proofs.Ytfkmngmnnlgjdaa.Pu Go.Proofs.Ytfkmngmnnlgjdaa.Pr Go.Proofs.Ytfkmngmnnlgjdaa.Mw Go.Proofs.YtfkmngmnnlgjdaaW.PrintWords Go.Proofs.YtfkmngmnnlgjdaaW.PrintLast Go.Proofs.YtfkmngmnnlgjdaaW.PrintMore
set_option linter.unusedVariables false
set_option linter.unusedSimpArgs false

/-- The document's graph as a value: what it reads as. -/
structure RIs (w : World) (v : Value) (n : Nat) (adj : Adj) : Prop where
  own : ∃ on : List Bool, Kd.bool.R 4 w 0 (fun _ => True) v on ∧ RefOf n adj on
theorem RIs.rd {w : World} {v : Value} {n : Nat} {adj : Adj} (h : RIs w v n adj) : ∃ A c on, v = .slice A (on : List Bool).length c ∧ on.length ≤ c ∧ Kd.bool.C w A on.length on ∧ RefOf n adj on := by
  obtain ⟨on, hO, hR⟩ := h.own
  obtain ⟨A, c, he, hc, hC⟩ := Kd.R_reads hO
  exact ⟨A, c, on, he, hc, hC, hR⟩
theorem RIs.below {w w' : World} {v : Value} {n : Nat} {adj : Adj} (h : RIs w v n adj) (hb : Below w.heap.size w w') : RIs w' v n adj := by
  obtain ⟨on, hO, hR⟩ := h.own
  exact ⟨on, Kd.R_below hO hb, hR⟩
theorem RIs.grown {w w' : World} {v u : Value} {n : Nat} {adj : Adj} (h : RIs w u n adj) (hg : w.grownBy w' v.ownBlock) (hne : ∀ k, v.ownBlock = some k → some k ≠ u.ownBlock) : RIs w' u n adj := by
  obtain ⟨on, hO, hR⟩ := h.own
  exact ⟨on, Kd.R_grown2 hO rfl hg hne, hR⟩
theorem GIs.ne_ref {w : World} {g n m : Nat} {v u : Value} {adj adj' : Adj} (h : GIs w g v n adj) (hr : RIs w u m adj') (k : Nat) (hk : v.ownBlock = some k) : some k ≠ u.ownBlock := by
  intro e
  obtain ⟨_, rows, hR, _⟩ := h
  obtain ⟨on, hO, _⟩ := hr.own
  obtain ⟨i1, o1⟩ := Kd.R_own hR
  obtain ⟨i2, o2⟩ := Kd.R_own hO
  obtain ⟨c1, h1⟩ := own_typed o1 k hk
  obtain ⟨c2, h2⟩ := own_typed o2 k e.symm
  exact blk_ne h1 h2 (by decide) rfl
theorem RIs.le {w : World} {v : Value} {n : Nat} {adj : Adj} (h : RIs w v n adj) : n ≤ 400 := by
  obtain ⟨A, c, on, he, hc, hC, hR⟩ := h.rd
  exact hR.le
theorem RIs.sane {w : World} {v : Value} {n : Nat} {adj : Adj} (h : RIs w v n adj) : Sane n adj := by
  obtain ⟨A, c, on, he, hc, hC, hR⟩ := h.rd
  exact hR.sane
theorem RNode_is (w : World) (v : Value) (n : Nat) (adj : Adj) (a : Int) (h : RIs w v n adj) :
    Calls Try.prog 31 #[.agg #[.int .i64 n, v], .int .i64 a] w fun e w' => e = .returned (.bool (isN n a)) ∧ Below w.heap.size w w' := by
  obtain ⟨A, c, on, rfl, hc, hC, hR⟩ := h.rd
  exact horariumref23_Node.calls n A c on a (isN n a) w hC hc (node_f on n a)
theorem RHas_is (w : World) (v : Value) (n : Nat) (adj : Adj) (a b : Int) (h : RIs w v n adj) :
    Calls Try.prog 17 #[.agg #[.int .i64 n, v], .int .i64 a, .int .i64 b] w fun e w' => e = .returned (.bool (hasN n adj a b)) ∧ Below w.heap.size w w' := by
  obtain ⟨A, c, on, rfl, hc, hC, hR⟩ := h.rd
  exact horariumref23_Has.calls n A c on a b (hasN n adj a b) w hC hc (Pr.has_f hR a b)
theorem RNear_is (w : World) (v : Value) (n : Nat) (adj : Adj) (a : Int) (h : RIs w v n adj) :
    Calls Try.prog 20 #[.agg #[.int .i64 n, v], .int .i64 a] w fun e w' => ∃ v', e = .returned v' ∧ (Kd.int .i64).R 3 w' w.heap.size (fun _ => True) v' (nearI n adj a) ∧ Below w.heap.size w w' := by
  obtain ⟨A, c, on, rfl, hc, hC, hR⟩ := h.rd
  obtain ⟨k, hk⟩ := (near_f hR a).rounds
  exact horariumref23_Near.calls k n A c on a _ w hC hc hk
theorem RParts_is (w : World) (v : Value) (n : Nat) (adj : Adj) (h : RIs w v n adj) :
    Calls Try.prog 25 #[.agg #[.int .i64 n, v]] w fun e w' => ∃ v', e = .returned v' ∧ Kd.S (Kd.slice 3 (Kd.int .i64)) 38 w' w.heap.size (fun _ => True) v' ((parts n adj).map nats) ∧ Below w.heap.size w w' := by
  obtain ⟨A, c, on, rfl, hc, hC, hR⟩ := h.rd
  obtain ⟨k, hk⟩ := (parts_f hR).rounds
  exact horariumref23_Parts.calls k n A c on _ w hC hc hk
theorem RShell_is (w : World) (v : Value) (n : Nat) (adj : Adj) (h : RIs w v n adj) :
    Calls Try.prog 27 #[.agg #[.int .i64 n, v]] w fun e w' => ∃ v', e = .returned v' ∧ (Kd.int .i64).R 3 w' w.heap.size (fun _ => True) v' (nats (shell n adj)) ∧ Below w.heap.size w w' := by
  obtain ⟨A, c, on, rfl, hc, hC, hR⟩ := h.rd
  obtain ⟨k, hk⟩ := (shell_f hR).rounds
  exact horariumref23_Shell.calls k n A c on _ w hC hc hk
theorem RefOf.new {n : Nat} (hn : n ≤ 400) : RefOf n (fun _ _ => false) (List.replicate (n * n) false) where
  le := hn
  sane := sane_none n
  len := by simp
  on a b ha hb := by
    rw [List.getD_eq_getElem?_getD, List.getElem?_replicate]
    split <;> rfl
theorem RNew_is (w : World) (n : Nat) (hn : n ≤ 400) :
    Calls Try.prog 12 #[.int .i64 n] w fun e w' => ∃ v', e = .returned (.agg #[.int .i64 n, v']) ∧ RIs w' v' n (fun _ _ => false) ∧ Below w.heap.size w w' := by
  have h1 : n * n ≤ 400 * 400 := Nat.mul_le_mul hn hn
  have h2 : (n : Int) * (n : Int) = ((n * n : Nat) : Int) := by rw [Int.natCast_mul]
  have hf : horariumref23_New.f (n : Int) = some ((n : Int), List.replicate (n * n) false) := by
    unfold horariumref23_New.f
    rw [h2, wr (by omega) (by omega), if_pos (by omega), Int.toNat_natCast, if_pos (by omega)]
  refine (horariumref23_New.calls (n : Int) _ _ w hf).mono ?_
  rintro e w' ⟨v, rfl, hR, hB⟩
  exact ⟨v, rfl, ⟨_, Kd.R_lower hR (Nat.zero_le _), RefOf.new hn⟩, hB⟩
/-- Two cells of a row are set. -/
theorem RefOf.put {n : Nat} {adj : Adj} {on : List Bool} (h : RefOf n adj on) {a b : Nat} (ha : a < n) (hb : b < n) (hab : a ≠ b) : RefOf n (Pu.put adj a b) ((on.set (a * n + b) true).set (b * n + a) true) where
  le := h.le
  sane := h.sane.put ha hb hab
  len := by simp [h.len]
  on x y hx hy := by
    have h1 := (idx (a := x) (b := y) h.le hx hy).2
    have h2 := (idx (a := a) (b := b) h.le ha hb).2
    have h3 := (idx (a := b) (b := a) h.le hb ha).2
    have key : ∀ p q r s : Nat, q < n → s < n → (p * n + q = r * n + s ↔ p = r ∧ q = s) := by
      intro p q r s hq hs
      constructor
      · intro e
        have e1 : (p * n + q) / n = p := by rw [Nat.mul_comm, Nat.mul_add_div (by omega), Nat.div_eq_of_lt hq, Nat.add_zero]
        have e2 : (r * n + s) / n = r := by rw [Nat.mul_comm, Nat.mul_add_div (by omega), Nat.div_eq_of_lt hs, Nat.add_zero]
        have e3 : p = r := by rw [← e1, e, e2]
        subst e3
        omega
      · rintro ⟨rfl, rfl⟩; rfl
    have hg : ∀ (l : List Bool) (i j : Nat), i < l.length → (l.set i true).getD j false = if i = j then true else l.getD j false := by
      intro l i j hi
      rw [List.getD_eq_getElem?_getD, List.getElem?_set, List.getD_eq_getElem?_getD]
      by_cases e : i = j
      · subst e; simp [hi]
      · simp [e]
    rw [hg _ _ _ (by rw [List.length_set, h.len]; exact h3), hg _ _ _ (by rw [h.len]; exact h2), h.on x y hx hy]
    unfold Pu.put
    by_cases e1 : b * n + a = x * n + y
    · obtain ⟨rfl, rfl⟩ := (key _ _ _ _ ha hy).1 e1
      simp
    · rw [if_neg e1]
      by_cases e2 : a * n + b = x * n + y
      · obtain ⟨rfl, rfl⟩ := (key _ _ _ _ hb hy).1 e2
        simp
      · rw [if_neg e2]
        have n1 : ¬ (x = b ∧ y = a) := fun h => e1 (by rw [h.1, h.2])
        have n2 : ¬ (x = a ∧ y = b) := fun h => e2 (by rw [h.1, h.2])
        cases adj x y with
        | true => rfl
        | false =>
          simp only [Bool.false_or]
          symm
          rw [Bool.or_eq_false_iff, Bool.and_eq_false_iff, Bool.and_eq_false_iff]
          simp only [beq_eq_false_iff_ne]
          omega
-- WALK
set_option maxRecDepth 100000 in
set_option maxHeartbeats 4000000 in
theorem RJoin_no (w : World) (v : Value) (n : Nat) (adj : Adj) (a b : Int) (h : RIs w v n adj) (hno : joinOk n adj a b = false) :
    Calls Try.prog 13 #[.agg #[.int .i64 n, v], .int .i64 a, .int .i64 b] w fun e w' => ∃ v', e = .returned (.tuple #[.agg #[.int .i64 n, v'], .bool (joinOk n adj a b)]) ∧ RIs w' v' n (jn n adj a b) ∧ Below w.heap.size w w' := by
  have hu29 := Try.underlying29
  have HR := Lib.hid h
  have hn4 := h.le
  obtain ⟨A, c, on, rfl, hc, hC, hR⟩ := h.rd
  have HRef := Aside0.mk hR
  clear hc hC hR h
  by_cases hab : a = b
  · subst hab
    have HJ := Lib.hid (show joinOk n adj a a = false by unfold joinOk; simp)
    go_enter Try.func13, Try.ntmps13
    go_wp2_with (first
      | ((with_reducible refine gate_dst (N := 3) rfl ?_); refine box_event ?hg (N := 3) ?hd (cs := #[.int .i64 n, .slice A on.length c]) (t := 29) ?hr ?_; (case hd => rfl); (case hg => rfl); (case hr => first | (go_simp; done) | (go_simp; rfl)); intro gb hgb w1 hbox hb; have BK := Aside0.mk hbox; have HB := Aside0.mk hb; have HR1 := Aside0.mk (HR.out.below hb); have HG := Aside0.mk (show w.heap.size ≤ gb by rw [hgb]; exact Nat.le_refl _); clear hbox hb hgb)
      | ((with_reducible refine gate_dst (N := 6) rfl ?_); refine box_event ?hg (N := 6) ?hd (cs := #[.int .i64 0, .slice none 0 0]) (t := 29) ?hr ?_; (case hd => rfl); (case hg => rfl); (case hr => first | (go_simp; done) | (go_simp; rfl)); intro ge hge w2 hbox hb; have BE := Aside0.mk hbox; have n1 := Aside0.mk (blk_below BK.out hb); have n3 := Aside0.mk (HR1.out.below hb); have HE := Aside0.mk (show w.heap.size ≤ ge by rw [hge]; exact HB.out.size); have NE := Aside0.mk (show gb ≠ ge by rw [hge]; exact Nat.ne_of_lt (blk_lt BK.out)); have n4 := Aside0.mk (below_then HB.out HB.out.size hb); clear hbox hb hge HB BK HR1; have BK := n1; have HR1 := n3; have HB := n4; clear n1 n3 n4; have hcz0 : w2.cell? ⟨gb, 0, none⟩ = some (.int .i64 n) := (blk_cell BK.out 0).trans rfl; have hcz1 : w2.cell? ⟨gb, 1, none⟩ = some (.slice A on.length c) := (blk_cell BK.out 1).trans rfl; have hfz0 := blk_frozen BK.out 0; have hfz1 := blk_frozen BK.out 1; have hdz0 : w2.cell? ⟨ge, 0, none⟩ = some (.int .i64 0) := (blk_cell BE.out 0).trans rfl; have hdz1 : w2.cell? ⟨ge, 1, none⟩ = some (.slice none 0 0) := (blk_cell BE.out 1).trans rfl; have hgz0 := blk_frozen BE.out 0; have hgz1 := blk_frozen BE.out 1))
    refine bodyPost_ret (results_ct rfl _ _ ge 29 #[.int .i64 n, .slice A on.length c] (0, 0) _ rfl (blk_put (cs := #[.int .i64 n, .slice none 0 0]) (blk_put (cs := #[.int .i64 0, .slice none 0 0]) BE.out 0 _ rfl) 1 _ rfl) hu29 rfl (by kernel_rfl)) rfl ?_
    have hB' := (HB.out.setCell (p := ⟨ge, 0, none⟩) HE.out (.int .i64 n)).setCell (p := ⟨ge, 1, none⟩) HE.out (.slice A on.length c)
    rw [HJ.out]
    refine ⟨_, rfl, ?_, hB'⟩
    rw [show jn n adj _ _ = adj by unfold jn; rw [HJ.out]; rfl]
    exact HR.out.below hB'
  · cases hna : isN n a with
    | false =>
      have HNA := Lib.hid hna
      have HNB := HNA
      have HJ := Lib.hid (show joinOk n adj a b = false by unfold joinOk; rw [hna]; rfl)
      clear hna
      go_enter Try.func13, Try.ntmps13
      go_wp2_with (first
        | ((with_reducible refine gate_dst (N := 3) rfl ?_); refine box_event ?hg (N := 3) ?hd (cs := #[.int .i64 n, .slice A on.length c]) (t := 29) ?hr ?_; (case hd => rfl); (case hg => rfl); (case hr => first | (go_simp; done) | (go_simp; rfl)); intro gb hgb w1 hbox hb; have BK := Aside0.mk hbox; have HB := Aside0.mk hb; have HR1 := Aside0.mk (HR.out.below hb); have HG := Aside0.mk (show w.heap.size ≤ gb by rw [hgb]; exact Nat.le_refl _); clear hbox hb hgb)
        | ((with_reducible refine gate_dst (N := 6) rfl ?_); refine box_event ?hg (N := 6) ?hd (cs := #[.int .i64 0, .slice none 0 0]) (t := 29) ?hr ?_; (case hd => rfl); (case hg => rfl); (case hr => first | (go_simp; done) | (go_simp; rfl)); intro ge hge w2 hbox hb; have BE := Aside0.mk hbox; have n1 := Aside0.mk (blk_below BK.out hb); have n3 := Aside0.mk (HR1.out.below hb); have HE := Aside0.mk (show w.heap.size ≤ ge by rw [hge]; exact HB.out.size); have NE := Aside0.mk (show gb ≠ ge by rw [hge]; exact Nat.ne_of_lt (blk_lt BK.out)); have n4 := Aside0.mk (below_then HB.out HB.out.size hb); clear hbox hb hge HB BK HR1; have BK := n1; have HR1 := n3; have HB := n4; clear n1 n3 n4; have hcz0 : w2.cell? ⟨gb, 0, none⟩ = some (.int .i64 n) := (blk_cell BK.out 0).trans rfl; have hcz1 : w2.cell? ⟨gb, 1, none⟩ = some (.slice A on.length c) := (blk_cell BK.out 1).trans rfl; have hfz0 := blk_frozen BK.out 0; have hfz1 := blk_frozen BK.out 1; have hdz0 : w2.cell? ⟨ge, 0, none⟩ = some (.int .i64 0) := (blk_cell BE.out 0).trans rfl; have hdz1 : w2.cell? ⟨ge, 1, none⟩ = some (.slice none 0 0) := (blk_cell BE.out 1).trans rfl; have hgz0 := blk_frozen BE.out 0; have hgz1 := blk_frozen BE.out 1)
        | (go_at_call 31; refine (RNode_is _ _ n adj _ HR1.out).mono ?_; rintro e w3 ⟨rfl, hb⟩; (first | rw [HNA.out] | rw [HNB.out]); have n1 := Aside0.mk (blk_below BK.out hb); have n2 := Aside0.mk (blk_below BE.out hb); have n3 := Aside0.mk (HR1.out.below hb); have n4 := Aside0.mk (below_then HB.out HB.out.size hb); clear hcz0 hcz1 hfz0 hfz1 hdz0 hdz1 hgz0 hgz1 BK BE HR1 HB hb; have BK := n1; have BE := n2; have HR1 := n3; have HB := n4; clear n1 n2 n3 n4; have hcz0 : w3.cell? ⟨gb, 0, none⟩ = some (.int .i64 n) := (blk_cell BK.out 0).trans rfl; have hcz1 : w3.cell? ⟨gb, 1, none⟩ = some (.slice A on.length c) := (blk_cell BK.out 1).trans rfl; have hfz0 := blk_frozen BK.out 0; have hfz1 := blk_frozen BK.out 1; have hdz0 : w3.cell? ⟨ge, 0, none⟩ = some (.int .i64 0) := (blk_cell BE.out 0).trans rfl; have hdz1 : w3.cell? ⟨ge, 1, none⟩ = some (.slice none 0 0) := (blk_cell BE.out 1).trans rfl; have hgz0 := blk_frozen BE.out 0; have hgz1 := blk_frozen BE.out 1))
      refine bodyPost_ret (results_ct rfl _ _ ge 29 #[.int .i64 n, .slice A on.length c] (0, 0) _ rfl (blk_put (cs := #[.int .i64 n, .slice none 0 0]) (blk_put (cs := #[.int .i64 0, .slice none 0 0]) BE.out 0 _ rfl) 1 _ rfl) hu29 rfl (by kernel_rfl)) rfl ?_
      have hB' := (HB.out.setCell (p := ⟨ge, 0, none⟩) HE.out (.int .i64 n)).setCell (p := ⟨ge, 1, none⟩) HE.out (.slice A on.length c)
      rw [HJ.out]
      refine ⟨_, rfl, ?_, hB'⟩
      rw [show jn n adj _ _ = adj by unfold jn; rw [HJ.out]; rfl]
      exact HR.out.below hB'
    | true =>
    cases hnb : isN n b with
    | false =>
      have HNA := Lib.hid hna
      have HNB := Lib.hid hnb
      have HJ := Lib.hid (show joinOk n adj a b = false by unfold joinOk; rw [hna, hnb]; rfl)
      clear hna hnb
      go_enter Try.func13, Try.ntmps13
      go_wp2_with (first
        | ((with_reducible refine gate_dst (N := 3) rfl ?_); refine box_event ?hg (N := 3) ?hd (cs := #[.int .i64 n, .slice A on.length c]) (t := 29) ?hr ?_; (case hd => rfl); (case hg => rfl); (case hr => first | (go_simp; done) | (go_simp; rfl)); intro gb hgb w1 hbox hb; have BK := Aside0.mk hbox; have HB := Aside0.mk hb; have HR1 := Aside0.mk (HR.out.below hb); have HG := Aside0.mk (show w.heap.size ≤ gb by rw [hgb]; exact Nat.le_refl _); clear hbox hb hgb)
        | ((with_reducible refine gate_dst (N := 6) rfl ?_); refine box_event ?hg (N := 6) ?hd (cs := #[.int .i64 0, .slice none 0 0]) (t := 29) ?hr ?_; (case hd => rfl); (case hg => rfl); (case hr => first | (go_simp; done) | (go_simp; rfl)); intro ge hge w2 hbox hb; have BE := Aside0.mk hbox; have n1 := Aside0.mk (blk_below BK.out hb); have n3 := Aside0.mk (HR1.out.below hb); have HE := Aside0.mk (show w.heap.size ≤ ge by rw [hge]; exact HB.out.size); have NE := Aside0.mk (show gb ≠ ge by rw [hge]; exact Nat.ne_of_lt (blk_lt BK.out)); have n4 := Aside0.mk (below_then HB.out HB.out.size hb); clear hbox hb hge HB BK HR1; have BK := n1; have HR1 := n3; have HB := n4; clear n1 n3 n4; have hcz0 : w2.cell? ⟨gb, 0, none⟩ = some (.int .i64 n) := (blk_cell BK.out 0).trans rfl; have hcz1 : w2.cell? ⟨gb, 1, none⟩ = some (.slice A on.length c) := (blk_cell BK.out 1).trans rfl; have hfz0 := blk_frozen BK.out 0; have hfz1 := blk_frozen BK.out 1; have hdz0 : w2.cell? ⟨ge, 0, none⟩ = some (.int .i64 0) := (blk_cell BE.out 0).trans rfl; have hdz1 : w2.cell? ⟨ge, 1, none⟩ = some (.slice none 0 0) := (blk_cell BE.out 1).trans rfl; have hgz0 := blk_frozen BE.out 0; have hgz1 := blk_frozen BE.out 1)
        | (go_at_call 31; refine (RNode_is _ _ n adj _ HR1.out).mono ?_; rintro e w3 ⟨rfl, hb⟩; (first | rw [HNA.out] | rw [HNB.out]); have n1 := Aside0.mk (blk_below BK.out hb); have n2 := Aside0.mk (blk_below BE.out hb); have n3 := Aside0.mk (HR1.out.below hb); have n4 := Aside0.mk (below_then HB.out HB.out.size hb); clear hcz0 hcz1 hfz0 hfz1 hdz0 hdz1 hgz0 hgz1 BK BE HR1 HB hb; have BK := n1; have BE := n2; have HR1 := n3; have HB := n4; clear n1 n2 n3 n4; have hcz0 : w3.cell? ⟨gb, 0, none⟩ = some (.int .i64 n) := (blk_cell BK.out 0).trans rfl; have hcz1 : w3.cell? ⟨gb, 1, none⟩ = some (.slice A on.length c) := (blk_cell BK.out 1).trans rfl; have hfz0 := blk_frozen BK.out 0; have hfz1 := blk_frozen BK.out 1; have hdz0 : w3.cell? ⟨ge, 0, none⟩ = some (.int .i64 0) := (blk_cell BE.out 0).trans rfl; have hdz1 : w3.cell? ⟨ge, 1, none⟩ = some (.slice none 0 0) := (blk_cell BE.out 1).trans rfl; have hgz0 := blk_frozen BE.out 0; have hgz1 := blk_frozen BE.out 1))
      refine bodyPost_ret (results_ct rfl _ _ ge 29 #[.int .i64 n, .slice A on.length c] (0, 0) _ rfl (blk_put (cs := #[.int .i64 n, .slice none 0 0]) (blk_put (cs := #[.int .i64 0, .slice none 0 0]) BE.out 0 _ rfl) 1 _ rfl) hu29 rfl (by kernel_rfl)) rfl ?_
      have hB' := (HB.out.setCell (p := ⟨ge, 0, none⟩) HE.out (.int .i64 n)).setCell (p := ⟨ge, 1, none⟩) HE.out (.slice A on.length c)
      rw [HJ.out]
      refine ⟨_, rfl, ?_, hB'⟩
      rw [show jn n adj _ _ = adj by unfold jn; rw [HJ.out]; rfl]
      exact HR.out.below hB'
    | true =>
    cases hh : hasN n adj a b with
    | true =>
      have HNA := Lib.hid hna
      have HNB := Lib.hid hnb
      have HH := Lib.hid hh
      have HJ := Lib.hid (show joinOk n adj a b = false by unfold joinOk; rw [hna, hnb, hh]; simp)
      clear hna hnb hh
      go_enter Try.func13, Try.ntmps13
      go_wp2_with (first
        | ((with_reducible refine gate_dst (N := 3) rfl ?_); refine box_event ?hg (N := 3) ?hd (cs := #[.int .i64 n, .slice A on.length c]) (t := 29) ?hr ?_; (case hd => rfl); (case hg => rfl); (case hr => first | (go_simp; done) | (go_simp; rfl)); intro gb hgb w1 hbox hb; have BK := Aside0.mk hbox; have HB := Aside0.mk hb; have HR1 := Aside0.mk (HR.out.below hb); have HG := Aside0.mk (show w.heap.size ≤ gb by rw [hgb]; exact Nat.le_refl _); clear hbox hb hgb)
        | ((with_reducible refine gate_dst (N := 6) rfl ?_); refine box_event ?hg (N := 6) ?hd (cs := #[.int .i64 0, .slice none 0 0]) (t := 29) ?hr ?_; (case hd => rfl); (case hg => rfl); (case hr => first | (go_simp; done) | (go_simp; rfl)); intro ge hge w2 hbox hb; have BE := Aside0.mk hbox; have n1 := Aside0.mk (blk_below BK.out hb); have n3 := Aside0.mk (HR1.out.below hb); have HE := Aside0.mk (show w.heap.size ≤ ge by rw [hge]; exact HB.out.size); have NE := Aside0.mk (show gb ≠ ge by rw [hge]; exact Nat.ne_of_lt (blk_lt BK.out)); have n4 := Aside0.mk (below_then HB.out HB.out.size hb); clear hbox hb hge HB BK HR1; have BK := n1; have HR1 := n3; have HB := n4; clear n1 n3 n4; have hcz0 : w2.cell? ⟨gb, 0, none⟩ = some (.int .i64 n) := (blk_cell BK.out 0).trans rfl; have hcz1 : w2.cell? ⟨gb, 1, none⟩ = some (.slice A on.length c) := (blk_cell BK.out 1).trans rfl; have hfz0 := blk_frozen BK.out 0; have hfz1 := blk_frozen BK.out 1; have hdz0 : w2.cell? ⟨ge, 0, none⟩ = some (.int .i64 0) := (blk_cell BE.out 0).trans rfl; have hdz1 : w2.cell? ⟨ge, 1, none⟩ = some (.slice none 0 0) := (blk_cell BE.out 1).trans rfl; have hgz0 := blk_frozen BE.out 0; have hgz1 := blk_frozen BE.out 1)
        | (go_at_call 31; refine (RNode_is _ _ n adj _ HR1.out).mono ?_; rintro e w3 ⟨rfl, hb⟩; (first | rw [HNA.out] | rw [HNB.out]); have n1 := Aside0.mk (blk_below BK.out hb); have n2 := Aside0.mk (blk_below BE.out hb); have n3 := Aside0.mk (HR1.out.below hb); have n4 := Aside0.mk (below_then HB.out HB.out.size hb); clear hcz0 hcz1 hfz0 hfz1 hdz0 hdz1 hgz0 hgz1 BK BE HR1 HB hb; have BK := n1; have BE := n2; have HR1 := n3; have HB := n4; clear n1 n2 n3 n4; have hcz0 : w3.cell? ⟨gb, 0, none⟩ = some (.int .i64 n) := (blk_cell BK.out 0).trans rfl; have hcz1 : w3.cell? ⟨gb, 1, none⟩ = some (.slice A on.length c) := (blk_cell BK.out 1).trans rfl; have hfz0 := blk_frozen BK.out 0; have hfz1 := blk_frozen BK.out 1; have hdz0 : w3.cell? ⟨ge, 0, none⟩ = some (.int .i64 0) := (blk_cell BE.out 0).trans rfl; have hdz1 : w3.cell? ⟨ge, 1, none⟩ = some (.slice none 0 0) := (blk_cell BE.out 1).trans rfl; have hgz0 := blk_frozen BE.out 0; have hgz1 := blk_frozen BE.out 1)
        | (go_at_call 17; refine (RHas_is _ _ n adj _ _ HR1.out).mono ?_; rintro e w4 ⟨rfl, hb⟩; rw [HH.out]; have n1 := Aside0.mk (blk_below BK.out hb); have n2 := Aside0.mk (blk_below BE.out hb); have n3 := Aside0.mk (HR1.out.below hb); have n4 := Aside0.mk (below_then HB.out HB.out.size hb); clear hcz0 hcz1 hfz0 hfz1 hdz0 hdz1 hgz0 hgz1 BK BE HR1 HB hb; have BK := n1; have BE := n2; have HR1 := n3; have HB := n4; clear n1 n2 n3 n4; have hcz0 : w4.cell? ⟨gb, 0, none⟩ = some (.int .i64 n) := (blk_cell BK.out 0).trans rfl; have hcz1 : w4.cell? ⟨gb, 1, none⟩ = some (.slice A on.length c) := (blk_cell BK.out 1).trans rfl; have hfz0 := blk_frozen BK.out 0; have hfz1 := blk_frozen BK.out 1; have hdz0 : w4.cell? ⟨ge, 0, none⟩ = some (.int .i64 0) := (blk_cell BE.out 0).trans rfl; have hdz1 : w4.cell? ⟨ge, 1, none⟩ = some (.slice none 0 0) := (blk_cell BE.out 1).trans rfl; have hgz0 := blk_frozen BE.out 0; have hgz1 := blk_frozen BE.out 1))
      refine bodyPost_ret (results_ct rfl _ _ ge 29 #[.int .i64 n, .slice A on.length c] (0, 0) _ rfl (blk_put (cs := #[.int .i64 n, .slice none 0 0]) (blk_put (cs := #[.int .i64 0, .slice none 0 0]) BE.out 0 _ rfl) 1 _ rfl) hu29 rfl (by kernel_rfl)) rfl ?_
      have hB' := (HB.out.setCell (p := ⟨ge, 0, none⟩) HE.out (.int .i64 n)).setCell (p := ⟨ge, 1, none⟩) HE.out (.slice A on.length c)
      rw [HJ.out]
      refine ⟨_, rfl, ?_, hB'⟩
      rw [show jn n adj _ _ = adj by unfold jn; rw [HJ.out]; rfl]
      exact HR.out.below hB'
    | false =>
      have hj : joinOk n adj a b = true := by unfold joinOk; rw [hna, hnb, hh]; simp [hab]
      rw [hno] at hj
      cases hj
end Go.Proofs.Ytfkmngmnnlgjdaa.Gr
