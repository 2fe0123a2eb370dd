import Derived.Test.YtineikfhfmiidaaGreatPkS5
/- problem.Rule and the document's Rule, walked. -/
namespace Go.Proofs.YtineikfhfmiidaaGreat.Pm
open Go Go.RowKit Go.Proofs.YtineikfhfmiidaaGreat.Gp Go.Proofs.YtineikfhfmiidaaGreat.Mw Go.Proofs.YtineikfhfmiidaaGreatW.PrintWords Go.Proofs.YtineikfhfmiidaaGreatW.PrintLast Go.Proofs.YtineikfhfmiidaaGreatW.PrintMore
set_option linter.unusedVariables false
set_option linter.unusedSimpArgs false
set_option maxRecDepth 100000 in
set_option maxHeartbeats 2000000 in
theorem Rule_is (w : World) (n k : Int) (A : Option Addr) (m c : Nat) (cs : List Int) (a b : Int) (hard : Bool) (cost : Int) (hm : cs.length = m) (hC : (Kd.int .i64).C w A cs.length cs) (hc : m ≤ c) (hn : n ≤ 9223372036854775807) :
    Calls Tryz.prog 33 #[.int .i64 n, .agg #[.int .i64 k, .slice A m c, .int .i64 a, .int .i64 b, .bool hard, .int .i64 cost]] w fun e w' => e = .returned (.bool (ruleOk n k cs a b hard cost)) ∧ Below w.heap.size w w' := by
  have HC := Aside0.mk hC
  have HM := Aside0.mk hm
  clear hC hm
  cases hkp : kp k with
  | true =>
    have HKp := Aside0.mk hkp
    clear hkp
    cases hnu : numsOk k a b with
    | false =>
      have HNu := Aside0.mk hnu
      clear hnu
      go_enter Tryz.func33, Tryz.ntmps33
      go_wp2_with (first
        | ((with_reducible refine gate_dst (N := 3) rfl ?_); refine box_event ?hg (N := 3) ?hd (cs := #[.int .i64 k, .slice A m c, .int .i64 a, .int .i64 b, .bool hard, .int .i64 cost]) (t := 69) ?hr ?_; (case hd => rfl); (case hg => rfl); (case hr => first | (go_simp; done) | (go_simp; rfl)); intro g hg w2 hbox hB; have HP := Aside0.mk (PBox.mk hbox hB (show w.heap.size ≤ g by rw [hg]; exact Nat.le_refl _)); clear hbox hB hg; have hc0 := HP.out.cell 0 rfl; have hc1 := HP.out.cell 1 rfl; have hc2 := HP.out.cell 2 rfl; have hc3 := HP.out.cell 3 rfl; have hc4 := HP.out.cell 4 rfl; have hc5 := HP.out.cell 5 rfl)
        | (go_at_call 117; refine (pair_Known.calls k _ _ (kp_pair k)).mono ?_; rintro e w3 ⟨rfl, hD⟩; rw [HKp.out]; have hB := hD.below; clear hD; have HQ := Aside0.mk (HP.out.below hB); clear HP hB hc0 hc1 hc2 hc3 hc4 hc5; have HP := HQ; clear HQ; have hc0 := HP.out.cell 0 rfl; have hc1 := HP.out.cell 1 rfl; have hc2 := HP.out.cell 2 rfl; have hc3 := HP.out.cell 3 rfl; have hc4 := HP.out.cell 4 rfl; have hc5 := HP.out.cell 5 rfl)
        | (go_at_call 118; refine (many_Known.calls k _ _ (km_many k)).mono ?_; rintro e w3 ⟨rfl, hD⟩; rw [HKm.out]; have hB := hD.below; clear hD; have HQ := Aside0.mk (HP.out.below hB); clear HP hB hc0 hc1 hc2 hc3 hc4 hc5; have HP := HQ; clear HQ; have hc0 := HP.out.cell 0 rfl; have hc1 := HP.out.cell 1 rfl; have hc2 := HP.out.cell 2 rfl; have hc3 := HP.out.cell 3 rfl; have hc4 := HP.out.cell 4 rfl; have hc5 := HP.out.cell 5 rfl)
        | (go_at_call 119; refine (many_Right.calls 5 k a b _ _ (nums_many k a b)).mono ?_; rintro e w3 ⟨rfl, hD⟩; rw [HNu.out]; have hB := hD.below; clear hD; have HQ := Aside0.mk (HP.out.below hB); clear HP hB hc0 hc1 hc2 hc3 hc4 hc5; have HP := HQ; clear HQ; have hc0 := HP.out.cell 0 rfl; have hc1 := HP.out.cell 1 rfl; have hc2 := HP.out.cell 2 rfl; have hc3 := HP.out.cell 3 rfl; have hc4 := HP.out.cell 4 rfl; have hc5 := HP.out.cell 5 rfl))
      go_ret
      rw [show ruleOk n k cs a b hard cost = false from by unfold ruleOk; simp [HM.out, HKp.out, HNu.out]]
      exact ⟨rfl, HP.out.bel⟩
    | true =>
      have HNu := Aside0.mk hnu
      clear hnu
      by_cases hl : m < 2
      · have hl1 : (m : Int) < 2 := by omega
        go_enter Tryz.func33, Tryz.ntmps33
        go_wp2_with (first
          | ((with_reducible refine gate_dst (N := 3) rfl ?_); refine box_event ?hg (N := 3) ?hd (cs := #[.int .i64 k, .slice A m c, .int .i64 a, .int .i64 b, .bool hard, .int .i64 cost]) (t := 69) ?hr ?_; (case hd => rfl); (case hg => rfl); (case hr => first | (go_simp; done) | (go_simp; rfl)); intro g hg w2 hbox hB; have HP := Aside0.mk (PBox.mk hbox hB (show w.heap.size ≤ g by rw [hg]; exact Nat.le_refl _)); clear hbox hB hg; have hc0 := HP.out.cell 0 rfl; have hc1 := HP.out.cell 1 rfl; have hc2 := HP.out.cell 2 rfl; have hc3 := HP.out.cell 3 rfl; have hc4 := HP.out.cell 4 rfl; have hc5 := HP.out.cell 5 rfl)
          | (go_at_call 117; refine (pair_Known.calls k _ _ (kp_pair k)).mono ?_; rintro e w3 ⟨rfl, hD⟩; rw [HKp.out]; have hB := hD.below; clear hD; have HQ := Aside0.mk (HP.out.below hB); clear HP hB hc0 hc1 hc2 hc3 hc4 hc5; have HP := HQ; clear HQ; have hc0 := HP.out.cell 0 rfl; have hc1 := HP.out.cell 1 rfl; have hc2 := HP.out.cell 2 rfl; have hc3 := HP.out.cell 3 rfl; have hc4 := HP.out.cell 4 rfl; have hc5 := HP.out.cell 5 rfl)
          | (go_at_call 118; refine (many_Known.calls k _ _ (km_many k)).mono ?_; rintro e w3 ⟨rfl, hD⟩; rw [HKm.out]; have hB := hD.below; clear hD; have HQ := Aside0.mk (HP.out.below hB); clear HP hB hc0 hc1 hc2 hc3 hc4 hc5; have HP := HQ; clear HQ; have hc0 := HP.out.cell 0 rfl; have hc1 := HP.out.cell 1 rfl; have hc2 := HP.out.cell 2 rfl; have hc3 := HP.out.cell 3 rfl; have hc4 := HP.out.cell 4 rfl; have hc5 := HP.out.cell 5 rfl)
          | (go_at_call 119; refine (many_Right.calls 5 k a b _ _ (nums_many k a b)).mono ?_; rintro e w3 ⟨rfl, hD⟩; rw [HNu.out]; have hB := hD.below; clear hD; have HQ := Aside0.mk (HP.out.below hB); clear HP hB hc0 hc1 hc2 hc3 hc4 hc5; have HP := HQ; clear HQ; have hc0 := HP.out.cell 0 rfl; have hc1 := HP.out.cell 1 rfl; have hc2 := HP.out.cell 2 rfl; have hc3 := HP.out.cell 3 rfl; have hc4 := HP.out.cell 4 rfl; have hc5 := HP.out.cell 5 rfl))
        go_ret
        rw [show ruleOk n k cs a b hard cost = false from by unfold ruleOk; simp [HM.out, HKp.out, HNu.out, show ¬ 2 ≤ m by omega]]
        exact ⟨rfl, HP.out.bel⟩
      · have hl1 : ¬ (m : Int) < 2 := by omega
        by_cases hg : 12 < m
        · have hg1 : (12 : Int) < (m : Int) := by omega
          go_enter Tryz.func33, Tryz.ntmps33
          go_wp2_with (first
            | ((with_reducible refine gate_dst (N := 3) rfl ?_); refine box_event ?hg (N := 3) ?hd (cs := #[.int .i64 k, .slice A m c, .int .i64 a, .int .i64 b, .bool hard, .int .i64 cost]) (t := 69) ?hr ?_; (case hd => rfl); (case hg => rfl); (case hr => first | (go_simp; done) | (go_simp; rfl)); intro g hg w2 hbox hB; have HP := Aside0.mk (PBox.mk hbox hB (show w.heap.size ≤ g by rw [hg]; exact Nat.le_refl _)); clear hbox hB hg; have hc0 := HP.out.cell 0 rfl; have hc1 := HP.out.cell 1 rfl; have hc2 := HP.out.cell 2 rfl; have hc3 := HP.out.cell 3 rfl; have hc4 := HP.out.cell 4 rfl; have hc5 := HP.out.cell 5 rfl)
            | (go_at_call 117; refine (pair_Known.calls k _ _ (kp_pair k)).mono ?_; rintro e w3 ⟨rfl, hD⟩; rw [HKp.out]; have hB := hD.below; clear hD; have HQ := Aside0.mk (HP.out.below hB); clear HP hB hc0 hc1 hc2 hc3 hc4 hc5; have HP := HQ; clear HQ; have hc0 := HP.out.cell 0 rfl; have hc1 := HP.out.cell 1 rfl; have hc2 := HP.out.cell 2 rfl; have hc3 := HP.out.cell 3 rfl; have hc4 := HP.out.cell 4 rfl; have hc5 := HP.out.cell 5 rfl)
            | (go_at_call 118; refine (many_Known.calls k _ _ (km_many k)).mono ?_; rintro e w3 ⟨rfl, hD⟩; rw [HKm.out]; have hB := hD.below; clear hD; have HQ := Aside0.mk (HP.out.below hB); clear HP hB hc0 hc1 hc2 hc3 hc4 hc5; have HP := HQ; clear HQ; have hc0 := HP.out.cell 0 rfl; have hc1 := HP.out.cell 1 rfl; have hc2 := HP.out.cell 2 rfl; have hc3 := HP.out.cell 3 rfl; have hc4 := HP.out.cell 4 rfl; have hc5 := HP.out.cell 5 rfl)
            | (go_at_call 119; refine (many_Right.calls 5 k a b _ _ (nums_many k a b)).mono ?_; rintro e w3 ⟨rfl, hD⟩; rw [HNu.out]; have hB := hD.below; clear hD; have HQ := Aside0.mk (HP.out.below hB); clear HP hB hc0 hc1 hc2 hc3 hc4 hc5; have HP := HQ; clear HQ; have hc0 := HP.out.cell 0 rfl; have hc1 := HP.out.cell 1 rfl; have hc2 := HP.out.cell 2 rfl; have hc3 := HP.out.cell 3 rfl; have hc4 := HP.out.cell 4 rfl; have hc5 := HP.out.cell 5 rfl))
          go_ret
          rw [show ruleOk n k cs a b hard cost = false from by unfold ruleOk; simp [HM.out, HKp.out, HNu.out, show ¬ m ≤ 12 by omega]]
          exact ⟨rfl, HP.out.bel⟩
        · have hg1 : ¬ (12 : Int) < (m : Int) := by omega
          cases hds : dstB n cs with
          | false =>
            have HDs := Aside0.mk hds
            clear hds
            go_enter Tryz.func33, Tryz.ntmps33
            go_wp2_with (first
              | ((with_reducible refine gate_dst (N := 3) rfl ?_); refine box_event ?hg (N := 3) ?hd (cs := #[.int .i64 k, .slice A m c, .int .i64 a, .int .i64 b, .bool hard, .int .i64 cost]) (t := 69) ?hr ?_; (case hd => rfl); (case hg => rfl); (case hr => first | (go_simp; done) | (go_simp; rfl)); intro g hg w2 hbox hB; have HP := Aside0.mk (PBox.mk hbox hB (show w.heap.size ≤ g by rw [hg]; exact Nat.le_refl _)); clear hbox hB hg; have hc0 := HP.out.cell 0 rfl; have hc1 := HP.out.cell 1 rfl; have hc2 := HP.out.cell 2 rfl; have hc3 := HP.out.cell 3 rfl; have hc4 := HP.out.cell 4 rfl; have hc5 := HP.out.cell 5 rfl)
              | (go_at_call 117; refine (pair_Known.calls k _ _ (kp_pair k)).mono ?_; rintro e w3 ⟨rfl, hD⟩; rw [HKp.out]; have hB := hD.below; clear hD; have HQ := Aside0.mk (HP.out.below hB); clear HP hB hc0 hc1 hc2 hc3 hc4 hc5; have HP := HQ; clear HQ; have hc0 := HP.out.cell 0 rfl; have hc1 := HP.out.cell 1 rfl; have hc2 := HP.out.cell 2 rfl; have hc3 := HP.out.cell 3 rfl; have hc4 := HP.out.cell 4 rfl; have hc5 := HP.out.cell 5 rfl)
              | (go_at_call 118; refine (many_Known.calls k _ _ (km_many k)).mono ?_; rintro e w3 ⟨rfl, hD⟩; rw [HKm.out]; have hB := hD.below; clear hD; have HQ := Aside0.mk (HP.out.below hB); clear HP hB hc0 hc1 hc2 hc3 hc4 hc5; have HP := HQ; clear HQ; have hc0 := HP.out.cell 0 rfl; have hc1 := HP.out.cell 1 rfl; have hc2 := HP.out.cell 2 rfl; have hc3 := HP.out.cell 3 rfl; have hc4 := HP.out.cell 4 rfl; have hc5 := HP.out.cell 5 rfl)
              | (go_at_call 119; refine (many_Right.calls 5 k a b _ _ (nums_many k a b)).mono ?_; rintro e w3 ⟨rfl, hD⟩; rw [HNu.out]; have hB := hD.below; clear hD; have HQ := Aside0.mk (HP.out.below hB); clear HP hB hc0 hc1 hc2 hc3 hc4 hc5; have HP := HQ; clear HQ; have hc0 := HP.out.cell 0 rfl; have hc1 := HP.out.cell 1 rfl; have hc2 := HP.out.cell 2 rfl; have hc3 := HP.out.cell 3 rfl; have hc4 := HP.out.cell 4 rfl; have hc5 := HP.out.cell 5 rfl)
              | (go_at_call 120; refine (distinct_is _ A m c cs n HM.out (Kd.C_below HC.out HP.out.bel) hc (by omega) hn).mono ?_; rintro e w3 ⟨rfl, hB⟩; rw [HDs.out]; have HQ := Aside0.mk (HP.out.below hB); clear HP hB hc0 hc1 hc2 hc3 hc4 hc5; have HP := HQ; clear HQ; have hc0 := HP.out.cell 0 rfl; have hc1 := HP.out.cell 1 rfl; have hc2 := HP.out.cell 2 rfl; have hc3 := HP.out.cell 3 rfl; have hc4 := HP.out.cell 4 rfl; have hc5 := HP.out.cell 5 rfl))
            go_ret
            rw [show ruleOk n k cs a b hard cost = false from by unfold ruleOk; simp [HM.out, HKp.out, HNu.out, HDs.out]]
            exact ⟨rfl, HP.out.bel⟩
          | true =>
            have HDs := Aside0.mk hds
            clear hds
            cases hard with
            | true =>
              by_cases hz : cost = 0
              · have hz1 : (cost == 0) = true := by simpa using hz
                have HZ := Aside0.mk hz
                clear hz
                go_enter Tryz.func33, Tryz.ntmps33
                go_wp2_with (first
                  | ((with_reducible refine gate_dst (N := 3) rfl ?_); refine box_event ?hg (N := 3) ?hd (cs := #[.int .i64 k, .slice A m c, .int .i64 a, .int .i64 b, .bool true, .int .i64 cost]) (t := 69) ?hr ?_; (case hd => rfl); (case hg => rfl); (case hr => first | (go_simp; done) | (go_simp; rfl)); intro g hg w2 hbox hB; have HP := Aside0.mk (PBox.mk hbox hB (show w.heap.size ≤ g by rw [hg]; exact Nat.le_refl _)); clear hbox hB hg; have hc0 := HP.out.cell 0 rfl; have hc1 := HP.out.cell 1 rfl; have hc2 := HP.out.cell 2 rfl; have hc3 := HP.out.cell 3 rfl; have hc4 := HP.out.cell 4 rfl; have hc5 := HP.out.cell 5 rfl)
                  | (go_at_call 117; refine (pair_Known.calls k _ _ (kp_pair k)).mono ?_; rintro e w3 ⟨rfl, hD⟩; rw [HKp.out]; have hB := hD.below; clear hD; have HQ := Aside0.mk (HP.out.below hB); clear HP hB hc0 hc1 hc2 hc3 hc4 hc5; have HP := HQ; clear HQ; have hc0 := HP.out.cell 0 rfl; have hc1 := HP.out.cell 1 rfl; have hc2 := HP.out.cell 2 rfl; have hc3 := HP.out.cell 3 rfl; have hc4 := HP.out.cell 4 rfl; have hc5 := HP.out.cell 5 rfl)
                  | (go_at_call 118; refine (many_Known.calls k _ _ (km_many k)).mono ?_; rintro e w3 ⟨rfl, hD⟩; rw [HKm.out]; have hB := hD.below; clear hD; have HQ := Aside0.mk (HP.out.below hB); clear HP hB hc0 hc1 hc2 hc3 hc4 hc5; have HP := HQ; clear HQ; have hc0 := HP.out.cell 0 rfl; have hc1 := HP.out.cell 1 rfl; have hc2 := HP.out.cell 2 rfl; have hc3 := HP.out.cell 3 rfl; have hc4 := HP.out.cell 4 rfl; have hc5 := HP.out.cell 5 rfl)
                  | (go_at_call 119; refine (many_Right.calls 5 k a b _ _ (nums_many k a b)).mono ?_; rintro e w3 ⟨rfl, hD⟩; rw [HNu.out]; have hB := hD.below; clear hD; have HQ := Aside0.mk (HP.out.below hB); clear HP hB hc0 hc1 hc2 hc3 hc4 hc5; have HP := HQ; clear HQ; have hc0 := HP.out.cell 0 rfl; have hc1 := HP.out.cell 1 rfl; have hc2 := HP.out.cell 2 rfl; have hc3 := HP.out.cell 3 rfl; have hc4 := HP.out.cell 4 rfl; have hc5 := HP.out.cell 5 rfl)
                  | (go_at_call 120; refine (distinct_is _ A m c cs n HM.out (Kd.C_below HC.out HP.out.bel) hc (by omega) hn).mono ?_; rintro e w3 ⟨rfl, hB⟩; rw [HDs.out]; have HQ := Aside0.mk (HP.out.below hB); clear HP hB hc0 hc1 hc2 hc3 hc4 hc5; have HP := HQ; clear HQ; have hc0 := HP.out.cell 0 rfl; have hc1 := HP.out.cell 1 rfl; have hc2 := HP.out.cell 2 rfl; have hc3 := HP.out.cell 3 rfl; have hc4 := HP.out.cell 4 rfl; have hc5 := HP.out.cell 5 rfl))
                go_ret
                rw [show ruleOk n k cs a b true cost = true from by unfold ruleOk; simp [HM.out, HKp.out, HNu.out, HDs.out, show 2 ≤ m by omega, show m ≤ 12 by omega, HZ.out]]
                exact ⟨rfl, HP.out.bel⟩
              · have hz1 : (cost == 0) = false := by simpa using hz
                have hz2 : decide (cost = 0) = false := decide_eq_false hz
                have HZ := Aside0.mk hz
                clear hz
                go_enter Tryz.func33, Tryz.ntmps33
                go_wp2_with (first
                  | ((with_reducible refine gate_dst (N := 3) rfl ?_); refine box_event ?hg (N := 3) ?hd (cs := #[.int .i64 k, .slice A m c, .int .i64 a, .int .i64 b, .bool true, .int .i64 cost]) (t := 69) ?hr ?_; (case hd => rfl); (case hg => rfl); (case hr => first | (go_simp; done) | (go_simp; rfl)); intro g hg w2 hbox hB; have HP := Aside0.mk (PBox.mk hbox hB (show w.heap.size ≤ g by rw [hg]; exact Nat.le_refl _)); clear hbox hB hg; have hc0 := HP.out.cell 0 rfl; have hc1 := HP.out.cell 1 rfl; have hc2 := HP.out.cell 2 rfl; have hc3 := HP.out.cell 3 rfl; have hc4 := HP.out.cell 4 rfl; have hc5 := HP.out.cell 5 rfl)
                  | (go_at_call 117; refine (pair_Known.calls k _ _ (kp_pair k)).mono ?_; rintro e w3 ⟨rfl, hD⟩; rw [HKp.out]; have hB := hD.below; clear hD; have HQ := Aside0.mk (HP.out.below hB); clear HP hB hc0 hc1 hc2 hc3 hc4 hc5; have HP := HQ; clear HQ; have hc0 := HP.out.cell 0 rfl; have hc1 := HP.out.cell 1 rfl; have hc2 := HP.out.cell 2 rfl; have hc3 := HP.out.cell 3 rfl; have hc4 := HP.out.cell 4 rfl; have hc5 := HP.out.cell 5 rfl)
                  | (go_at_call 118; refine (many_Known.calls k _ _ (km_many k)).mono ?_; rintro e w3 ⟨rfl, hD⟩; rw [HKm.out]; have hB := hD.below; clear hD; have HQ := Aside0.mk (HP.out.below hB); clear HP hB hc0 hc1 hc2 hc3 hc4 hc5; have HP := HQ; clear HQ; have hc0 := HP.out.cell 0 rfl; have hc1 := HP.out.cell 1 rfl; have hc2 := HP.out.cell 2 rfl; have hc3 := HP.out.cell 3 rfl; have hc4 := HP.out.cell 4 rfl; have hc5 := HP.out.cell 5 rfl)
                  | (go_at_call 119; refine (many_Right.calls 5 k a b _ _ (nums_many k a b)).mono ?_; rintro e w3 ⟨rfl, hD⟩; rw [HNu.out]; have hB := hD.below; clear hD; have HQ := Aside0.mk (HP.out.below hB); clear HP hB hc0 hc1 hc2 hc3 hc4 hc5; have HP := HQ; clear HQ; have hc0 := HP.out.cell 0 rfl; have hc1 := HP.out.cell 1 rfl; have hc2 := HP.out.cell 2 rfl; have hc3 := HP.out.cell 3 rfl; have hc4 := HP.out.cell 4 rfl; have hc5 := HP.out.cell 5 rfl)
                  | (go_at_call 120; refine (distinct_is _ A m c cs n HM.out (Kd.C_below HC.out HP.out.bel) hc (by omega) hn).mono ?_; rintro e w3 ⟨rfl, hB⟩; rw [HDs.out]; have HQ := Aside0.mk (HP.out.below hB); clear HP hB hc0 hc1 hc2 hc3 hc4 hc5; have HP := HQ; clear HQ; have hc0 := HP.out.cell 0 rfl; have hc1 := HP.out.cell 1 rfl; have hc2 := HP.out.cell 2 rfl; have hc3 := HP.out.cell 3 rfl; have hc4 := HP.out.cell 4 rfl; have hc5 := HP.out.cell 5 rfl))
                go_ret
                rw [show ruleOk n k cs a b true cost = false from by unfold ruleOk; simp [HM.out, HKp.out, HNu.out, HDs.out, show 2 ≤ m by omega, show m ≤ 12 by omega, HZ.out]]
                exact ⟨rfl, HP.out.bel⟩
            | false =>
              by_cases h1 : 1 ≤ cost
              · by_cases h2 : cost ≤ 1000
                · have HCo := Aside0.mk (show (decide (0 ≤ cost) && decide (cost ≤ 1000)) = true by rw [Bool.and_eq_true]; exact ⟨decide_eq_true (by omega), decide_eq_true h2⟩)
                  have H1 := Aside0.mk h1
                  have H2 := Aside0.mk h2
                  go_enter Tryz.func33, Tryz.ntmps33
                  go_wp2_with (first
                    | ((with_reducible refine gate_dst (N := 3) rfl ?_); refine box_event ?hg (N := 3) ?hd (cs := #[.int .i64 k, .slice A m c, .int .i64 a, .int .i64 b, .bool false, .int .i64 cost]) (t := 69) ?hr ?_; (case hd => rfl); (case hg => rfl); (case hr => first | (go_simp; done) | (go_simp; rfl)); intro g hg w2 hbox hB; have HP := Aside0.mk (PBox.mk hbox hB (show w.heap.size ≤ g by rw [hg]; exact Nat.le_refl _)); clear hbox hB hg; have hc0 := HP.out.cell 0 rfl; have hc1 := HP.out.cell 1 rfl; have hc2 := HP.out.cell 2 rfl; have hc3 := HP.out.cell 3 rfl; have hc4 := HP.out.cell 4 rfl; have hc5 := HP.out.cell 5 rfl)
                    | (go_at_call 117; refine (pair_Known.calls k _ _ (kp_pair k)).mono ?_; rintro e w3 ⟨rfl, hD⟩; rw [HKp.out]; have hB := hD.below; clear hD; have HQ := Aside0.mk (HP.out.below hB); clear HP hB hc0 hc1 hc2 hc3 hc4 hc5; have HP := HQ; clear HQ; have hc0 := HP.out.cell 0 rfl; have hc1 := HP.out.cell 1 rfl; have hc2 := HP.out.cell 2 rfl; have hc3 := HP.out.cell 3 rfl; have hc4 := HP.out.cell 4 rfl; have hc5 := HP.out.cell 5 rfl)
                    | (go_at_call 118; refine (many_Known.calls k _ _ (km_many k)).mono ?_; rintro e w3 ⟨rfl, hD⟩; rw [HKm.out]; have hB := hD.below; clear hD; have HQ := Aside0.mk (HP.out.below hB); clear HP hB hc0 hc1 hc2 hc3 hc4 hc5; have HP := HQ; clear HQ; have hc0 := HP.out.cell 0 rfl; have hc1 := HP.out.cell 1 rfl; have hc2 := HP.out.cell 2 rfl; have hc3 := HP.out.cell 3 rfl; have hc4 := HP.out.cell 4 rfl; have hc5 := HP.out.cell 5 rfl)
                    | (go_at_call 119; refine (many_Right.calls 5 k a b _ _ (nums_many k a b)).mono ?_; rintro e w3 ⟨rfl, hD⟩; rw [HNu.out]; have hB := hD.below; clear hD; have HQ := Aside0.mk (HP.out.below hB); clear HP hB hc0 hc1 hc2 hc3 hc4 hc5; have HP := HQ; clear HQ; have hc0 := HP.out.cell 0 rfl; have hc1 := HP.out.cell 1 rfl; have hc2 := HP.out.cell 2 rfl; have hc3 := HP.out.cell 3 rfl; have hc4 := HP.out.cell 4 rfl; have hc5 := HP.out.cell 5 rfl)
                    | (go_at_call 120; refine (distinct_is _ A m c cs n HM.out (Kd.C_below HC.out HP.out.bel) hc (by omega) hn).mono ?_; rintro e w3 ⟨rfl, hB⟩; rw [HDs.out]; have HQ := Aside0.mk (HP.out.below hB); clear HP hB hc0 hc1 hc2 hc3 hc4 hc5; have HP := HQ; clear HQ; have hc0 := HP.out.cell 0 rfl; have hc1 := HP.out.cell 1 rfl; have hc2 := HP.out.cell 2 rfl; have hc3 := HP.out.cell 3 rfl; have hc4 := HP.out.cell 4 rfl; have hc5 := HP.out.cell 5 rfl)
                    | (go_at_call 59; refine (problem_cost.calls cost _ _ (cost_eq cost)).mono ?_; rintro e w3 ⟨rfl, hD⟩; rw [HCo.out]; have hB := hD.below; clear hD; have HQ := Aside0.mk (HP.out.below hB); clear HP hB hc0 hc1 hc2 hc3 hc4 hc5; have HP := HQ; clear HQ; have hc0 := HP.out.cell 0 rfl; have hc1 := HP.out.cell 1 rfl; have hc2 := HP.out.cell 2 rfl; have hc3 := HP.out.cell 3 rfl; have hc4 := HP.out.cell 4 rfl; have hc5 := HP.out.cell 5 rfl))
                  go_ret
                  rw [show ruleOk n k cs a b false cost = true from by unfold ruleOk; simp [HM.out, HKp.out, HNu.out, HDs.out, show 2 ≤ m by omega, show m ≤ 12 by omega, H1.out, H2.out]]
                  exact ⟨rfl, HP.out.bel⟩
                · have HCo := Aside0.mk (show (decide (0 ≤ cost) && decide (cost ≤ 1000)) = false by rw [decide_eq_false h2, Bool.and_false])
                  have h2' : decide (cost ≤ 1000) = false := decide_eq_false h2
                  have H2 := Aside0.mk h2
                  go_enter Tryz.func33, Tryz.ntmps33
                  go_wp2_with (first
                    | ((with_reducible refine gate_dst (N := 3) rfl ?_); refine box_event ?hg (N := 3) ?hd (cs := #[.int .i64 k, .slice A m c, .int .i64 a, .int .i64 b, .bool false, .int .i64 cost]) (t := 69) ?hr ?_; (case hd => rfl); (case hg => rfl); (case hr => first | (go_simp; done) | (go_simp; rfl)); intro g hg w2 hbox hB; have HP := Aside0.mk (PBox.mk hbox hB (show w.heap.size ≤ g by rw [hg]; exact Nat.le_refl _)); clear hbox hB hg; have hc0 := HP.out.cell 0 rfl; have hc1 := HP.out.cell 1 rfl; have hc2 := HP.out.cell 2 rfl; have hc3 := HP.out.cell 3 rfl; have hc4 := HP.out.cell 4 rfl; have hc5 := HP.out.cell 5 rfl)
                    | (go_at_call 117; refine (pair_Known.calls k _ _ (kp_pair k)).mono ?_; rintro e w3 ⟨rfl, hD⟩; rw [HKp.out]; have hB := hD.below; clear hD; have HQ := Aside0.mk (HP.out.below hB); clear HP hB hc0 hc1 hc2 hc3 hc4 hc5; have HP := HQ; clear HQ; have hc0 := HP.out.cell 0 rfl; have hc1 := HP.out.cell 1 rfl; have hc2 := HP.out.cell 2 rfl; have hc3 := HP.out.cell 3 rfl; have hc4 := HP.out.cell 4 rfl; have hc5 := HP.out.cell 5 rfl)
                    | (go_at_call 118; refine (many_Known.calls k _ _ (km_many k)).mono ?_; rintro e w3 ⟨rfl, hD⟩; rw [HKm.out]; have hB := hD.below; clear hD; have HQ := Aside0.mk (HP.out.below hB); clear HP hB hc0 hc1 hc2 hc3 hc4 hc5; have HP := HQ; clear HQ; have hc0 := HP.out.cell 0 rfl; have hc1 := HP.out.cell 1 rfl; have hc2 := HP.out.cell 2 rfl; have hc3 := HP.out.cell 3 rfl; have hc4 := HP.out.cell 4 rfl; have hc5 := HP.out.cell 5 rfl)
                    | (go_at_call 119; refine (many_Right.calls 5 k a b _ _ (nums_many k a b)).mono ?_; rintro e w3 ⟨rfl, hD⟩; rw [HNu.out]; have hB := hD.below; clear hD; have HQ := Aside0.mk (HP.out.below hB); clear HP hB hc0 hc1 hc2 hc3 hc4 hc5; have HP := HQ; clear HQ; have hc0 := HP.out.cell 0 rfl; have hc1 := HP.out.cell 1 rfl; have hc2 := HP.out.cell 2 rfl; have hc3 := HP.out.cell 3 rfl; have hc4 := HP.out.cell 4 rfl; have hc5 := HP.out.cell 5 rfl)
                    | (go_at_call 120; refine (distinct_is _ A m c cs n HM.out (Kd.C_below HC.out HP.out.bel) hc (by omega) hn).mono ?_; rintro e w3 ⟨rfl, hB⟩; rw [HDs.out]; have HQ := Aside0.mk (HP.out.below hB); clear HP hB hc0 hc1 hc2 hc3 hc4 hc5; have HP := HQ; clear HQ; have hc0 := HP.out.cell 0 rfl; have hc1 := HP.out.cell 1 rfl; have hc2 := HP.out.cell 2 rfl; have hc3 := HP.out.cell 3 rfl; have hc4 := HP.out.cell 4 rfl; have hc5 := HP.out.cell 5 rfl)
                    | (go_at_call 59; refine (problem_cost.calls cost _ _ (cost_eq cost)).mono ?_; rintro e w3 ⟨rfl, hD⟩; rw [HCo.out]; have hB := hD.below; clear hD; have HQ := Aside0.mk (HP.out.below hB); clear HP hB hc0 hc1 hc2 hc3 hc4 hc5; have HP := HQ; clear HQ; have hc0 := HP.out.cell 0 rfl; have hc1 := HP.out.cell 1 rfl; have hc2 := HP.out.cell 2 rfl; have hc3 := HP.out.cell 3 rfl; have hc4 := HP.out.cell 4 rfl; have hc5 := HP.out.cell 5 rfl))
                  go_ret
                  rw [show ruleOk n k cs a b false cost = false from by unfold ruleOk; simp [HM.out, HKp.out, HNu.out, HDs.out, show 2 ≤ m by omega, show m ≤ 12 by omega, H2.out]]
                  exact ⟨rfl, HP.out.bel⟩
              · have h1' : decide (1 ≤ cost) = false := decide_eq_false h1
                have H1 := Aside0.mk h1
                go_enter Tryz.func33, Tryz.ntmps33
                go_wp2_with (first
                  | ((with_reducible refine gate_dst (N := 3) rfl ?_); refine box_event ?hg (N := 3) ?hd (cs := #[.int .i64 k, .slice A m c, .int .i64 a, .int .i64 b, .bool false, .int .i64 cost]) (t := 69) ?hr ?_; (case hd => rfl); (case hg => rfl); (case hr => first | (go_simp; done) | (go_simp; rfl)); intro g hg w2 hbox hB; have HP := Aside0.mk (PBox.mk hbox hB (show w.heap.size ≤ g by rw [hg]; exact Nat.le_refl _)); clear hbox hB hg; have hc0 := HP.out.cell 0 rfl; have hc1 := HP.out.cell 1 rfl; have hc2 := HP.out.cell 2 rfl; have hc3 := HP.out.cell 3 rfl; have hc4 := HP.out.cell 4 rfl; have hc5 := HP.out.cell 5 rfl)
                  | (go_at_call 117; refine (pair_Known.calls k _ _ (kp_pair k)).mono ?_; rintro e w3 ⟨rfl, hD⟩; rw [HKp.out]; have hB := hD.below; clear hD; have HQ := Aside0.mk (HP.out.below hB); clear HP hB hc0 hc1 hc2 hc3 hc4 hc5; have HP := HQ; clear HQ; have hc0 := HP.out.cell 0 rfl; have hc1 := HP.out.cell 1 rfl; have hc2 := HP.out.cell 2 rfl; have hc3 := HP.out.cell 3 rfl; have hc4 := HP.out.cell 4 rfl; have hc5 := HP.out.cell 5 rfl)
                  | (go_at_call 118; refine (many_Known.calls k _ _ (km_many k)).mono ?_; rintro e w3 ⟨rfl, hD⟩; rw [HKm.out]; have hB := hD.below; clear hD; have HQ := Aside0.mk (HP.out.below hB); clear HP hB hc0 hc1 hc2 hc3 hc4 hc5; have HP := HQ; clear HQ; have hc0 := HP.out.cell 0 rfl; have hc1 := HP.out.cell 1 rfl; have hc2 := HP.out.cell 2 rfl; have hc3 := HP.out.cell 3 rfl; have hc4 := HP.out.cell 4 rfl; have hc5 := HP.out.cell 5 rfl)
                  | (go_at_call 119; refine (many_Right.calls 5 k a b _ _ (nums_many k a b)).mono ?_; rintro e w3 ⟨rfl, hD⟩; rw [HNu.out]; have hB := hD.below; clear hD; have HQ := Aside0.mk (HP.out.below hB); clear HP hB hc0 hc1 hc2 hc3 hc4 hc5; have HP := HQ; clear HQ; have hc0 := HP.out.cell 0 rfl; have hc1 := HP.out.cell 1 rfl; have hc2 := HP.out.cell 2 rfl; have hc3 := HP.out.cell 3 rfl; have hc4 := HP.out.cell 4 rfl; have hc5 := HP.out.cell 5 rfl)
                  | (go_at_call 120; refine (distinct_is _ A m c cs n HM.out (Kd.C_below HC.out HP.out.bel) hc (by omega) hn).mono ?_; rintro e w3 ⟨rfl, hB⟩; rw [HDs.out]; have HQ := Aside0.mk (HP.out.below hB); clear HP hB hc0 hc1 hc2 hc3 hc4 hc5; have HP := HQ; clear HQ; have hc0 := HP.out.cell 0 rfl; have hc1 := HP.out.cell 1 rfl; have hc2 := HP.out.cell 2 rfl; have hc3 := HP.out.cell 3 rfl; have hc4 := HP.out.cell 4 rfl; have hc5 := HP.out.cell 5 rfl)
                  | (go_at_call 59; refine (problem_cost.calls cost _ _ (cost_eq cost)).mono ?_; rintro e w3 ⟨rfl, hD⟩; rw [HCo.out]; have hB := hD.below; clear hD; have HQ := Aside0.mk (HP.out.below hB); clear HP hB hc0 hc1 hc2 hc3 hc4 hc5; have HP := HQ; clear HQ; have hc0 := HP.out.cell 0 rfl; have hc1 := HP.out.cell 1 rfl; have hc2 := HP.out.cell 2 rfl; have hc3 := HP.out.cell 3 rfl; have hc4 := HP.out.cell 4 rfl; have hc5 := HP.out.cell 5 rfl))
                go_ret
                rw [show ruleOk n k cs a b false cost = false from by unfold ruleOk; simp [HM.out, HKp.out, HNu.out, HDs.out, show 2 ≤ m by omega, show m ≤ 12 by omega, show ¬ 1 ≤ cost by have := H1.out; omega]]
                exact ⟨rfl, HP.out.bel⟩
  | false =>
    have HKp := Aside0.mk hkp
    clear hkp
    cases hkm : km k with
    | true =>
      have HKm := Aside0.mk hkm
      clear hkm
      cases hnu : numsOk k a b with
      | false =>
        have HNu := Aside0.mk hnu
        clear hnu
        go_enter Tryz.func33, Tryz.ntmps33
        go_wp2_with (first
          | ((with_reducible refine gate_dst (N := 3) rfl ?_); refine box_event ?hg (N := 3) ?hd (cs := #[.int .i64 k, .slice A m c, .int .i64 a, .int .i64 b, .bool hard, .int .i64 cost]) (t := 69) ?hr ?_; (case hd => rfl); (case hg => rfl); (case hr => first | (go_simp; done) | (go_simp; rfl)); intro g hg w2 hbox hB; have HP := Aside0.mk (PBox.mk hbox hB (show w.heap.size ≤ g by rw [hg]; exact Nat.le_refl _)); clear hbox hB hg; have hc0 := HP.out.cell 0 rfl; have hc1 := HP.out.cell 1 rfl; have hc2 := HP.out.cell 2 rfl; have hc3 := HP.out.cell 3 rfl; have hc4 := HP.out.cell 4 rfl; have hc5 := HP.out.cell 5 rfl)
          | (go_at_call 117; refine (pair_Known.calls k _ _ (kp_pair k)).mono ?_; rintro e w3 ⟨rfl, hD⟩; rw [HKp.out]; have hB := hD.below; clear hD; have HQ := Aside0.mk (HP.out.below hB); clear HP hB hc0 hc1 hc2 hc3 hc4 hc5; have HP := HQ; clear HQ; have hc0 := HP.out.cell 0 rfl; have hc1 := HP.out.cell 1 rfl; have hc2 := HP.out.cell 2 rfl; have hc3 := HP.out.cell 3 rfl; have hc4 := HP.out.cell 4 rfl; have hc5 := HP.out.cell 5 rfl)
          | (go_at_call 118; refine (many_Known.calls k _ _ (km_many k)).mono ?_; rintro e w3 ⟨rfl, hD⟩; rw [HKm.out]; have hB := hD.below; clear hD; have HQ := Aside0.mk (HP.out.below hB); clear HP hB hc0 hc1 hc2 hc3 hc4 hc5; have HP := HQ; clear HQ; have hc0 := HP.out.cell 0 rfl; have hc1 := HP.out.cell 1 rfl; have hc2 := HP.out.cell 2 rfl; have hc3 := HP.out.cell 3 rfl; have hc4 := HP.out.cell 4 rfl; have hc5 := HP.out.cell 5 rfl)
          | (go_at_call 119; refine (many_Right.calls 5 k a b _ _ (nums_many k a b)).mono ?_; rintro e w3 ⟨rfl, hD⟩; rw [HNu.out]; have hB := hD.below; clear hD; have HQ := Aside0.mk (HP.out.below hB); clear HP hB hc0 hc1 hc2 hc3 hc4 hc5; have HP := HQ; clear HQ; have hc0 := HP.out.cell 0 rfl; have hc1 := HP.out.cell 1 rfl; have hc2 := HP.out.cell 2 rfl; have hc3 := HP.out.cell 3 rfl; have hc4 := HP.out.cell 4 rfl; have hc5 := HP.out.cell 5 rfl))
        go_ret
        rw [show ruleOk n k cs a b hard cost = false from by unfold ruleOk; simp [HM.out, HKp.out, HKm.out, HNu.out]]
        exact ⟨rfl, HP.out.bel⟩
      | true =>
        have HNu := Aside0.mk hnu
        clear hnu
        by_cases hl : m < 2
        · have hl1 : (m : Int) < 2 := by omega
          go_enter Tryz.func33, Tryz.ntmps33
          go_wp2_with (first
            | ((with_reducible refine gate_dst (N := 3) rfl ?_); refine box_event ?hg (N := 3) ?hd (cs := #[.int .i64 k, .slice A m c, .int .i64 a, .int .i64 b, .bool hard, .int .i64 cost]) (t := 69) ?hr ?_; (case hd => rfl); (case hg => rfl); (case hr => first | (go_simp; done) | (go_simp; rfl)); intro g hg w2 hbox hB; have HP := Aside0.mk (PBox.mk hbox hB (show w.heap.size ≤ g by rw [hg]; exact Nat.le_refl _)); clear hbox hB hg; have hc0 := HP.out.cell 0 rfl; have hc1 := HP.out.cell 1 rfl; have hc2 := HP.out.cell 2 rfl; have hc3 := HP.out.cell 3 rfl; have hc4 := HP.out.cell 4 rfl; have hc5 := HP.out.cell 5 rfl)
            | (go_at_call 117; refine (pair_Known.calls k _ _ (kp_pair k)).mono ?_; rintro e w3 ⟨rfl, hD⟩; rw [HKp.out]; have hB := hD.below; clear hD; have HQ := Aside0.mk (HP.out.below hB); clear HP hB hc0 hc1 hc2 hc3 hc4 hc5; have HP := HQ; clear HQ; have hc0 := HP.out.cell 0 rfl; have hc1 := HP.out.cell 1 rfl; have hc2 := HP.out.cell 2 rfl; have hc3 := HP.out.cell 3 rfl; have hc4 := HP.out.cell 4 rfl; have hc5 := HP.out.cell 5 rfl)
            | (go_at_call 118; refine (many_Known.calls k _ _ (km_many k)).mono ?_; rintro e w3 ⟨rfl, hD⟩; rw [HKm.out]; have hB := hD.below; clear hD; have HQ := Aside0.mk (HP.out.below hB); clear HP hB hc0 hc1 hc2 hc3 hc4 hc5; have HP := HQ; clear HQ; have hc0 := HP.out.cell 0 rfl; have hc1 := HP.out.cell 1 rfl; have hc2 := HP.out.cell 2 rfl; have hc3 := HP.out.cell 3 rfl; have hc4 := HP.out.cell 4 rfl; have hc5 := HP.out.cell 5 rfl)
            | (go_at_call 119; refine (many_Right.calls 5 k a b _ _ (nums_many k a b)).mono ?_; rintro e w3 ⟨rfl, hD⟩; rw [HNu.out]; have hB := hD.below; clear hD; have HQ := Aside0.mk (HP.out.below hB); clear HP hB hc0 hc1 hc2 hc3 hc4 hc5; have HP := HQ; clear HQ; have hc0 := HP.out.cell 0 rfl; have hc1 := HP.out.cell 1 rfl; have hc2 := HP.out.cell 2 rfl; have hc3 := HP.out.cell 3 rfl; have hc4 := HP.out.cell 4 rfl; have hc5 := HP.out.cell 5 rfl))
          go_ret
          rw [show ruleOk n k cs a b hard cost = false from by unfold ruleOk; simp [HM.out, HKp.out, HKm.out, HNu.out, show ¬ 2 ≤ m by omega]]
          exact ⟨rfl, HP.out.bel⟩
        · have hl1 : ¬ (m : Int) < 2 := by omega
          by_cases hg : 12 < m
          · have hg1 : (12 : Int) < (m : Int) := by omega
            go_enter Tryz.func33, Tryz.ntmps33
            go_wp2_with (first
              | ((with_reducible refine gate_dst (N := 3) rfl ?_); refine box_event ?hg (N := 3) ?hd (cs := #[.int .i64 k, .slice A m c, .int .i64 a, .int .i64 b, .bool hard, .int .i64 cost]) (t := 69) ?hr ?_; (case hd => rfl); (case hg => rfl); (case hr => first | (go_simp; done) | (go_simp; rfl)); intro g hg w2 hbox hB; have HP := Aside0.mk (PBox.mk hbox hB (show w.heap.size ≤ g by rw [hg]; exact Nat.le_refl _)); clear hbox hB hg; have hc0 := HP.out.cell 0 rfl; have hc1 := HP.out.cell 1 rfl; have hc2 := HP.out.cell 2 rfl; have hc3 := HP.out.cell 3 rfl; have hc4 := HP.out.cell 4 rfl; have hc5 := HP.out.cell 5 rfl)
              | (go_at_call 117; refine (pair_Known.calls k _ _ (kp_pair k)).mono ?_; rintro e w3 ⟨rfl, hD⟩; rw [HKp.out]; have hB := hD.below; clear hD; have HQ := Aside0.mk (HP.out.below hB); clear HP hB hc0 hc1 hc2 hc3 hc4 hc5; have HP := HQ; clear HQ; have hc0 := HP.out.cell 0 rfl; have hc1 := HP.out.cell 1 rfl; have hc2 := HP.out.cell 2 rfl; have hc3 := HP.out.cell 3 rfl; have hc4 := HP.out.cell 4 rfl; have hc5 := HP.out.cell 5 rfl)
              | (go_at_call 118; refine (many_Known.calls k _ _ (km_many k)).mono ?_; rintro e w3 ⟨rfl, hD⟩; rw [HKm.out]; have hB := hD.below; clear hD; have HQ := Aside0.mk (HP.out.below hB); clear HP hB hc0 hc1 hc2 hc3 hc4 hc5; have HP := HQ; clear HQ; have hc0 := HP.out.cell 0 rfl; have hc1 := HP.out.cell 1 rfl; have hc2 := HP.out.cell 2 rfl; have hc3 := HP.out.cell 3 rfl; have hc4 := HP.out.cell 4 rfl; have hc5 := HP.out.cell 5 rfl)
              | (go_at_call 119; refine (many_Right.calls 5 k a b _ _ (nums_many k a b)).mono ?_; rintro e w3 ⟨rfl, hD⟩; rw [HNu.out]; have hB := hD.below; clear hD; have HQ := Aside0.mk (HP.out.below hB); clear HP hB hc0 hc1 hc2 hc3 hc4 hc5; have HP := HQ; clear HQ; have hc0 := HP.out.cell 0 rfl; have hc1 := HP.out.cell 1 rfl; have hc2 := HP.out.cell 2 rfl; have hc3 := HP.out.cell 3 rfl; have hc4 := HP.out.cell 4 rfl; have hc5 := HP.out.cell 5 rfl))
            go_ret
            rw [show ruleOk n k cs a b hard cost = false from by unfold ruleOk; simp [HM.out, HKp.out, HKm.out, HNu.out, show ¬ m ≤ 12 by omega]]
            exact ⟨rfl, HP.out.bel⟩
          · have hg1 : ¬ (12 : Int) < (m : Int) := by omega
            cases hds : dstB n cs with
            | false =>
              have HDs := Aside0.mk hds
              clear hds
              go_enter Tryz.func33, Tryz.ntmps33
              go_wp2_with (first
                | ((with_reducible refine gate_dst (N := 3) rfl ?_); refine box_event ?hg (N := 3) ?hd (cs := #[.int .i64 k, .slice A m c, .int .i64 a, .int .i64 b, .bool hard, .int .i64 cost]) (t := 69) ?hr ?_; (case hd => rfl); (case hg => rfl); (case hr => first | (go_simp; done) | (go_simp; rfl)); intro g hg w2 hbox hB; have HP := Aside0.mk (PBox.mk hbox hB (show w.heap.size ≤ g by rw [hg]; exact Nat.le_refl _)); clear hbox hB hg; have hc0 := HP.out.cell 0 rfl; have hc1 := HP.out.cell 1 rfl; have hc2 := HP.out.cell 2 rfl; have hc3 := HP.out.cell 3 rfl; have hc4 := HP.out.cell 4 rfl; have hc5 := HP.out.cell 5 rfl)
                | (go_at_call 117; refine (pair_Known.calls k _ _ (kp_pair k)).mono ?_; rintro e w3 ⟨rfl, hD⟩; rw [HKp.out]; have hB := hD.below; clear hD; have HQ := Aside0.mk (HP.out.below hB); clear HP hB hc0 hc1 hc2 hc3 hc4 hc5; have HP := HQ; clear HQ; have hc0 := HP.out.cell 0 rfl; have hc1 := HP.out.cell 1 rfl; have hc2 := HP.out.cell 2 rfl; have hc3 := HP.out.cell 3 rfl; have hc4 := HP.out.cell 4 rfl; have hc5 := HP.out.cell 5 rfl)
                | (go_at_call 118; refine (many_Known.calls k _ _ (km_many k)).mono ?_; rintro e w3 ⟨rfl, hD⟩; rw [HKm.out]; have hB := hD.below; clear hD; have HQ := Aside0.mk (HP.out.below hB); clear HP hB hc0 hc1 hc2 hc3 hc4 hc5; have HP := HQ; clear HQ; have hc0 := HP.out.cell 0 rfl; have hc1 := HP.out.cell 1 rfl; have hc2 := HP.out.cell 2 rfl; have hc3 := HP.out.cell 3 rfl; have hc4 := HP.out.cell 4 rfl; have hc5 := HP.out.cell 5 rfl)
                | (go_at_call 119; refine (many_Right.calls 5 k a b _ _ (nums_many k a b)).mono ?_; rintro e w3 ⟨rfl, hD⟩; rw [HNu.out]; have hB := hD.below; clear hD; have HQ := Aside0.mk (HP.out.below hB); clear HP hB hc0 hc1 hc2 hc3 hc4 hc5; have HP := HQ; clear HQ; have hc0 := HP.out.cell 0 rfl; have hc1 := HP.out.cell 1 rfl; have hc2 := HP.out.cell 2 rfl; have hc3 := HP.out.cell 3 rfl; have hc4 := HP.out.cell 4 rfl; have hc5 := HP.out.cell 5 rfl)
                | (go_at_call 120; refine (distinct_is _ A m c cs n HM.out (Kd.C_below HC.out HP.out.bel) hc (by omega) hn).mono ?_; rintro e w3 ⟨rfl, hB⟩; rw [HDs.out]; have HQ := Aside0.mk (HP.out.below hB); clear HP hB hc0 hc1 hc2 hc3 hc4 hc5; have HP := HQ; clear HQ; have hc0 := HP.out.cell 0 rfl; have hc1 := HP.out.cell 1 rfl; have hc2 := HP.out.cell 2 rfl; have hc3 := HP.out.cell 3 rfl; have hc4 := HP.out.cell 4 rfl; have hc5 := HP.out.cell 5 rfl))
              go_ret
              rw [show ruleOk n k cs a b hard cost = false from by unfold ruleOk; simp [HM.out, HKp.out, HKm.out, HNu.out, HDs.out]]
              exact ⟨rfl, HP.out.bel⟩
            | true =>
              have HDs := Aside0.mk hds
              clear hds
              cases hard with
              | true =>
                by_cases hz : cost = 0
                · have hz1 : (cost == 0) = true := by simpa using hz
                  have HZ := Aside0.mk hz
                  clear hz
                  go_enter Tryz.func33, Tryz.ntmps33
                  go_wp2_with (first
                    | ((with_reducible refine gate_dst (N := 3) rfl ?_); refine box_event ?hg (N := 3) ?hd (cs := #[.int .i64 k, .slice A m c, .int .i64 a, .int .i64 b, .bool true, .int .i64 cost]) (t := 69) ?hr ?_; (case hd => rfl); (case hg => rfl); (case hr => first | (go_simp; done) | (go_simp; rfl)); intro g hg w2 hbox hB; have HP := Aside0.mk (PBox.mk hbox hB (show w.heap.size ≤ g by rw [hg]; exact Nat.le_refl _)); clear hbox hB hg; have hc0 := HP.out.cell 0 rfl; have hc1 := HP.out.cell 1 rfl; have hc2 := HP.out.cell 2 rfl; have hc3 := HP.out.cell 3 rfl; have hc4 := HP.out.cell 4 rfl; have hc5 := HP.out.cell 5 rfl)
                    | (go_at_call 117; refine (pair_Known.calls k _ _ (kp_pair k)).mono ?_; rintro e w3 ⟨rfl, hD⟩; rw [HKp.out]; have hB := hD.below; clear hD; have HQ := Aside0.mk (HP.out.below hB); clear HP hB hc0 hc1 hc2 hc3 hc4 hc5; have HP := HQ; clear HQ; have hc0 := HP.out.cell 0 rfl; have hc1 := HP.out.cell 1 rfl; have hc2 := HP.out.cell 2 rfl; have hc3 := HP.out.cell 3 rfl; have hc4 := HP.out.cell 4 rfl; have hc5 := HP.out.cell 5 rfl)
                    | (go_at_call 118; refine (many_Known.calls k _ _ (km_many k)).mono ?_; rintro e w3 ⟨rfl, hD⟩; rw [HKm.out]; have hB := hD.below; clear hD; have HQ := Aside0.mk (HP.out.below hB); clear HP hB hc0 hc1 hc2 hc3 hc4 hc5; have HP := HQ; clear HQ; have hc0 := HP.out.cell 0 rfl; have hc1 := HP.out.cell 1 rfl; have hc2 := HP.out.cell 2 rfl; have hc3 := HP.out.cell 3 rfl; have hc4 := HP.out.cell 4 rfl; have hc5 := HP.out.cell 5 rfl)
                    | (go_at_call 119; refine (many_Right.calls 5 k a b _ _ (nums_many k a b)).mono ?_; rintro e w3 ⟨rfl, hD⟩; rw [HNu.out]; have hB := hD.below; clear hD; have HQ := Aside0.mk (HP.out.below hB); clear HP hB hc0 hc1 hc2 hc3 hc4 hc5; have HP := HQ; clear HQ; have hc0 := HP.out.cell 0 rfl; have hc1 := HP.out.cell 1 rfl; have hc2 := HP.out.cell 2 rfl; have hc3 := HP.out.cell 3 rfl; have hc4 := HP.out.cell 4 rfl; have hc5 := HP.out.cell 5 rfl)
                    | (go_at_call 120; refine (distinct_is _ A m c cs n HM.out (Kd.C_below HC.out HP.out.bel) hc (by omega) hn).mono ?_; rintro e w3 ⟨rfl, hB⟩; rw [HDs.out]; have HQ := Aside0.mk (HP.out.below hB); clear HP hB hc0 hc1 hc2 hc3 hc4 hc5; have HP := HQ; clear HQ; have hc0 := HP.out.cell 0 rfl; have hc1 := HP.out.cell 1 rfl; have hc2 := HP.out.cell 2 rfl; have hc3 := HP.out.cell 3 rfl; have hc4 := HP.out.cell 4 rfl; have hc5 := HP.out.cell 5 rfl))
                  go_ret
                  rw [show ruleOk n k cs a b true cost = true from by unfold ruleOk; simp [HM.out, HKp.out, HKm.out, HNu.out, HDs.out, show 2 ≤ m by omega, show m ≤ 12 by omega, HZ.out]]
                  exact ⟨rfl, HP.out.bel⟩
                · have hz1 : (cost == 0) = false := by simpa using hz
                  have hz2 : decide (cost = 0) = false := decide_eq_false hz
                  have HZ := Aside0.mk hz
                  clear hz
                  go_enter Tryz.func33, Tryz.ntmps33
                  go_wp2_with (first
                    | ((with_reducible refine gate_dst (N := 3) rfl ?_); refine box_event ?hg (N := 3) ?hd (cs := #[.int .i64 k, .slice A m c, .int .i64 a, .int .i64 b, .bool true, .int .i64 cost]) (t := 69) ?hr ?_; (case hd => rfl); (case hg => rfl); (case hr => first | (go_simp; done) | (go_simp; rfl)); intro g hg w2 hbox hB; have HP := Aside0.mk (PBox.mk hbox hB (show w.heap.size ≤ g by rw [hg]; exact Nat.le_refl _)); clear hbox hB hg; have hc0 := HP.out.cell 0 rfl; have hc1 := HP.out.cell 1 rfl; have hc2 := HP.out.cell 2 rfl; have hc3 := HP.out.cell 3 rfl; have hc4 := HP.out.cell 4 rfl; have hc5 := HP.out.cell 5 rfl)
                    | (go_at_call 117; refine (pair_Known.calls k _ _ (kp_pair k)).mono ?_; rintro e w3 ⟨rfl, hD⟩; rw [HKp.out]; have hB := hD.below; clear hD; have HQ := Aside0.mk (HP.out.below hB); clear HP hB hc0 hc1 hc2 hc3 hc4 hc5; have HP := HQ; clear HQ; have hc0 := HP.out.cell 0 rfl; have hc1 := HP.out.cell 1 rfl; have hc2 := HP.out.cell 2 rfl; have hc3 := HP.out.cell 3 rfl; have hc4 := HP.out.cell 4 rfl; have hc5 := HP.out.cell 5 rfl)
                    | (go_at_call 118; refine (many_Known.calls k _ _ (km_many k)).mono ?_; rintro e w3 ⟨rfl, hD⟩; rw [HKm.out]; have hB := hD.below; clear hD; have HQ := Aside0.mk (HP.out.below hB); clear HP hB hc0 hc1 hc2 hc3 hc4 hc5; have HP := HQ; clear HQ; have hc0 := HP.out.cell 0 rfl; have hc1 := HP.out.cell 1 rfl; have hc2 := HP.out.cell 2 rfl; have hc3 := HP.out.cell 3 rfl; have hc4 := HP.out.cell 4 rfl; have hc5 := HP.out.cell 5 rfl)
                    | (go_at_call 119; refine (many_Right.calls 5 k a b _ _ (nums_many k a b)).mono ?_; rintro e w3 ⟨rfl, hD⟩; rw [HNu.out]; have hB := hD.below; clear hD; have HQ := Aside0.mk (HP.out.below hB); clear HP hB hc0 hc1 hc2 hc3 hc4 hc5; have HP := HQ; clear HQ; have hc0 := HP.out.cell 0 rfl; have hc1 := HP.out.cell 1 rfl; have hc2 := HP.out.cell 2 rfl; have hc3 := HP.out.cell 3 rfl; have hc4 := HP.out.cell 4 rfl; have hc5 := HP.out.cell 5 rfl)
                    | (go_at_call 120; refine (distinct_is _ A m c cs n HM.out (Kd.C_below HC.out HP.out.bel) hc (by omega) hn).mono ?_; rintro e w3 ⟨rfl, hB⟩; rw [HDs.out]; have HQ := Aside0.mk (HP.out.below hB); clear HP hB hc0 hc1 hc2 hc3 hc4 hc5; have HP := HQ; clear HQ; have hc0 := HP.out.cell 0 rfl; have hc1 := HP.out.cell 1 rfl; have hc2 := HP.out.cell 2 rfl; have hc3 := HP.out.cell 3 rfl; have hc4 := HP.out.cell 4 rfl; have hc5 := HP.out.cell 5 rfl))
                  go_ret
                  rw [show ruleOk n k cs a b true cost = false from by unfold ruleOk; simp [HM.out, HKp.out, HKm.out, HNu.out, HDs.out, show 2 ≤ m by omega, show m ≤ 12 by omega, HZ.out]]
                  exact ⟨rfl, HP.out.bel⟩
              | false =>
                by_cases h1 : 1 ≤ cost
                · by_cases h2 : cost ≤ 1000
                  · have HCo := Aside0.mk (show (decide (0 ≤ cost) && decide (cost ≤ 1000)) = true by rw [Bool.and_eq_true]; exact ⟨decide_eq_true (by omega), decide_eq_true h2⟩)
                    have H1 := Aside0.mk h1
                    have H2 := Aside0.mk h2
                    go_enter Tryz.func33, Tryz.ntmps33
                    go_wp2_with (first
                      | ((with_reducible refine gate_dst (N := 3) rfl ?_); refine box_event ?hg (N := 3) ?hd (cs := #[.int .i64 k, .slice A m c, .int .i64 a, .int .i64 b, .bool false, .int .i64 cost]) (t := 69) ?hr ?_; (case hd => rfl); (case hg => rfl); (case hr => first | (go_simp; done) | (go_simp; rfl)); intro g hg w2 hbox hB; have HP := Aside0.mk (PBox.mk hbox hB (show w.heap.size ≤ g by rw [hg]; exact Nat.le_refl _)); clear hbox hB hg; have hc0 := HP.out.cell 0 rfl; have hc1 := HP.out.cell 1 rfl; have hc2 := HP.out.cell 2 rfl; have hc3 := HP.out.cell 3 rfl; have hc4 := HP.out.cell 4 rfl; have hc5 := HP.out.cell 5 rfl)
                      | (go_at_call 117; refine (pair_Known.calls k _ _ (kp_pair k)).mono ?_; rintro e w3 ⟨rfl, hD⟩; rw [HKp.out]; have hB := hD.below; clear hD; have HQ := Aside0.mk (HP.out.below hB); clear HP hB hc0 hc1 hc2 hc3 hc4 hc5; have HP := HQ; clear HQ; have hc0 := HP.out.cell 0 rfl; have hc1 := HP.out.cell 1 rfl; have hc2 := HP.out.cell 2 rfl; have hc3 := HP.out.cell 3 rfl; have hc4 := HP.out.cell 4 rfl; have hc5 := HP.out.cell 5 rfl)
                      | (go_at_call 118; refine (many_Known.calls k _ _ (km_many k)).mono ?_; rintro e w3 ⟨rfl, hD⟩; rw [HKm.out]; have hB := hD.below; clear hD; have HQ := Aside0.mk (HP.out.below hB); clear HP hB hc0 hc1 hc2 hc3 hc4 hc5; have HP := HQ; clear HQ; have hc0 := HP.out.cell 0 rfl; have hc1 := HP.out.cell 1 rfl; have hc2 := HP.out.cell 2 rfl; have hc3 := HP.out.cell 3 rfl; have hc4 := HP.out.cell 4 rfl; have hc5 := HP.out.cell 5 rfl)
                      | (go_at_call 119; refine (many_Right.calls 5 k a b _ _ (nums_many k a b)).mono ?_; rintro e w3 ⟨rfl, hD⟩; rw [HNu.out]; have hB := hD.below; clear hD; have HQ := Aside0.mk (HP.out.below hB); clear HP hB hc0 hc1 hc2 hc3 hc4 hc5; have HP := HQ; clear HQ; have hc0 := HP.out.cell 0 rfl; have hc1 := HP.out.cell 1 rfl; have hc2 := HP.out.cell 2 rfl; have hc3 := HP.out.cell 3 rfl; have hc4 := HP.out.cell 4 rfl; have hc5 := HP.out.cell 5 rfl)
                      | (go_at_call 120; refine (distinct_is _ A m c cs n HM.out (Kd.C_below HC.out HP.out.bel) hc (by omega) hn).mono ?_; rintro e w3 ⟨rfl, hB⟩; rw [HDs.out]; have HQ := Aside0.mk (HP.out.below hB); clear HP hB hc0 hc1 hc2 hc3 hc4 hc5; have HP := HQ; clear HQ; have hc0 := HP.out.cell 0 rfl; have hc1 := HP.out.cell 1 rfl; have hc2 := HP.out.cell 2 rfl; have hc3 := HP.out.cell 3 rfl; have hc4 := HP.out.cell 4 rfl; have hc5 := HP.out.cell 5 rfl)
                      | (go_at_call 59; refine (problem_cost.calls cost _ _ (cost_eq cost)).mono ?_; rintro e w3 ⟨rfl, hD⟩; rw [HCo.out]; have hB := hD.below; clear hD; have HQ := Aside0.mk (HP.out.below hB); clear HP hB hc0 hc1 hc2 hc3 hc4 hc5; have HP := HQ; clear HQ; have hc0 := HP.out.cell 0 rfl; have hc1 := HP.out.cell 1 rfl; have hc2 := HP.out.cell 2 rfl; have hc3 := HP.out.cell 3 rfl; have hc4 := HP.out.cell 4 rfl; have hc5 := HP.out.cell 5 rfl))
                    go_ret
                    rw [show ruleOk n k cs a b false cost = true from by unfold ruleOk; simp [HM.out, HKp.out, HKm.out, HNu.out, HDs.out, show 2 ≤ m by omega, show m ≤ 12 by omega, H1.out, H2.out]]
                    exact ⟨rfl, HP.out.bel⟩
                  · have HCo := Aside0.mk (show (decide (0 ≤ cost) && decide (cost ≤ 1000)) = false by rw [decide_eq_false h2, Bool.and_false])
                    have h2' : decide (cost ≤ 1000) = false := decide_eq_false h2
                    have H2 := Aside0.mk h2
                    go_enter Tryz.func33, Tryz.ntmps33
                    go_wp2_with (first
                      | ((with_reducible refine gate_dst (N := 3) rfl ?_); refine box_event ?hg (N := 3) ?hd (cs := #[.int .i64 k, .slice A m c, .int .i64 a, .int .i64 b, .bool false, .int .i64 cost]) (t := 69) ?hr ?_; (case hd => rfl); (case hg => rfl); (case hr => first | (go_simp; done) | (go_simp; rfl)); intro g hg w2 hbox hB; have HP := Aside0.mk (PBox.mk hbox hB (show w.heap.size ≤ g by rw [hg]; exact Nat.le_refl _)); clear hbox hB hg; have hc0 := HP.out.cell 0 rfl; have hc1 := HP.out.cell 1 rfl; have hc2 := HP.out.cell 2 rfl; have hc3 := HP.out.cell 3 rfl; have hc4 := HP.out.cell 4 rfl; have hc5 := HP.out.cell 5 rfl)
                      | (go_at_call 117; refine (pair_Known.calls k _ _ (kp_pair k)).mono ?_; rintro e w3 ⟨rfl, hD⟩; rw [HKp.out]; have hB := hD.below; clear hD; have HQ := Aside0.mk (HP.out.below hB); clear HP hB hc0 hc1 hc2 hc3 hc4 hc5; have HP := HQ; clear HQ; have hc0 := HP.out.cell 0 rfl; have hc1 := HP.out.cell 1 rfl; have hc2 := HP.out.cell 2 rfl; have hc3 := HP.out.cell 3 rfl; have hc4 := HP.out.cell 4 rfl; have hc5 := HP.out.cell 5 rfl)
                      | (go_at_call 118; refine (many_Known.calls k _ _ (km_many k)).mono ?_; rintro e w3 ⟨rfl, hD⟩; rw [HKm.out]; have hB := hD.below; clear hD; have HQ := Aside0.mk (HP.out.below hB); clear HP hB hc0 hc1 hc2 hc3 hc4 hc5; have HP := HQ; clear HQ; have hc0 := HP.out.cell 0 rfl; have hc1 := HP.out.cell 1 rfl; have hc2 := HP.out.cell 2 rfl; have hc3 := HP.out.cell 3 rfl; have hc4 := HP.out.cell 4 rfl; have hc5 := HP.out.cell 5 rfl)
                      | (go_at_call 119; refine (many_Right.calls 5 k a b _ _ (nums_many k a b)).mono ?_; rintro e w3 ⟨rfl, hD⟩; rw [HNu.out]; have hB := hD.below; clear hD; have HQ := Aside0.mk (HP.out.below hB); clear HP hB hc0 hc1 hc2 hc3 hc4 hc5; have HP := HQ; clear HQ; have hc0 := HP.out.cell 0 rfl; have hc1 := HP.out.cell 1 rfl; have hc2 := HP.out.cell 2 rfl; have hc3 := HP.out.cell 3 rfl; have hc4 := HP.out.cell 4 rfl; have hc5 := HP.out.cell 5 rfl)
                      | (go_at_call 120; refine (distinct_is _ A m c cs n HM.out (Kd.C_below HC.out HP.out.bel) hc (by omega) hn).mono ?_; rintro e w3 ⟨rfl, hB⟩; rw [HDs.out]; have HQ := Aside0.mk (HP.out.below hB); clear HP hB hc0 hc1 hc2 hc3 hc4 hc5; have HP := HQ; clear HQ; have hc0 := HP.out.cell 0 rfl; have hc1 := HP.out.cell 1 rfl; have hc2 := HP.out.cell 2 rfl; have hc3 := HP.out.cell 3 rfl; have hc4 := HP.out.cell 4 rfl; have hc5 := HP.out.cell 5 rfl)
                      | (go_at_call 59; refine (problem_cost.calls cost _ _ (cost_eq cost)).mono ?_; rintro e w3 ⟨rfl, hD⟩; rw [HCo.out]; have hB := hD.below; clear hD; have HQ := Aside0.mk (HP.out.below hB); clear HP hB hc0 hc1 hc2 hc3 hc4 hc5; have HP := HQ; clear HQ; have hc0 := HP.out.cell 0 rfl; have hc1 := HP.out.cell 1 rfl; have hc2 := HP.out.cell 2 rfl; have hc3 := HP.out.cell 3 rfl; have hc4 := HP.out.cell 4 rfl; have hc5 := HP.out.cell 5 rfl))
                    go_ret
                    rw [show ruleOk n k cs a b false cost = false from by unfold ruleOk; simp [HM.out, HKp.out, HKm.out, HNu.out, HDs.out, show 2 ≤ m by omega, show m ≤ 12 by omega, H2.out]]
                    exact ⟨rfl, HP.out.bel⟩
                · have h1' : decide (1 ≤ cost) = false := decide_eq_false h1
                  have H1 := Aside0.mk h1
                  go_enter Tryz.func33, Tryz.ntmps33
                  go_wp2_with (first
                    | ((with_reducible refine gate_dst (N := 3) rfl ?_); refine box_event ?hg (N := 3) ?hd (cs := #[.int .i64 k, .slice A m c, .int .i64 a, .int .i64 b, .bool false, .int .i64 cost]) (t := 69) ?hr ?_; (case hd => rfl); (case hg => rfl); (case hr => first | (go_simp; done) | (go_simp; rfl)); intro g hg w2 hbox hB; have HP := Aside0.mk (PBox.mk hbox hB (show w.heap.size ≤ g by rw [hg]; exact Nat.le_refl _)); clear hbox hB hg; have hc0 := HP.out.cell 0 rfl; have hc1 := HP.out.cell 1 rfl; have hc2 := HP.out.cell 2 rfl; have hc3 := HP.out.cell 3 rfl; have hc4 := HP.out.cell 4 rfl; have hc5 := HP.out.cell 5 rfl)
                    | (go_at_call 117; refine (pair_Known.calls k _ _ (kp_pair k)).mono ?_; rintro e w3 ⟨rfl, hD⟩; rw [HKp.out]; have hB := hD.below; clear hD; have HQ := Aside0.mk (HP.out.below hB); clear HP hB hc0 hc1 hc2 hc3 hc4 hc5; have HP := HQ; clear HQ; have hc0 := HP.out.cell 0 rfl; have hc1 := HP.out.cell 1 rfl; have hc2 := HP.out.cell 2 rfl; have hc3 := HP.out.cell 3 rfl; have hc4 := HP.out.cell 4 rfl; have hc5 := HP.out.cell 5 rfl)
                    | (go_at_call 118; refine (many_Known.calls k _ _ (km_many k)).mono ?_; rintro e w3 ⟨rfl, hD⟩; rw [HKm.out]; have hB := hD.below; clear hD; have HQ := Aside0.mk (HP.out.below hB); clear HP hB hc0 hc1 hc2 hc3 hc4 hc5; have HP := HQ; clear HQ; have hc0 := HP.out.cell 0 rfl; have hc1 := HP.out.cell 1 rfl; have hc2 := HP.out.cell 2 rfl; have hc3 := HP.out.cell 3 rfl; have hc4 := HP.out.cell 4 rfl; have hc5 := HP.out.cell 5 rfl)
                    | (go_at_call 119; refine (many_Right.calls 5 k a b _ _ (nums_many k a b)).mono ?_; rintro e w3 ⟨rfl, hD⟩; rw [HNu.out]; have hB := hD.below; clear hD; have HQ := Aside0.mk (HP.out.below hB); clear HP hB hc0 hc1 hc2 hc3 hc4 hc5; have HP := HQ; clear HQ; have hc0 := HP.out.cell 0 rfl; have hc1 := HP.out.cell 1 rfl; have hc2 := HP.out.cell 2 rfl; have hc3 := HP.out.cell 3 rfl; have hc4 := HP.out.cell 4 rfl; have hc5 := HP.out.cell 5 rfl)
                    | (go_at_call 120; refine (distinct_is _ A m c cs n HM.out (Kd.C_below HC.out HP.out.bel) hc (by omega) hn).mono ?_; rintro e w3 ⟨rfl, hB⟩; rw [HDs.out]; have HQ := Aside0.mk (HP.out.below hB); clear HP hB hc0 hc1 hc2 hc3 hc4 hc5; have HP := HQ; clear HQ; have hc0 := HP.out.cell 0 rfl; have hc1 := HP.out.cell 1 rfl; have hc2 := HP.out.cell 2 rfl; have hc3 := HP.out.cell 3 rfl; have hc4 := HP.out.cell 4 rfl; have hc5 := HP.out.cell 5 rfl)
                    | (go_at_call 59; refine (problem_cost.calls cost _ _ (cost_eq cost)).mono ?_; rintro e w3 ⟨rfl, hD⟩; rw [HCo.out]; have hB := hD.below; clear hD; have HQ := Aside0.mk (HP.out.below hB); clear HP hB hc0 hc1 hc2 hc3 hc4 hc5; have HP := HQ; clear HQ; have hc0 := HP.out.cell 0 rfl; have hc1 := HP.out.cell 1 rfl; have hc2 := HP.out.cell 2 rfl; have hc3 := HP.out.cell 3 rfl; have hc4 := HP.out.cell 4 rfl; have hc5 := HP.out.cell 5 rfl))
                  go_ret
                  rw [show ruleOk n k cs a b false cost = false from by unfold ruleOk; simp [HM.out, HKp.out, HKm.out, HNu.out, HDs.out, show 2 ≤ m by omega, show m ≤ 12 by omega, show ¬ 1 ≤ cost by have := H1.out; omega]]
                  exact ⟨rfl, HP.out.bel⟩
    | false =>
      have HKm := Aside0.mk hkm
      clear hkm
      go_enter Tryz.func33, Tryz.ntmps33
      go_wp2_with (first
        | ((with_reducible refine gate_dst (N := 3) rfl ?_); refine box_event ?hg (N := 3) ?hd (cs := #[.int .i64 k, .slice A m c, .int .i64 a, .int .i64 b, .bool hard, .int .i64 cost]) (t := 69) ?hr ?_; (case hd => rfl); (case hg => rfl); (case hr => first | (go_simp; done) | (go_simp; rfl)); intro g hg w2 hbox hB; have HP := Aside0.mk (PBox.mk hbox hB (show w.heap.size ≤ g by rw [hg]; exact Nat.le_refl _)); clear hbox hB hg; have hc0 := HP.out.cell 0 rfl; have hc1 := HP.out.cell 1 rfl; have hc2 := HP.out.cell 2 rfl; have hc3 := HP.out.cell 3 rfl; have hc4 := HP.out.cell 4 rfl; have hc5 := HP.out.cell 5 rfl)
        | (go_at_call 117; refine (pair_Known.calls k _ _ (kp_pair k)).mono ?_; rintro e w3 ⟨rfl, hD⟩; rw [HKp.out]; have hB := hD.below; clear hD; have HQ := Aside0.mk (HP.out.below hB); clear HP hB hc0 hc1 hc2 hc3 hc4 hc5; have HP := HQ; clear HQ; have hc0 := HP.out.cell 0 rfl; have hc1 := HP.out.cell 1 rfl; have hc2 := HP.out.cell 2 rfl; have hc3 := HP.out.cell 3 rfl; have hc4 := HP.out.cell 4 rfl; have hc5 := HP.out.cell 5 rfl)
        | (go_at_call 118; refine (many_Known.calls k _ _ (km_many k)).mono ?_; rintro e w3 ⟨rfl, hD⟩; rw [HKm.out]; have hB := hD.below; clear hD; have HQ := Aside0.mk (HP.out.below hB); clear HP hB hc0 hc1 hc2 hc3 hc4 hc5; have HP := HQ; clear HQ; have hc0 := HP.out.cell 0 rfl; have hc1 := HP.out.cell 1 rfl; have hc2 := HP.out.cell 2 rfl; have hc3 := HP.out.cell 3 rfl; have hc4 := HP.out.cell 4 rfl; have hc5 := HP.out.cell 5 rfl))
      go_ret
      rw [show ruleOk n k cs a b hard cost = false from by unfold ruleOk; simp [HM.out, HKp.out, HKm.out]]
      exact ⟨rfl, HP.out.bel⟩
end Go.Proofs.YtineikfhfmiidaaGreat.Pm
