/- What the law rests on, part 7: words over the model, contracts of functions, plain facts. -/
import Derived.Deep.Slices
import Derived.ChangeSame
import Derived.OpenShut
import Derived.Test.YtineikfhfmiidaaGreatQC6
namespace Go.Proofs.YtineikfhfmiidaaGreat.Pm
open Go Go.RowKit Go.Proofs.YtineikfhfmiidaaGreat.Gp Go.Proofs.YtineikfhfmiidaaGreat.Mw Go.Proofs.YtineikfhfmiidaaGreatW.PrintWords Go.Proofs.YtineikfhfmiidaaGreatW.PrintLast Go.Proofs.YtineikfhfmiidaaGreatW.PrintMore
set_option linter.unusedVariables false
set_option linter.unusedSimpArgs false
set_option maxRecDepth 100000 in
set_option maxHeartbeats 2000000 in
theorem RRule_is (w : World) (n k : Int) (A : Option Addr) (m c : Nat) (cs : List Int) (a b : Int) (hard : Bool) (cost : Int) (hm : cs.length = m) (hC : (Kd.int .i64).C w A cs.length cs) (hc : m ≤ c) (hn : n ≤ 9223372036854775807) :
    Calls Tryz.prog 137 #[.int .i64 n, .agg #[.int .i64 k, .slice A m c, .int .i64 a, .int .i64 b, .bool hard, .int .i64 cost]] w fun e w' => e = .returned (.bool (ruleOk n k cs a b hard cost)) ∧ Below w.heap.size w w' := by
  have HC := Aside0.mk hC
  have HM := Aside0.mk hm
  clear hC hm
  cases hkp : kp k with
  | true =>
    have HKp := Aside0.mk hkp
    clear hkp
    by_cases hl : m < 2
    · have hl1 : (m : Int) < 2 := by omega
      go_enter Tryz.func137, Tryz.ntmps137
      go_wp2_with (first
        | ((with_reducible refine gate_dst (N := 3) rfl ?_); refine box_event ?hg (N := 3) ?hd (cs := #[.int .i64 k, .slice A m c, .int .i64 a, .int .i64 b, .bool hard, .int .i64 cost]) (t := 69) ?hr ?_; (case hd => rfl); (case hg => rfl); (case hr => first | (go_simp; done) | (go_simp; rfl)); intro g hg w2 hbox hB; have HP := Aside0.mk (PBox.mk hbox hB (show w.heap.size ≤ g by rw [hg]; exact Nat.le_refl _)); clear hbox hB hg; have hc0 := HP.out.cell 0 rfl; have hc1 := HP.out.cell 1 rfl; have hc2 := HP.out.cell 2 rfl; have hc3 := HP.out.cell 3 rfl; have hc4 := HP.out.cell 4 rfl; have hc5 := HP.out.cell 5 rfl)
        | (go_at_call 166; refine (horariumref15_Known.calls k _ _ (kp15 k)).mono ?_; rintro e w3 ⟨rfl, hD⟩; rw [HKp.out]; have hB := hD.below; clear hD; have HQ := Aside0.mk (HP.out.below hB); clear HP hB hc0 hc1 hc2 hc3 hc4 hc5; have HP := HQ; clear HQ; have hc0 := HP.out.cell 0 rfl; have hc1 := HP.out.cell 1 rfl; have hc2 := HP.out.cell 2 rfl; have hc3 := HP.out.cell 3 rfl; have hc4 := HP.out.cell 4 rfl; have hc5 := HP.out.cell 5 rfl)
        | (go_at_call 167; refine (horariumref16_Known.calls k _ _ (km16 k)).mono ?_; rintro e w3 ⟨rfl, hD⟩; rw [HKm.out]; have hB := hD.below; clear hD; have HQ := Aside0.mk (HP.out.below hB); clear HP hB hc0 hc1 hc2 hc3 hc4 hc5; have HP := HQ; clear HQ; have hc0 := HP.out.cell 0 rfl; have hc1 := HP.out.cell 1 rfl; have hc2 := HP.out.cell 2 rfl; have hc3 := HP.out.cell 3 rfl; have hc4 := HP.out.cell 4 rfl; have hc5 := HP.out.cell 5 rfl))
      go_ret
      rw [show ruleOk n k cs a b hard cost = false from by unfold ruleOk; simp [HM.out, HKp.out, show ¬ 2 ≤ m by omega]]
      exact ⟨rfl, HP.out.bel⟩
    · have hl1 : ¬ (m : Int) < 2 := by omega
      by_cases hg : 12 < m
      · have hg1 : (12 : Int) < (m : Int) := by omega
        go_enter Tryz.func137, Tryz.ntmps137
        go_wp2_with (first
          | ((with_reducible refine gate_dst (N := 3) rfl ?_); refine box_event ?hg (N := 3) ?hd (cs := #[.int .i64 k, .slice A m c, .int .i64 a, .int .i64 b, .bool hard, .int .i64 cost]) (t := 69) ?hr ?_; (case hd => rfl); (case hg => rfl); (case hr => first | (go_simp; done) | (go_simp; rfl)); intro g hg w2 hbox hB; have HP := Aside0.mk (PBox.mk hbox hB (show w.heap.size ≤ g by rw [hg]; exact Nat.le_refl _)); clear hbox hB hg; have hc0 := HP.out.cell 0 rfl; have hc1 := HP.out.cell 1 rfl; have hc2 := HP.out.cell 2 rfl; have hc3 := HP.out.cell 3 rfl; have hc4 := HP.out.cell 4 rfl; have hc5 := HP.out.cell 5 rfl)
          | (go_at_call 166; refine (horariumref15_Known.calls k _ _ (kp15 k)).mono ?_; rintro e w3 ⟨rfl, hD⟩; rw [HKp.out]; have hB := hD.below; clear hD; have HQ := Aside0.mk (HP.out.below hB); clear HP hB hc0 hc1 hc2 hc3 hc4 hc5; have HP := HQ; clear HQ; have hc0 := HP.out.cell 0 rfl; have hc1 := HP.out.cell 1 rfl; have hc2 := HP.out.cell 2 rfl; have hc3 := HP.out.cell 3 rfl; have hc4 := HP.out.cell 4 rfl; have hc5 := HP.out.cell 5 rfl)
          | (go_at_call 167; refine (horariumref16_Known.calls k _ _ (km16 k)).mono ?_; rintro e w3 ⟨rfl, hD⟩; rw [HKm.out]; have hB := hD.below; clear hD; have HQ := Aside0.mk (HP.out.below hB); clear HP hB hc0 hc1 hc2 hc3 hc4 hc5; have HP := HQ; clear HQ; have hc0 := HP.out.cell 0 rfl; have hc1 := HP.out.cell 1 rfl; have hc2 := HP.out.cell 2 rfl; have hc3 := HP.out.cell 3 rfl; have hc4 := HP.out.cell 4 rfl; have hc5 := HP.out.cell 5 rfl))
        go_ret
        rw [show ruleOk n k cs a b hard cost = false from by unfold ruleOk; simp [HM.out, HKp.out, show ¬ m ≤ 12 by omega]]
        exact ⟨rfl, HP.out.bel⟩
      · have hg1 : ¬ (12 : Int) < (m : Int) := by omega
        cases hnu : numsOk k a b with
        | false =>
          have HNu := Aside0.mk hnu
          clear hnu
          go_enter Tryz.func137, Tryz.ntmps137
          go_wp2_with (first
            | ((with_reducible refine gate_dst (N := 3) rfl ?_); refine box_event ?hg (N := 3) ?hd (cs := #[.int .i64 k, .slice A m c, .int .i64 a, .int .i64 b, .bool hard, .int .i64 cost]) (t := 69) ?hr ?_; (case hd => rfl); (case hg => rfl); (case hr => first | (go_simp; done) | (go_simp; rfl)); intro g hg w2 hbox hB; have HP := Aside0.mk (PBox.mk hbox hB (show w.heap.size ≤ g by rw [hg]; exact Nat.le_refl _)); clear hbox hB hg; have hc0 := HP.out.cell 0 rfl; have hc1 := HP.out.cell 1 rfl; have hc2 := HP.out.cell 2 rfl; have hc3 := HP.out.cell 3 rfl; have hc4 := HP.out.cell 4 rfl; have hc5 := HP.out.cell 5 rfl)
            | (go_at_call 166; refine (horariumref15_Known.calls k _ _ (kp15 k)).mono ?_; rintro e w3 ⟨rfl, hD⟩; rw [HKp.out]; have hB := hD.below; clear hD; have HQ := Aside0.mk (HP.out.below hB); clear HP hB hc0 hc1 hc2 hc3 hc4 hc5; have HP := HQ; clear HQ; have hc0 := HP.out.cell 0 rfl; have hc1 := HP.out.cell 1 rfl; have hc2 := HP.out.cell 2 rfl; have hc3 := HP.out.cell 3 rfl; have hc4 := HP.out.cell 4 rfl; have hc5 := HP.out.cell 5 rfl)
            | (go_at_call 167; refine (horariumref16_Known.calls k _ _ (km16 k)).mono ?_; rintro e w3 ⟨rfl, hD⟩; rw [HKm.out]; have hB := hD.below; clear hD; have HQ := Aside0.mk (HP.out.below hB); clear HP hB hc0 hc1 hc2 hc3 hc4 hc5; have HP := HQ; clear HQ; have hc0 := HP.out.cell 0 rfl; have hc1 := HP.out.cell 1 rfl; have hc2 := HP.out.cell 2 rfl; have hc3 := HP.out.cell 3 rfl; have hc4 := HP.out.cell 4 rfl; have hc5 := HP.out.cell 5 rfl)
            | (go_at_call 168; refine (horariumref16_Right.calls 5 k a b _ _ (nums16 k a b)).mono ?_; rintro e w3 ⟨rfl, hD⟩; rw [HNu.out]; have hB := hD.below; clear hD; have HQ := Aside0.mk (HP.out.below hB); clear HP hB hc0 hc1 hc2 hc3 hc4 hc5; have HP := HQ; clear HQ; have hc0 := HP.out.cell 0 rfl; have hc1 := HP.out.cell 1 rfl; have hc2 := HP.out.cell 2 rfl; have hc3 := HP.out.cell 3 rfl; have hc4 := HP.out.cell 4 rfl; have hc5 := HP.out.cell 5 rfl))
          go_ret
          rw [show ruleOk n k cs a b hard cost = false from by unfold ruleOk; simp [HM.out, HKp.out, HNu.out]]
          exact ⟨rfl, HP.out.bel⟩
        | true =>
          have HNu := Aside0.mk hnu
          clear hnu
          go_enter Tryz.func137, Tryz.ntmps137
          go_wp2_with (first
            | ((with_reducible refine gate_dst (N := 3) rfl ?_); refine box_event ?hg (N := 3) ?hd (cs := #[.int .i64 k, .slice A m c, .int .i64 a, .int .i64 b, .bool hard, .int .i64 cost]) (t := 69) ?hr ?_; (case hd => rfl); (case hg => rfl); (case hr => first | (go_simp; done) | (go_simp; rfl)); intro g hg w2 hbox hB; have HP := Aside0.mk (PBox.mk hbox hB (show w.heap.size ≤ g by rw [hg]; exact Nat.le_refl _)); clear hbox hB hg; have hc0 := HP.out.cell 0 rfl; have hc1 := HP.out.cell 1 rfl; have hc2 := HP.out.cell 2 rfl; have hc3 := HP.out.cell 3 rfl; have hc4 := HP.out.cell 4 rfl; have hc5 := HP.out.cell 5 rfl)
            | (go_at_call 166; refine (horariumref15_Known.calls k _ _ (kp15 k)).mono ?_; rintro e w3 ⟨rfl, hD⟩; rw [HKp.out]; have hB := hD.below; clear hD; have HQ := Aside0.mk (HP.out.below hB); clear HP hB hc0 hc1 hc2 hc3 hc4 hc5; have HP := HQ; clear HQ; have hc0 := HP.out.cell 0 rfl; have hc1 := HP.out.cell 1 rfl; have hc2 := HP.out.cell 2 rfl; have hc3 := HP.out.cell 3 rfl; have hc4 := HP.out.cell 4 rfl; have hc5 := HP.out.cell 5 rfl)
            | (go_at_call 167; refine (horariumref16_Known.calls k _ _ (km16 k)).mono ?_; rintro e w3 ⟨rfl, hD⟩; rw [HKm.out]; have hB := hD.below; clear hD; have HQ := Aside0.mk (HP.out.below hB); clear HP hB hc0 hc1 hc2 hc3 hc4 hc5; have HP := HQ; clear HQ; have hc0 := HP.out.cell 0 rfl; have hc1 := HP.out.cell 1 rfl; have hc2 := HP.out.cell 2 rfl; have hc3 := HP.out.cell 3 rfl; have hc4 := HP.out.cell 4 rfl; have hc5 := HP.out.cell 5 rfl)
            | (go_at_call 168; refine (horariumref16_Right.calls 5 k a b _ _ (nums16 k a b)).mono ?_; rintro e w3 ⟨rfl, hD⟩; rw [HNu.out]; have hB := hD.below; clear hD; have HQ := Aside0.mk (HP.out.below hB); clear HP hB hc0 hc1 hc2 hc3 hc4 hc5; have HP := HQ; clear HQ; have hc0 := HP.out.cell 0 rfl; have hc1 := HP.out.cell 1 rfl; have hc2 := HP.out.cell 2 rfl; have hc3 := HP.out.cell 3 rfl; have hc4 := HP.out.cell 4 rfl; have hc5 := HP.out.cell 5 rfl))
          go_loopw [5] (fun v5 wr => ∃ i : Nat, i ≤ m ∧ v5 = .int .i64 i ∧ Aside0 (DstTo n cs i) ∧ Aside0 (PBox w wr g 69 #[.int .i64 k, .slice A m c, .int .i64 a, .int .i64 b, .bool hard, .int .i64 cost])) (fun v5 _ => m - (intOf v5).toNat)
          case atStart => exact ⟨0, Nat.zero_le _, rfl, ⟨DstTo.start _ _⟩, HP⟩
          case round =>
            clear HP hc0 hc1 hc2 hc3 hc4 hc5
            obtain ⟨i, hi, rfl, HD, HP⟩ := hrel
            have hc0 := HP.out.cell 0 rfl; have hc1 := HP.out.cell 1 rfl; have hc2 := HP.out.cell 2 rfl; have hc3 := HP.out.cell 3 rfl; have hc4 := HP.out.cell 4 rfl; have hc5 := HP.out.cell 5 rfl
            by_cases him : i < m
            · have hic : i < cs.length := by have := HM.out; omega
              obtain ⟨x, hx⟩ : ∃ x, x = cs.getD i 0 := ⟨_, rfl⟩
              obtain ⟨ad, rfl, hcell⟩ := int_cell (Kd.C_below HC.out HP.out.bel) hic hx
              have him2 : (i : Int) < (m : Int) := by omega
              have HX := Aside0.mk (And.intro hx hic)
              clear hx hic
              by_cases h0 : x < 0
              · have HR := Aside0.mk (dst_bad (n := n) HX.out.2 (Or.inl (by rw [← HX.out.1]; exact h0)))
                have h0' : decide (x < 0) = true := decide_eq_true h0
                go_wp2
                go_quiet (fail)
                go_wp2
                go_ret
                rw [show ruleOk n k cs a b hard cost = false from by unfold ruleOk; simp [HM.out, HR.out]]
                exact ⟨rfl, pw_below_drewN HP.out.bel nq⟩
              · have h0' : decide (x < 0) = false := decide_eq_false h0
                by_cases h1 : n ≤ x
                · have HR := Aside0.mk (dst_bad (n := n) HX.out.2 (Or.inr (Or.inl (by rw [← HX.out.1]; exact h1))))
                  have h1' : decide (n ≤ x) = true := decide_eq_true h1
                  go_wp2
                  go_quiet (fail)
                  go_wp2
                  go_ret
                  rw [show ruleOk n k cs a b hard cost = false from by unfold ruleOk; simp [HM.out, HR.out]]
                  exact ⟨rfl, pw_below_drewN HP.out.bel nq⟩
                · have h1' : decide (n ≤ x) = false := decide_eq_false h1
                  have hcut := cutT (some ad) m c i hi hc
                  have HT := Aside0.mk (show (cs.take i).length = i by rw [List.length_take]; have := HM.out; omega)
                  have HTC := Aside0.mk (show (Kd.int .i64).C wr (some ad) (cs.take i).length (cs.take i) from by exact Kd.C_take (m := i) (Kd.C_below HC.out HP.out.bel) (by have := HM.out; omega))
                  by_cases h2 : x ∈ cs.take i
                  · have HR := Aside0.mk (dst_bad (n := n) HX.out.2 (Or.inr (Or.inr (by rw [← HX.out.1]; exact h2))))
                    have HH := Aside0.mk (show (cs.take i).contains x = true by rw [List.contains_eq_mem]; exact decide_eq_true h2)
                    clear h2
                    go_wp2
                    go_quiet (first | (go_at_call 158; exact Calls.quiet_of (HasL_q _ (some ad) i c (cs.take i) x true HT.out HTC.out (by omega) HH.out _)))
                    go_wp2
                    go_ret
                    rw [show ruleOk n k cs a b hard cost = false from by unfold ruleOk; simp [HM.out, HR.out]]
                    exact ⟨rfl, pw_below_drewN HP.out.bel nq⟩
                  · have HH := Aside0.mk (show (cs.take i).contains x = false by rw [List.contains_eq_mem]; exact decide_eq_false h2)
                    have HD2 := Aside0.mk (HD.out.step HX.out.2 (by rw [← HX.out.1]; omega) (by rw [← HX.out.1]; omega) (by rw [← HX.out.1]; exact h2))
                    clear h2
                    go_wp2
                    go_quiet (first | (go_at_call 158; exact Calls.quiet_of (HasL_q _ (some ad) i c (cs.take i) x false HT.out HTC.out (by omega) HH.out _)))
                    go_wp2
                    exact ⟨⟨i + 1, by omega, by go_num, HD2, ⟨HP.out.below (pw_below_drewN (Below.refl _ _) nq)⟩⟩, by simp [intOf]; omega⟩
            · obtain rfl : i = m := by omega
              have HR := Aside0.mk (show dstB n cs = true from DstTo.over (by rw [HM.out]; exact HD.out))
              cases hard with
              | true =>
                by_cases hz : cost = 0
                · have hz1 : (cost == 0) = true := by simpa using hz
                  have HZ := Aside0.mk hz
                  clear hz
                  go_wp2
                  go_ret
                  rw [show ruleOk n k cs a b true cost = true from by unfold ruleOk; simp [HM.out, HKp.out, HNu.out, HR.out, show 2 ≤ i by omega, show i ≤ 12 by omega, HZ.out]]
                  exact ⟨rfl, HP.out.bel⟩
                · have hz1 : (cost == 0) = false := by simpa using hz
                  have hz2 : decide (cost = 0) = false := decide_eq_false hz
                  have HZ := Aside0.mk hz
                  clear hz
                  go_wp2
                  go_ret
                  rw [show ruleOk n k cs a b true cost = false from by unfold ruleOk; simp [HM.out, HKp.out, HNu.out, HR.out, show 2 ≤ i by omega, show i ≤ 12 by omega, HZ.out]]
                  exact ⟨rfl, HP.out.bel⟩
              | false =>
                by_cases h1 : 1 ≤ cost
                · by_cases h2 : cost ≤ 1000
                  · have HCo := Aside0.mk (show (decide (0 ≤ cost) && decide (cost ≤ 1000)) = true by rw [Bool.and_eq_true]; exact ⟨decide_eq_true (by omega), decide_eq_true h2⟩)
                    have H1 := Aside0.mk h1
                    have H2 := Aside0.mk h2
                    go_wp2
                    go_ret
                    rw [show ruleOk n k cs a b false cost = true from by unfold ruleOk; simp [HM.out, HKp.out, HNu.out, HR.out, show 2 ≤ i by omega, show i ≤ 12 by omega, H1.out, H2.out]]
                    exact ⟨rfl, HP.out.bel⟩
                  · have HCo := Aside0.mk (show (decide (0 ≤ cost) && decide (cost ≤ 1000)) = false by rw [decide_eq_false h2, Bool.and_false])
                    have h2' : decide (cost ≤ 1000) = false := decide_eq_false h2
                    have H2 := Aside0.mk h2
                    go_wp2
                    go_ret
                    rw [show ruleOk n k cs a b false cost = false from by unfold ruleOk; simp [HM.out, HKp.out, HNu.out, HR.out, show 2 ≤ i by omega, show i ≤ 12 by omega, H2.out]]
                    exact ⟨rfl, HP.out.bel⟩
                · have h1' : decide (1 ≤ cost) = false := decide_eq_false h1
                  have H1 := Aside0.mk h1
                  go_wp2
                  go_ret
                  rw [show ruleOk n k cs a b false cost = false from by unfold ruleOk; simp [HM.out, HKp.out, HNu.out, HR.out, show 2 ≤ i by omega, show i ≤ 12 by omega, show ¬ 1 ≤ cost by have := H1.out; omega]]
                  exact ⟨rfl, HP.out.bel⟩
  | false =>
    have HKp := Aside0.mk hkp
    clear hkp
    cases hkm : km k with
    | true =>
      have HKm := Aside0.mk hkm
      clear hkm
      by_cases hl : m < 2
      · have hl1 : (m : Int) < 2 := by omega
        go_enter Tryz.func137, Tryz.ntmps137
        go_wp2_with (first
          | ((with_reducible refine gate_dst (N := 3) rfl ?_); refine box_event ?hg (N := 3) ?hd (cs := #[.int .i64 k, .slice A m c, .int .i64 a, .int .i64 b, .bool hard, .int .i64 cost]) (t := 69) ?hr ?_; (case hd => rfl); (case hg => rfl); (case hr => first | (go_simp; done) | (go_simp; rfl)); intro g hg w2 hbox hB; have HP := Aside0.mk (PBox.mk hbox hB (show w.heap.size ≤ g by rw [hg]; exact Nat.le_refl _)); clear hbox hB hg; have hc0 := HP.out.cell 0 rfl; have hc1 := HP.out.cell 1 rfl; have hc2 := HP.out.cell 2 rfl; have hc3 := HP.out.cell 3 rfl; have hc4 := HP.out.cell 4 rfl; have hc5 := HP.out.cell 5 rfl)
          | (go_at_call 166; refine (horariumref15_Known.calls k _ _ (kp15 k)).mono ?_; rintro e w3 ⟨rfl, hD⟩; rw [HKp.out]; have hB := hD.below; clear hD; have HQ := Aside0.mk (HP.out.below hB); clear HP hB hc0 hc1 hc2 hc3 hc4 hc5; have HP := HQ; clear HQ; have hc0 := HP.out.cell 0 rfl; have hc1 := HP.out.cell 1 rfl; have hc2 := HP.out.cell 2 rfl; have hc3 := HP.out.cell 3 rfl; have hc4 := HP.out.cell 4 rfl; have hc5 := HP.out.cell 5 rfl)
          | (go_at_call 167; refine (horariumref16_Known.calls k _ _ (km16 k)).mono ?_; rintro e w3 ⟨rfl, hD⟩; rw [HKm.out]; have hB := hD.below; clear hD; have HQ := Aside0.mk (HP.out.below hB); clear HP hB hc0 hc1 hc2 hc3 hc4 hc5; have HP := HQ; clear HQ; have hc0 := HP.out.cell 0 rfl; have hc1 := HP.out.cell 1 rfl; have hc2 := HP.out.cell 2 rfl; have hc3 := HP.out.cell 3 rfl; have hc4 := HP.out.cell 4 rfl; have hc5 := HP.out.cell 5 rfl))
        go_ret
        rw [show ruleOk n k cs a b hard cost = false from by unfold ruleOk; simp [HM.out, HKp.out, HKm.out, show ¬ 2 ≤ m by omega]]
        exact ⟨rfl, HP.out.bel⟩
      · have hl1 : ¬ (m : Int) < 2 := by omega
        by_cases hg : 12 < m
        · have hg1 : (12 : Int) < (m : Int) := by omega
          go_enter Tryz.func137, Tryz.ntmps137
          go_wp2_with (first
            | ((with_reducible refine gate_dst (N := 3) rfl ?_); refine box_event ?hg (N := 3) ?hd (cs := #[.int .i64 k, .slice A m c, .int .i64 a, .int .i64 b, .bool hard, .int .i64 cost]) (t := 69) ?hr ?_; (case hd => rfl); (case hg => rfl); (case hr => first | (go_simp; done) | (go_simp; rfl)); intro g hg w2 hbox hB; have HP := Aside0.mk (PBox.mk hbox hB (show w.heap.size ≤ g by rw [hg]; exact Nat.le_refl _)); clear hbox hB hg; have hc0 := HP.out.cell 0 rfl; have hc1 := HP.out.cell 1 rfl; have hc2 := HP.out.cell 2 rfl; have hc3 := HP.out.cell 3 rfl; have hc4 := HP.out.cell 4 rfl; have hc5 := HP.out.cell 5 rfl)
            | (go_at_call 166; refine (horariumref15_Known.calls k _ _ (kp15 k)).mono ?_; rintro e w3 ⟨rfl, hD⟩; rw [HKp.out]; have hB := hD.below; clear hD; have HQ := Aside0.mk (HP.out.below hB); clear HP hB hc0 hc1 hc2 hc3 hc4 hc5; have HP := HQ; clear HQ; have hc0 := HP.out.cell 0 rfl; have hc1 := HP.out.cell 1 rfl; have hc2 := HP.out.cell 2 rfl; have hc3 := HP.out.cell 3 rfl; have hc4 := HP.out.cell 4 rfl; have hc5 := HP.out.cell 5 rfl)
            | (go_at_call 167; refine (horariumref16_Known.calls k _ _ (km16 k)).mono ?_; rintro e w3 ⟨rfl, hD⟩; rw [HKm.out]; have hB := hD.below; clear hD; have HQ := Aside0.mk (HP.out.below hB); clear HP hB hc0 hc1 hc2 hc3 hc4 hc5; have HP := HQ; clear HQ; have hc0 := HP.out.cell 0 rfl; have hc1 := HP.out.cell 1 rfl; have hc2 := HP.out.cell 2 rfl; have hc3 := HP.out.cell 3 rfl; have hc4 := HP.out.cell 4 rfl; have hc5 := HP.out.cell 5 rfl))
          go_ret
          rw [show ruleOk n k cs a b hard cost = false from by unfold ruleOk; simp [HM.out, HKp.out, HKm.out, show ¬ m ≤ 12 by omega]]
          exact ⟨rfl, HP.out.bel⟩
        · have hg1 : ¬ (12 : Int) < (m : Int) := by omega
          cases hnu : numsOk k a b with
          | false =>
            have HNu := Aside0.mk hnu
            clear hnu
            go_enter Tryz.func137, Tryz.ntmps137
            go_wp2_with (first
              | ((with_reducible refine gate_dst (N := 3) rfl ?_); refine box_event ?hg (N := 3) ?hd (cs := #[.int .i64 k, .slice A m c, .int .i64 a, .int .i64 b, .bool hard, .int .i64 cost]) (t := 69) ?hr ?_; (case hd => rfl); (case hg => rfl); (case hr => first | (go_simp; done) | (go_simp; rfl)); intro g hg w2 hbox hB; have HP := Aside0.mk (PBox.mk hbox hB (show w.heap.size ≤ g by rw [hg]; exact Nat.le_refl _)); clear hbox hB hg; have hc0 := HP.out.cell 0 rfl; have hc1 := HP.out.cell 1 rfl; have hc2 := HP.out.cell 2 rfl; have hc3 := HP.out.cell 3 rfl; have hc4 := HP.out.cell 4 rfl; have hc5 := HP.out.cell 5 rfl)
              | (go_at_call 166; refine (horariumref15_Known.calls k _ _ (kp15 k)).mono ?_; rintro e w3 ⟨rfl, hD⟩; rw [HKp.out]; have hB := hD.below; clear hD; have HQ := Aside0.mk (HP.out.below hB); clear HP hB hc0 hc1 hc2 hc3 hc4 hc5; have HP := HQ; clear HQ; have hc0 := HP.out.cell 0 rfl; have hc1 := HP.out.cell 1 rfl; have hc2 := HP.out.cell 2 rfl; have hc3 := HP.out.cell 3 rfl; have hc4 := HP.out.cell 4 rfl; have hc5 := HP.out.cell 5 rfl)
              | (go_at_call 167; refine (horariumref16_Known.calls k _ _ (km16 k)).mono ?_; rintro e w3 ⟨rfl, hD⟩; rw [HKm.out]; have hB := hD.below; clear hD; have HQ := Aside0.mk (HP.out.below hB); clear HP hB hc0 hc1 hc2 hc3 hc4 hc5; have HP := HQ; clear HQ; have hc0 := HP.out.cell 0 rfl; have hc1 := HP.out.cell 1 rfl; have hc2 := HP.out.cell 2 rfl; have hc3 := HP.out.cell 3 rfl; have hc4 := HP.out.cell 4 rfl; have hc5 := HP.out.cell 5 rfl)
              | (go_at_call 168; refine (horariumref16_Right.calls 5 k a b _ _ (nums16 k a b)).mono ?_; rintro e w3 ⟨rfl, hD⟩; rw [HNu.out]; have hB := hD.below; clear hD; have HQ := Aside0.mk (HP.out.below hB); clear HP hB hc0 hc1 hc2 hc3 hc4 hc5; have HP := HQ; clear HQ; have hc0 := HP.out.cell 0 rfl; have hc1 := HP.out.cell 1 rfl; have hc2 := HP.out.cell 2 rfl; have hc3 := HP.out.cell 3 rfl; have hc4 := HP.out.cell 4 rfl; have hc5 := HP.out.cell 5 rfl))
            go_ret
            rw [show ruleOk n k cs a b hard cost = false from by unfold ruleOk; simp [HM.out, HKp.out, HKm.out, HNu.out]]
            exact ⟨rfl, HP.out.bel⟩
          | true =>
            have HNu := Aside0.mk hnu
            clear hnu
            go_enter Tryz.func137, Tryz.ntmps137
            go_wp2_with (first
              | ((with_reducible refine gate_dst (N := 3) rfl ?_); refine box_event ?hg (N := 3) ?hd (cs := #[.int .i64 k, .slice A m c, .int .i64 a, .int .i64 b, .bool hard, .int .i64 cost]) (t := 69) ?hr ?_; (case hd => rfl); (case hg => rfl); (case hr => first | (go_simp; done) | (go_simp; rfl)); intro g hg w2 hbox hB; have HP := Aside0.mk (PBox.mk hbox hB (show w.heap.size ≤ g by rw [hg]; exact Nat.le_refl _)); clear hbox hB hg; have hc0 := HP.out.cell 0 rfl; have hc1 := HP.out.cell 1 rfl; have hc2 := HP.out.cell 2 rfl; have hc3 := HP.out.cell 3 rfl; have hc4 := HP.out.cell 4 rfl; have hc5 := HP.out.cell 5 rfl)
              | (go_at_call 166; refine (horariumref15_Known.calls k _ _ (kp15 k)).mono ?_; rintro e w3 ⟨rfl, hD⟩; rw [HKp.out]; have hB := hD.below; clear hD; have HQ := Aside0.mk (HP.out.below hB); clear HP hB hc0 hc1 hc2 hc3 hc4 hc5; have HP := HQ; clear HQ; have hc0 := HP.out.cell 0 rfl; have hc1 := HP.out.cell 1 rfl; have hc2 := HP.out.cell 2 rfl; have hc3 := HP.out.cell 3 rfl; have hc4 := HP.out.cell 4 rfl; have hc5 := HP.out.cell 5 rfl)
              | (go_at_call 167; refine (horariumref16_Known.calls k _ _ (km16 k)).mono ?_; rintro e w3 ⟨rfl, hD⟩; rw [HKm.out]; have hB := hD.below; clear hD; have HQ := Aside0.mk (HP.out.below hB); clear HP hB hc0 hc1 hc2 hc3 hc4 hc5; have HP := HQ; clear HQ; have hc0 := HP.out.cell 0 rfl; have hc1 := HP.out.cell 1 rfl; have hc2 := HP.out.cell 2 rfl; have hc3 := HP.out.cell 3 rfl; have hc4 := HP.out.cell 4 rfl; have hc5 := HP.out.cell 5 rfl)
              | (go_at_call 168; refine (horariumref16_Right.calls 5 k a b _ _ (nums16 k a b)).mono ?_; rintro e w3 ⟨rfl, hD⟩; rw [HNu.out]; have hB := hD.below; clear hD; have HQ := Aside0.mk (HP.out.below hB); clear HP hB hc0 hc1 hc2 hc3 hc4 hc5; have HP := HQ; clear HQ; have hc0 := HP.out.cell 0 rfl; have hc1 := HP.out.cell 1 rfl; have hc2 := HP.out.cell 2 rfl; have hc3 := HP.out.cell 3 rfl; have hc4 := HP.out.cell 4 rfl; have hc5 := HP.out.cell 5 rfl))
            go_loopw [5] (fun v5 wr => ∃ i : Nat, i ≤ m ∧ v5 = .int .i64 i ∧ Aside0 (DstTo n cs i) ∧ Aside0 (PBox w wr g 69 #[.int .i64 k, .slice A m c, .int .i64 a, .int .i64 b, .bool hard, .int .i64 cost])) (fun v5 _ => m - (intOf v5).toNat)
            case atStart => exact ⟨0, Nat.zero_le _, rfl, ⟨DstTo.start _ _⟩, HP⟩
            case round =>
              clear HP hc0 hc1 hc2 hc3 hc4 hc5
              obtain ⟨i, hi, rfl, HD, HP⟩ := hrel
              have hc0 := HP.out.cell 0 rfl; have hc1 := HP.out.cell 1 rfl; have hc2 := HP.out.cell 2 rfl; have hc3 := HP.out.cell 3 rfl; have hc4 := HP.out.cell 4 rfl; have hc5 := HP.out.cell 5 rfl
              by_cases him : i < m
              · have hic : i < cs.length := by have := HM.out; omega
                obtain ⟨x, hx⟩ : ∃ x, x = cs.getD i 0 := ⟨_, rfl⟩
                obtain ⟨ad, rfl, hcell⟩ := int_cell (Kd.C_below HC.out HP.out.bel) hic hx
                have him2 : (i : Int) < (m : Int) := by omega
                have HX := Aside0.mk (And.intro hx hic)
                clear hx hic
                by_cases h0 : x < 0
                · have HR := Aside0.mk (dst_bad (n := n) HX.out.2 (Or.inl (by rw [← HX.out.1]; exact h0)))
                  have h0' : decide (x < 0) = true := decide_eq_true h0
                  go_wp2
                  go_quiet (fail)
                  go_wp2
                  go_ret
                  rw [show ruleOk n k cs a b hard cost = false from by unfold ruleOk; simp [HM.out, HR.out]]
                  exact ⟨rfl, pw_below_drewN HP.out.bel nq⟩
                · have h0' : decide (x < 0) = false := decide_eq_false h0
                  by_cases h1 : n ≤ x
                  · have HR := Aside0.mk (dst_bad (n := n) HX.out.2 (Or.inr (Or.inl (by rw [← HX.out.1]; exact h1))))
                    have h1' : decide (n ≤ x) = true := decide_eq_true h1
                    go_wp2
                    go_quiet (fail)
                    go_wp2
                    go_ret
                    rw [show ruleOk n k cs a b hard cost = false from by unfold ruleOk; simp [HM.out, HR.out]]
                    exact ⟨rfl, pw_below_drewN HP.out.bel nq⟩
                  · have h1' : decide (n ≤ x) = false := decide_eq_false h1
                    have hcut := cutT (some ad) m c i hi hc
                    have HT := Aside0.mk (show (cs.take i).length = i by rw [List.length_take]; have := HM.out; omega)
                    have HTC := Aside0.mk (show (Kd.int .i64).C wr (some ad) (cs.take i).length (cs.take i) from by exact Kd.C_take (m := i) (Kd.C_below HC.out HP.out.bel) (by have := HM.out; omega))
                    by_cases h2 : x ∈ cs.take i
                    · have HR := Aside0.mk (dst_bad (n := n) HX.out.2 (Or.inr (Or.inr (by rw [← HX.out.1]; exact h2))))
                      have HH := Aside0.mk (show (cs.take i).contains x = true by rw [List.contains_eq_mem]; exact decide_eq_true h2)
                      clear h2
                      go_wp2
                      go_quiet (first | (go_at_call 158; exact Calls.quiet_of (HasL_q _ (some ad) i c (cs.take i) x true HT.out HTC.out (by omega) HH.out _)))
                      go_wp2
                      go_ret
                      rw [show ruleOk n k cs a b hard cost = false from by unfold ruleOk; simp [HM.out, HR.out]]
                      exact ⟨rfl, pw_below_drewN HP.out.bel nq⟩
                    · have HH := Aside0.mk (show (cs.take i).contains x = false by rw [List.contains_eq_mem]; exact decide_eq_false h2)
                      have HD2 := Aside0.mk (HD.out.step HX.out.2 (by rw [← HX.out.1]; omega) (by rw [← HX.out.1]; omega) (by rw [← HX.out.1]; exact h2))
                      clear h2
                      go_wp2
                      go_quiet (first | (go_at_call 158; exact Calls.quiet_of (HasL_q _ (some ad) i c (cs.take i) x false HT.out HTC.out (by omega) HH.out _)))
                      go_wp2
                      exact ⟨⟨i + 1, by omega, by go_num, HD2, ⟨HP.out.below (pw_below_drewN (Below.refl _ _) nq)⟩⟩, by simp [intOf]; omega⟩
              · obtain rfl : i = m := by omega
                have HR := Aside0.mk (show dstB n cs = true from DstTo.over (by rw [HM.out]; exact HD.out))
                cases hard with
                | true =>
                  by_cases hz : cost = 0
                  · have hz1 : (cost == 0) = true := by simpa using hz
                    have HZ := Aside0.mk hz
                    clear hz
                    go_wp2
                    go_ret
                    rw [show ruleOk n k cs a b true cost = true from by unfold ruleOk; simp [HM.out, HKp.out, HKm.out, HNu.out, HR.out, show 2 ≤ i by omega, show i ≤ 12 by omega, HZ.out]]
                    exact ⟨rfl, HP.out.bel⟩
                  · have hz1 : (cost == 0) = false := by simpa using hz
                    have hz2 : decide (cost = 0) = false := decide_eq_false hz
                    have HZ := Aside0.mk hz
                    clear hz
                    go_wp2
                    go_ret
                    rw [show ruleOk n k cs a b true cost = false from by unfold ruleOk; simp [HM.out, HKp.out, HKm.out, HNu.out, HR.out, show 2 ≤ i by omega, show i ≤ 12 by omega, HZ.out]]
                    exact ⟨rfl, HP.out.bel⟩
                | false =>
                  by_cases h1 : 1 ≤ cost
                  · by_cases h2 : cost ≤ 1000
                    · have HCo := Aside0.mk (show (decide (0 ≤ cost) && decide (cost ≤ 1000)) = true by rw [Bool.and_eq_true]; exact ⟨decide_eq_true (by omega), decide_eq_true h2⟩)
                      have H1 := Aside0.mk h1
                      have H2 := Aside0.mk h2
                      go_wp2
                      go_ret
                      rw [show ruleOk n k cs a b false cost = true from by unfold ruleOk; simp [HM.out, HKp.out, HKm.out, HNu.out, HR.out, show 2 ≤ i by omega, show i ≤ 12 by omega, H1.out, H2.out]]
                      exact ⟨rfl, HP.out.bel⟩
                    · have HCo := Aside0.mk (show (decide (0 ≤ cost) && decide (cost ≤ 1000)) = false by rw [decide_eq_false h2, Bool.and_false])
                      have h2' : decide (cost ≤ 1000) = false := decide_eq_false h2
                      have H2 := Aside0.mk h2
                      go_wp2
                      go_ret
                      rw [show ruleOk n k cs a b false cost = false from by unfold ruleOk; simp [HM.out, HKp.out, HKm.out, HNu.out, HR.out, show 2 ≤ i by omega, show i ≤ 12 by omega, H2.out]]
                      exact ⟨rfl, HP.out.bel⟩
                  · have h1' : decide (1 ≤ cost) = false := decide_eq_false h1
                    have H1 := Aside0.mk h1
                    go_wp2
                    go_ret
                    rw [show ruleOk n k cs a b false cost = false from by unfold ruleOk; simp [HM.out, HKp.out, HKm.out, HNu.out, HR.out, show 2 ≤ i by omega, show i ≤ 12 by omega, show ¬ 1 ≤ cost by have := H1.out; omega]]
                    exact ⟨rfl, HP.out.bel⟩
    | false =>
      have HKm := Aside0.mk hkm
      clear hkm
      go_enter Tryz.func137, Tryz.ntmps137
      go_wp2_with (first
        | ((with_reducible refine gate_dst (N := 3) rfl ?_); refine box_event ?hg (N := 3) ?hd (cs := #[.int .i64 k, .slice A m c, .int .i64 a, .int .i64 b, .bool hard, .int .i64 cost]) (t := 69) ?hr ?_; (case hd => rfl); (case hg => rfl); (case hr => first | (go_simp; done) | (go_simp; rfl)); intro g hg w2 hbox hB; have HP := Aside0.mk (PBox.mk hbox hB (show w.heap.size ≤ g by rw [hg]; exact Nat.le_refl _)); clear hbox hB hg; have hc0 := HP.out.cell 0 rfl; have hc1 := HP.out.cell 1 rfl; have hc2 := HP.out.cell 2 rfl; have hc3 := HP.out.cell 3 rfl; have hc4 := HP.out.cell 4 rfl; have hc5 := HP.out.cell 5 rfl)
        | (go_at_call 166; refine (horariumref15_Known.calls k _ _ (kp15 k)).mono ?_; rintro e w3 ⟨rfl, hD⟩; rw [HKp.out]; have hB := hD.below; clear hD; have HQ := Aside0.mk (HP.out.below hB); clear HP hB hc0 hc1 hc2 hc3 hc4 hc5; have HP := HQ; clear HQ; have hc0 := HP.out.cell 0 rfl; have hc1 := HP.out.cell 1 rfl; have hc2 := HP.out.cell 2 rfl; have hc3 := HP.out.cell 3 rfl; have hc4 := HP.out.cell 4 rfl; have hc5 := HP.out.cell 5 rfl)
        | (go_at_call 167; refine (horariumref16_Known.calls k _ _ (km16 k)).mono ?_; rintro e w3 ⟨rfl, hD⟩; rw [HKm.out]; have hB := hD.below; clear hD; have HQ := Aside0.mk (HP.out.below hB); clear HP hB hc0 hc1 hc2 hc3 hc4 hc5; have HP := HQ; clear HQ; have hc0 := HP.out.cell 0 rfl; have hc1 := HP.out.cell 1 rfl; have hc2 := HP.out.cell 2 rfl; have hc3 := HP.out.cell 3 rfl; have hc4 := HP.out.cell 4 rfl; have hc5 := HP.out.cell 5 rfl))
      go_ret
      rw [show ruleOk n k cs a b hard cost = false from by unfold ruleOk; simp [HM.out, HKp.out, HKm.out]]
      exact ⟨rfl, HP.out.bel⟩
end Go.Proofs.YtineikfhfmiidaaGreat.Pm
namespace Go.Proofs.YtineikfhfmiidaaGreat.Pm
open Go Go.RowKit Go.Proofs.YtineikfhfmiidaaGreat.Gp Go.Proofs.YtineikfhfmiidaaGreat.Mw Go.Proofs.YtineikfhfmiidaaGreatW.PrintWords Go.Proofs.YtineikfhfmiidaaGreatW.PrintLast Go.Proofs.YtineikfhfmiidaaGreatW.PrintMore
set_option linter.unusedVariables false
set_option linter.unusedSimpArgs false
set_option maxRecDepth 100000 in
set_option maxHeartbeats 4000000 in
theorem RRules_is (w : World) (p : PV) (a : PA) (hsh : Short p) (hr : PRd w p a) :
    Calls Tryz.prog 68 #[.agg (pcs p a)] w fun e w' => e = .returned (.int .i64 (firstN (badR (ruleB (p.classes.length : Int)) 60 p.rules))) ∧ Below w.heap.size w w' := by
  have HSh := Aside0.mk hsh
  have HR := Aside0.mk hr
  obtain ⟨m, hm⟩ : ∃ m, m = p.rules.length := ⟨_, rfl⟩
  have hmx : m ≤ 70 := by have := hsh.2.2.2.2.2.2; omega
  have HM := Aside0.mk hm
  clear hsh hr hm
  have hu40 := Tryz.underlying34
  have hu25 := Tryz.underlying69
  go_enter Tryz.func68, Tryz.ntmps68
  go_wp2_with (first
    | ((with_reducible refine gate_dst (N := 1) rfl ?_); refine box_event ?hg (N := 1) ?hd (cs := pcs p a) (t := 34) ?hr ?_; (case hd => rfl); (case hg => rfl); (case hr => first | (go_simp; done) | (go_simp; rfl)); intro g hg w2 hbox hB; have HP := Aside0.mk (PBox.mk hbox hB (show w.heap.size ≤ g by rw [hg]; exact Nat.le_refl _)); clear hbox hB hg; obtain ⟨hc0, hc1, hc2, hc3, hc4, hc5, hc6, hc7, hc8, hc9, hc10, hc11, hc12, hc13, hc14⟩ := pcx HP.out))
  go_loopw [3] (fun v3 wr => ∃ i : Nat, i ≤ m ∧ v3 = .int .i64 i ∧ Aside0 (∀ j, j < i → badRAt (ruleB (p.classes.length : Int)) 60 p.rules j = false) ∧ Aside0 (PBox w wr g 34 (pcs p a))) (fun v3 _ => m - (intOf v3).toNat)
  case atStart => exact ⟨0, Nat.zero_le _, rfl, ⟨fun j hj => by omega⟩, HP⟩
  case round =>
    clear HP hc0 hc1 hc2 hc3 hc4 hc5 hc6 hc7 hc8 hc9 hc10 hc11 hc12 hc13 hc14
    obtain ⟨i, hi, rfl, HN, HP⟩ := hrel
    have hc7 := pcc7 HP.out
    have hc10 := pcc10 HP.out
    rw [← HM.out] at hc10
    by_cases him : i < m
    · have him2 : (i : Int) < (m : Int) := by omega
      obtain ⟨x, hx⟩ := get_some (l := p.rules) (i := i) (by have := HM.out; omega)
      have HK := Aside0.mk (HR.out.below HP.out.bel)
      obtain ⟨ad, B1, d1, hA, hq0, hq1, hq2, hq3, hq4, hq5, ⟨g1, l1⟩⟩ := elRule HK.out.r10 hx
      rw [hA] at hc10
      have hk1 := (elRule HR.out.r10 hx)
      obtain ⟨ad', B1', d1', hA', -, hq1', -, -, -, -, ⟨g1', l1'⟩⟩ := hk1
      have hsame : B1 = B1' ∧ d1 = d1' := by
        rw [hA] at hA'
        cases hA'
        have := pw_cell_below HP.out.bel hq1'
        rw [hq1] at this
        cases this
        exact ⟨rfl, rfl⟩
      obtain ⟨rfl, rfl⟩ := hsame
      have HX := Aside0.mk hx
      have HG1 := Aside0.mk g1'
      have HL1 := Aside0.mk l1'
      clear hx hA hA' hq1' g1 l1 g1' l1' HK
      by_cases h0 : i = 60
      · have hz : ((i : Int) == 60) = true := by rw [beq_iff_eq]; omega
        have HRs : Aside0 (badR (ruleB (p.classes.length : Int)) 60 p.rules = some i) := ⟨badR_some (by have := HM.out; omega) (badRAt_max HX.out h0) HN.out⟩
        clear h0
        go_wp2
        go_quiet (fail)
        go_wp2
        go_ret
        rw [HRs.out]
        exact ⟨rfl, by repeat (first | exact HP.out.bel | apply pw_below_drewN | apply below_alloc)⟩
      have hz : ((i : Int) == 60) = false := by rw [beq_eq_false_iff_ne]; omega
      have H0 := Aside0.mk h0
      clear h0
      have HPd := Aside0.mk (HP.out.below (below_drew (Below.refl _ _)))
      cases hr : (ruleB (p.classes.length : Int)) x with
      | false =>
        have ER : Aside0 (ruleOk (p.classes.length : Int) x.f0 x.f1 x.f2 x.f3 x.f4 x.f5 = false) := ⟨hr⟩
        have HRs : Aside0 (badR (ruleB (p.classes.length : Int)) 60 p.rules = some i) := ⟨badR_some (by have := HM.out; omega) (badRAt_not HX.out hr) HN.out⟩
        clear hr
        go_wp2
        go_region_held3 (fun w' => w'.cell? ⟨g, 7, none⟩ = some (.slice a.A7 p.classes.length a.c7) ∧ w'.cell? ⟨g, 10, none⟩ = some (.slice (some ad) m a.c10) ∧ w'.cell? (ad.add (i * 6)) = some (.int .i64 x.f0) ∧ w'.cell? ⟨(ad.add (i * 6)).block, (ad.add (i * 6)).off + 1, none⟩ = some (.slice B1 x.f1.length d1) ∧ w'.cell? ⟨(ad.add (i * 6)).block, (ad.add (i * 6)).off + 2, none⟩ = some (.int .i64 x.f2) ∧ w'.cell? ⟨(ad.add (i * 6)).block, (ad.add (i * 6)).off + 3, none⟩ = some (.int .i64 x.f3) ∧ w'.cell? ⟨(ad.add (i * 6)).block, (ad.add (i * 6)).off + 4, none⟩ = some (.bool x.f4) ∧ w'.cell? ⟨(ad.add (i * 6)).block, (ad.add (i * 6)).off + 5, none⟩ = some (.int .i64 x.f5)) (first | exact ⟨hc7, hc10, hq0, hq1, hq2, hq3, hq4, hq5⟩) (first
          | (go_at_call 137; refine (RRule_is _ (p.classes.length : Int) x.f0 B1 x.f1.length d1 x.f1 x.f2 x.f3 x.f4 x.f5 rfl (Kd.C_below HG1.out HPd.out.bel) HL1.out (by have := HSh.out.2.2.2.1; omega)).mono ?_; rintro e w3 ⟨rfl, hB⟩; rw [ER.out]; have HQ := Aside0.mk (HPd.out.below hB); have hc7n := pw_cell_below hB hc7; have hc10n := pw_cell_below hB hc10; have hq0n := pw_cell_below hB hq0; have hq1n := pw_cell_below hB hq1; have hq2n := pw_cell_below hB hq2; have hq3n := pw_cell_below hB hq3; have hq4n := pw_cell_below hB hq4; have hq5n := pw_cell_below hB hq5; clear HPd hB hc7 hc10 hq0 hq1 hq2 hq3 hq4 hq5; have HPd := HQ; clear HQ; have hc7 := hc7n; have hc10 := hc10n; have hq0 := hq0n; have hq1 := hq1n; have hq2 := hq2n; have hq3 := hq3n; have hq4 := hq4n; have hq5 := hq5n))
        go_wp2
        go_ret
        rw [HRs.out]
        exact ⟨rfl, HPd.out.bel⟩
      | true =>
        have ER : Aside0 (ruleOk (p.classes.length : Int) x.f0 x.f1 x.f2 x.f3 x.f4 x.f5 = true) := ⟨hr⟩
        have HA : Aside0 (badRAt (ruleB (p.classes.length : Int)) 60 p.rules i = false) := ⟨badRAt_no HX.out H0.out hr⟩
        clear hr
        go_wp2
        go_region_held3 (fun w' => w'.cell? ⟨g, 7, none⟩ = some (.slice a.A7 p.classes.length a.c7) ∧ w'.cell? ⟨g, 10, none⟩ = some (.slice (some ad) m a.c10) ∧ w'.cell? (ad.add (i * 6)) = some (.int .i64 x.f0) ∧ w'.cell? ⟨(ad.add (i * 6)).block, (ad.add (i * 6)).off + 1, none⟩ = some (.slice B1 x.f1.length d1) ∧ w'.cell? ⟨(ad.add (i * 6)).block, (ad.add (i * 6)).off + 2, none⟩ = some (.int .i64 x.f2) ∧ w'.cell? ⟨(ad.add (i * 6)).block, (ad.add (i * 6)).off + 3, none⟩ = some (.int .i64 x.f3) ∧ w'.cell? ⟨(ad.add (i * 6)).block, (ad.add (i * 6)).off + 4, none⟩ = some (.bool x.f4) ∧ w'.cell? ⟨(ad.add (i * 6)).block, (ad.add (i * 6)).off + 5, none⟩ = some (.int .i64 x.f5)) (first | exact ⟨hc7, hc10, hq0, hq1, hq2, hq3, hq4, hq5⟩) (first
          | (go_at_call 137; refine (RRule_is _ (p.classes.length : Int) x.f0 B1 x.f1.length d1 x.f1 x.f2 x.f3 x.f4 x.f5 rfl (Kd.C_below HG1.out HPd.out.bel) HL1.out (by have := HSh.out.2.2.2.1; omega)).mono ?_; rintro e w3 ⟨rfl, hB⟩; rw [ER.out]; have HQ := Aside0.mk (HPd.out.below hB); have hc7n := pw_cell_below hB hc7; have hc10n := pw_cell_below hB hc10; have hq0n := pw_cell_below hB hq0; have hq1n := pw_cell_below hB hq1; have hq2n := pw_cell_below hB hq2; have hq3n := pw_cell_below hB hq3; have hq4n := pw_cell_below hB hq4; have hq5n := pw_cell_below hB hq5; clear HPd hB hc7 hc10 hq0 hq1 hq2 hq3 hq4 hq5; have HPd := HQ; clear HQ; have hc7 := hc7n; have hc10 := hc10n; have hq0 := hq0n; have hq1 := hq1n; have hq2 := hq2n; have hq3 := hq3n; have hq4 := hq4n; have hq5 := hq5n))
        go_wp2
        exact ⟨⟨i + 1, by omega, by go_num, ⟨more_all' HN.out HA.out⟩, HPd⟩, by simp [intOf]; omega⟩
    · obtain rfl : i = m := by omega
      have HRs : Aside0 (badR (ruleB (p.classes.length : Int)) 60 p.rules = none) := ⟨badR_none (fun j hj => HN.out j (by have := HM.out; omega))⟩
      go_wp2
      go_ret
      rw [HRs.out]
      exact ⟨rfl, HP.out.bel⟩
end Go.Proofs.YtineikfhfmiidaaGreat.Pm
namespace Go.Proofs.YtineikfhfmiidaaGreat.Pm
open Go Go.RowKit Go.Proofs.YtineikfhfmiidaaGreat.Gp Go.Proofs.YtineikfhfmiidaaGreat.Mw Go.Proofs.YtineikfhfmiidaaGreatW.PrintWords Go.Proofs.YtineikfhfmiidaaGreatW.PrintLast Go.Proofs.YtineikfhfmiidaaGreatW.PrintMore
set_option linter.unusedVariables false
set_option linter.unusedSimpArgs false
theorem RWhens_is (w : World) (g0 g1 g2 : Int) (A : Option Addr) (c : Nat) (l : List S50) (h : Kd.C k50 w A l.length l) (hc : l.length ≤ c) (hg : ∀ y, y ∈ l → GoodW y) :
    Calls Tryz.prog 163 #[.agg #[.int .i64 g0, .int .i64 g1, .int .i64 g2], .slice A l.length c, .int .i64 16] w fun e w' => e = .returned (.bool (whensB g0 g1 g2 l)) ∧ Below w.heap.size w w' := by
  obtain ⟨k, hk⟩ := (rwhens g0 g1 g2 l (Kd.C_max h) hg).rounds
  exact Gp.horariumref11_Whens.calls k g0 g1 g2 A c l 16 _ w h hc hk
theorem RRis_is (w : World) (n : Int) (A : Option Addr) (c : Nat) (l : List Int) (h : Kd.C (Kd.int .i64) w A l.length l) (hc : l.length ≤ c) :
    Calls Tryz.prog 29 #[.slice A l.length c, .int .i64 n] w fun e w' => e = .returned (.bool (upB n l)) ∧ Below w.heap.size w w' := by
  obtain ⟨k, hk⟩ := (rris l n (Kd.C_max h)).rounds
  refine (Gp.horariumref13_Rising.calls k A c l n _ w h hc hk).mono ?_
  rintro e w' ⟨rfl, hD⟩
  exact ⟨rfl, hD.below⟩
theorem RTimes_is (w : World) (g0 g1 g2 : Int) (A : Option Addr) (c : Nat) (l : List S117) (h : Kd.C k117 w A l.length l) (hc : l.length ≤ c) (hg : ∀ y, y ∈ l → GoodW y.f0) :
    Calls Tryz.prog 164 #[.agg #[.int .i64 g0, .int .i64 g1, .int .i64 g2], .slice A l.length c] w fun e w' => e = .returned (.bool (timesB g0 g1 g2 l)) ∧ Below w.heap.size w w' := by
  obtain ⟨k, hk⟩ := (rtimes g0 g1 g2 l (Kd.C_max h) hg).rounds
  exact Gp.horariumref13_times.calls k g0 g1 g2 A c l _ w h hc hk
theorem RPlaces_is (w : World) (n : Int) (A : Option Addr) (c : Nat) (l : List S120) (h : Kd.C k120 w A l.length l) (hc : l.length ≤ c) :
    Calls Tryz.prog 165 #[.int .i64 n, .slice A l.length c] w fun e w' => e = .returned (.bool (placesB n l)) ∧ Below w.heap.size w w' := by
  obtain ⟨k, hk⟩ := (rplaces n l (Kd.C_max h)).rounds
  refine (Gp.horariumref13_places.calls k n A c l _ w h hc hk).mono ?_
  rintro e w' ⟨rfl, hD⟩
  exact ⟨rfl, hD.below⟩
theorem RCourse_is (w : World) (n : Int) (x : S61) (B1 : Option Addr) (d1 : Nat) (h1 : Kd.C k63 w B1 x.f1.length x.f1) (l1 : x.f1.length ≤ d1) :
    Calls Tryz.prog 135 #[.int .i64 n, .agg #[.string x.f0, .slice B1 x.f1.length d1]] w fun e w' => e = .returned (.bool (courseB n x)) ∧ Below w.heap.size w w' := by
  obtain ⟨k, hk⟩ := (rcourse n x (Kd.C_max h1) (fun y hy l hl => by
    obtain ⟨j, hj⟩ := List.mem_iff_getElem?.1 hy
    obtain ⟨_, _, _, _, _, g2⟩ := elWay h1 hj
    obtain ⟨q, hq⟩ := List.mem_iff_getElem?.1 hl
    obtain ⟨_, _, _, _, _, g3⟩ := elPart g2 hq
    exact Kd.C_max g3)).rounds
  exact Gp.horariumref14_Right.calls k n x.f0 B1 d1 x.f1 _ w h1 l1 hk
set_option maxRecDepth 100000 in
set_option maxHeartbeats 4000000 in
theorem RRoom_is (w : World) (g0 g1 g2 : Int) (x : S47) (B3 : Option Addr) (d3 : Nat) (h3 : Kd.C k50 w B3 x.f3.length x.f3) (l3 : x.f3.length ≤ d3) (hg : ∀ y, y ∈ x.f3 → GoodW y) :
    Calls Tryz.prog 131 #[.agg #[.int .i64 g0, .int .i64 g1, .int .i64 g2], .agg #[.string x.f0, .int .i64 x.f1, .int .u16 x.f2, .slice B3 x.f3.length d3]] w fun e w' => e = .returned (.bool (roomB g0 g1 g2 x)) ∧ Below w.heap.size w w' := by
  have HC3 := Aside0.mk h3
  have HL3 := Aside0.mk l3
  clear h3 l3
  have HG := Aside0.mk hg
  clear hg
  have hut := Tryz.underlying47
  have hug := Tryz.underlying23
  unfold roomB
  generalize hqb1 : gridB g0 g1 g2 = b1
  have Fb1 := Aside0.mk hqb1
  clear hqb1
  generalize hqb2 : nameB x.f0 = b2
  have Fb2 := Aside0.mk hqb2
  clear hqb2
  generalize hqb3 : whensB g0 g1 g2 x.f3 = b3
  have Fb3 := Aside0.mk hqb3
  clear hqb3
  go_enter Tryz.func131, Tryz.ntmps131
  go_wp2_with (first
    | ((with_reducible refine gate_dst (N := 2) rfl ?_); refine box_event ?hg (N := 2) ?hd (cs := #[.int .i64 g0, .int .i64 g1, .int .i64 g2]) (t := 23) ?hr ?_; (case hd => rfl); (case hg => rfl); (case hr => first | (go_simp; done) | (go_simp; rfl)); intro gx hgx w2 hbox hB; have HP := Aside0.mk (PBox.mk hbox hB (show w.heap.size ≤ gx by rw [hgx]; exact Nat.le_refl _)); clear hbox hB hgx)
    | ((with_reducible refine gate_dst (N := 3) rfl ?_); refine box_event ?hg (N := 3) ?hd (cs := #[.string x.f0, .int .i64 x.f1, .int .u16 x.f2, .slice B3 x.f3.length d3]) (t := 47) ?hr ?_; (case hd => rfl); (case hg => rfl); (case hr => first | (go_simp; done) | (go_simp; rfl)); intro gx hgx w2 hbox hB; have C2 := Aside0.mk (And.intro (HP.out.below hB) (PBox.mk hbox (below_then HP.out.bel HP.out.bel.size hB) (show w.heap.size ≤ gx by rw [hgx]; exact HP.out.bel.size))); clear HP; have hc0 := C2.out.1.cell 0 rfl; have hc1 := C2.out.1.cell 1 rfl; have hc2 := C2.out.1.cell 2 rfl; have hd0 := C2.out.2.cell 0 rfl; have hd1 := C2.out.2.cell 1 rfl; have hd2 := C2.out.2.cell 2 rfl; have hd3 := C2.out.2.cell 3 rfl; clear hbox hB hgx)
    | (go_at_call 61; refine (Gp.horariumref09_RightGrid.calls g0 g1 g2 _ _ (rgrid g0 g1 g2)).mono ?_; rintro e w4 ⟨rfl, hB⟩; rw [Fb1.out]; have CQ := Aside0.mk (And.intro (C2.out.1.below hB) (C2.out.2.below hB)); clear C2 hB hc0 hc1 hc2 hd0 hd1 hd2 hd3; have C2 := CQ; clear CQ; have hc0 := C2.out.1.cell 0 rfl; have hc1 := C2.out.1.cell 1 rfl; have hc2 := C2.out.1.cell 2 rfl; have hd0 := C2.out.2.cell 0 rfl; have hd1 := C2.out.2.cell 1 rfl; have hd2 := C2.out.2.cell 2 rfl; have hd3 := C2.out.2.cell 3 rfl)
    | (go_at_call 60; refine (Gp.horariumref11_Name.calls x.f0 _ _ (rname x.f0)).mono ?_; rintro e w4 ⟨rfl, hD⟩; have hB := hD.below; clear hD; rw [Fb2.out]; have CQ := Aside0.mk (And.intro (C2.out.1.below hB) (C2.out.2.below hB)); clear C2 hB hc0 hc1 hc2 hd0 hd1 hd2 hd3; have C2 := CQ; clear CQ; have hc0 := C2.out.1.cell 0 rfl; have hc1 := C2.out.1.cell 1 rfl; have hc2 := C2.out.1.cell 2 rfl; have hd0 := C2.out.2.cell 0 rfl; have hd1 := C2.out.2.cell 1 rfl; have hd2 := C2.out.2.cell 2 rfl; have hd3 := C2.out.2.cell 3 rfl)
    | (go_at_call 163; refine (RWhens_is _ g0 g1 g2 B3 d3 x.f3 (Kd.C_below HC3.out C2.out.1.bel) HL3.out HG.out).mono ?_; rintro e w4 ⟨rfl, hB⟩; rw [Fb3.out]; have CQ := Aside0.mk (And.intro (C2.out.1.below hB) (C2.out.2.below hB)); clear C2 hB hc0 hc1 hc2 hd0 hd1 hd2 hd3; have C2 := CQ; clear CQ; have hc0 := C2.out.1.cell 0 rfl; have hc1 := C2.out.1.cell 1 rfl; have hc2 := C2.out.1.cell 2 rfl; have hd0 := C2.out.2.cell 0 rfl; have hd1 := C2.out.2.cell 1 rfl; have hd2 := C2.out.2.cell 2 rfl; have hd3 := C2.out.2.cell 3 rfl))
  all_goals
    go_ret
    refine ⟨?_, C2.out.1.bel⟩
    try (first | rw [show b1 = true from ‹b1 = true›] | rw [show b1 = false from Bool.eq_false_iff.2 ‹¬b1 = true›] | rw [notT ‹(!b1) = true›] | rw [notF ‹(!b1) = false›])
    try (first | rw [show b2 = true from ‹b2 = true›] | rw [show b2 = false from Bool.eq_false_iff.2 ‹¬b2 = true›] | rw [notT ‹(!b2) = true›] | rw [notF ‹(!b2) = false›])
    try (first | rw [show b3 = true from ‹b3 = true›] | rw [show b3 = false from Bool.eq_false_iff.2 ‹¬b3 = true›] | rw [notT ‹(!b3) = true›] | rw [notF ‹(!b3) = false›])
    try (first | rw [decide_eq_true (show 0 ≤ x.f1 by omega)] | rw [decide_eq_false (show ¬ (0 ≤ x.f1) by omega)])
    try (first | rw [decide_eq_true (show x.f1 ≤ 10000 by omega)] | rw [decide_eq_false (show ¬ (x.f1 ≤ 10000) by omega)])
    first | rfl | exact congrArg _ (congrArg _ (decide_eq_decide.2 (by omega)))
set_option maxRecDepth 100000 in
set_option maxHeartbeats 4000000 in
theorem RPerson_is (w : World) (g0 g1 g2 : Int) (x : S53) (B1 : Option Addr) (d1 : Nat) (h1 : Kd.C k50 w B1 x.f1.length x.f1) (l1 : x.f1.length ≤ d1) (hg : ∀ y, y ∈ x.f1 → GoodW y) :
    Calls Tryz.prog 133 #[.agg #[.int .i64 g0, .int .i64 g1, .int .i64 g2], .agg #[.string x.f0, .slice B1 x.f1.length d1]] w fun e w' => e = .returned (.bool (personB g0 g1 g2 x)) ∧ Below w.heap.size w w' := by
  have HC1 := Aside0.mk h1
  have HL1 := Aside0.mk l1
  clear h1 l1
  have HG := Aside0.mk hg
  clear hg
  have hut := Tryz.underlying53
  have hug := Tryz.underlying23
  unfold personB
  generalize hqb1 : gridB g0 g1 g2 = b1
  have Fb1 := Aside0.mk hqb1
  clear hqb1
  generalize hqb2 : nameB x.f0 = b2
  have Fb2 := Aside0.mk hqb2
  clear hqb2
  generalize hqb3 : whensB g0 g1 g2 x.f1 = b3
  have Fb3 := Aside0.mk hqb3
  clear hqb3
  go_enter Tryz.func133, Tryz.ntmps133
  go_wp2_with (first
    | ((with_reducible refine gate_dst (N := 2) rfl ?_); refine box_event ?hg (N := 2) ?hd (cs := #[.int .i64 g0, .int .i64 g1, .int .i64 g2]) (t := 23) ?hr ?_; (case hd => rfl); (case hg => rfl); (case hr => first | (go_simp; done) | (go_simp; rfl)); intro gx hgx w2 hbox hB; have HP := Aside0.mk (PBox.mk hbox hB (show w.heap.size ≤ gx by rw [hgx]; exact Nat.le_refl _)); clear hbox hB hgx)
    | ((with_reducible refine gate_dst (N := 3) rfl ?_); refine box_event ?hg (N := 3) ?hd (cs := #[.string x.f0, .slice B1 x.f1.length d1]) (t := 53) ?hr ?_; (case hd => rfl); (case hg => rfl); (case hr => first | (go_simp; done) | (go_simp; rfl)); intro gx hgx w2 hbox hB; have C2 := Aside0.mk (And.intro (HP.out.below hB) (PBox.mk hbox (below_then HP.out.bel HP.out.bel.size hB) (show w.heap.size ≤ gx by rw [hgx]; exact HP.out.bel.size))); clear HP; have hc0 := C2.out.1.cell 0 rfl; have hc1 := C2.out.1.cell 1 rfl; have hc2 := C2.out.1.cell 2 rfl; have hd0 := C2.out.2.cell 0 rfl; have hd1 := C2.out.2.cell 1 rfl; clear hbox hB hgx)
    | (go_at_call 61; refine (Gp.horariumref09_RightGrid.calls g0 g1 g2 _ _ (rgrid g0 g1 g2)).mono ?_; rintro e w4 ⟨rfl, hB⟩; rw [Fb1.out]; have CQ := Aside0.mk (And.intro (C2.out.1.below hB) (C2.out.2.below hB)); clear C2 hB hc0 hc1 hc2 hd0 hd1; have C2 := CQ; clear CQ; have hc0 := C2.out.1.cell 0 rfl; have hc1 := C2.out.1.cell 1 rfl; have hc2 := C2.out.1.cell 2 rfl; have hd0 := C2.out.2.cell 0 rfl; have hd1 := C2.out.2.cell 1 rfl)
    | (go_at_call 60; refine (Gp.horariumref11_Name.calls x.f0 _ _ (rname x.f0)).mono ?_; rintro e w4 ⟨rfl, hD⟩; have hB := hD.below; clear hD; rw [Fb2.out]; have CQ := Aside0.mk (And.intro (C2.out.1.below hB) (C2.out.2.below hB)); clear C2 hB hc0 hc1 hc2 hd0 hd1; have C2 := CQ; clear CQ; have hc0 := C2.out.1.cell 0 rfl; have hc1 := C2.out.1.cell 1 rfl; have hc2 := C2.out.1.cell 2 rfl; have hd0 := C2.out.2.cell 0 rfl; have hd1 := C2.out.2.cell 1 rfl)
    | (go_at_call 163; refine (RWhens_is _ g0 g1 g2 B1 d1 x.f1 (Kd.C_below HC1.out C2.out.1.bel) HL1.out HG.out).mono ?_; rintro e w4 ⟨rfl, hB⟩; rw [Fb3.out]; have CQ := Aside0.mk (And.intro (C2.out.1.below hB) (C2.out.2.below hB)); clear C2 hB hc0 hc1 hc2 hd0 hd1; have C2 := CQ; clear CQ; have hc0 := C2.out.1.cell 0 rfl; have hc1 := C2.out.1.cell 1 rfl; have hc2 := C2.out.1.cell 2 rfl; have hd0 := C2.out.2.cell 0 rfl; have hd1 := C2.out.2.cell 1 rfl))
  all_goals
    go_ret
    refine ⟨?_, C2.out.1.bel⟩
    try (first | rw [show b1 = true from ‹b1 = true›] | rw [show b1 = false from Bool.eq_false_iff.2 ‹¬b1 = true›] | rw [notT ‹(!b1) = true›] | rw [notF ‹(!b1) = false›])
    try (first | rw [show b2 = true from ‹b2 = true›] | rw [show b2 = false from Bool.eq_false_iff.2 ‹¬b2 = true›] | rw [notT ‹(!b2) = true›] | rw [notF ‹(!b2) = false›])
    try (first | rw [show b3 = true from ‹b3 = true›] | rw [show b3 = false from Bool.eq_false_iff.2 ‹¬b3 = true›] | rw [notT ‹(!b3) = true›] | rw [notF ‹(!b3) = false›])
    first | rfl | exact congrArg _ (congrArg _ (decide_eq_decide.2 (by omega)))
theorem classB_eq (g0 g1 g2 nr np nc : Int) (x : S58) : classB g0 g1 g2 nr np nc x = (gridB g0 g1 g2 && (nameB x.f0 && (decide (0 ≤ x.f1) && (decide (x.f1 ≤ 10000) && (decide (x.f3.length ≤ 4) && (upB np x.f3 && (timesB g0 g1 g2 x.f4 && (placesB nr x.f5 && (decide (-1 ≤ x.f6) && decide (x.f6 < nc)))))))))) := by
  unfold classB folkB
  cases gridB g0 g1 g2 <;> cases nameB x.f0 <;> cases decide (0 ≤ x.f1) <;> cases decide (x.f1 ≤ 10000) <;> cases decide (x.f3.length ≤ 4) <;> cases upB np x.f3 <;> cases timesB g0 g1 g2 x.f4 <;> cases placesB nr x.f5 <;> cases decide (-1 ≤ x.f6) <;> cases decide (x.f6 < nc) <;> rfl
set_option maxRecDepth 100000 in
set_option maxHeartbeats 4000000 in
theorem RClass_is (w : World) (g0 g1 g2 nr np nc : Int) (x : S58) (B3 : Option Addr) (d3 : Nat) (B4 : Option Addr) (d4 : Nat) (B5 : Option Addr) (d5 : Nat) (h3 : Kd.C (Kd.int .i64) w B3 x.f3.length x.f3) (l3 : x.f3.length ≤ d3) (h4 : Kd.C k117 w B4 x.f4.length x.f4) (l4 : x.f4.length ≤ d4) (h5 : Kd.C k120 w B5 x.f5.length x.f5) (l5 : x.f5.length ≤ d5) (hg : ∀ y, y ∈ x.f4 → GoodW y.f0) :
    Calls Tryz.prog 134 #[.agg #[.int .i64 g0, .int .i64 g1, .int .i64 g2], .int .i64 nr, .int .i64 np, .int .i64 nc, .agg #[.string x.f0, .int .i64 x.f1, .int .u16 x.f2, .slice B3 x.f3.length d3, .slice B4 x.f4.length d4, .slice B5 x.f5.length d5, .int .i64 x.f6]] w fun e w' => e = .returned (.bool (classB g0 g1 g2 nr np nc x)) ∧ Below w.heap.size w w' := by
  have HC3 := Aside0.mk h3
  have HL3 := Aside0.mk l3
  clear h3 l3
  have HC4 := Aside0.mk h4
  have HL4 := Aside0.mk l4
  clear h4 l4
  have HC5 := Aside0.mk h5
  have HL5 := Aside0.mk l5
  clear h5 l5
  have HG := Aside0.mk hg
  clear hg
  have hut := Tryz.underlying58
  have hug := Tryz.underlying23
  rw [classB_eq]
  generalize hqb1 : gridB g0 g1 g2 = b1
  have Fb1 := Aside0.mk hqb1
  clear hqb1
  generalize hqb2 : nameB x.f0 = b2
  have Fb2 := Aside0.mk hqb2
  clear hqb2
  generalize hqb3 : upB np x.f3 = b3
  have Fb3 := Aside0.mk hqb3
  clear hqb3
  generalize hqb4 : timesB g0 g1 g2 x.f4 = b4
  have Fb4 := Aside0.mk hqb4
  clear hqb4
  generalize hqb5 : placesB nr x.f5 = b5
  have Fb5 := Aside0.mk hqb5
  clear hqb5
  go_enter Tryz.func134, Tryz.ntmps134
  go_wp2_with (first
    | ((with_reducible refine gate_dst (N := 5) rfl ?_); refine box_event ?hg (N := 5) ?hd (cs := #[.int .i64 g0, .int .i64 g1, .int .i64 g2]) (t := 23) ?hr ?_; (case hd => rfl); (case hg => rfl); (case hr => first | (go_simp; done) | (go_simp; rfl)); intro gx hgx w2 hbox hB; have HP := Aside0.mk (PBox.mk hbox hB (show w.heap.size ≤ gx by rw [hgx]; exact Nat.le_refl _)); clear hbox hB hgx)
    | ((with_reducible refine gate_dst (N := 9) rfl ?_); refine box_event ?hg (N := 9) ?hd (cs := #[.string x.f0, .int .i64 x.f1, .int .u16 x.f2, .slice B3 x.f3.length d3, .slice B4 x.f4.length d4, .slice B5 x.f5.length d5, .int .i64 x.f6]) (t := 58) ?hr ?_; (case hd => rfl); (case hg => rfl); (case hr => first | (go_simp; done) | (go_simp; rfl)); intro gx hgx w2 hbox hB; have C2 := Aside0.mk (And.intro (HP.out.below hB) (PBox.mk hbox (below_then HP.out.bel HP.out.bel.size hB) (show w.heap.size ≤ gx by rw [hgx]; exact HP.out.bel.size))); clear HP; have hc0 := C2.out.1.cell 0 rfl; have hc1 := C2.out.1.cell 1 rfl; have hc2 := C2.out.1.cell 2 rfl; have hd0 := C2.out.2.cell 0 rfl; have hd1 := C2.out.2.cell 1 rfl; have hd2 := C2.out.2.cell 2 rfl; have hd3 := C2.out.2.cell 3 rfl; have hd4 := C2.out.2.cell 4 rfl; have hd5 := C2.out.2.cell 5 rfl; have hd6 := C2.out.2.cell 6 rfl; clear hbox hB hgx)
    | (go_at_call 61; refine (Gp.horariumref09_RightGrid.calls g0 g1 g2 _ _ (rgrid g0 g1 g2)).mono ?_; rintro e w4 ⟨rfl, hB⟩; rw [Fb1.out]; have CQ := Aside0.mk (And.intro (C2.out.1.below hB) (C2.out.2.below hB)); clear C2 hB hc0 hc1 hc2 hd0 hd1 hd2 hd3 hd4 hd5 hd6; have C2 := CQ; clear CQ; have hc0 := C2.out.1.cell 0 rfl; have hc1 := C2.out.1.cell 1 rfl; have hc2 := C2.out.1.cell 2 rfl; have hd0 := C2.out.2.cell 0 rfl; have hd1 := C2.out.2.cell 1 rfl; have hd2 := C2.out.2.cell 2 rfl; have hd3 := C2.out.2.cell 3 rfl; have hd4 := C2.out.2.cell 4 rfl; have hd5 := C2.out.2.cell 5 rfl; have hd6 := C2.out.2.cell 6 rfl)
    | (go_at_call 60; refine (Gp.horariumref11_Name.calls x.f0 _ _ (rname x.f0)).mono ?_; rintro e w4 ⟨rfl, hD⟩; have hB := hD.below; clear hD; rw [Fb2.out]; have CQ := Aside0.mk (And.intro (C2.out.1.below hB) (C2.out.2.below hB)); clear C2 hB hc0 hc1 hc2 hd0 hd1 hd2 hd3 hd4 hd5 hd6; have C2 := CQ; clear CQ; have hc0 := C2.out.1.cell 0 rfl; have hc1 := C2.out.1.cell 1 rfl; have hc2 := C2.out.1.cell 2 rfl; have hd0 := C2.out.2.cell 0 rfl; have hd1 := C2.out.2.cell 1 rfl; have hd2 := C2.out.2.cell 2 rfl; have hd3 := C2.out.2.cell 3 rfl; have hd4 := C2.out.2.cell 4 rfl; have hd5 := C2.out.2.cell 5 rfl; have hd6 := C2.out.2.cell 6 rfl)
    | (go_at_call 29; refine (RRis_is _ np B3 d3 x.f3 (Kd.C_below HC3.out C2.out.1.bel) HL3.out).mono ?_; rintro e w4 ⟨rfl, hB⟩; rw [Fb3.out]; have CQ := Aside0.mk (And.intro (C2.out.1.below hB) (C2.out.2.below hB)); clear C2 hB hc0 hc1 hc2 hd0 hd1 hd2 hd3 hd4 hd5 hd6; have C2 := CQ; clear CQ; have hc0 := C2.out.1.cell 0 rfl; have hc1 := C2.out.1.cell 1 rfl; have hc2 := C2.out.1.cell 2 rfl; have hd0 := C2.out.2.cell 0 rfl; have hd1 := C2.out.2.cell 1 rfl; have hd2 := C2.out.2.cell 2 rfl; have hd3 := C2.out.2.cell 3 rfl; have hd4 := C2.out.2.cell 4 rfl; have hd5 := C2.out.2.cell 5 rfl; have hd6 := C2.out.2.cell 6 rfl)
    | (go_at_call 164; refine (RTimes_is _ g0 g1 g2 B4 d4 x.f4 (Kd.C_below HC4.out C2.out.1.bel) HL4.out HG.out).mono ?_; rintro e w4 ⟨rfl, hB⟩; rw [Fb4.out]; have CQ := Aside0.mk (And.intro (C2.out.1.below hB) (C2.out.2.below hB)); clear C2 hB hc0 hc1 hc2 hd0 hd1 hd2 hd3 hd4 hd5 hd6; have C2 := CQ; clear CQ; have hc0 := C2.out.1.cell 0 rfl; have hc1 := C2.out.1.cell 1 rfl; have hc2 := C2.out.1.cell 2 rfl; have hd0 := C2.out.2.cell 0 rfl; have hd1 := C2.out.2.cell 1 rfl; have hd2 := C2.out.2.cell 2 rfl; have hd3 := C2.out.2.cell 3 rfl; have hd4 := C2.out.2.cell 4 rfl; have hd5 := C2.out.2.cell 5 rfl; have hd6 := C2.out.2.cell 6 rfl)
    | (go_at_call 165; refine (RPlaces_is _ nr B5 d5 x.f5 (Kd.C_below HC5.out C2.out.1.bel) HL5.out).mono ?_; rintro e w4 ⟨rfl, hB⟩; rw [Fb5.out]; have CQ := Aside0.mk (And.intro (C2.out.1.below hB) (C2.out.2.below hB)); clear C2 hB hc0 hc1 hc2 hd0 hd1 hd2 hd3 hd4 hd5 hd6; have C2 := CQ; clear CQ; have hc0 := C2.out.1.cell 0 rfl; have hc1 := C2.out.1.cell 1 rfl; have hc2 := C2.out.1.cell 2 rfl; have hd0 := C2.out.2.cell 0 rfl; have hd1 := C2.out.2.cell 1 rfl; have hd2 := C2.out.2.cell 2 rfl; have hd3 := C2.out.2.cell 3 rfl; have hd4 := C2.out.2.cell 4 rfl; have hd5 := C2.out.2.cell 5 rfl; have hd6 := C2.out.2.cell 6 rfl))
  all_goals
    go_ret
    refine ⟨?_, C2.out.1.bel⟩
    try (first | rw [show b1 = true from ‹b1 = true›] | rw [show b1 = false from Bool.eq_false_iff.2 ‹¬b1 = true›] | rw [notT ‹(!b1) = true›] | rw [notF ‹(!b1) = false›])
    try (first | rw [show b2 = true from ‹b2 = true›] | rw [show b2 = false from Bool.eq_false_iff.2 ‹¬b2 = true›] | rw [notT ‹(!b2) = true›] | rw [notF ‹(!b2) = false›])
    try (first | rw [show b3 = true from ‹b3 = true›] | rw [show b3 = false from Bool.eq_false_iff.2 ‹¬b3 = true›] | rw [notT ‹(!b3) = true›] | rw [notF ‹(!b3) = false›])
    try (first | rw [show b4 = true from ‹b4 = true›] | rw [show b4 = false from Bool.eq_false_iff.2 ‹¬b4 = true›] | rw [notT ‹(!b4) = true›] | rw [notF ‹(!b4) = false›])
    try (first | rw [show b5 = true from ‹b5 = true›] | rw [show b5 = false from Bool.eq_false_iff.2 ‹¬b5 = true›] | rw [notT ‹(!b5) = true›] | rw [notF ‹(!b5) = false›])
    try (first | rw [decide_eq_true (show 0 ≤ x.f1 by omega)] | rw [decide_eq_false (show ¬ (0 ≤ x.f1) by omega)])
    try (first | rw [decide_eq_true (show x.f1 ≤ 10000 by omega)] | rw [decide_eq_false (show ¬ (x.f1 ≤ 10000) by omega)])
    try (first | rw [decide_eq_true (show x.f3.length ≤ 4 by omega)] | rw [decide_eq_false (show ¬ (x.f3.length ≤ 4) by omega)])
    try (first | rw [decide_eq_true (show -1 ≤ x.f6 by omega)] | rw [decide_eq_false (show ¬ (-1 ≤ x.f6) by omega)])
    first | rfl | exact congrArg _ (congrArg _ (decide_eq_decide.2 (by omega)))
set_option maxRecDepth 100000 in
set_option maxHeartbeats 4000000 in
theorem RStudent_is (w : World) (n : Int) (x : S66) (B1 : Option Addr) (d1 : Nat) (h1 : Kd.C (Kd.int .i64) w B1 x.f1.length x.f1) (l1 : x.f1.length ≤ d1) :
    Calls Tryz.prog 136 #[.int .i64 n, .agg #[.string x.f0, .slice B1 x.f1.length d1]] w fun e w' => e = .returned (.bool (studentB n x)) ∧ Below w.heap.size w w' := by
  have HC1 := Aside0.mk h1
  have HL1 := Aside0.mk l1
  clear h1 l1
  have hut := Tryz.underlying66
  unfold studentB
  rw [up_of]
  generalize hqb2 : nameB x.f0 = b2
  have Fb2 := Aside0.mk hqb2
  clear hqb2
  generalize hqb3 : upB n x.f1 = b3
  have Fb3 := Aside0.mk hqb3
  clear hqb3
  go_enter Tryz.func136, Tryz.ntmps136
  go_wp2_with (first
    | ((with_reducible refine gate_dst (N := 3) rfl ?_); refine box_event ?hg (N := 3) ?hd (cs := #[.string x.f0, .slice B1 x.f1.length d1]) (t := 66) ?hr ?_; (case hd => rfl); (case hg => rfl); (case hr => first | (go_simp; done) | (go_simp; rfl)); intro gx hgx w2 hbox hB; have HP := Aside0.mk (PBox.mk hbox hB (show w.heap.size ≤ gx by rw [hgx]; exact Nat.le_refl _)); have hc0 := HP.out.cell 0 rfl; have hc1 := HP.out.cell 1 rfl; clear hbox hB hgx)
    | (go_at_call 60; refine (Gp.horariumref11_Name.calls x.f0 _ _ (rname x.f0)).mono ?_; rintro e w4 ⟨rfl, hD⟩; have hB := hD.below; clear hD; rw [Fb2.out]; have HQ := Aside0.mk (HP.out.below hB); clear HP hB hc0 hc1; have HP := HQ; clear HQ; have hc0 := HP.out.cell 0 rfl; have hc1 := HP.out.cell 1 rfl)
    | (go_at_call 29; refine (RRis_is _ n B1 d1 x.f1 (Kd.C_below HC1.out HP.out.bel) HL1.out).mono ?_; rintro e w4 ⟨rfl, hB⟩; rw [Fb3.out]; have HQ := Aside0.mk (HP.out.below hB); clear HP hB hc0 hc1; have HP := HQ; clear HQ; have hc0 := HP.out.cell 0 rfl; have hc1 := HP.out.cell 1 rfl))
  all_goals
    go_ret
    refine ⟨?_, HP.out.bel⟩
    try (first | rw [show b2 = true from ‹b2 = true›] | rw [show b2 = false from Bool.eq_false_iff.2 ‹¬b2 = true›] | rw [notT ‹(!b2) = true›] | rw [notF ‹(!b2) = false›])
    try (first | rw [show b3 = true from ‹b3 = true›] | rw [show b3 = false from Bool.eq_false_iff.2 ‹¬b3 = true›] | rw [notT ‹(!b3) = true›] | rw [notF ‹(!b3) = false›])
    try (first | rw [decide_eq_true (show x.f1.length ≤ 6 by omega)] | rw [decide_eq_false (show ¬ (x.f1.length ≤ 6) by omega)])
    first | rfl | exact congrArg _ (congrArg _ (decide_eq_decide.2 (by omega)))
end Go.Proofs.YtineikfhfmiidaaGreat.Pm
namespace Go.Proofs.YtineikfhfmiidaaGreat.Pm
open Go Go.RowKit Go.Proofs.YtineikfhfmiidaaGreat.Gp Go.Proofs.YtineikfhfmiidaaGreat.Mw Go.Proofs.YtineikfhfmiidaaGreatW.PrintWords Go.Proofs.YtineikfhfmiidaaGreatW.PrintLast Go.Proofs.YtineikfhfmiidaaGreatW.PrintMore
set_option linter.unusedVariables false
set_option linter.unusedSimpArgs false
/-- What the document's loop keeps: the problem's box, the names, what may be. -/
structure RW (w W : World) (g : Nat) (p : PV) (a : PA) (v3 v4 : Value) (ns : List ByteArray) (rs : List Bool) : Prop where
  box : PBox w W g 34 (pcs p a)
  n : Kd.R Kd.string 9 W w.heap.size (fun _ => True) v3 ns
  r : Kd.R Kd.bool 4 W w.heap.size (fun _ => True) v4 rs
theorem RW.below {w W W1 : World} {g : Nat} {p : PV} {a : PA} {v3 v4 : Value} {ns : List ByteArray} {rs : List Bool} (h : RW w W g p a v3 v4 ns rs) (hB : Below W.heap.size W W1) : RW w W1 g p a v3 v4 ns rs := ⟨h.box.below hB, Kd.R_below h.n hB, Kd.R_below h.r hB⟩
theorem RW.drew {w W : World} {g : Nat} {p : PV} {a : PA} {v3 v4 : Value} {ns : List ByteArray} {rs : List Bool} (h : RW w W g p a v3 v4 ns rs) : RW w W.drew g p a v3 v4 ns rs := h.below (below_drew (Below.refl _ _))
theorem RW.alloc {w W : World} {g : Nat} {p : PV} {a : PA} {v3 v4 : Value} {ns : List ByteArray} {rs : List Bool} (h : RW w W g p a v3 v4 ns rs) (o : Obj) : RW w (W.alloc o) g p a v3 v4 ns rs := h.below (below_alloc (Below.refl _ _) o)
theorem RW.app1 {w W W1 : World} {g : Nat} {p : PV} {a : PA} {v3 v4 y : Value} {ns ns' : List ByteArray} {rs : List Bool} (h : RW w W g p a v3 v4 ns rs) (ho : Kd.R Kd.string 9 W1 w.heap.size (fun _ => True) y ns') (hb : Below w.heap.size w W1) (hg : W.grownBy W1 v3.ownBlock) : RW w W1 g p a y v4 ns' rs :=
  ⟨⟨blk_grown h.box.blk hg (Kd.R_ne h.n h.box.blk (by decide)), hb, h.box.ge⟩, ho, Kd.R_over' h.r (Kd.R_typed h.n) (by decide) hg⟩
theorem RW.app2 {w W W1 : World} {g : Nat} {p : PV} {a : PA} {v3 v4 y : Value} {ns : List ByteArray} {rs rs' : List Bool} (h : RW w W g p a v3 v4 ns rs) (ho : Kd.R Kd.bool 4 W1 w.heap.size (fun _ => True) y rs') (hb : Below w.heap.size w W1) (hg : W.grownBy W1 v4.ownBlock) : RW w W1 g p a v3 y ns rs' :=
  ⟨⟨blk_grown h.box.blk hg (Kd.R_ne h.r h.box.blk (by decide)), hb, h.box.ge⟩, Kd.R_over' h.n (Kd.R_typed h.r) (by decide) hg, ho⟩
theorem keepRoom {w w' : World} {g : Nat} {p : PV} {a : PA} {v3 v4 : Value} {ns : List ByteArray} {rs : List Bool} {ad : Addr} {i : Nat} {x : S47} {B3 : Option Addr} {d3 : Nat} (H : RW w w' g p a v3 v4 ns rs) (hA : a.A4 = some ad) (h0 : w.cell? (ad.add (i * 4)) = some (.string x.f0)) (h1 : w.cell? ⟨(ad.add (i * 4)).block, (ad.add (i * 4)).off + 1, none⟩ = some (.int .i64 x.f1)) (h2 : w.cell? ⟨(ad.add (i * 4)).block, (ad.add (i * 4)).off + 2, none⟩ = some (.int .u16 x.f2)) (h3 : w.cell? ⟨(ad.add (i * 4)).block, (ad.add (i * 4)).off + 3, none⟩ = some (.slice B3 x.f3.length d3)) : w'.cell? ⟨g, 1, none⟩ = some (.int .i64 p.g0) ∧ w'.cell? ⟨g, 2, none⟩ = some (.int .i64 p.g1) ∧ w'.cell? ⟨g, 3, none⟩ = some (.int .i64 p.g2) ∧ w'.cell? ⟨g, 4, none⟩ = some (.slice (some ad) p.rooms.length a.c4) ∧ w'.cell? (ad.add (i * 4)) = some (.string x.f0) ∧ w'.cell? ⟨(ad.add (i * 4)).block, (ad.add (i * 4)).off + 1, none⟩ = some (.int .i64 x.f1) ∧ w'.cell? ⟨(ad.add (i * 4)).block, (ad.add (i * 4)).off + 2, none⟩ = some (.int .u16 x.f2) ∧ w'.cell? ⟨(ad.add (i * 4)).block, (ad.add (i * 4)).off + 3, none⟩ = some (.slice B3 x.f3.length d3) := by
  have hp := pcx H.box
  rw [hA] at hp
  obtain ⟨q0, q1, q2, q3, q4, q5, q6, q7, q8, q9, q10, q11, q12, q13, q14⟩ := hp
  exact ⟨q1, q2, q3, q4, pw_cell_below H.box.bel h0, pw_cell_below H.box.bel h1, pw_cell_below H.box.bel h2, pw_cell_below H.box.bel h3⟩
set_option maxRecDepth 100000 in
set_option maxHeartbeats 4000000 in
theorem Rrooms_is (w : World) (p : PV) (a : PA) (hsh : Short p) (K : PRd w p a) (hG : GoodP p) :
    Calls Tryz.prog 62 #[.agg (pcs p a)] w fun e w' => e = .returned (.int .i64 (firstN (badI (roomB p.g0 p.g1 p.g2) (fun x : S47 => x.f0) 24 p.rooms))) ∧ Below w.heap.size w w' := by
  have HK := Aside0.mk K
  have HG := Aside0.mk hG
  have hmx : p.rooms.length ≤ 300 := by
    obtain ⟨h1, h2, h3, h4, h5, h6, h7⟩ := hsh
    omega
  have HM := Aside0.mk hmx
  have HSh := Aside0.mk hsh
  clear K hG hsh
  have hu := Tryz.underlying34
  have hug := Tryz.underlying23
  have hut := Tryz.underlying47
  go_enter Tryz.func62, Tryz.ntmps62
  go_wp2_with (first
    | ((with_reducible refine gate_dst (N := 1) rfl ?_); refine box_event ?hg (N := 1) ?hd (cs := pcs p a) (t := 34) ?hr ?_; (case hd => rfl); (case hg => rfl); (case hr => first | (go_simp; done) | (go_simp; rfl)); intro g hg w2 hbox hB; have HP := Aside0.mk (PBox.mk hbox hB (show w.heap.size ≤ g by rw [hg]; exact Nat.le_refl _)); clear hbox hB hg; obtain ⟨hc0, hc1, hc2, hc3, hc4, hc5, hc6, hc7, hc8, hc9, hc10, hc11, hc12, hc13, hc14⟩ := pcx HP.out))
  go_loopw [3, 4, 5] (fun u3 u4 u5 wr => ∃ i : Nat, i ≤ p.rooms.length ∧ u5 = .int .i64 i ∧ Aside0 (RW w wr g p a u3 u4 ((p.rooms.take i).map (fun x : S47 => x.f0)) ((p.rooms.take i).map (roomB p.g0 p.g1 p.g2)))) (fun _ _ u5 _ => p.rooms.length - (intOf u5).toNat)
  case atStart => exact ⟨0, Nat.zero_le _, rfl, ⟨⟨HP.out, Kd.R_nil _ _ _ _ _, Kd.R_nil _ _ _ _ _⟩⟩⟩
  case round =>
    clear HP hc0 hc1 hc2 hc3 hc4 hc5 hc6 hc7 hc8 hc9 hc10 hc11 hc12 hc13 hc14
    obtain ⟨i, hi, rfl, HW⟩ := hrel
    obtain ⟨hc0, hc1, hc2, hc3, hc4, hc5, hc6, hc7, hc8, hc9, hc10, hc11, hc12, hc13, hc14⟩ := pcx HW.out.box
    by_cases him : i < p.rooms.length
    · have him2 : (i : Int) < (p.rooms.length : Int) := by omega
      obtain ⟨x, hx⟩ := get_some (l := p.rooms) (i := i) him
      obtain ⟨ad, B3, d3, hA, hq0, hq1, hq2, hq3, ⟨g3, l3⟩⟩ := elRoom HK.out.r4 hx
      have HX := Aside0.mk (List.mem_of_getElem? hx)
      have HXi := Aside0.mk hx
      have HE3 := Aside0.mk g3
      have HL3 := Aside0.mk l3
      have HKp := Aside0.mk (fun (wq : World) (v3 v4 : Value) (ns : List ByteArray) (rs : List Bool) (H : RW w wq g p a v3 v4 ns rs) => keepRoom (i := i) H hA hq0 hq1 hq2 hq3)
      clear hx g3 l3 hq0 hq1 hq2 hq3
      go_wp2
      clear hc0 hc1 hc2 hc3 hc4 hc5 hc6 hc7 hc8 hc9 hc10 hc11 hc12 hc13 hc14
      have HQ := Aside0.mk HW.out.drew
      clear HW
      have HW := HQ
      clear HQ
      go_region_held3 (fun w' => w'.cell? ⟨g, 1, none⟩ = some (.int .i64 p.g0) ∧ w'.cell? ⟨g, 2, none⟩ = some (.int .i64 p.g1) ∧ w'.cell? ⟨g, 3, none⟩ = some (.int .i64 p.g2) ∧ w'.cell? ⟨g, 4, none⟩ = some (.slice (some ad) p.rooms.length a.c4) ∧ w'.cell? (ad.add (i * 4)) = some (.string x.f0) ∧ w'.cell? ⟨(ad.add (i * 4)).block, (ad.add (i * 4)).off + 1, none⟩ = some (.int .i64 x.f1) ∧ w'.cell? ⟨(ad.add (i * 4)).block, (ad.add (i * 4)).off + 2, none⟩ = some (.int .u16 x.f2) ∧ w'.cell? ⟨(ad.add (i * 4)).block, (ad.add (i * 4)).off + 3, none⟩ = some (.slice B3 x.f3.length d3)) (first | exact HKp.out _ _ _ _ _ HW.out | exact HKp.out _ _ _ _ _ (HW.out.alloc _)) (first
        | (refine Kd.R_append_step Kd.string (w0 := w) w.heap.size (by rfl) (.tmp 13) (.tmp 20) 161 9 (.string ⟨#[]⟩) 16 rfl Tryz.underlying161 info9 rfl (by decide) (by omega) u3 ((p.rooms.take i).map (fun x : S47 => x.f0)) x.f0 [.string x.f0] (fun _ => True) (fun _ => False) rfl rfl rfl (fun _ hk => hk.elim) (fun _ _ => trivial) HW.out.n HW.out.box.bel HW.out.box.bel.size (by have := HM.out; simp only [List.length_map, List.length_take]; omega) ?_; intro y3 w1 ho hb hg hat; have HQ := Aside0.mk (HW.out.app1 ho hb hg); clear HW ho hb hg hat; have HW := HQ; clear HQ)
        | (refine Kd.R_append_step Kd.bool (w0 := w) w.heap.size (by rfl) (.tmp 22) (.tmp 31) 162 4 (.bool false) 1 rfl Tryz.underlying162 info4 rfl (by decide) (by omega) u4 ((p.rooms.take i).map (roomB p.g0 p.g1 p.g2)) ((roomB p.g0 p.g1 p.g2) x) [.bool ((roomB p.g0 p.g1 p.g2) x)] (fun _ => True) (fun _ => False) rfl rfl rfl (fun _ hk => hk.elim) (fun _ _ => trivial) HW.out.r HW.out.box.bel HW.out.box.bel.size (by have := HM.out; simp only [List.length_map, List.length_take]; omega) ?_; intro y4 w1 ho hb hg hat; have HQ := Aside0.mk (HW.out.app2 ho hb hg); clear HW ho hb hg hat; have HW := HQ; clear HQ)
        | (go_at_call 131; refine (RRoom_is _ p.g0 p.g1 p.g2 x B3 d3 (Kd.C_below HE3.out HW.out.box.bel) HL3.out (HG.out.room x HX.out)).mono ?_; rintro e w3 ⟨rfl, hB⟩; have HQ := Aside0.mk (HW.out.below hB); clear HW hB; have HW := HQ; clear HQ))
      go_wp2
      exact ⟨⟨i + 1, by omega, by go_num, ⟨by rw [takeS HXi.out, List.map_append, List.map_append]; exact HW.out⟩⟩, by simp [intOf]; omega⟩
    · obtain rfl : i = p.rooms.length := by omega
      have HW2 := HW.out
      rw [List.take_length] at HW2
      obtain ⟨k, hk⟩ := (rfirst (roomB p.g0 p.g1 p.g2) (fun x : S47 => x.f0) 24 p.rooms (by omega)).rounds
      generalize p.rooms.map (fun x : S47 => x.f0) = ns at HW2 hk
      generalize p.rooms.map (roomB p.g0 p.g1 p.g2) = rs at HW2 hk
      have HBx := Aside0.mk HW2.box
      clear HW
      obtain ⟨A3, c3, rfl, l3, C3⟩ := Kd.R_reads HW2.n
      obtain ⟨A4, c4, rfl, l4, C4⟩ := Kd.R_reads HW2.r
      have HF := Aside0.mk (And.intro hk (And.intro l3 (And.intro C3 (And.intro l4 C4))))
      clear hk l3 C3 l4 C4 HW2
      go_wp2_with (first
        | (go_at_call 132; (with_reducible refine (Gp.horariumref17_first.calls k A3 c3 ns A4 c4 rs 24 _ _ HF.out.2.2.1 HF.out.2.1 HF.out.2.2.2.2 HF.out.2.2.2.1 HF.out.1).mono ?_); rintro e w3 ⟨rfl, hD⟩; have HB := Aside0.mk (HBx.out.below hD.below); clear hD))
      go_ret
      exact ⟨rfl, HB.out.bel⟩
theorem keepPerson {w w' : World} {g : Nat} {p : PV} {a : PA} {v3 v4 : Value} {ns : List ByteArray} {rs : List Bool} {ad : Addr} {i : Nat} {x : S53} {B1 : Option Addr} {d1 : Nat} (H : RW w w' g p a v3 v4 ns rs) (hA : a.A6 = some ad) (h0 : w.cell? (ad.add (i * 2)) = some (.string x.f0)) (h1 : w.cell? ⟨(ad.add (i * 2)).block, (ad.add (i * 2)).off + 1, none⟩ = some (.slice B1 x.f1.length d1)) : w'.cell? ⟨g, 1, none⟩ = some (.int .i64 p.g0) ∧ w'.cell? ⟨g, 2, none⟩ = some (.int .i64 p.g1) ∧ w'.cell? ⟨g, 3, none⟩ = some (.int .i64 p.g2) ∧ w'.cell? ⟨g, 6, none⟩ = some (.slice (some ad) p.persons.length a.c6) ∧ w'.cell? (ad.add (i * 2)) = some (.string x.f0) ∧ w'.cell? ⟨(ad.add (i * 2)).block, (ad.add (i * 2)).off + 1, none⟩ = some (.slice B1 x.f1.length d1) := by
  have hp := pcx H.box
  rw [hA] at hp
  obtain ⟨q0, q1, q2, q3, q4, q5, q6, q7, q8, q9, q10, q11, q12, q13, q14⟩ := hp
  exact ⟨q1, q2, q3, q6, pw_cell_below H.box.bel h0, pw_cell_below H.box.bel h1⟩
set_option maxRecDepth 100000 in
set_option maxHeartbeats 4000000 in
theorem Rpersons_is (w : World) (p : PV) (a : PA) (hsh : Short p) (K : PRd w p a) (hG : GoodP p) :
    Calls Tryz.prog 64 #[.agg (pcs p a)] w fun e w' => e = .returned (.int .i64 (firstN (badI (personB p.g0 p.g1 p.g2) (fun x : S53 => x.f0) 24 p.persons))) ∧ Below w.heap.size w w' := by
  have HK := Aside0.mk K
  have HG := Aside0.mk hG
  have hmx : p.persons.length ≤ 300 := by
    obtain ⟨h1, h2, h3, h4, h5, h6, h7⟩ := hsh
    omega
  have HM := Aside0.mk hmx
  have HSh := Aside0.mk hsh
  clear K hG hsh
  have hu := Tryz.underlying34
  have hug := Tryz.underlying23
  have hut := Tryz.underlying53
  go_enter Tryz.func64, Tryz.ntmps64
  go_wp2_with (first
    | ((with_reducible refine gate_dst (N := 1) rfl ?_); refine box_event ?hg (N := 1) ?hd (cs := pcs p a) (t := 34) ?hr ?_; (case hd => rfl); (case hg => rfl); (case hr => first | (go_simp; done) | (go_simp; rfl)); intro g hg w2 hbox hB; have HP := Aside0.mk (PBox.mk hbox hB (show w.heap.size ≤ g by rw [hg]; exact Nat.le_refl _)); clear hbox hB hg; obtain ⟨hc0, hc1, hc2, hc3, hc4, hc5, hc6, hc7, hc8, hc9, hc10, hc11, hc12, hc13, hc14⟩ := pcx HP.out))
  go_loopw [3, 4, 5] (fun u3 u4 u5 wr => ∃ i : Nat, i ≤ p.persons.length ∧ u5 = .int .i64 i ∧ Aside0 (RW w wr g p a u3 u4 ((p.persons.take i).map (fun x : S53 => x.f0)) ((p.persons.take i).map (personB p.g0 p.g1 p.g2)))) (fun _ _ u5 _ => p.persons.length - (intOf u5).toNat)
  case atStart => exact ⟨0, Nat.zero_le _, rfl, ⟨⟨HP.out, Kd.R_nil _ _ _ _ _, Kd.R_nil _ _ _ _ _⟩⟩⟩
  case round =>
    clear HP hc0 hc1 hc2 hc3 hc4 hc5 hc6 hc7 hc8 hc9 hc10 hc11 hc12 hc13 hc14
    obtain ⟨i, hi, rfl, HW⟩ := hrel
    obtain ⟨hc0, hc1, hc2, hc3, hc4, hc5, hc6, hc7, hc8, hc9, hc10, hc11, hc12, hc13, hc14⟩ := pcx HW.out.box
    by_cases him : i < p.persons.length
    · have him2 : (i : Int) < (p.persons.length : Int) := by omega
      obtain ⟨x, hx⟩ := get_some (l := p.persons) (i := i) him
      obtain ⟨ad, B1, d1, hA, hq0, hq1, ⟨g1, l1⟩⟩ := elPerson HK.out.r6 hx
      have HX := Aside0.mk (List.mem_of_getElem? hx)
      have HXi := Aside0.mk hx
      have HE1 := Aside0.mk g1
      have HL1 := Aside0.mk l1
      have HKp := Aside0.mk (fun (wq : World) (v3 v4 : Value) (ns : List ByteArray) (rs : List Bool) (H : RW w wq g p a v3 v4 ns rs) => keepPerson (i := i) H hA hq0 hq1)
      clear hx g1 l1 hq0 hq1
      go_wp2
      clear hc0 hc1 hc2 hc3 hc4 hc5 hc6 hc7 hc8 hc9 hc10 hc11 hc12 hc13 hc14
      have HQ := Aside0.mk HW.out.drew
      clear HW
      have HW := HQ
      clear HQ
      go_region_held3 (fun w' => w'.cell? ⟨g, 1, none⟩ = some (.int .i64 p.g0) ∧ w'.cell? ⟨g, 2, none⟩ = some (.int .i64 p.g1) ∧ w'.cell? ⟨g, 3, none⟩ = some (.int .i64 p.g2) ∧ w'.cell? ⟨g, 6, none⟩ = some (.slice (some ad) p.persons.length a.c6) ∧ w'.cell? (ad.add (i * 2)) = some (.string x.f0) ∧ w'.cell? ⟨(ad.add (i * 2)).block, (ad.add (i * 2)).off + 1, none⟩ = some (.slice B1 x.f1.length d1)) (first | exact HKp.out _ _ _ _ _ HW.out | exact HKp.out _ _ _ _ _ (HW.out.alloc _)) (first
        | (refine Kd.R_append_step Kd.string (w0 := w) w.heap.size (by rfl) (.tmp 13) (.tmp 20) 161 9 (.string ⟨#[]⟩) 16 rfl Tryz.underlying161 info9 rfl (by decide) (by omega) u3 ((p.persons.take i).map (fun x : S53 => x.f0)) x.f0 [.string x.f0] (fun _ => True) (fun _ => False) rfl rfl rfl (fun _ hk => hk.elim) (fun _ _ => trivial) HW.out.n HW.out.box.bel HW.out.box.bel.size (by have := HM.out; simp only [List.length_map, List.length_take]; omega) ?_; intro y3 w1 ho hb hg hat; have HQ := Aside0.mk (HW.out.app1 ho hb hg); clear HW ho hb hg hat; have HW := HQ; clear HQ)
        | (refine Kd.R_append_step Kd.bool (w0 := w) w.heap.size (by rfl) (.tmp 22) (.tmp 31) 162 4 (.bool false) 1 rfl Tryz.underlying162 info4 rfl (by decide) (by omega) u4 ((p.persons.take i).map (personB p.g0 p.g1 p.g2)) ((personB p.g0 p.g1 p.g2) x) [.bool ((personB p.g0 p.g1 p.g2) x)] (fun _ => True) (fun _ => False) rfl rfl rfl (fun _ hk => hk.elim) (fun _ _ => trivial) HW.out.r HW.out.box.bel HW.out.box.bel.size (by have := HM.out; simp only [List.length_map, List.length_take]; omega) ?_; intro y4 w1 ho hb hg hat; have HQ := Aside0.mk (HW.out.app2 ho hb hg); clear HW ho hb hg hat; have HW := HQ; clear HQ)
        | (go_at_call 133; refine (RPerson_is _ p.g0 p.g1 p.g2 x B1 d1 (Kd.C_below HE1.out HW.out.box.bel) HL1.out (HG.out.person x HX.out)).mono ?_; rintro e w3 ⟨rfl, hB⟩; have HQ := Aside0.mk (HW.out.below hB); clear HW hB; have HW := HQ; clear HQ))
      go_wp2
      exact ⟨⟨i + 1, by omega, by go_num, ⟨by rw [takeS HXi.out, List.map_append, List.map_append]; exact HW.out⟩⟩, by simp [intOf]; omega⟩
    · obtain rfl : i = p.persons.length := by omega
      have HW2 := HW.out
      rw [List.take_length] at HW2
      obtain ⟨k, hk⟩ := (rfirst (personB p.g0 p.g1 p.g2) (fun x : S53 => x.f0) 24 p.persons (by omega)).rounds
      generalize p.persons.map (fun x : S53 => x.f0) = ns at HW2 hk
      generalize p.persons.map (personB p.g0 p.g1 p.g2) = rs at HW2 hk
      have HBx := Aside0.mk HW2.box
      clear HW
      obtain ⟨A3, c3, rfl, l3, C3⟩ := Kd.R_reads HW2.n
      obtain ⟨A4, c4, rfl, l4, C4⟩ := Kd.R_reads HW2.r
      have HF := Aside0.mk (And.intro hk (And.intro l3 (And.intro C3 (And.intro l4 C4))))
      clear hk l3 C3 l4 C4 HW2
      go_wp2_with (first
        | (go_at_call 132; (with_reducible refine (Gp.horariumref17_first.calls k A3 c3 ns A4 c4 rs 24 _ _ HF.out.2.2.1 HF.out.2.1 HF.out.2.2.2.2 HF.out.2.2.2.1 HF.out.1).mono ?_); rintro e w3 ⟨rfl, hD⟩; have HB := Aside0.mk (HBx.out.below hD.below); clear hD))
      go_ret
      exact ⟨rfl, HB.out.bel⟩
theorem keepClass {w w' : World} {g : Nat} {p : PV} {a : PA} {v3 v4 : Value} {ns : List ByteArray} {rs : List Bool} {ad : Addr} {i : Nat} {x : S58} {B3 : Option Addr} {d3 : Nat} {B4 : Option Addr} {d4 : Nat} {B5 : Option Addr} {d5 : Nat} (H : RW w w' g p a v3 v4 ns rs) (hA : a.A7 = some ad) (h0 : w.cell? (ad.add (i * 7)) = some (.string x.f0)) (h1 : w.cell? ⟨(ad.add (i * 7)).block, (ad.add (i * 7)).off + 1, none⟩ = some (.int .i64 x.f1)) (h2 : w.cell? ⟨(ad.add (i * 7)).block, (ad.add (i * 7)).off + 2, none⟩ = some (.int .u16 x.f2)) (h3 : w.cell? ⟨(ad.add (i * 7)).block, (ad.add (i * 7)).off + 3, none⟩ = some (.slice B3 x.f3.length d3)) (h4 : w.cell? ⟨(ad.add (i * 7)).block, (ad.add (i * 7)).off + 4, none⟩ = some (.slice B4 x.f4.length d4)) (h5 : w.cell? ⟨(ad.add (i * 7)).block, (ad.add (i * 7)).off + 5, none⟩ = some (.slice B5 x.f5.length d5)) (h6 : w.cell? ⟨(ad.add (i * 7)).block, (ad.add (i * 7)).off + 6, none⟩ = some (.int .i64 x.f6)) : w'.cell? ⟨g, 1, none⟩ = some (.int .i64 p.g0) ∧ w'.cell? ⟨g, 2, none⟩ = some (.int .i64 p.g1) ∧ w'.cell? ⟨g, 3, none⟩ = some (.int .i64 p.g2) ∧ w'.cell? ⟨g, 4, none⟩ = some (.slice a.A4 p.rooms.length a.c4) ∧ w'.cell? ⟨g, 6, none⟩ = some (.slice a.A6 p.persons.length a.c6) ∧ w'.cell? ⟨g, 7, none⟩ = some (.slice (some ad) p.classes.length a.c7) ∧ w'.cell? (ad.add (i * 7)) = some (.string x.f0) ∧ w'.cell? ⟨(ad.add (i * 7)).block, (ad.add (i * 7)).off + 1, none⟩ = some (.int .i64 x.f1) ∧ w'.cell? ⟨(ad.add (i * 7)).block, (ad.add (i * 7)).off + 2, none⟩ = some (.int .u16 x.f2) ∧ w'.cell? ⟨(ad.add (i * 7)).block, (ad.add (i * 7)).off + 3, none⟩ = some (.slice B3 x.f3.length d3) ∧ w'.cell? ⟨(ad.add (i * 7)).block, (ad.add (i * 7)).off + 4, none⟩ = some (.slice B4 x.f4.length d4) ∧ w'.cell? ⟨(ad.add (i * 7)).block, (ad.add (i * 7)).off + 5, none⟩ = some (.slice B5 x.f5.length d5) ∧ w'.cell? ⟨(ad.add (i * 7)).block, (ad.add (i * 7)).off + 6, none⟩ = some (.int .i64 x.f6) := by
  have hp := pcx H.box
  rw [hA] at hp
  obtain ⟨q0, q1, q2, q3, q4, q5, q6, q7, q8, q9, q10, q11, q12, q13, q14⟩ := hp
  exact ⟨q1, q2, q3, q4, q6, q7, pw_cell_below H.box.bel h0, pw_cell_below H.box.bel h1, pw_cell_below H.box.bel h2, pw_cell_below H.box.bel h3, pw_cell_below H.box.bel h4, pw_cell_below H.box.bel h5, pw_cell_below H.box.bel h6⟩
set_option maxRecDepth 100000 in
set_option maxHeartbeats 4000000 in
theorem Rclasses_is (w : World) (p : PV) (a : PA) (hsh : Short p) (K : PRd w p a) (hG : GoodP p) :
    Calls Tryz.prog 65 #[.agg (pcs p a)] w fun e w' => e = .returned (.int .i64 (firstN (badI (classB p.g0 p.g1 p.g2 (p.rooms.length : Int) (p.persons.length : Int) (p.classes.length : Int)) (fun x : S58 => x.f0) 40 p.classes))) ∧ Below w.heap.size w w' := by
  have HK := Aside0.mk K
  have HG := Aside0.mk hG
  have hmx : p.classes.length ≤ 300 := by
    obtain ⟨h1, h2, h3, h4, h5, h6, h7⟩ := hsh
    omega
  have HM := Aside0.mk hmx
  have HSh := Aside0.mk hsh
  clear K hG hsh
  have hu := Tryz.underlying34
  have hug := Tryz.underlying23
  have hut := Tryz.underlying58
  go_enter Tryz.func65, Tryz.ntmps65
  go_wp2_with (first
    | ((with_reducible refine gate_dst (N := 1) rfl ?_); refine box_event ?hg (N := 1) ?hd (cs := pcs p a) (t := 34) ?hr ?_; (case hd => rfl); (case hg => rfl); (case hr => first | (go_simp; done) | (go_simp; rfl)); intro g hg w2 hbox hB; have HP := Aside0.mk (PBox.mk hbox hB (show w.heap.size ≤ g by rw [hg]; exact Nat.le_refl _)); clear hbox hB hg; obtain ⟨hc0, hc1, hc2, hc3, hc4, hc5, hc6, hc7, hc8, hc9, hc10, hc11, hc12, hc13, hc14⟩ := pcx HP.out))
  go_loopw [3, 4, 5] (fun u3 u4 u5 wr => ∃ i : Nat, i ≤ p.classes.length ∧ u5 = .int .i64 i ∧ Aside0 (RW w wr g p a u3 u4 ((p.classes.take i).map (fun x : S58 => x.f0)) ((p.classes.take i).map (classB p.g0 p.g1 p.g2 (p.rooms.length : Int) (p.persons.length : Int) (p.classes.length : Int))))) (fun _ _ u5 _ => p.classes.length - (intOf u5).toNat)
  case atStart => exact ⟨0, Nat.zero_le _, rfl, ⟨⟨HP.out, Kd.R_nil _ _ _ _ _, Kd.R_nil _ _ _ _ _⟩⟩⟩
  case round =>
    clear HP hc0 hc1 hc2 hc3 hc4 hc5 hc6 hc7 hc8 hc9 hc10 hc11 hc12 hc13 hc14
    obtain ⟨i, hi, rfl, HW⟩ := hrel
    obtain ⟨hc0, hc1, hc2, hc3, hc4, hc5, hc6, hc7, hc8, hc9, hc10, hc11, hc12, hc13, hc14⟩ := pcx HW.out.box
    by_cases him : i < p.classes.length
    · have him2 : (i : Int) < (p.classes.length : Int) := by omega
      obtain ⟨x, hx⟩ := get_some (l := p.classes) (i := i) him
      obtain ⟨ad, B3, d3, B4, d4, B5, d5, hA, hq0, hq1, hq2, hq3, hq4, hq5, hq6, ⟨g3, l3⟩, ⟨g4, l4⟩, ⟨g5, l5⟩⟩ := elClass HK.out.r7 hx
      have HX := Aside0.mk (List.mem_of_getElem? hx)
      have HXi := Aside0.mk hx
      have HE3 := Aside0.mk g3
      have HL3 := Aside0.mk l3
      have HE4 := Aside0.mk g4
      have HL4 := Aside0.mk l4
      have HE5 := Aside0.mk g5
      have HL5 := Aside0.mk l5
      have HKp := Aside0.mk (fun (wq : World) (v3 v4 : Value) (ns : List ByteArray) (rs : List Bool) (H : RW w wq g p a v3 v4 ns rs) => keepClass (i := i) H hA hq0 hq1 hq2 hq3 hq4 hq5 hq6)
      clear hx g3 l3 g4 l4 g5 l5 hq0 hq1 hq2 hq3 hq4 hq5 hq6
      go_wp2
      clear hc0 hc1 hc2 hc3 hc4 hc5 hc6 hc7 hc8 hc9 hc10 hc11 hc12 hc13 hc14
      have HQ := Aside0.mk HW.out.drew
      clear HW
      have HW := HQ
      clear HQ
      go_region_held3 (fun w' => w'.cell? ⟨g, 1, none⟩ = some (.int .i64 p.g0) ∧ w'.cell? ⟨g, 2, none⟩ = some (.int .i64 p.g1) ∧ w'.cell? ⟨g, 3, none⟩ = some (.int .i64 p.g2) ∧ w'.cell? ⟨g, 4, none⟩ = some (.slice a.A4 p.rooms.length a.c4) ∧ w'.cell? ⟨g, 6, none⟩ = some (.slice a.A6 p.persons.length a.c6) ∧ w'.cell? ⟨g, 7, none⟩ = some (.slice (some ad) p.classes.length a.c7) ∧ w'.cell? (ad.add (i * 7)) = some (.string x.f0) ∧ w'.cell? ⟨(ad.add (i * 7)).block, (ad.add (i * 7)).off + 1, none⟩ = some (.int .i64 x.f1) ∧ w'.cell? ⟨(ad.add (i * 7)).block, (ad.add (i * 7)).off + 2, none⟩ = some (.int .u16 x.f2) ∧ w'.cell? ⟨(ad.add (i * 7)).block, (ad.add (i * 7)).off + 3, none⟩ = some (.slice B3 x.f3.length d3) ∧ w'.cell? ⟨(ad.add (i * 7)).block, (ad.add (i * 7)).off + 4, none⟩ = some (.slice B4 x.f4.length d4) ∧ w'.cell? ⟨(ad.add (i * 7)).block, (ad.add (i * 7)).off + 5, none⟩ = some (.slice B5 x.f5.length d5) ∧ w'.cell? ⟨(ad.add (i * 7)).block, (ad.add (i * 7)).off + 6, none⟩ = some (.int .i64 x.f6)) (first | exact HKp.out _ _ _ _ _ HW.out | exact HKp.out _ _ _ _ _ (HW.out.alloc _)) (first
        | (refine Kd.R_append_step Kd.string (w0 := w) w.heap.size (by rfl) (.tmp 13) (.tmp 20) 161 9 (.string ⟨#[]⟩) 16 rfl Tryz.underlying161 info9 rfl (by decide) (by omega) u3 ((p.classes.take i).map (fun x : S58 => x.f0)) x.f0 [.string x.f0] (fun _ => True) (fun _ => False) rfl rfl rfl (fun _ hk => hk.elim) (fun _ _ => trivial) HW.out.n HW.out.box.bel HW.out.box.bel.size (by have := HM.out; simp only [List.length_map, List.length_take]; omega) ?_; intro y3 w1 ho hb hg hat; have HQ := Aside0.mk (HW.out.app1 ho hb hg); clear HW ho hb hg hat; have HW := HQ; clear HQ)
        | (refine Kd.R_append_step Kd.bool (w0 := w) w.heap.size (by rfl) (.tmp 22) (.tmp 40) 162 4 (.bool false) 1 rfl Tryz.underlying162 info4 rfl (by decide) (by omega) u4 ((p.classes.take i).map (classB p.g0 p.g1 p.g2 (p.rooms.length : Int) (p.persons.length : Int) (p.classes.length : Int))) ((classB p.g0 p.g1 p.g2 (p.rooms.length : Int) (p.persons.length : Int) (p.classes.length : Int)) x) [.bool ((classB p.g0 p.g1 p.g2 (p.rooms.length : Int) (p.persons.length : Int) (p.classes.length : Int)) x)] (fun _ => True) (fun _ => False) rfl rfl rfl (fun _ hk => hk.elim) (fun _ _ => trivial) HW.out.r HW.out.box.bel HW.out.box.bel.size (by have := HM.out; simp only [List.length_map, List.length_take]; omega) ?_; intro y4 w1 ho hb hg hat; have HQ := Aside0.mk (HW.out.app2 ho hb hg); clear HW ho hb hg hat; have HW := HQ; clear HQ)
        | (go_at_call 134; refine (RClass_is _ p.g0 p.g1 p.g2 (p.rooms.length : Int) (p.persons.length : Int) (p.classes.length : Int) x B3 d3 B4 d4 B5 d5 (Kd.C_below HE3.out HW.out.box.bel) HL3.out (Kd.C_below HE4.out HW.out.box.bel) HL4.out (Kd.C_below HE5.out HW.out.box.bel) HL5.out (fun y hy => (HG.out.cls x HX.out y hy).1)).mono ?_; rintro e w3 ⟨rfl, hB⟩; have HQ := Aside0.mk (HW.out.below hB); clear HW hB; have HW := HQ; clear HQ))
      go_wp2
      exact ⟨⟨i + 1, by omega, by go_num, ⟨by rw [takeS HXi.out, List.map_append, List.map_append]; exact HW.out⟩⟩, by simp [intOf]; omega⟩
    · obtain rfl : i = p.classes.length := by omega
      have HW2 := HW.out
      rw [List.take_length] at HW2
      obtain ⟨k, hk⟩ := (rfirst (classB p.g0 p.g1 p.g2 (p.rooms.length : Int) (p.persons.length : Int) (p.classes.length : Int)) (fun x : S58 => x.f0) 40 p.classes (by omega)).rounds
      generalize p.classes.map (fun x : S58 => x.f0) = ns at HW2 hk
      generalize p.classes.map (classB p.g0 p.g1 p.g2 (p.rooms.length : Int) (p.persons.length : Int) (p.classes.length : Int)) = rs at HW2 hk
      have HBx := Aside0.mk HW2.box
      clear HW
      obtain ⟨A3, c3, rfl, l3, C3⟩ := Kd.R_reads HW2.n
      obtain ⟨A4, c4, rfl, l4, C4⟩ := Kd.R_reads HW2.r
      have HF := Aside0.mk (And.intro hk (And.intro l3 (And.intro C3 (And.intro l4 C4))))
      clear hk l3 C3 l4 C4 HW2
      go_wp2_with (first
        | (go_at_call 132; (with_reducible refine (Gp.horariumref17_first.calls k A3 c3 ns A4 c4 rs 40 _ _ HF.out.2.2.1 HF.out.2.1 HF.out.2.2.2.2 HF.out.2.2.2.1 HF.out.1).mono ?_); rintro e w3 ⟨rfl, hD⟩; have HB := Aside0.mk (HBx.out.below hD.below); clear hD))
      go_ret
      exact ⟨rfl, HB.out.bel⟩
theorem keepCourse {w w' : World} {g : Nat} {p : PV} {a : PA} {v3 v4 : Value} {ns : List ByteArray} {rs : List Bool} {ad : Addr} {i : Nat} {x : S61} {B1 : Option Addr} {d1 : Nat} (H : RW w w' g p a v3 v4 ns rs) (hA : a.A8 = some ad) (h0 : w.cell? (ad.add (i * 2)) = some (.string x.f0)) (h1 : w.cell? ⟨(ad.add (i * 2)).block, (ad.add (i * 2)).off + 1, none⟩ = some (.slice B1 x.f1.length d1)) : w'.cell? ⟨g, 7, none⟩ = some (.slice a.A7 p.classes.length a.c7) ∧ w'.cell? ⟨g, 8, none⟩ = some (.slice (some ad) p.courses.length a.c8) ∧ w'.cell? (ad.add (i * 2)) = some (.string x.f0) ∧ w'.cell? ⟨(ad.add (i * 2)).block, (ad.add (i * 2)).off + 1, none⟩ = some (.slice B1 x.f1.length d1) := by
  have hp := pcx H.box
  rw [hA] at hp
  obtain ⟨q0, q1, q2, q3, q4, q5, q6, q7, q8, q9, q10, q11, q12, q13, q14⟩ := hp
  exact ⟨q7, q8, pw_cell_below H.box.bel h0, pw_cell_below H.box.bel h1⟩
set_option maxRecDepth 100000 in
set_option maxHeartbeats 4000000 in
theorem Rcourses_is (w : World) (p : PV) (a : PA) (hsh : Short p) (K : PRd w p a) (hG : GoodP p) :
    Calls Tryz.prog 66 #[.agg (pcs p a)] w fun e w' => e = .returned (.int .i64 (firstN (badI (courseB (p.classes.length : Int)) (fun x : S61 => x.f0) 16 p.courses))) ∧ Below w.heap.size w w' := by
  have HK := Aside0.mk K
  have HG := Aside0.mk hG
  have hmx : p.courses.length ≤ 300 := by
    obtain ⟨h1, h2, h3, h4, h5, h6, h7⟩ := hsh
    omega
  have HM := Aside0.mk hmx
  have HSh := Aside0.mk hsh
  clear K hG hsh
  have hu := Tryz.underlying34
  have hug := Tryz.underlying23
  have hut := Tryz.underlying61
  go_enter Tryz.func66, Tryz.ntmps66
  go_wp2_with (first
    | ((with_reducible refine gate_dst (N := 1) rfl ?_); refine box_event ?hg (N := 1) ?hd (cs := pcs p a) (t := 34) ?hr ?_; (case hd => rfl); (case hg => rfl); (case hr => first | (go_simp; done) | (go_simp; rfl)); intro g hg w2 hbox hB; have HP := Aside0.mk (PBox.mk hbox hB (show w.heap.size ≤ g by rw [hg]; exact Nat.le_refl _)); clear hbox hB hg; obtain ⟨hc0, hc1, hc2, hc3, hc4, hc5, hc6, hc7, hc8, hc9, hc10, hc11, hc12, hc13, hc14⟩ := pcx HP.out))
  go_loopw [3, 4, 5] (fun u3 u4 u5 wr => ∃ i : Nat, i ≤ p.courses.length ∧ u5 = .int .i64 i ∧ Aside0 (RW w wr g p a u3 u4 ((p.courses.take i).map (fun x : S61 => x.f0)) ((p.courses.take i).map (courseB (p.classes.length : Int))))) (fun _ _ u5 _ => p.courses.length - (intOf u5).toNat)
  case atStart => exact ⟨0, Nat.zero_le _, rfl, ⟨⟨HP.out, Kd.R_nil _ _ _ _ _, Kd.R_nil _ _ _ _ _⟩⟩⟩
  case round =>
    clear HP hc0 hc1 hc2 hc3 hc4 hc5 hc6 hc7 hc8 hc9 hc10 hc11 hc12 hc13 hc14
    obtain ⟨i, hi, rfl, HW⟩ := hrel
    obtain ⟨hc0, hc1, hc2, hc3, hc4, hc5, hc6, hc7, hc8, hc9, hc10, hc11, hc12, hc13, hc14⟩ := pcx HW.out.box
    by_cases him : i < p.courses.length
    · have him2 : (i : Int) < (p.courses.length : Int) := by omega
      obtain ⟨x, hx⟩ := get_some (l := p.courses) (i := i) him
      obtain ⟨ad, B1, d1, hA, hq0, hq1, ⟨g1, l1⟩⟩ := elCourse HK.out.r8 hx
      have HX := Aside0.mk (List.mem_of_getElem? hx)
      have HXi := Aside0.mk hx
      have HE1 := Aside0.mk g1
      have HL1 := Aside0.mk l1
      have HKp := Aside0.mk (fun (wq : World) (v3 v4 : Value) (ns : List ByteArray) (rs : List Bool) (H : RW w wq g p a v3 v4 ns rs) => keepCourse (i := i) H hA hq0 hq1)
      clear hx g1 l1 hq0 hq1
      go_wp2
      clear hc0 hc1 hc2 hc3 hc4 hc5 hc6 hc7 hc8 hc9 hc10 hc11 hc12 hc13 hc14
      have HQ := Aside0.mk HW.out.drew
      clear HW
      have HW := HQ
      clear HQ
      go_region_held3 (fun w' => w'.cell? ⟨g, 7, none⟩ = some (.slice a.A7 p.classes.length a.c7) ∧ w'.cell? ⟨g, 8, none⟩ = some (.slice (some ad) p.courses.length a.c8) ∧ w'.cell? (ad.add (i * 2)) = some (.string x.f0) ∧ w'.cell? ⟨(ad.add (i * 2)).block, (ad.add (i * 2)).off + 1, none⟩ = some (.slice B1 x.f1.length d1)) (first | exact HKp.out _ _ _ _ _ HW.out | exact HKp.out _ _ _ _ _ (HW.out.alloc _)) (first
        | (refine Kd.R_append_step Kd.string (w0 := w) w.heap.size (by rfl) (.tmp 13) (.tmp 20) 161 9 (.string ⟨#[]⟩) 16 rfl Tryz.underlying161 info9 rfl (by decide) (by omega) u3 ((p.courses.take i).map (fun x : S61 => x.f0)) x.f0 [.string x.f0] (fun _ => True) (fun _ => False) rfl rfl rfl (fun _ hk => hk.elim) (fun _ _ => trivial) HW.out.n HW.out.box.bel HW.out.box.bel.size (by have := HM.out; simp only [List.length_map, List.length_take]; omega) ?_; intro y3 w1 ho hb hg hat; have HQ := Aside0.mk (HW.out.app1 ho hb hg); clear HW ho hb hg hat; have HW := HQ; clear HQ)
        | (refine Kd.R_append_step Kd.bool (w0 := w) w.heap.size (by rfl) (.tmp 22) (.tmp 32) 162 4 (.bool false) 1 rfl Tryz.underlying162 info4 rfl (by decide) (by omega) u4 ((p.courses.take i).map (courseB (p.classes.length : Int))) ((courseB (p.classes.length : Int)) x) [.bool ((courseB (p.classes.length : Int)) x)] (fun _ => True) (fun _ => False) rfl rfl rfl (fun _ hk => hk.elim) (fun _ _ => trivial) HW.out.r HW.out.box.bel HW.out.box.bel.size (by have := HM.out; simp only [List.length_map, List.length_take]; omega) ?_; intro y4 w1 ho hb hg hat; have HQ := Aside0.mk (HW.out.app2 ho hb hg); clear HW ho hb hg hat; have HW := HQ; clear HQ)
        | (go_at_call 135; refine (RCourse_is _ (p.classes.length : Int) x B1 d1 (Kd.C_below HE1.out HW.out.box.bel) HL1.out).mono ?_; rintro e w3 ⟨rfl, hB⟩; have HQ := Aside0.mk (HW.out.below hB); clear HW hB; have HW := HQ; clear HQ))
      go_wp2
      exact ⟨⟨i + 1, by omega, by go_num, ⟨by rw [takeS HXi.out, List.map_append, List.map_append]; exact HW.out⟩⟩, by simp [intOf]; omega⟩
    · obtain rfl : i = p.courses.length := by omega
      have HW2 := HW.out
      rw [List.take_length] at HW2
      obtain ⟨k, hk⟩ := (rfirst (courseB (p.classes.length : Int)) (fun x : S61 => x.f0) 16 p.courses (by omega)).rounds
      generalize p.courses.map (fun x : S61 => x.f0) = ns at HW2 hk
      generalize p.courses.map (courseB (p.classes.length : Int)) = rs at HW2 hk
      have HBx := Aside0.mk HW2.box
      clear HW
      obtain ⟨A3, c3, rfl, l3, C3⟩ := Kd.R_reads HW2.n
      obtain ⟨A4, c4, rfl, l4, C4⟩ := Kd.R_reads HW2.r
      have HF := Aside0.mk (And.intro hk (And.intro l3 (And.intro C3 (And.intro l4 C4))))
      clear hk l3 C3 l4 C4 HW2
      go_wp2_with (first
        | (go_at_call 132; (with_reducible refine (Gp.horariumref17_first.calls k A3 c3 ns A4 c4 rs 16 _ _ HF.out.2.2.1 HF.out.2.1 HF.out.2.2.2.2 HF.out.2.2.2.1 HF.out.1).mono ?_); rintro e w3 ⟨rfl, hD⟩; have HB := Aside0.mk (HBx.out.below hD.below); clear hD))
      go_ret
      exact ⟨rfl, HB.out.bel⟩
theorem keepStudent {w w' : World} {g : Nat} {p : PV} {a : PA} {v3 v4 : Value} {ns : List ByteArray} {rs : List Bool} {ad : Addr} {i : Nat} {x : S66} {B1 : Option Addr} {d1 : Nat} (H : RW w w' g p a v3 v4 ns rs) (hA : a.A9 = some ad) (h0 : w.cell? (ad.add (i * 2)) = some (.string x.f0)) (h1 : w.cell? ⟨(ad.add (i * 2)).block, (ad.add (i * 2)).off + 1, none⟩ = some (.slice B1 x.f1.length d1)) : w'.cell? ⟨g, 8, none⟩ = some (.slice a.A8 p.courses.length a.c8) ∧ w'.cell? ⟨g, 9, none⟩ = some (.slice (some ad) p.students.length a.c9) ∧ w'.cell? (ad.add (i * 2)) = some (.string x.f0) ∧ w'.cell? ⟨(ad.add (i * 2)).block, (ad.add (i * 2)).off + 1, none⟩ = some (.slice B1 x.f1.length d1) := by
  have hp := pcx H.box
  rw [hA] at hp
  obtain ⟨q0, q1, q2, q3, q4, q5, q6, q7, q8, q9, q10, q11, q12, q13, q14⟩ := hp
  exact ⟨q8, q9, pw_cell_below H.box.bel h0, pw_cell_below H.box.bel h1⟩
set_option maxRecDepth 100000 in
set_option maxHeartbeats 4000000 in
theorem Rstudents_is (w : World) (p : PV) (a : PA) (hsh : Short p) (K : PRd w p a) (hG : GoodP p) :
    Calls Tryz.prog 67 #[.agg (pcs p a)] w fun e w' => e = .returned (.int .i64 (firstN (badI (studentB (p.courses.length : Int)) (fun x : S66 => x.f0) 200 p.students))) ∧ Below w.heap.size w w' := by
  have HK := Aside0.mk K
  have HG := Aside0.mk hG
  have hmx : p.students.length ≤ 300 := by
    obtain ⟨h1, h2, h3, h4, h5, h6, h7⟩ := hsh
    omega
  have HM := Aside0.mk hmx
  have HSh := Aside0.mk hsh
  clear K hG hsh
  have hu := Tryz.underlying34
  have hug := Tryz.underlying23
  have hut := Tryz.underlying66
  go_enter Tryz.func67, Tryz.ntmps67
  go_wp2_with (first
    | ((with_reducible refine gate_dst (N := 1) rfl ?_); refine box_event ?hg (N := 1) ?hd (cs := pcs p a) (t := 34) ?hr ?_; (case hd => rfl); (case hg => rfl); (case hr => first | (go_simp; done) | (go_simp; rfl)); intro g hg w2 hbox hB; have HP := Aside0.mk (PBox.mk hbox hB (show w.heap.size ≤ g by rw [hg]; exact Nat.le_refl _)); clear hbox hB hg; obtain ⟨hc0, hc1, hc2, hc3, hc4, hc5, hc6, hc7, hc8, hc9, hc10, hc11, hc12, hc13, hc14⟩ := pcx HP.out))
  go_loopw [3, 4, 5] (fun u3 u4 u5 wr => ∃ i : Nat, i ≤ p.students.length ∧ u5 = .int .i64 i ∧ Aside0 (RW w wr g p a u3 u4 ((p.students.take i).map (fun x : S66 => x.f0)) ((p.students.take i).map (studentB (p.courses.length : Int))))) (fun _ _ u5 _ => p.students.length - (intOf u5).toNat)
  case atStart => exact ⟨0, Nat.zero_le _, rfl, ⟨⟨HP.out, Kd.R_nil _ _ _ _ _, Kd.R_nil _ _ _ _ _⟩⟩⟩
  case round =>
    clear HP hc0 hc1 hc2 hc3 hc4 hc5 hc6 hc7 hc8 hc9 hc10 hc11 hc12 hc13 hc14
    obtain ⟨i, hi, rfl, HW⟩ := hrel
    obtain ⟨hc0, hc1, hc2, hc3, hc4, hc5, hc6, hc7, hc8, hc9, hc10, hc11, hc12, hc13, hc14⟩ := pcx HW.out.box
    by_cases him : i < p.students.length
    · have him2 : (i : Int) < (p.students.length : Int) := by omega
      obtain ⟨x, hx⟩ := get_some (l := p.students) (i := i) him
      obtain ⟨ad, B1, d1, hA, hq0, hq1, ⟨g1, l1⟩⟩ := elStudent HK.out.r9 hx
      have HX := Aside0.mk (List.mem_of_getElem? hx)
      have HXi := Aside0.mk hx
      have HE1 := Aside0.mk g1
      have HL1 := Aside0.mk l1
      have HKp := Aside0.mk (fun (wq : World) (v3 v4 : Value) (ns : List ByteArray) (rs : List Bool) (H : RW w wq g p a v3 v4 ns rs) => keepStudent (i := i) H hA hq0 hq1)
      clear hx g1 l1 hq0 hq1
      go_wp2
      clear hc0 hc1 hc2 hc3 hc4 hc5 hc6 hc7 hc8 hc9 hc10 hc11 hc12 hc13 hc14
      have HQ := Aside0.mk HW.out.drew
      clear HW
      have HW := HQ
      clear HQ
      go_region_held3 (fun w' => w'.cell? ⟨g, 8, none⟩ = some (.slice a.A8 p.courses.length a.c8) ∧ w'.cell? ⟨g, 9, none⟩ = some (.slice (some ad) p.students.length a.c9) ∧ w'.cell? (ad.add (i * 2)) = some (.string x.f0) ∧ w'.cell? ⟨(ad.add (i * 2)).block, (ad.add (i * 2)).off + 1, none⟩ = some (.slice B1 x.f1.length d1)) (first | exact HKp.out _ _ _ _ _ HW.out | exact HKp.out _ _ _ _ _ (HW.out.alloc _)) (first
        | (refine Kd.R_append_step Kd.string (w0 := w) w.heap.size (by rfl) (.tmp 13) (.tmp 20) 161 9 (.string ⟨#[]⟩) 16 rfl Tryz.underlying161 info9 rfl (by decide) (by omega) u3 ((p.students.take i).map (fun x : S66 => x.f0)) x.f0 [.string x.f0] (fun _ => True) (fun _ => False) rfl rfl rfl (fun _ hk => hk.elim) (fun _ _ => trivial) HW.out.n HW.out.box.bel HW.out.box.bel.size (by have := HM.out; simp only [List.length_map, List.length_take]; omega) ?_; intro y3 w1 ho hb hg hat; have HQ := Aside0.mk (HW.out.app1 ho hb hg); clear HW ho hb hg hat; have HW := HQ; clear HQ)
        | (refine Kd.R_append_step Kd.bool (w0 := w) w.heap.size (by rfl) (.tmp 22) (.tmp 32) 162 4 (.bool false) 1 rfl Tryz.underlying162 info4 rfl (by decide) (by omega) u4 ((p.students.take i).map (studentB (p.courses.length : Int))) ((studentB (p.courses.length : Int)) x) [.bool ((studentB (p.courses.length : Int)) x)] (fun _ => True) (fun _ => False) rfl rfl rfl (fun _ hk => hk.elim) (fun _ _ => trivial) HW.out.r HW.out.box.bel HW.out.box.bel.size (by have := HM.out; simp only [List.length_map, List.length_take]; omega) ?_; intro y4 w1 ho hb hg hat; have HQ := Aside0.mk (HW.out.app2 ho hb hg); clear HW ho hb hg hat; have HW := HQ; clear HQ)
        | (go_at_call 136; refine (RStudent_is _ (p.courses.length : Int) x B1 d1 (Kd.C_below HE1.out HW.out.box.bel) HL1.out).mono ?_; rintro e w3 ⟨rfl, hB⟩; have HQ := Aside0.mk (HW.out.below hB); clear HW hB; have HW := HQ; clear HQ))
      go_wp2
      exact ⟨⟨i + 1, by omega, by go_num, ⟨by rw [takeS HXi.out, List.map_append, List.map_append]; exact HW.out⟩⟩, by simp [intOf]; omega⟩
    · obtain rfl : i = p.students.length := by omega
      have HW2 := HW.out
      rw [List.take_length] at HW2
      obtain ⟨k, hk⟩ := (rfirst (studentB (p.courses.length : Int)) (fun x : S66 => x.f0) 200 p.students (by omega)).rounds
      generalize p.students.map (fun x : S66 => x.f0) = ns at HW2 hk
      generalize p.students.map (studentB (p.courses.length : Int)) = rs at HW2 hk
      have HBx := Aside0.mk HW2.box
      clear HW
      obtain ⟨A3, c3, rfl, l3, C3⟩ := Kd.R_reads HW2.n
      obtain ⟨A4, c4, rfl, l4, C4⟩ := Kd.R_reads HW2.r
      have HF := Aside0.mk (And.intro hk (And.intro l3 (And.intro C3 (And.intro l4 C4))))
      clear hk l3 C3 l4 C4 HW2
      go_wp2_with (first
        | (go_at_call 132; (with_reducible refine (Gp.horariumref17_first.calls k A3 c3 ns A4 c4 rs 200 _ _ HF.out.2.2.1 HF.out.2.1 HF.out.2.2.2.2 HF.out.2.2.2.1 HF.out.1).mono ?_); rintro e w3 ⟨rfl, hD⟩; have HB := Aside0.mk (HBx.out.below hD.below); clear hD))
      go_ret
      exact ⟨rfl, HB.out.bel⟩
end Go.Proofs.YtineikfhfmiidaaGreat.Pm
namespace Go.Proofs.YtineikfhfmiidaaGreat.Pm
open Go Go.RowKit Go.Proofs.YtineikfhfmiidaaGreat.Gp Go.Proofs.YtineikfhfmiidaaGreat.Mw Go.Proofs.YtineikfhfmiidaaGreatW.PrintWords Go.Proofs.YtineikfhfmiidaaGreatW.PrintLast Go.Proofs.YtineikfhfmiidaaGreatW.PrintMore
set_option linter.unusedVariables false
set_option linter.unusedSimpArgs false
theorem RWeigh_is (w : World) (a b c d : Int) :
    Calls Tryz.prog 69 #[.agg #[.int .i64 a, .int .i64 b, .int .i64 c, .int .i64 d]] w fun e w' => e = .returned (.bool (weighB a b c d)) ∧ Below w.heap.size w w' := by
  obtain ⟨k, hk⟩ := (rweigh a b c d).rounds
  exact Gp.horariumref17_weigh.calls k a b c d _ w hk
theorem RWalk_is (w : World) (n : Int) (A : Option Addr) (c : Nat) (l : List (List Int)) (hl : l.length ≤ 1000) (h : Kd.C (Kd.slice 3 (Kd.int .i64)) w A l.length l) (hc : l.length ≤ c) :
    Calls Tryz.prog 63 #[.int .i64 n, .slice A l.length c] w fun e w' => e = .returned (.bool (walkB n l)) ∧ Below w.heap.size w w' := by
  obtain ⟨k, hk⟩ := (rwalk l hl n).rounds
  refine (Gp.horariumref11_RightWalk.calls k n A c l _ w h hc hk).mono ?_
  rintro e w' ⟨rfl, hD⟩
  exact ⟨rfl, hD.below⟩
theorem isN {r : Option Nat} (h : 0 ≤ firstN r) : r.isSome = true := by
  cases r with
  | none => exact absurd h (by decide)
  | some i => rfl
theorem isN0 {r : Option Nat} (h : firstN r < 0) : r.isSome = false := by
  cases r with
  | none => rfl
  | some i => exact absurd h (show ¬ ((i : Int) < 0) by omega)
theorem badN_eq {r : Option Nat} (h : 0 ≤ firstN r) : firstN r = badN r := by
  cases r with
  | none => exact absurd h (by decide)
  | some i => rfl
set_option maxRecDepth 100000 in
set_option maxHeartbeats 8000000 in
theorem RCheck_is (w : World) (p : PV) (a : PA) (hsh : Short p) (hr : PRd w p a) (hg : GoodP p) :
    Calls Tryz.prog 11 #[.agg (pcs p a)] w fun e w' => e = .returned (.tuple #[.int .i64 (checkE p).1, .int .i64 (checkE p).2]) ∧ Below w.heap.size w w' := by
  have HSh := Aside0.mk hsh
  have HR := Aside0.mk hr
  have HG := Aside0.mk hg
  rw [checkE_eq]
  generalize hb1 : nameB p.nm = b1
  have Fb1 := Aside0.mk hb1
  generalize hb2 : gridB p.g0 p.g1 p.g2 = b2
  have Fb2 := Aside0.mk hb2
  generalize hr1 : badI (roomB p.g0 p.g1 p.g2) (fun x : S47 => x.f0) 24 p.rooms = r1
  have Fr1 := Aside0.mk hr1
  generalize hb3 : walkB (p.rooms.length : Int) p.walk = b3
  have Fb3 := Aside0.mk hb3
  generalize hr2 : badI (personB p.g0 p.g1 p.g2) (fun x : S53 => x.f0) 24 p.persons = r2
  have Fr2 := Aside0.mk hr2
  generalize hr3 : badI (classB p.g0 p.g1 p.g2 (p.rooms.length : Int) (p.persons.length : Int) (p.classes.length : Int)) (fun x : S58 => x.f0) 40 p.classes = r3
  have Fr3 := Aside0.mk hr3
  generalize hr4 : badI (courseB (p.classes.length : Int)) (fun x : S61 => x.f0) 16 p.courses = r4
  have Fr4 := Aside0.mk hr4
  generalize hr5 : badI (studentB (p.courses.length : Int)) (fun x : S66 => x.f0) 200 p.students = r5
  have Fr5 := Aside0.mk hr5
  generalize hr6 : badR (ruleB (p.classes.length : Int)) 60 p.rules = r6
  have Fr6 := Aside0.mk hr6
  generalize hb4 : weighB p.w0 p.w1 p.w2 p.w3 = b4
  have Fb4 := Aside0.mk hb4
  clear hsh hr hg hb1 hb2 hr1 hb3 hr2 hr3 hr4 hr5 hr6 hb4
  have hu40 := Tryz.underlying34
  have hu29 := Tryz.underlying23
  have hu38 := Tryz.underlying32
  go_enter Tryz.func11, Tryz.ntmps11
  go_wp2_with (first
  | ((with_reducible refine gate_dst (N := 1) rfl ?_); refine box_event ?hg (N := 1) ?hd (cs := pcs p a) (t := 34) ?hr ?_; (case hd => rfl); (case hg => rfl); (case hr => first | (go_simp; done) | (go_simp; rfl)); intro g hg w2 hbox hB; have HP := Aside0.mk (PBox.mk hbox hB (show w.heap.size ≤ g by rw [hg]; exact Nat.le_refl _)); clear hbox hB hg; obtain ⟨hc0, hc1, hc2, hc3, hc4, hc5, hc6, hc7, hc8, hc9, hc10, hc11, hc12, hc13, hc14⟩ := pcx HP.out)
  | (go_at_call 60; refine (Gp.horariumref11_Name.calls p.nm _ _ (rname p.nm)).mono ?_; rintro e w3 ⟨rfl, hD⟩; have hB := hD.below; clear hD; rw [Fb1.out]; have HQ := Aside0.mk (HP.out.below hB); clear HP hB hc0 hc1 hc2 hc3 hc4 hc5 hc6 hc7 hc8 hc9 hc10 hc11 hc12 hc13 hc14; have HP := HQ; clear HQ; obtain ⟨hc0, hc1, hc2, hc3, hc4, hc5, hc6, hc7, hc8, hc9, hc10, hc11, hc12, hc13, hc14⟩ := pcx HP.out)
  | (go_at_call 61; refine (Gp.horariumref09_RightGrid.calls p.g0 p.g1 p.g2 _ _ (rgrid _ _ _)).mono ?_; rintro e w3 ⟨rfl, hB⟩; rw [Fb2.out]; have HQ := Aside0.mk (HP.out.below hB); clear HP hB hc0 hc1 hc2 hc3 hc4 hc5 hc6 hc7 hc8 hc9 hc10 hc11 hc12 hc13 hc14; have HP := HQ; clear HQ; obtain ⟨hc0, hc1, hc2, hc3, hc4, hc5, hc6, hc7, hc8, hc9, hc10, hc11, hc12, hc13, hc14⟩ := pcx HP.out)
  | (go_at_call 63; refine (RWalk_is _ (p.rooms.length : Int) a.A5 a.c5 p.walk (by have := HSh.out.2.1; omega) (HR.out.below HP.out.bel).r5 HR.out.l5).mono ?_; rintro e w3 ⟨rfl, hB⟩; rw [Fb3.out]; have HQ := Aside0.mk (HP.out.below hB); clear HP hB hc0 hc1 hc2 hc3 hc4 hc5 hc6 hc7 hc8 hc9 hc10 hc11 hc12 hc13 hc14; have HP := HQ; clear HQ; obtain ⟨hc0, hc1, hc2, hc3, hc4, hc5, hc6, hc7, hc8, hc9, hc10, hc11, hc12, hc13, hc14⟩ := pcx HP.out)
  | (go_at_call 69; refine (RWeigh_is _ p.w0 p.w1 p.w2 p.w3).mono ?_; rintro e w3 ⟨rfl, hB⟩; rw [Fb4.out]; have HQ := Aside0.mk (HP.out.below hB); clear HP hB hc0 hc1 hc2 hc3 hc4 hc5 hc6 hc7 hc8 hc9 hc10 hc11 hc12 hc13 hc14; have HP := HQ; clear HQ; obtain ⟨hc0, hc1, hc2, hc3, hc4, hc5, hc6, hc7, hc8, hc9, hc10, hc11, hc12, hc13, hc14⟩ := pcx HP.out)
  | (go_at_call 62; refine (Rrooms_is _ p a HSh.out (HR.out.below HP.out.bel) HG.out).mono ?_; rintro e w3 ⟨rfl, hB⟩; rw [Fr1.out]; have HQ := Aside0.mk (HP.out.below hB); clear HP hB hc0 hc1 hc2 hc3 hc4 hc5 hc6 hc7 hc8 hc9 hc10 hc11 hc12 hc13 hc14; have HP := HQ; clear HQ; obtain ⟨hc0, hc1, hc2, hc3, hc4, hc5, hc6, hc7, hc8, hc9, hc10, hc11, hc12, hc13, hc14⟩ := pcx HP.out)
  | (go_at_call 64; refine (Rpersons_is _ p a HSh.out (HR.out.below HP.out.bel) HG.out).mono ?_; rintro e w3 ⟨rfl, hB⟩; rw [Fr2.out]; have HQ := Aside0.mk (HP.out.below hB); clear HP hB hc0 hc1 hc2 hc3 hc4 hc5 hc6 hc7 hc8 hc9 hc10 hc11 hc12 hc13 hc14; have HP := HQ; clear HQ; obtain ⟨hc0, hc1, hc2, hc3, hc4, hc5, hc6, hc7, hc8, hc9, hc10, hc11, hc12, hc13, hc14⟩ := pcx HP.out)
  | (go_at_call 65; refine (Rclasses_is _ p a HSh.out (HR.out.below HP.out.bel) HG.out).mono ?_; rintro e w3 ⟨rfl, hB⟩; rw [Fr3.out]; have HQ := Aside0.mk (HP.out.below hB); clear HP hB hc0 hc1 hc2 hc3 hc4 hc5 hc6 hc7 hc8 hc9 hc10 hc11 hc12 hc13 hc14; have HP := HQ; clear HQ; obtain ⟨hc0, hc1, hc2, hc3, hc4, hc5, hc6, hc7, hc8, hc9, hc10, hc11, hc12, hc13, hc14⟩ := pcx HP.out)
  | (go_at_call 66; refine (Rcourses_is _ p a HSh.out (HR.out.below HP.out.bel) HG.out).mono ?_; rintro e w3 ⟨rfl, hB⟩; rw [Fr4.out]; have HQ := Aside0.mk (HP.out.below hB); clear HP hB hc0 hc1 hc2 hc3 hc4 hc5 hc6 hc7 hc8 hc9 hc10 hc11 hc12 hc13 hc14; have HP := HQ; clear HQ; obtain ⟨hc0, hc1, hc2, hc3, hc4, hc5, hc6, hc7, hc8, hc9, hc10, hc11, hc12, hc13, hc14⟩ := pcx HP.out)
  | (go_at_call 67; refine (Rstudents_is _ p a HSh.out (HR.out.below HP.out.bel) HG.out).mono ?_; rintro e w3 ⟨rfl, hB⟩; rw [Fr5.out]; have HQ := Aside0.mk (HP.out.below hB); clear HP hB hc0 hc1 hc2 hc3 hc4 hc5 hc6 hc7 hc8 hc9 hc10 hc11 hc12 hc13 hc14; have HP := HQ; clear HQ; obtain ⟨hc0, hc1, hc2, hc3, hc4, hc5, hc6, hc7, hc8, hc9, hc10, hc11, hc12, hc13, hc14⟩ := pcx HP.out)
  | (go_at_call 68; refine (RRules_is _ p a HSh.out (HR.out.below HP.out.bel)).mono ?_; rintro e w3 ⟨rfl, hB⟩; rw [Fr6.out]; have HQ := Aside0.mk (HP.out.below hB); clear HP hB hc0 hc1 hc2 hc3 hc4 hc5 hc6 hc7 hc8 hc9 hc10 hc11 hc12 hc13 hc14; have HP := HQ; clear HQ; obtain ⟨hc0, hc1, hc2, hc3, hc4, hc5, hc6, hc7, hc8, hc9, hc10, hc11, hc12, hc13, hc14⟩ := pcx HP.out))
  all_goals try (go_quiet (fail); go_wp2)
  all_goals
    refine bodyPost_ret (results_tmp2 rfl _ _ _) rfl ⟨?_, by repeat (first | exact HP.out.bel | apply pw_below_drewN | apply below_alloc)⟩
    unfold chkF
    try (first | rw [show (!b1) = true from ‹_›] | rw [show (!b1) = false from ‹_›])
    try (first | rw [show (!b2) = true from ‹_›] | rw [show (!b2) = false from ‹_›])
    try (first | rw [isN ‹0 ≤ firstN r1›] | rw [isN0 ‹firstN r1 < 0›])
    try (first | rw [show (!b3) = true from ‹_›] | rw [show (!b3) = false from ‹_›])
    try (first | rw [isN ‹0 ≤ firstN r2›] | rw [isN0 ‹firstN r2 < 0›])
    try (first | rw [isN ‹0 ≤ firstN r3›] | rw [isN0 ‹firstN r3 < 0›])
    try (first | rw [isN ‹0 ≤ firstN r4›] | rw [isN0 ‹firstN r4 < 0›])
    try (first | rw [isN ‹0 ≤ firstN r5›] | rw [isN0 ‹firstN r5 < 0›])
    try (first | rw [isN ‹0 ≤ firstN r6›] | rw [isN0 ‹firstN r6 < 0›])
    try (first | rw [show (!b4) = true from ‹_›] | rw [show (!b4) = false from ‹_›])
    try simp only [badN_eq ‹_›]
    try rfl
/-- May a problem be? -/
noncomputable def rightB (p : PV) : Bool := decide ((checkE p).1 = 0)
set_option maxRecDepth 100000 in
set_option maxHeartbeats 2000000 in
theorem Right_is (w : World) (p : PV) (a : PA) (hsh : Short p) (hr : PRd w p a) (hg : GoodP p) :
    Calls Tryz.prog 12 #[.agg (pcs p a)] w fun e w' => e = .returned (.bool (rightB p)) ∧ Below w.heap.size w w' := by
  have HC := Aside0.mk (fun (u : World) (hB : Below w.heap.size w u) => Check_is u p a hsh (hr.below hB) hg)
  clear hsh hr hg
  unfold rightB
  generalize checkE p = r at HC ⊢
  obtain ⟨r1, r2⟩ := r
  have hu40 := Tryz.underlying34
  cases hd : (r1 == 0) with
  | false =>
    have HD : Aside0 (decide (r1 = 0) = false) := ⟨decide_eq_false (by rw [beq_eq_false_iff_ne] at hd; exact hd)⟩
    go_enter Tryz.func12, Tryz.ntmps12
    go_wp2_with (first
      | ((with_reducible refine gate_dst (N := 1) rfl ?_); refine box_event ?hg (N := 1) ?hd (cs := pcs p a) (t := 34) ?hr ?_; (case hd => rfl); (case hg => rfl); (case hr => first | (go_simp; done) | (go_simp; rfl)); intro g hg w2 hbox hB; have HP := Aside0.mk (PBox.mk hbox hB (show w.heap.size ≤ g by rw [hg]; exact Nat.le_refl _)); clear hbox hB hg; obtain ⟨hc0, hc1, hc2, hc3, hc4, hc5, hc6, hc7, hc8, hc9, hc10, hc11, hc12, hc13, hc14⟩ := pcx HP.out)
      | (go_at_call 10; refine (HC.out _ HP.out.bel).mono ?_; rintro e w3 ⟨rfl, hB⟩; have HQ := Aside0.mk (HP.out.below hB); clear HP hB hc0 hc1 hc2 hc3 hc4 hc5 hc6 hc7 hc8 hc9 hc10 hc11 hc12 hc13 hc14; have HP := HQ; clear HQ; obtain ⟨hc0, hc1, hc2, hc3, hc4, hc5, hc6, hc7, hc8, hc9, hc10, hc11, hc12, hc13, hc14⟩ := pcx HP.out))
    go_ret
    exact ⟨congrArg _ (congrArg _ HD.out.symm), HP.out.bel⟩
  | true =>
    have HD : Aside0 (decide (r1 = 0) = true) := ⟨decide_eq_true (by rw [beq_iff_eq] at hd; exact hd)⟩
    go_enter Tryz.func12, Tryz.ntmps12
    go_wp2_with (first
      | ((with_reducible refine gate_dst (N := 1) rfl ?_); refine box_event ?hg (N := 1) ?hd (cs := pcs p a) (t := 34) ?hr ?_; (case hd => rfl); (case hg => rfl); (case hr => first | (go_simp; done) | (go_simp; rfl)); intro g hg w2 hbox hB; have HP := Aside0.mk (PBox.mk hbox hB (show w.heap.size ≤ g by rw [hg]; exact Nat.le_refl _)); clear hbox hB hg; obtain ⟨hc0, hc1, hc2, hc3, hc4, hc5, hc6, hc7, hc8, hc9, hc10, hc11, hc12, hc13, hc14⟩ := pcx HP.out)
      | (go_at_call 10; refine (HC.out _ HP.out.bel).mono ?_; rintro e w3 ⟨rfl, hB⟩; have HQ := Aside0.mk (HP.out.below hB); clear HP hB hc0 hc1 hc2 hc3 hc4 hc5 hc6 hc7 hc8 hc9 hc10 hc11 hc12 hc13 hc14; have HP := HQ; clear HQ; obtain ⟨hc0, hc1, hc2, hc3, hc4, hc5, hc6, hc7, hc8, hc9, hc10, hc11, hc12, hc13, hc14⟩ := pcx HP.out))
    go_ret
    exact ⟨congrArg _ (congrArg _ HD.out.symm), HP.out.bel⟩
end Go.Proofs.YtineikfhfmiidaaGreat.Pm
namespace Go.Proofs.YtineikfhfmiidaaGreat.Pm
open Go Go.RowKit Go.Proofs.YtineikfhfmiidaaGreat.Gp Go.Proofs.YtineikfhfmiidaaGreatW.PrintWords Go.Proofs.YtineikfhfmiidaaGreatW.PrintLast Go.Proofs.YtineikfhfmiidaaGreatW.PrintMore
set_option linter.unusedVariables false
set_option linter.unusedSimpArgs false
theorem PBox.fro {w wr : World} {g : Nat} {t : TypeId} {cs : Array Value} (h : PBox w wr g t cs) (i : Nat) : wr.frozen? ⟨g, i, none⟩ = false := blk_frozen h.blk i
theorem PBox.put {w wr : World} {g : Nat} {t : TypeId} {cs cs' : Array Value} (h : PBox w wr g t cs) (i : Nat) (u : Value) (e : cs.setIfInBounds i u = cs') : PBox w (wr.setCell ⟨g, i, none⟩ u) g t cs' :=
  ⟨blk_put h.blk i u e, h.bel.setCell (p := ⟨g, i, none⟩) h.ge _, h.ge⟩
theorem PBox.far {w wr : World} {g g2 : Nat} {t : TypeId} {cs : Array Value} (h : PBox w wr g t cs) (hne : g ≠ g2) (h2 : w.heap.size ≤ g2) (i : Nat) (u : Value) : PBox w (wr.setCell ⟨g2, i, none⟩ u) g t cs :=
  ⟨blk_far h.blk (p := ⟨g2, i, none⟩) hne u, h.bel.setCell (p := ⟨g2, i, none⟩) h2 _, h.ge⟩
theorem PBox.lt {w wr : World} {g : Nat} {t : TypeId} {cs : Array Value} (h : PBox w wr g t cs) : g < wr.heap.size := (Array.getElem?_eq_some_iff.1 h.blk).1
/-- The argument's block and the result's. -/
structure CB (w wr : World) (g g2 : Nat) : Prop where
  p : PBox w wr g 34 #[.string { data := #[112] }, .int .i64 1, .int .i64 5, .int .i64 10, .slice none 0 0, .slice none 0 0, .slice none 0 0, .slice none 0 0, .slice none 0 0, .slice none 0 0, .slice none 0 0, .int .i64 0, .int .i64 0, .int .i64 0, .int .i64 0]
  z : PBox w wr g2 34 #[.string ByteArray.empty, .int .i64 0, .int .i64 0, .int .i64 0, .slice none 0 0, .slice none 0 0, .slice none 0 0, .slice none 0 0, .slice none 0 0, .slice none 0 0, .slice none 0 0, .int .i64 0, .int .i64 0, .int .i64 0, .int .i64 0]
  ne : g2 ≠ g
theorem CB.below {w wr w1 : World} {g g2 : Nat} (h : CB w wr g g2) (hB : Below wr.heap.size wr w1) : CB w w1 g g2 := ⟨h.p.below hB, h.z.below hB, h.ne⟩
theorem CB.put {w wr : World} {g g2 : Nat} (h : CB w wr g g2) (i : Nat) (e : (#[.string { data := #[112] }, .int .i64 1, .int .i64 5, .int .i64 10, .slice none 0 0, .slice none 0 0, .slice none 0 0, .slice none 0 0, .slice none 0 0, .slice none 0 0, .slice none 0 0, .int .i64 0, .int .i64 0, .int .i64 0, .int .i64 0] : Array Value).setIfInBounds i (.slice none 0 0) = #[.string { data := #[112] }, .int .i64 1, .int .i64 5, .int .i64 10, .slice none 0 0, .slice none 0 0, .slice none 0 0, .slice none 0 0, .slice none 0 0, .slice none 0 0, .slice none 0 0, .int .i64 0, .int .i64 0, .int .i64 0, .int .i64 0]) : CB w (wr.setCell ⟨g, i, none⟩ (.slice none 0 0)) g g2 :=
  ⟨h.p.put i _ e, h.z.far h.ne h.p.ge i _, h.ne⟩
set_option maxRecDepth 100000 in
set_option maxHeartbeats 2000000 in
theorem Copy_p (w : World) :
    Calls Tryz.prog 14 #[.agg #[.string { data := #[112] }, .int .i64 1, .int .i64 5, .int .i64 10, .slice none 0 0, .slice none 0 0, .slice none 0 0, .slice none 0 0, .slice none 0 0, .slice none 0 0, .slice none 0 0, .int .i64 0, .int .i64 0, .int .i64 0, .int .i64 0]] w fun e w' => e = .returned (.agg #[.string { data := #[112] }, .int .i64 1, .int .i64 5, .int .i64 10, .slice none 0 0, .slice none 0 0, .slice none 0 0, .slice none 0 0, .slice none 0 0, .slice none 0 0, .slice none 0 0, .int .i64 0, .int .i64 0, .int .i64 0, .int .i64 0]) ∧ Below w.heap.size w w' := by
  have hu40 := Tryz.underlying34
  go_enter Tryz.func14, Tryz.ntmps14
  go_wp2_with (first
    | ((with_reducible refine gate_dst (N := 1) rfl ?_); refine box_event ?hg (N := 1) ?hd (cs := #[.string { data := #[112] }, .int .i64 1, .int .i64 5, .int .i64 10, .slice none 0 0, .slice none 0 0, .slice none 0 0, .slice none 0 0, .slice none 0 0, .slice none 0 0, .slice none 0 0, .int .i64 0, .int .i64 0, .int .i64 0, .int .i64 0]) (t := 34) ?hr ?_; (case hd => rfl); (case hg => rfl); (case hr => first | (go_simp; done) | (go_simp; rfl)); intro g hg w2 hbox hB; have HP := Aside0.mk (PBox.mk hbox hB (show w.heap.size ≤ g by rw [hg]; exact Nat.le_refl _)); clear hbox hB hg)
    | ((with_reducible refine gate_dst (N := 2) rfl ?_); refine box_event ?hg (N := 2) ?hd (cs := #[.string ByteArray.empty, .int .i64 0, .int .i64 0, .int .i64 0, .slice none 0 0, .slice none 0 0, .slice none 0 0, .slice none 0 0, .slice none 0 0, .slice none 0 0, .slice none 0 0, .int .i64 0, .int .i64 0, .int .i64 0, .int .i64 0]) (t := 34) ?hr ?_; (case hd => rfl); (case hg => rfl); (case hr => first | (go_simp; done) | (go_simp; rfl)); intro g2 hg w3 hbox hB; have CP := Aside0.mk (CB.mk (HP.out.below hB) (PBox.mk hbox (below_then HP.out.bel HP.out.bel.size hB) (show w.heap.size ≤ g2 by rw [hg]; exact HP.out.bel.size)) (show g2 ≠ g by have := HP.out.lt; omega)); clear hbox hB hg HP; have hc0 := CP.out.p.cell 0 rfl; have hc1 := CP.out.p.cell 1 rfl; have hc2 := CP.out.p.cell 2 rfl; have hc3 := CP.out.p.cell 3 rfl; have hc4 := CP.out.p.cell 4 rfl; have hc5 := CP.out.p.cell 5 rfl; have hc6 := CP.out.p.cell 6 rfl; have hc7 := CP.out.p.cell 7 rfl; have hc8 := CP.out.p.cell 8 rfl; have hc9 := CP.out.p.cell 9 rfl; have hc10 := CP.out.p.cell 10 rfl; have hc11 := CP.out.p.cell 11 rfl; have hc12 := CP.out.p.cell 12 rfl; have hc13 := CP.out.p.cell 13 rfl; have hc14 := CP.out.p.cell 14 rfl; have hf4 := CP.out.p.fro 4; have hf5 := CP.out.p.fro 5; have hf6 := CP.out.p.fro 6; have hf7 := CP.out.p.fro 7; have hf8 := CP.out.p.fro 8; have hf9 := CP.out.p.fro 9; have hf10 := CP.out.p.fro 10)
    | (go_at_call 73; refine (cloneRoom_nil _).mono ?_; rintro e w3 ⟨rfl, hB⟩; have CQ := Aside0.mk (CB.below (CP.out) hB); clear CP hB hc0 hc1 hc2 hc3 hc4 hc5 hc6 hc7 hc8 hc9 hc10 hc11 hc12 hc13 hc14 hf4 hf5 hf6 hf7 hf8 hf9 hf10; have CP := CQ; clear CQ; have hc0 := CP.out.p.cell 0 rfl; have hc1 := CP.out.p.cell 1 rfl; have hc2 := CP.out.p.cell 2 rfl; have hc3 := CP.out.p.cell 3 rfl; have hc4 := CP.out.p.cell 4 rfl; have hc5 := CP.out.p.cell 5 rfl; have hc6 := CP.out.p.cell 6 rfl; have hc7 := CP.out.p.cell 7 rfl; have hc8 := CP.out.p.cell 8 rfl; have hc9 := CP.out.p.cell 9 rfl; have hc10 := CP.out.p.cell 10 rfl; have hc11 := CP.out.p.cell 11 rfl; have hc12 := CP.out.p.cell 12 rfl; have hc13 := CP.out.p.cell 13 rfl; have hc14 := CP.out.p.cell 14 rfl; have hf4 := CP.out.p.fro 4; have hf5 := CP.out.p.fro 5; have hf6 := CP.out.p.fro 6; have hf7 := CP.out.p.fro 7; have hf8 := CP.out.p.fro 8; have hf9 := CP.out.p.fro 9; have hf10 := CP.out.p.fro 10))
  go_loopw [19] (fun v wr => v = .int .i64 0 ∧ Aside0 (CB w wr g g2)) (fun _ _ => 0)
  case atStart => exact ⟨rfl, ⟨CP.out.put 4 rfl⟩⟩
  case round =>
    clear CP hc0 hc1 hc2 hc3 hc4 hc5 hc6 hc7 hc8 hc9 hc10 hc11 hc12 hc13 hc14 hf4 hf5 hf6 hf7 hf8 hf9 hf10
    obtain ⟨rfl, CP⟩ := hrel
    have hc0 := CP.out.p.cell 0 rfl; have hc1 := CP.out.p.cell 1 rfl; have hc2 := CP.out.p.cell 2 rfl; have hc3 := CP.out.p.cell 3 rfl; have hc4 := CP.out.p.cell 4 rfl; have hc5 := CP.out.p.cell 5 rfl; have hc6 := CP.out.p.cell 6 rfl; have hc7 := CP.out.p.cell 7 rfl; have hc8 := CP.out.p.cell 8 rfl; have hc9 := CP.out.p.cell 9 rfl; have hc10 := CP.out.p.cell 10 rfl; have hc11 := CP.out.p.cell 11 rfl; have hc12 := CP.out.p.cell 12 rfl; have hc13 := CP.out.p.cell 13 rfl; have hc14 := CP.out.p.cell 14 rfl; have hf4 := CP.out.p.fro 4; have hf5 := CP.out.p.fro 5; have hf6 := CP.out.p.fro 6; have hf7 := CP.out.p.fro 7; have hf8 := CP.out.p.fro 8; have hf9 := CP.out.p.fro 9; have hf10 := CP.out.p.fro 10
    go_wp2_with (first
      | (go_at_call 75; refine (rows_nil _).mono ?_; rintro e w3 ⟨rfl, hB⟩; have CQ := Aside0.mk (CB.below (CP.out) hB); clear CP hB hc0 hc1 hc2 hc3 hc4 hc5 hc6 hc7 hc8 hc9 hc10 hc11 hc12 hc13 hc14 hf4 hf5 hf6 hf7 hf8 hf9 hf10; have CP := CQ; clear CQ; have hc0 := CP.out.p.cell 0 rfl; have hc1 := CP.out.p.cell 1 rfl; have hc2 := CP.out.p.cell 2 rfl; have hc3 := CP.out.p.cell 3 rfl; have hc4 := CP.out.p.cell 4 rfl; have hc5 := CP.out.p.cell 5 rfl; have hc6 := CP.out.p.cell 6 rfl; have hc7 := CP.out.p.cell 7 rfl; have hc8 := CP.out.p.cell 8 rfl; have hc9 := CP.out.p.cell 9 rfl; have hc10 := CP.out.p.cell 10 rfl; have hc11 := CP.out.p.cell 11 rfl; have hc12 := CP.out.p.cell 12 rfl; have hc13 := CP.out.p.cell 13 rfl; have hc14 := CP.out.p.cell 14 rfl; have hf4 := CP.out.p.fro 4; have hf5 := CP.out.p.fro 5; have hf6 := CP.out.p.fro 6; have hf7 := CP.out.p.fro 7; have hf8 := CP.out.p.fro 8; have hf9 := CP.out.p.fro 9; have hf10 := CP.out.p.fro 10)
      | (go_at_call 76; refine (clonePerson_nil _).mono ?_; rintro e w3 ⟨rfl, hB⟩; have CQ := Aside0.mk (CB.below (CP.out.put 5 rfl) hB); clear CP hB hc0 hc1 hc2 hc3 hc4 hc5 hc6 hc7 hc8 hc9 hc10 hc11 hc12 hc13 hc14 hf4 hf5 hf6 hf7 hf8 hf9 hf10; have CP := CQ; clear CQ; have hc0 := CP.out.p.cell 0 rfl; have hc1 := CP.out.p.cell 1 rfl; have hc2 := CP.out.p.cell 2 rfl; have hc3 := CP.out.p.cell 3 rfl; have hc4 := CP.out.p.cell 4 rfl; have hc5 := CP.out.p.cell 5 rfl; have hc6 := CP.out.p.cell 6 rfl; have hc7 := CP.out.p.cell 7 rfl; have hc8 := CP.out.p.cell 8 rfl; have hc9 := CP.out.p.cell 9 rfl; have hc10 := CP.out.p.cell 10 rfl; have hc11 := CP.out.p.cell 11 rfl; have hc12 := CP.out.p.cell 12 rfl; have hc13 := CP.out.p.cell 13 rfl; have hc14 := CP.out.p.cell 14 rfl; have hf4 := CP.out.p.fro 4; have hf5 := CP.out.p.fro 5; have hf6 := CP.out.p.fro 6; have hf7 := CP.out.p.fro 7; have hf8 := CP.out.p.fro 8; have hf9 := CP.out.p.fro 9; have hf10 := CP.out.p.fro 10))
    go_loopw [46] (fun v wr => v = .int .i64 0 ∧ Aside0 (CB w wr g g2)) (fun _ _ => 0)
    case atStart => exact ⟨rfl, ⟨CP.out.put 6 rfl⟩⟩
    case round =>
      clear CP hc0 hc1 hc2 hc3 hc4 hc5 hc6 hc7 hc8 hc9 hc10 hc11 hc12 hc13 hc14 hf4 hf5 hf6 hf7 hf8 hf9 hf10
      obtain ⟨rfl, CP⟩ := hrel
      have hc0 := CP.out.p.cell 0 rfl; have hc1 := CP.out.p.cell 1 rfl; have hc2 := CP.out.p.cell 2 rfl; have hc3 := CP.out.p.cell 3 rfl; have hc4 := CP.out.p.cell 4 rfl; have hc5 := CP.out.p.cell 5 rfl; have hc6 := CP.out.p.cell 6 rfl; have hc7 := CP.out.p.cell 7 rfl; have hc8 := CP.out.p.cell 8 rfl; have hc9 := CP.out.p.cell 9 rfl; have hc10 := CP.out.p.cell 10 rfl; have hc11 := CP.out.p.cell 11 rfl; have hc12 := CP.out.p.cell 12 rfl; have hc13 := CP.out.p.cell 13 rfl; have hc14 := CP.out.p.cell 14 rfl; have hf4 := CP.out.p.fro 4; have hf5 := CP.out.p.fro 5; have hf6 := CP.out.p.fro 6; have hf7 := CP.out.p.fro 7; have hf8 := CP.out.p.fro 8; have hf9 := CP.out.p.fro 9; have hf10 := CP.out.p.fro 10
      go_wp2_with (first
        | (go_at_call 77; refine (cloneClass_nil _).mono ?_; rintro e w3 ⟨rfl, hB⟩; have CQ := Aside0.mk (CB.below (CP.out) hB); clear CP hB hc0 hc1 hc2 hc3 hc4 hc5 hc6 hc7 hc8 hc9 hc10 hc11 hc12 hc13 hc14 hf4 hf5 hf6 hf7 hf8 hf9 hf10; have CP := CQ; clear CQ; have hc0 := CP.out.p.cell 0 rfl; have hc1 := CP.out.p.cell 1 rfl; have hc2 := CP.out.p.cell 2 rfl; have hc3 := CP.out.p.cell 3 rfl; have hc4 := CP.out.p.cell 4 rfl; have hc5 := CP.out.p.cell 5 rfl; have hc6 := CP.out.p.cell 6 rfl; have hc7 := CP.out.p.cell 7 rfl; have hc8 := CP.out.p.cell 8 rfl; have hc9 := CP.out.p.cell 9 rfl; have hc10 := CP.out.p.cell 10 rfl; have hc11 := CP.out.p.cell 11 rfl; have hc12 := CP.out.p.cell 12 rfl; have hc13 := CP.out.p.cell 13 rfl; have hc14 := CP.out.p.cell 14 rfl; have hf4 := CP.out.p.fro 4; have hf5 := CP.out.p.fro 5; have hf6 := CP.out.p.fro 6; have hf7 := CP.out.p.fro 7; have hf8 := CP.out.p.fro 8; have hf9 := CP.out.p.fro 9; have hf10 := CP.out.p.fro 10))
      go_loopw [69] (fun v wr => v = .int .i64 0 ∧ Aside0 (CB w wr g g2)) (fun _ _ => 0)
      case atStart => exact ⟨rfl, ⟨CP.out.put 7 rfl⟩⟩
      case round =>
        clear CP hc0 hc1 hc2 hc3 hc4 hc5 hc6 hc7 hc8 hc9 hc10 hc11 hc12 hc13 hc14 hf4 hf5 hf6 hf7 hf8 hf9 hf10
        obtain ⟨rfl, CP⟩ := hrel
        have hc0 := CP.out.p.cell 0 rfl; have hc1 := CP.out.p.cell 1 rfl; have hc2 := CP.out.p.cell 2 rfl; have hc3 := CP.out.p.cell 3 rfl; have hc4 := CP.out.p.cell 4 rfl; have hc5 := CP.out.p.cell 5 rfl; have hc6 := CP.out.p.cell 6 rfl; have hc7 := CP.out.p.cell 7 rfl; have hc8 := CP.out.p.cell 8 rfl; have hc9 := CP.out.p.cell 9 rfl; have hc10 := CP.out.p.cell 10 rfl; have hc11 := CP.out.p.cell 11 rfl; have hc12 := CP.out.p.cell 12 rfl; have hc13 := CP.out.p.cell 13 rfl; have hc14 := CP.out.p.cell 14 rfl; have hf4 := CP.out.p.fro 4; have hf5 := CP.out.p.fro 5; have hf6 := CP.out.p.fro 6; have hf7 := CP.out.p.fro 7; have hf8 := CP.out.p.fro 8; have hf9 := CP.out.p.fro 9; have hf10 := CP.out.p.fro 10
        go_wp2_with (first
          | (go_at_call 81; refine (cloneCourse_nil _).mono ?_; rintro e w3 ⟨rfl, hB⟩; have CQ := Aside0.mk (CB.below (CP.out) hB); clear CP hB hc0 hc1 hc2 hc3 hc4 hc5 hc6 hc7 hc8 hc9 hc10 hc11 hc12 hc13 hc14 hf4 hf5 hf6 hf7 hf8 hf9 hf10; have CP := CQ; clear CQ; have hc0 := CP.out.p.cell 0 rfl; have hc1 := CP.out.p.cell 1 rfl; have hc2 := CP.out.p.cell 2 rfl; have hc3 := CP.out.p.cell 3 rfl; have hc4 := CP.out.p.cell 4 rfl; have hc5 := CP.out.p.cell 5 rfl; have hc6 := CP.out.p.cell 6 rfl; have hc7 := CP.out.p.cell 7 rfl; have hc8 := CP.out.p.cell 8 rfl; have hc9 := CP.out.p.cell 9 rfl; have hc10 := CP.out.p.cell 10 rfl; have hc11 := CP.out.p.cell 11 rfl; have hc12 := CP.out.p.cell 12 rfl; have hc13 := CP.out.p.cell 13 rfl; have hc14 := CP.out.p.cell 14 rfl; have hf4 := CP.out.p.fro 4; have hf5 := CP.out.p.fro 5; have hf6 := CP.out.p.fro 6; have hf7 := CP.out.p.fro 7; have hf8 := CP.out.p.fro 8; have hf9 := CP.out.p.fro 9; have hf10 := CP.out.p.fro 10))
        go_loopw [108] (fun v wr => v = .int .i64 0 ∧ Aside0 (CB w wr g g2)) (fun _ _ => 0)
        case atStart => exact ⟨rfl, ⟨CP.out.put 8 rfl⟩⟩
        case round =>
          clear CP hc0 hc1 hc2 hc3 hc4 hc5 hc6 hc7 hc8 hc9 hc10 hc11 hc12 hc13 hc14 hf4 hf5 hf6 hf7 hf8 hf9 hf10
          obtain ⟨rfl, CP⟩ := hrel
          have hc0 := CP.out.p.cell 0 rfl; have hc1 := CP.out.p.cell 1 rfl; have hc2 := CP.out.p.cell 2 rfl; have hc3 := CP.out.p.cell 3 rfl; have hc4 := CP.out.p.cell 4 rfl; have hc5 := CP.out.p.cell 5 rfl; have hc6 := CP.out.p.cell 6 rfl; have hc7 := CP.out.p.cell 7 rfl; have hc8 := CP.out.p.cell 8 rfl; have hc9 := CP.out.p.cell 9 rfl; have hc10 := CP.out.p.cell 10 rfl; have hc11 := CP.out.p.cell 11 rfl; have hc12 := CP.out.p.cell 12 rfl; have hc13 := CP.out.p.cell 13 rfl; have hc14 := CP.out.p.cell 14 rfl; have hf4 := CP.out.p.fro 4; have hf5 := CP.out.p.fro 5; have hf6 := CP.out.p.fro 6; have hf7 := CP.out.p.fro 7; have hf8 := CP.out.p.fro 8; have hf9 := CP.out.p.fro 9; have hf10 := CP.out.p.fro 10
          go_wp2_with (first
            | (go_at_call 83; refine (cloneStudent_nil _).mono ?_; rintro e w3 ⟨rfl, hB⟩; have CQ := Aside0.mk (CB.below (CP.out) hB); clear CP hB hc0 hc1 hc2 hc3 hc4 hc5 hc6 hc7 hc8 hc9 hc10 hc11 hc12 hc13 hc14 hf4 hf5 hf6 hf7 hf8 hf9 hf10; have CP := CQ; clear CQ; have hc0 := CP.out.p.cell 0 rfl; have hc1 := CP.out.p.cell 1 rfl; have hc2 := CP.out.p.cell 2 rfl; have hc3 := CP.out.p.cell 3 rfl; have hc4 := CP.out.p.cell 4 rfl; have hc5 := CP.out.p.cell 5 rfl; have hc6 := CP.out.p.cell 6 rfl; have hc7 := CP.out.p.cell 7 rfl; have hc8 := CP.out.p.cell 8 rfl; have hc9 := CP.out.p.cell 9 rfl; have hc10 := CP.out.p.cell 10 rfl; have hc11 := CP.out.p.cell 11 rfl; have hc12 := CP.out.p.cell 12 rfl; have hc13 := CP.out.p.cell 13 rfl; have hc14 := CP.out.p.cell 14 rfl; have hf4 := CP.out.p.fro 4; have hf5 := CP.out.p.fro 5; have hf6 := CP.out.p.fro 6; have hf7 := CP.out.p.fro 7; have hf8 := CP.out.p.fro 8; have hf9 := CP.out.p.fro 9; have hf10 := CP.out.p.fro 10))
          go_loopw [156] (fun v wr => v = .int .i64 0 ∧ Aside0 (CB w wr g g2)) (fun _ _ => 0)
          case atStart => exact ⟨rfl, ⟨CP.out.put 9 rfl⟩⟩
          case round =>
            clear CP hc0 hc1 hc2 hc3 hc4 hc5 hc6 hc7 hc8 hc9 hc10 hc11 hc12 hc13 hc14 hf4 hf5 hf6 hf7 hf8 hf9 hf10
            obtain ⟨rfl, CP⟩ := hrel
            have hc0 := CP.out.p.cell 0 rfl; have hc1 := CP.out.p.cell 1 rfl; have hc2 := CP.out.p.cell 2 rfl; have hc3 := CP.out.p.cell 3 rfl; have hc4 := CP.out.p.cell 4 rfl; have hc5 := CP.out.p.cell 5 rfl; have hc6 := CP.out.p.cell 6 rfl; have hc7 := CP.out.p.cell 7 rfl; have hc8 := CP.out.p.cell 8 rfl; have hc9 := CP.out.p.cell 9 rfl; have hc10 := CP.out.p.cell 10 rfl; have hc11 := CP.out.p.cell 11 rfl; have hc12 := CP.out.p.cell 12 rfl; have hc13 := CP.out.p.cell 13 rfl; have hc14 := CP.out.p.cell 14 rfl; have hf4 := CP.out.p.fro 4; have hf5 := CP.out.p.fro 5; have hf6 := CP.out.p.fro 6; have hf7 := CP.out.p.fro 7; have hf8 := CP.out.p.fro 8; have hf9 := CP.out.p.fro 9; have hf10 := CP.out.p.fro 10
            go_wp2_with (first
              | (go_at_call 84; refine (cloneRule_nil _).mono ?_; rintro e w3 ⟨rfl, hB⟩; have CQ := Aside0.mk (CB.below (CP.out) hB); clear CP hB hc0 hc1 hc2 hc3 hc4 hc5 hc6 hc7 hc8 hc9 hc10 hc11 hc12 hc13 hc14 hf4 hf5 hf6 hf7 hf8 hf9 hf10; have CP := CQ; clear CQ; have hc0 := CP.out.p.cell 0 rfl; have hc1 := CP.out.p.cell 1 rfl; have hc2 := CP.out.p.cell 2 rfl; have hc3 := CP.out.p.cell 3 rfl; have hc4 := CP.out.p.cell 4 rfl; have hc5 := CP.out.p.cell 5 rfl; have hc6 := CP.out.p.cell 6 rfl; have hc7 := CP.out.p.cell 7 rfl; have hc8 := CP.out.p.cell 8 rfl; have hc9 := CP.out.p.cell 9 rfl; have hc10 := CP.out.p.cell 10 rfl; have hc11 := CP.out.p.cell 11 rfl; have hc12 := CP.out.p.cell 12 rfl; have hc13 := CP.out.p.cell 13 rfl; have hc14 := CP.out.p.cell 14 rfl; have hf4 := CP.out.p.fro 4; have hf5 := CP.out.p.fro 5; have hf6 := CP.out.p.fro 6; have hf7 := CP.out.p.fro 7; have hf8 := CP.out.p.fro 8; have hf9 := CP.out.p.fro 9; have hf10 := CP.out.p.fro 10))
            go_loopw [179] (fun v wr => v = .int .i64 0 ∧ Aside0 (CB w wr g g2)) (fun _ _ => 0)
            case atStart => exact ⟨rfl, ⟨CP.out.put 10 rfl⟩⟩
            case round =>
              clear CP hc0 hc1 hc2 hc3 hc4 hc5 hc6 hc7 hc8 hc9 hc10 hc11 hc12 hc13 hc14 hf4 hf5 hf6 hf7 hf8 hf9 hf10
              obtain ⟨rfl, CP⟩ := hrel
              have hc0 := CP.out.p.cell 0 rfl; have hc1 := CP.out.p.cell 1 rfl; have hc2 := CP.out.p.cell 2 rfl; have hc3 := CP.out.p.cell 3 rfl; have hc4 := CP.out.p.cell 4 rfl; have hc5 := CP.out.p.cell 5 rfl; have hc6 := CP.out.p.cell 6 rfl; have hc7 := CP.out.p.cell 7 rfl; have hc8 := CP.out.p.cell 8 rfl; have hc9 := CP.out.p.cell 9 rfl; have hc10 := CP.out.p.cell 10 rfl; have hc11 := CP.out.p.cell 11 rfl; have hc12 := CP.out.p.cell 12 rfl; have hc13 := CP.out.p.cell 13 rfl; have hc14 := CP.out.p.cell 14 rfl; have hf4 := CP.out.p.fro 4; have hf5 := CP.out.p.fro 5; have hf6 := CP.out.p.fro 6; have hf7 := CP.out.p.fro 7; have hf8 := CP.out.p.fro 8; have hf9 := CP.out.p.fro 9; have hf10 := CP.out.p.fro 10
              have hz0 := CP.out.z.fro 0; have hz1 := CP.out.z.fro 1; have hz2 := CP.out.z.fro 2; have hz3 := CP.out.z.fro 3; have hz4 := CP.out.z.fro 4; have hz5 := CP.out.z.fro 5; have hz6 := CP.out.z.fro 6; have hz7 := CP.out.z.fro 7; have hz8 := CP.out.z.fro 8; have hz9 := CP.out.z.fro 9; have hz10 := CP.out.z.fro 10; have hz11 := CP.out.z.fro 11; have hz12 := CP.out.z.fro 12; have hz13 := CP.out.z.fro 13; have hz14 := CP.out.z.fro 14
              have hd0 := CP.out.z.cell 0 rfl; have hd1 := CP.out.z.cell 1 rfl; have hd2 := CP.out.z.cell 2 rfl; have hd3 := CP.out.z.cell 3 rfl; have hd4 := CP.out.z.cell 4 rfl; have hd5 := CP.out.z.cell 5 rfl; have hd6 := CP.out.z.cell 6 rfl; have hd7 := CP.out.z.cell 7 rfl; have hd8 := CP.out.z.cell 8 rfl; have hd9 := CP.out.z.cell 9 rfl; have hd10 := CP.out.z.cell 10 rfl; have hd11 := CP.out.z.cell 11 rfl; have hd12 := CP.out.z.cell 12 rfl; have hd13 := CP.out.z.cell 13 rfl; have hd14 := CP.out.z.cell 14 rfl
              go_wp2
              have HK : PBox w _ g2 34 #[.string { data := #[112] }, .int .i64 1, .int .i64 5, .int .i64 10, .slice none 0 0, .slice none 0 0, .slice none 0 0, .slice none 0 0, .slice none 0 0, .slice none 0 0, .slice none 0 0, .int .i64 0, .int .i64 0, .int .i64 0, .int .i64 0] := (((((((((((((((CP.out.z.put 0 (.string { data := #[112] }) rfl).put 1 (.int .i64 1) rfl).put 2 (.int .i64 5) rfl).put 3 (.int .i64 10) rfl).put 4 (.slice none 0 0) rfl).put 5 (.slice none 0 0) rfl).put 6 (.slice none 0 0) rfl).put 7 (.slice none 0 0) rfl).put 8 (.slice none 0 0) rfl).put 9 (.slice none 0 0) rfl).put 10 (.slice none 0 0) rfl).put 11 (.int .i64 0) rfl).put 12 (.int .i64 0) rfl).put 13 (.int .i64 0) rfl).put 14 (.int .i64 0) rfl)
              refine bodyPost_ret (results_single rfl (Vals.cell g2 34 #[.string { data := #[112] }, .int .i64 1, .int .i64 5, .int .i64 10, .slice none 0 0, .slice none 0 0, .slice none 0 0, .slice none 0 0, .slice none 0 0, .slice none 0 0, .slice none 0 0, .int .i64 0, .int .i64 0, .int .i64 0, .int .i64 0] (0, 0) _ rfl HK.blk hu40 rfl (by kernel_rfl) .nil)) rfl ?_
              exact ⟨rfl, HK.bel⟩
end Go.Proofs.YtineikfhfmiidaaGreat.Pm
namespace Go.Proofs.YtineikfhfmiidaaGreat.Pm
open Go Go.RowKit Go.Proofs.YtineikfhfmiidaaGreat.Gp Go.Proofs.YtineikfhfmiidaaGreatW.PrintWords Go.Proofs.YtineikfhfmiidaaGreatW.PrintLast Go.Proofs.YtineikfhfmiidaaGreatW.PrintMore
set_option linter.unusedVariables false
set_option linter.unusedSimpArgs false
set_option maxRecDepth 100000 in
theorem Right_p (w : World) :
    Calls Tryz.prog 12 #[.agg #[.string { data := #[112] }, .int .i64 1, .int .i64 5, .int .i64 10, .slice none 0 0, .slice none 0 0, .slice none 0 0, .slice none 0 0, .slice none 0 0, .slice none 0 0, .slice none 0 0, .int .i64 0, .int .i64 0, .int .i64 0, .int .i64 0]] w fun e w' => e = .returned (.bool true) ∧ Below w.heap.size w w' := by
  have hu40 := Tryz.underlying34
  go_enter Tryz.func12, Tryz.ntmps12
  go_wp2_with (first
    | ((with_reducible refine gate_dst (N := 1) rfl ?_); refine box_event ?hg (N := 1) ?hd (cs := #[.string { data := #[112] }, .int .i64 1, .int .i64 5, .int .i64 10, .slice none 0 0, .slice none 0 0, .slice none 0 0, .slice none 0 0, .slice none 0 0, .slice none 0 0, .slice none 0 0, .int .i64 0, .int .i64 0, .int .i64 0, .int .i64 0]) (t := 34) ?hr ?_; (case hd => rfl); (case hg => rfl); (case hr => first | (go_simp; done) | (go_simp; rfl)); intro g hg w2 hbox hB; have HP := Aside0.mk (PBox.mk hbox hB (show w.heap.size ≤ g by rw [hg]; exact Nat.le_refl _)); clear hbox hB hg; have hc0 := HP.out.cell 0 rfl; have hc1 := HP.out.cell 1 rfl; have hc2 := HP.out.cell 2 rfl; have hc3 := HP.out.cell 3 rfl; have hc4 := HP.out.cell 4 rfl; have hc5 := HP.out.cell 5 rfl; have hc6 := HP.out.cell 6 rfl; have hc7 := HP.out.cell 7 rfl; have hc8 := HP.out.cell 8 rfl; have hc9 := HP.out.cell 9 rfl; have hc10 := HP.out.cell 10 rfl; have hc11 := HP.out.cell 11 rfl; have hc12 := HP.out.cell 12 rfl; have hc13 := HP.out.cell 13 rfl; have hc14 := HP.out.cell 14 rfl)
    | (go_at_call 10; refine (Check_p _).mono ?_; rintro e w3 ⟨rfl, hB⟩; have HQ := Aside0.mk (HP.out.below hB); clear HP hB hc0 hc1 hc2 hc3 hc4 hc5 hc6 hc7 hc8 hc9 hc10 hc11 hc12 hc13 hc14; have HP := HQ; clear HQ; have hc0 := HP.out.cell 0 rfl; have hc1 := HP.out.cell 1 rfl; have hc2 := HP.out.cell 2 rfl; have hc3 := HP.out.cell 3 rfl; have hc4 := HP.out.cell 4 rfl; have hc5 := HP.out.cell 5 rfl; have hc6 := HP.out.cell 6 rfl; have hc7 := HP.out.cell 7 rfl; have hc8 := HP.out.cell 8 rfl; have hc9 := HP.out.cell 9 rfl; have hc10 := HP.out.cell 10 rfl; have hc11 := HP.out.cell 11 rfl; have hc12 := HP.out.cell 12 rfl; have hc13 := HP.out.cell 13 rfl; have hc14 := HP.out.cell 14 rfl))
  go_ret
  exact ⟨rfl, HP.out.bel⟩
set_option maxRecDepth 100000 in
theorem Plans_p (w : World) :
    Calls Tryz.prog 19 #[.agg #[.string { data := #[112] }, .int .i64 1, .int .i64 5, .int .i64 10, .slice none 0 0, .slice none 0 0, .slice none 0 0, .slice none 0 0, .slice none 0 0, .slice none 0 0, .slice none 0 0, .int .i64 0, .int .i64 0, .int .i64 0, .int .i64 0], .int .i64 9] w fun e w' => e = .returned (.int .i64 1) ∧ Below w.heap.size w w' := by
  have hu40 := Tryz.underlying34
  go_enter Tryz.func19, Tryz.ntmps19
  go_wp2_with (first
    | ((with_reducible refine gate_dst (N := 2) rfl ?_); refine box_event ?hg (N := 2) ?hd (cs := #[.string { data := #[112] }, .int .i64 1, .int .i64 5, .int .i64 10, .slice none 0 0, .slice none 0 0, .slice none 0 0, .slice none 0 0, .slice none 0 0, .slice none 0 0, .slice none 0 0, .int .i64 0, .int .i64 0, .int .i64 0, .int .i64 0]) (t := 34) ?hr ?_; (case hd => rfl); (case hg => rfl); (case hr => first | (go_simp; done) | (go_simp; rfl)); intro g hg w2 hbox hB; have HP := Aside0.mk (PBox.mk hbox hB (show w.heap.size ≤ g by rw [hg]; exact Nat.le_refl _)); clear hbox hB hg; have hc0 := HP.out.cell 0 rfl; have hc1 := HP.out.cell 1 rfl; have hc2 := HP.out.cell 2 rfl; have hc3 := HP.out.cell 3 rfl; have hc4 := HP.out.cell 4 rfl; have hc5 := HP.out.cell 5 rfl; have hc6 := HP.out.cell 6 rfl; have hc7 := HP.out.cell 7 rfl; have hc8 := HP.out.cell 8 rfl; have hc9 := HP.out.cell 9 rfl; have hc10 := HP.out.cell 10 rfl; have hc11 := HP.out.cell 11 rfl; have hc12 := HP.out.cell 12 rfl; have hc13 := HP.out.cell 13 rfl; have hc14 := HP.out.cell 14 rfl)
    | (go_at_call 12; refine (Right_p _).mono ?_; rintro e w3 ⟨rfl, hB⟩; have HQ := Aside0.mk (HP.out.below hB); clear HP hB hc0 hc1 hc2 hc3 hc4 hc5 hc6 hc7 hc8 hc9 hc10 hc11 hc12 hc13 hc14; have HP := HQ; clear HQ; have hc0 := HP.out.cell 0 rfl; have hc1 := HP.out.cell 1 rfl; have hc2 := HP.out.cell 2 rfl; have hc3 := HP.out.cell 3 rfl; have hc4 := HP.out.cell 4 rfl; have hc5 := HP.out.cell 5 rfl; have hc6 := HP.out.cell 6 rfl; have hc7 := HP.out.cell 7 rfl; have hc8 := HP.out.cell 8 rfl; have hc9 := HP.out.cell 9 rfl; have hc10 := HP.out.cell 10 rfl; have hc11 := HP.out.cell 11 rfl; have hc12 := HP.out.cell 12 rfl; have hc13 := HP.out.cell 13 rfl; have hc14 := HP.out.cell 14 rfl))
  go_loopw [5, 19] (fun v5 v19 wr => v5 = .int .i64 1 ∧ v19 = .int .i64 0 ∧ Aside0 (Below w.heap.size w wr)) (fun _ _ _ => 0)
  case atStart => exact ⟨rfl, rfl, ⟨HP.out.bel⟩⟩
  case round =>
    clear HP hc0 hc1 hc2 hc3 hc4 hc5 hc6 hc7 hc8 hc9 hc10 hc11 hc12 hc13 hc14
    obtain ⟨rfl, rfl, HB⟩ := hrel
    go_wp2
    go_ret
    exact ⟨rfl, HB.out⟩
set_option maxRecDepth 100000 in
theorem place_nil (w : World) (f : Value) (s : ByteArray) (hf : f.cells = #[f]) :
    Calls Tryz.prog 110 #[.slice none 0 0, f, .string s] w fun e w' => e = .returned (.int .i64 (-1)) ∧ Below w.heap.size w w' := by
  go_enter Tryz.func110, Tryz.ntmps110
  go_wp2_with (first
    | (go_at_call 151; refine (indexClass_nil _ _).mono ?_; rintro e w3 ⟨rfl, hB⟩; have HB := Aside0.mk hB; clear hB))
  go_ret
  exact ⟨rfl, below_then (below_alloc (below_alloc (Below.refl _ _) _) _) (below_alloc (below_alloc (Below.refl _ _) _) _).size HB.out⟩
set_option maxRecDepth 100000 in
theorem FindClass_p (w : World) :
    Calls Tryz.prog 25 #[.agg #[.string { data := #[112] }, .int .i64 1, .int .i64 5, .int .i64 10, .slice none 0 0, .slice none 0 0, .slice none 0 0, .slice none 0 0, .slice none 0 0, .slice none 0 0, .slice none 0 0, .int .i64 0, .int .i64 0, .int .i64 0, .int .i64 0], .string { data := #[99] }] w fun e w' => e = .returned (.int .i64 (-1)) ∧ Below w.heap.size w w' := by
  have hu40 := Tryz.underlying34
  go_enter Tryz.func25, Tryz.ntmps25
  go_wp2_with (first
    | ((with_reducible refine gate_dst (N := 2) rfl ?_); refine box_event ?hg (N := 2) ?hd (cs := #[.string { data := #[112] }, .int .i64 1, .int .i64 5, .int .i64 10, .slice none 0 0, .slice none 0 0, .slice none 0 0, .slice none 0 0, .slice none 0 0, .slice none 0 0, .slice none 0 0, .int .i64 0, .int .i64 0, .int .i64 0, .int .i64 0]) (t := 34) ?hr ?_; (case hd => rfl); (case hg => rfl); (case hr => first | (go_simp; done) | (go_simp; rfl)); intro g hg w2 hbox hB; have HP := Aside0.mk (PBox.mk hbox hB (show w.heap.size ≤ g by rw [hg]; exact Nat.le_refl _)); clear hbox hB hg; have hc0 := HP.out.cell 0 rfl; have hc1 := HP.out.cell 1 rfl; have hc2 := HP.out.cell 2 rfl; have hc3 := HP.out.cell 3 rfl; have hc4 := HP.out.cell 4 rfl; have hc5 := HP.out.cell 5 rfl; have hc6 := HP.out.cell 6 rfl; have hc7 := HP.out.cell 7 rfl; have hc8 := HP.out.cell 8 rfl; have hc9 := HP.out.cell 9 rfl; have hc10 := HP.out.cell 10 rfl; have hc11 := HP.out.cell 11 rfl; have hc12 := HP.out.cell 12 rfl; have hc13 := HP.out.cell 13 rfl; have hc14 := HP.out.cell 14 rfl)
    | (go_at_call 110; refine (place_nil _ _ _ rfl).mono ?_; rintro e w3 ⟨rfl, hB⟩; have HQ := Aside0.mk (HP.out.below hB); clear HP hB hc0 hc1 hc2 hc3 hc4 hc5 hc6 hc7 hc8 hc9 hc10 hc11 hc12 hc13 hc14; have HP := HQ; clear HQ; have hc0 := HP.out.cell 0 rfl; have hc1 := HP.out.cell 1 rfl; have hc2 := HP.out.cell 2 rfl; have hc3 := HP.out.cell 3 rfl; have hc4 := HP.out.cell 4 rfl; have hc5 := HP.out.cell 5 rfl; have hc6 := HP.out.cell 6 rfl; have hc7 := HP.out.cell 7 rfl; have hc8 := HP.out.cell 8 rfl; have hc9 := HP.out.cell 9 rfl; have hc10 := HP.out.cell 10 rfl; have hc11 := HP.out.cell 11 rfl; have hc12 := HP.out.cell 12 rfl; have hc13 := HP.out.cell 13 rfl; have hc14 := HP.out.cell 14 rfl))
  go_ret
  exact ⟨rfl, HP.out.bel⟩
set_option maxRecDepth 100000 in
set_option maxHeartbeats 1000000 in
theorem Same_p (w : World) :
    Calls Tryz.prog 15 #[.agg #[.string { data := #[112] }, .int .i64 1, .int .i64 5, .int .i64 10, .slice none 0 0, .slice none 0 0, .slice none 0 0, .slice none 0 0, .slice none 0 0, .slice none 0 0, .slice none 0 0, .int .i64 0, .int .i64 0, .int .i64 0, .int .i64 0], .agg #[.string { data := #[112] }, .int .i64 1, .int .i64 5, .int .i64 10, .slice none 0 0, .slice none 0 0, .slice none 0 0, .slice none 0 0, .slice none 0 0, .slice none 0 0, .slice none 0 0, .int .i64 0, .int .i64 0, .int .i64 0, .int .i64 0]] w fun e w' => e = .returned (.bool true) ∧ Below w.heap.size w w' := by
  have hu40 := Tryz.underlying34
  have hu29 := Tryz.underlying23
  have hu38 := Tryz.underlying32
  go_enter Tryz.func15, Tryz.ntmps15
  go_wp2_with (first
    | ((with_reducible refine gate_dst (N := 2) rfl ?_); refine box_event ?hg (N := 2) ?hd (cs := #[.string { data := #[112] }, .int .i64 1, .int .i64 5, .int .i64 10, .slice none 0 0, .slice none 0 0, .slice none 0 0, .slice none 0 0, .slice none 0 0, .slice none 0 0, .slice none 0 0, .int .i64 0, .int .i64 0, .int .i64 0, .int .i64 0]) (t := 34) ?hr ?_; (case hd => rfl); (case hg => rfl); (case hr => first | (go_simp; done) | (go_simp; rfl)); intro g hg w2 hbox hB; have HP := Aside0.mk (PBox.mk hbox hB (show w.heap.size ≤ g by rw [hg]; exact Nat.le_refl _)); clear hbox hB hg)
    | ((with_reducible refine gate_dst (N := 3) rfl ?_); refine box_event ?hg (N := 3) ?hd (cs := #[.string { data := #[112] }, .int .i64 1, .int .i64 5, .int .i64 10, .slice none 0 0, .slice none 0 0, .slice none 0 0, .slice none 0 0, .slice none 0 0, .slice none 0 0, .slice none 0 0, .int .i64 0, .int .i64 0, .int .i64 0, .int .i64 0]) (t := 34) ?hr ?_; (case hd => rfl); (case hg => rfl); (case hr => first | (go_simp; done) | (go_simp; rfl)); intro g2 hg w3 hbox hB; have C2 := Aside0.mk (And.intro (HP.out.below hB) (PBox.mk hbox (below_then HP.out.bel HP.out.bel.size hB) (show w.heap.size ≤ g2 by rw [hg]; exact HP.out.bel.size))); clear hbox hB hg HP; have hc0 := C2.out.1.cell 0 rfl; have hc1 := C2.out.1.cell 1 rfl; have hc2 := C2.out.1.cell 2 rfl; have hc3 := C2.out.1.cell 3 rfl; have hc4 := C2.out.1.cell 4 rfl; have hc5 := C2.out.1.cell 5 rfl; have hc6 := C2.out.1.cell 6 rfl; have hc7 := C2.out.1.cell 7 rfl; have hc8 := C2.out.1.cell 8 rfl; have hc9 := C2.out.1.cell 9 rfl; have hc10 := C2.out.1.cell 10 rfl; have hc11 := C2.out.1.cell 11 rfl; have hc12 := C2.out.1.cell 12 rfl; have hc13 := C2.out.1.cell 13 rfl; have hc14 := C2.out.1.cell 14 rfl; have hd0 := C2.out.2.cell 0 rfl; have hd1 := C2.out.2.cell 1 rfl; have hd2 := C2.out.2.cell 2 rfl; have hd3 := C2.out.2.cell 3 rfl; have hd4 := C2.out.2.cell 4 rfl; have hd5 := C2.out.2.cell 5 rfl; have hd6 := C2.out.2.cell 6 rfl; have hd7 := C2.out.2.cell 7 rfl; have hd8 := C2.out.2.cell 8 rfl; have hd9 := C2.out.2.cell 9 rfl; have hd10 := C2.out.2.cell 10 rfl; have hd11 := C2.out.2.cell 11 rfl; have hd12 := C2.out.2.cell 12 rfl; have hd13 := C2.out.2.cell 13 rfl; have hd14 := C2.out.2.cell 14 rfl)
    | (go_at_call 87; refine (eqRow_nil _ _).mono ?_; rintro e w3 ⟨rfl, hB⟩; have CQ := Aside0.mk (And.intro (C2.out.1.below hB) (C2.out.2.below hB)); clear C2 hB hc0 hc1 hc2 hc3 hc4 hc5 hc6 hc7 hc8 hc9 hc10 hc11 hc12 hc13 hc14 hd0 hd1 hd2 hd3 hd4 hd5 hd6 hd7 hd8 hd9 hd10 hd11 hd12 hd13 hd14; have C2 := CQ; clear CQ; have hc0 := C2.out.1.cell 0 rfl; have hc1 := C2.out.1.cell 1 rfl; have hc2 := C2.out.1.cell 2 rfl; have hc3 := C2.out.1.cell 3 rfl; have hc4 := C2.out.1.cell 4 rfl; have hc5 := C2.out.1.cell 5 rfl; have hc6 := C2.out.1.cell 6 rfl; have hc7 := C2.out.1.cell 7 rfl; have hc8 := C2.out.1.cell 8 rfl; have hc9 := C2.out.1.cell 9 rfl; have hc10 := C2.out.1.cell 10 rfl; have hc11 := C2.out.1.cell 11 rfl; have hc12 := C2.out.1.cell 12 rfl; have hc13 := C2.out.1.cell 13 rfl; have hc14 := C2.out.1.cell 14 rfl; have hd0 := C2.out.2.cell 0 rfl; have hd1 := C2.out.2.cell 1 rfl; have hd2 := C2.out.2.cell 2 rfl; have hd3 := C2.out.2.cell 3 rfl; have hd4 := C2.out.2.cell 4 rfl; have hd5 := C2.out.2.cell 5 rfl; have hd6 := C2.out.2.cell 6 rfl; have hd7 := C2.out.2.cell 7 rfl; have hd8 := C2.out.2.cell 8 rfl; have hd9 := C2.out.2.cell 9 rfl; have hd10 := C2.out.2.cell 10 rfl; have hd11 := C2.out.2.cell 11 rfl; have hd12 := C2.out.2.cell 12 rfl; have hd13 := C2.out.2.cell 13 rfl; have hd14 := C2.out.2.cell 14 rfl)
    | (go_at_call 85; refine (eqRoom_nil _ _).mono ?_; rintro e w3 ⟨rfl, hB⟩; have CQ := Aside0.mk (And.intro (C2.out.1.below hB) (C2.out.2.below hB)); clear C2 hB hc0 hc1 hc2 hc3 hc4 hc5 hc6 hc7 hc8 hc9 hc10 hc11 hc12 hc13 hc14 hd0 hd1 hd2 hd3 hd4 hd5 hd6 hd7 hd8 hd9 hd10 hd11 hd12 hd13 hd14; have C2 := CQ; clear CQ; have hc0 := C2.out.1.cell 0 rfl; have hc1 := C2.out.1.cell 1 rfl; have hc2 := C2.out.1.cell 2 rfl; have hc3 := C2.out.1.cell 3 rfl; have hc4 := C2.out.1.cell 4 rfl; have hc5 := C2.out.1.cell 5 rfl; have hc6 := C2.out.1.cell 6 rfl; have hc7 := C2.out.1.cell 7 rfl; have hc8 := C2.out.1.cell 8 rfl; have hc9 := C2.out.1.cell 9 rfl; have hc10 := C2.out.1.cell 10 rfl; have hc11 := C2.out.1.cell 11 rfl; have hc12 := C2.out.1.cell 12 rfl; have hc13 := C2.out.1.cell 13 rfl; have hc14 := C2.out.1.cell 14 rfl; have hd0 := C2.out.2.cell 0 rfl; have hd1 := C2.out.2.cell 1 rfl; have hd2 := C2.out.2.cell 2 rfl; have hd3 := C2.out.2.cell 3 rfl; have hd4 := C2.out.2.cell 4 rfl; have hd5 := C2.out.2.cell 5 rfl; have hd6 := C2.out.2.cell 6 rfl; have hd7 := C2.out.2.cell 7 rfl; have hd8 := C2.out.2.cell 8 rfl; have hd9 := C2.out.2.cell 9 rfl; have hd10 := C2.out.2.cell 10 rfl; have hd11 := C2.out.2.cell 11 rfl; have hd12 := C2.out.2.cell 12 rfl; have hd13 := C2.out.2.cell 13 rfl; have hd14 := C2.out.2.cell 14 rfl)
    | (go_at_call 89; refine (eqPerson_nil _ _).mono ?_; rintro e w3 ⟨rfl, hB⟩; have CQ := Aside0.mk (And.intro (C2.out.1.below hB) (C2.out.2.below hB)); clear C2 hB hc0 hc1 hc2 hc3 hc4 hc5 hc6 hc7 hc8 hc9 hc10 hc11 hc12 hc13 hc14 hd0 hd1 hd2 hd3 hd4 hd5 hd6 hd7 hd8 hd9 hd10 hd11 hd12 hd13 hd14; have C2 := CQ; clear CQ; have hc0 := C2.out.1.cell 0 rfl; have hc1 := C2.out.1.cell 1 rfl; have hc2 := C2.out.1.cell 2 rfl; have hc3 := C2.out.1.cell 3 rfl; have hc4 := C2.out.1.cell 4 rfl; have hc5 := C2.out.1.cell 5 rfl; have hc6 := C2.out.1.cell 6 rfl; have hc7 := C2.out.1.cell 7 rfl; have hc8 := C2.out.1.cell 8 rfl; have hc9 := C2.out.1.cell 9 rfl; have hc10 := C2.out.1.cell 10 rfl; have hc11 := C2.out.1.cell 11 rfl; have hc12 := C2.out.1.cell 12 rfl; have hc13 := C2.out.1.cell 13 rfl; have hc14 := C2.out.1.cell 14 rfl; have hd0 := C2.out.2.cell 0 rfl; have hd1 := C2.out.2.cell 1 rfl; have hd2 := C2.out.2.cell 2 rfl; have hd3 := C2.out.2.cell 3 rfl; have hd4 := C2.out.2.cell 4 rfl; have hd5 := C2.out.2.cell 5 rfl; have hd6 := C2.out.2.cell 6 rfl; have hd7 := C2.out.2.cell 7 rfl; have hd8 := C2.out.2.cell 8 rfl; have hd9 := C2.out.2.cell 9 rfl; have hd10 := C2.out.2.cell 10 rfl; have hd11 := C2.out.2.cell 11 rfl; have hd12 := C2.out.2.cell 12 rfl; have hd13 := C2.out.2.cell 13 rfl; have hd14 := C2.out.2.cell 14 rfl)
    | (go_at_call 91; refine (eqClass_nil _ _).mono ?_; rintro e w3 ⟨rfl, hB⟩; have CQ := Aside0.mk (And.intro (C2.out.1.below hB) (C2.out.2.below hB)); clear C2 hB hc0 hc1 hc2 hc3 hc4 hc5 hc6 hc7 hc8 hc9 hc10 hc11 hc12 hc13 hc14 hd0 hd1 hd2 hd3 hd4 hd5 hd6 hd7 hd8 hd9 hd10 hd11 hd12 hd13 hd14; have C2 := CQ; clear CQ; have hc0 := C2.out.1.cell 0 rfl; have hc1 := C2.out.1.cell 1 rfl; have hc2 := C2.out.1.cell 2 rfl; have hc3 := C2.out.1.cell 3 rfl; have hc4 := C2.out.1.cell 4 rfl; have hc5 := C2.out.1.cell 5 rfl; have hc6 := C2.out.1.cell 6 rfl; have hc7 := C2.out.1.cell 7 rfl; have hc8 := C2.out.1.cell 8 rfl; have hc9 := C2.out.1.cell 9 rfl; have hc10 := C2.out.1.cell 10 rfl; have hc11 := C2.out.1.cell 11 rfl; have hc12 := C2.out.1.cell 12 rfl; have hc13 := C2.out.1.cell 13 rfl; have hc14 := C2.out.1.cell 14 rfl; have hd0 := C2.out.2.cell 0 rfl; have hd1 := C2.out.2.cell 1 rfl; have hd2 := C2.out.2.cell 2 rfl; have hd3 := C2.out.2.cell 3 rfl; have hd4 := C2.out.2.cell 4 rfl; have hd5 := C2.out.2.cell 5 rfl; have hd6 := C2.out.2.cell 6 rfl; have hd7 := C2.out.2.cell 7 rfl; have hd8 := C2.out.2.cell 8 rfl; have hd9 := C2.out.2.cell 9 rfl; have hd10 := C2.out.2.cell 10 rfl; have hd11 := C2.out.2.cell 11 rfl; have hd12 := C2.out.2.cell 12 rfl; have hd13 := C2.out.2.cell 13 rfl; have hd14 := C2.out.2.cell 14 rfl)
    | (go_at_call 93; refine (eqCourse_nil _ _).mono ?_; rintro e w3 ⟨rfl, hB⟩; have CQ := Aside0.mk (And.intro (C2.out.1.below hB) (C2.out.2.below hB)); clear C2 hB hc0 hc1 hc2 hc3 hc4 hc5 hc6 hc7 hc8 hc9 hc10 hc11 hc12 hc13 hc14 hd0 hd1 hd2 hd3 hd4 hd5 hd6 hd7 hd8 hd9 hd10 hd11 hd12 hd13 hd14; have C2 := CQ; clear CQ; have hc0 := C2.out.1.cell 0 rfl; have hc1 := C2.out.1.cell 1 rfl; have hc2 := C2.out.1.cell 2 rfl; have hc3 := C2.out.1.cell 3 rfl; have hc4 := C2.out.1.cell 4 rfl; have hc5 := C2.out.1.cell 5 rfl; have hc6 := C2.out.1.cell 6 rfl; have hc7 := C2.out.1.cell 7 rfl; have hc8 := C2.out.1.cell 8 rfl; have hc9 := C2.out.1.cell 9 rfl; have hc10 := C2.out.1.cell 10 rfl; have hc11 := C2.out.1.cell 11 rfl; have hc12 := C2.out.1.cell 12 rfl; have hc13 := C2.out.1.cell 13 rfl; have hc14 := C2.out.1.cell 14 rfl; have hd0 := C2.out.2.cell 0 rfl; have hd1 := C2.out.2.cell 1 rfl; have hd2 := C2.out.2.cell 2 rfl; have hd3 := C2.out.2.cell 3 rfl; have hd4 := C2.out.2.cell 4 rfl; have hd5 := C2.out.2.cell 5 rfl; have hd6 := C2.out.2.cell 6 rfl; have hd7 := C2.out.2.cell 7 rfl; have hd8 := C2.out.2.cell 8 rfl; have hd9 := C2.out.2.cell 9 rfl; have hd10 := C2.out.2.cell 10 rfl; have hd11 := C2.out.2.cell 11 rfl; have hd12 := C2.out.2.cell 12 rfl; have hd13 := C2.out.2.cell 13 rfl; have hd14 := C2.out.2.cell 14 rfl)
    | (go_at_call 95; refine (eqStudent_nil _ _).mono ?_; rintro e w3 ⟨rfl, hB⟩; have CQ := Aside0.mk (And.intro (C2.out.1.below hB) (C2.out.2.below hB)); clear C2 hB hc0 hc1 hc2 hc3 hc4 hc5 hc6 hc7 hc8 hc9 hc10 hc11 hc12 hc13 hc14 hd0 hd1 hd2 hd3 hd4 hd5 hd6 hd7 hd8 hd9 hd10 hd11 hd12 hd13 hd14; have C2 := CQ; clear CQ; have hc0 := C2.out.1.cell 0 rfl; have hc1 := C2.out.1.cell 1 rfl; have hc2 := C2.out.1.cell 2 rfl; have hc3 := C2.out.1.cell 3 rfl; have hc4 := C2.out.1.cell 4 rfl; have hc5 := C2.out.1.cell 5 rfl; have hc6 := C2.out.1.cell 6 rfl; have hc7 := C2.out.1.cell 7 rfl; have hc8 := C2.out.1.cell 8 rfl; have hc9 := C2.out.1.cell 9 rfl; have hc10 := C2.out.1.cell 10 rfl; have hc11 := C2.out.1.cell 11 rfl; have hc12 := C2.out.1.cell 12 rfl; have hc13 := C2.out.1.cell 13 rfl; have hc14 := C2.out.1.cell 14 rfl; have hd0 := C2.out.2.cell 0 rfl; have hd1 := C2.out.2.cell 1 rfl; have hd2 := C2.out.2.cell 2 rfl; have hd3 := C2.out.2.cell 3 rfl; have hd4 := C2.out.2.cell 4 rfl; have hd5 := C2.out.2.cell 5 rfl; have hd6 := C2.out.2.cell 6 rfl; have hd7 := C2.out.2.cell 7 rfl; have hd8 := C2.out.2.cell 8 rfl; have hd9 := C2.out.2.cell 9 rfl; have hd10 := C2.out.2.cell 10 rfl; have hd11 := C2.out.2.cell 11 rfl; have hd12 := C2.out.2.cell 12 rfl; have hd13 := C2.out.2.cell 13 rfl; have hd14 := C2.out.2.cell 14 rfl)
    | (go_at_call 97; refine (eqRule_nil _ _).mono ?_; rintro e w3 ⟨rfl, hB⟩; have CQ := Aside0.mk (And.intro (C2.out.1.below hB) (C2.out.2.below hB)); clear C2 hB hc0 hc1 hc2 hc3 hc4 hc5 hc6 hc7 hc8 hc9 hc10 hc11 hc12 hc13 hc14 hd0 hd1 hd2 hd3 hd4 hd5 hd6 hd7 hd8 hd9 hd10 hd11 hd12 hd13 hd14; have C2 := CQ; clear CQ; have hc0 := C2.out.1.cell 0 rfl; have hc1 := C2.out.1.cell 1 rfl; have hc2 := C2.out.1.cell 2 rfl; have hc3 := C2.out.1.cell 3 rfl; have hc4 := C2.out.1.cell 4 rfl; have hc5 := C2.out.1.cell 5 rfl; have hc6 := C2.out.1.cell 6 rfl; have hc7 := C2.out.1.cell 7 rfl; have hc8 := C2.out.1.cell 8 rfl; have hc9 := C2.out.1.cell 9 rfl; have hc10 := C2.out.1.cell 10 rfl; have hc11 := C2.out.1.cell 11 rfl; have hc12 := C2.out.1.cell 12 rfl; have hc13 := C2.out.1.cell 13 rfl; have hc14 := C2.out.1.cell 14 rfl; have hd0 := C2.out.2.cell 0 rfl; have hd1 := C2.out.2.cell 1 rfl; have hd2 := C2.out.2.cell 2 rfl; have hd3 := C2.out.2.cell 3 rfl; have hd4 := C2.out.2.cell 4 rfl; have hd5 := C2.out.2.cell 5 rfl; have hd6 := C2.out.2.cell 6 rfl; have hd7 := C2.out.2.cell 7 rfl; have hd8 := C2.out.2.cell 8 rfl; have hd9 := C2.out.2.cell 9 rfl; have hd10 := C2.out.2.cell 10 rfl; have hd11 := C2.out.2.cell 11 rfl; have hd12 := C2.out.2.cell 12 rfl; have hd13 := C2.out.2.cell 13 rfl; have hd14 := C2.out.2.cell 14 rfl))
  go_ret
  exact ⟨rfl, C2.out.1.bel⟩
end Go.Proofs.YtineikfhfmiidaaGreat.Pm
namespace Go.Proofs.YtineikfhfmiidaaGreat.Pm
open Go Go.RowKit Go.Proofs.YtineikfhfmiidaaGreat.Gp Go.Proofs.YtineikfhfmiidaaGreatW.PrintWords Go.Proofs.YtineikfhfmiidaaGreatW.PrintLast Go.Proofs.YtineikfhfmiidaaGreatW.PrintMore
set_option linter.unusedVariables false
set_option linter.unusedSimpArgs false
theorem litC (W : World) : (Kd.int .i64).C (W.alloc (.cells #[.int .i64 1, .int .i64 0] 3)) (some ⟨W.heap.size, 0, none⟩) 2 [1, 0] := by
  have h2 := World.ownsRow_lit (base := 0) (e := 3) (size := 1) W ([1, 0].map (Value.int .i64)).toArray 2 (Nat.zero_le _) (by simp only [maxLen]; omega) (by simp)
  have h3 : (Kd.int .i64).R 3 (W.alloc (.cells #[.int .i64 1, .int .i64 0] 3)) 0 (fun _ => True) (.slice (some ⟨W.heap.size, 0, none⟩) 2 2) [1, 0] := Kd.R_of_own (by simpa [encs] using h2) (fun _ _ => trivial)
  exact (Kd.R_reads' h3).2.2
theorem rule_ex : ruleOk 2 8 [1, 0] 0 0 true 0 = true := by decide
set_option maxRecDepth 100000 in
set_option maxHeartbeats 2000000 in
theorem heads_is (w : World) : Calls Tryz.prog 9 #[] w fun e w' => e = .returned (.bool true) ∧ Below w.heap.size w w' := by
  have hu40 := Tryz.underlying34
  have hu29 := Tryz.underlying23
  have hu25 := Tryz.underlying69
  go_enter Tryz.func9, Tryz.ntmps9
  go_wp2_with (first
    | ((with_reducible refine gate_dst (N := 1) rfl ?_); refine box_event ?hg (N := 1) ?hd (cs := #[.string ByteArray.empty, .int .i64 0, .int .i64 0, .int .i64 0, .slice none 0 0, .slice none 0 0, .slice none 0 0, .slice none 0 0, .slice none 0 0, .slice none 0 0, .slice none 0 0, .int .i64 0, .int .i64 0, .int .i64 0, .int .i64 0]) (t := 34) ?hr ?_; (case hd => rfl); (case hg => rfl); (case hr => first | (go_simp; done) | (go_simp; rfl)); intro g hg w2 hbox hB; have HZ := Aside0.mk (PBox.mk hbox hB (show w.heap.size ≤ g by rw [hg]; exact Nat.le_refl _)); clear hbox hB hg; have hz0 := HZ.out.cell 0 rfl; have hz1 := HZ.out.cell 1 rfl; have hz2 := HZ.out.cell 2 rfl; have hz3 := HZ.out.cell 3 rfl; have hz4 := HZ.out.cell 4 rfl; have hz5 := HZ.out.cell 5 rfl; have hz6 := HZ.out.cell 6 rfl; have hz7 := HZ.out.cell 7 rfl; have hz8 := HZ.out.cell 8 rfl; have hz9 := HZ.out.cell 9 rfl; have hz10 := HZ.out.cell 10 rfl; have hz11 := HZ.out.cell 11 rfl; have hz12 := HZ.out.cell 12 rfl; have hz13 := HZ.out.cell 13 rfl; have hz14 := HZ.out.cell 14 rfl; have hf0 := HZ.out.fro 0; have hf1 := HZ.out.fro 1; have hf2 := HZ.out.fro 2; have hf3 := HZ.out.fro 3; have hf4 := HZ.out.fro 4; have hf5 := HZ.out.fro 5; have hf6 := HZ.out.fro 6; have hf7 := HZ.out.fro 7; have hf8 := HZ.out.fro 8; have hf9 := HZ.out.fro 9; have hf10 := HZ.out.fro 10; have hf11 := HZ.out.fro 11; have hf12 := HZ.out.fro 12; have hf13 := HZ.out.fro 13; have hf14 := HZ.out.fro 14)
    | (go_at_call 10; (with_reducible refine (Check_p _).mono ?_); rintro e w3 ⟨rfl, hB⟩; have HP0 : Aside0 (PBox w _ g 34 #[.string { data := #[112] }, .int .i64 1, .int .i64 5, .int .i64 10, .slice none 0 0, .slice none 0 0, .slice none 0 0, .slice none 0 0, .slice none 0 0, .slice none 0 0, .slice none 0 0, .int .i64 0, .int .i64 0, .int .i64 0, .int .i64 0]) := Aside0.mk (((((((((((((((HZ.out.put 0 (.string { data := #[112] }) rfl).put 1 (.int .i64 1) rfl).put 2 (.int .i64 5) rfl).put 3 (.int .i64 10) rfl).put 4 (.slice none 0 0) rfl).put 5 (.slice none 0 0) rfl).put 6 (.slice none 0 0) rfl).put 7 (.slice none 0 0) rfl).put 8 (.slice none 0 0) rfl).put 9 (.slice none 0 0) rfl).put 10 (.slice none 0 0) rfl).put 11 (.int .i64 0) rfl).put 12 (.int .i64 0) rfl).put 13 (.int .i64 0) rfl).put 14 (.int .i64 0) rfl); have HP := Aside0.mk (HP0.out.below hB); clear HP0 HZ hB hz0 hz1 hz2 hz3 hz4 hz5 hz6 hz7 hz8 hz9 hz10 hz11 hz12 hz13 hz14 hf0 hf1 hf2 hf3 hf4 hf5 hf6 hf7 hf8 hf9 hf10 hf11 hf12 hf13 hf14; have hc0 := HP.out.cell 0 rfl; have hc1 := HP.out.cell 1 rfl; have hc2 := HP.out.cell 2 rfl; have hc3 := HP.out.cell 3 rfl; have hc4 := HP.out.cell 4 rfl; have hc5 := HP.out.cell 5 rfl; have hc6 := HP.out.cell 6 rfl; have hc7 := HP.out.cell 7 rfl; have hc8 := HP.out.cell 8 rfl; have hc9 := HP.out.cell 9 rfl; have hc10 := HP.out.cell 10 rfl; have hc11 := HP.out.cell 11 rfl; have hc12 := HP.out.cell 12 rfl; have hc13 := HP.out.cell 13 rfl; have hc14 := HP.out.cell 14 rfl)
    | (go_at_call 10; (with_reducible refine (Check_none _).mono ?_); rintro e w3 ⟨rfl, hB⟩; have HQ := Aside0.mk (HP.out.below hB); clear HP hB hc0 hc1 hc2 hc3 hc4 hc5 hc6 hc7 hc8 hc9 hc10 hc11 hc12 hc13 hc14; have HP := HQ; clear HQ; have hc0 := HP.out.cell 0 rfl; have hc1 := HP.out.cell 1 rfl; have hc2 := HP.out.cell 2 rfl; have hc3 := HP.out.cell 3 rfl; have hc4 := HP.out.cell 4 rfl; have hc5 := HP.out.cell 5 rfl; have hc6 := HP.out.cell 6 rfl; have hc7 := HP.out.cell 7 rfl; have hc8 := HP.out.cell 8 rfl; have hc9 := HP.out.cell 9 rfl; have hc10 := HP.out.cell 10 rfl; have hc11 := HP.out.cell 11 rfl; have hc12 := HP.out.cell 12 rfl; have hc13 := HP.out.cell 13 rfl; have hc14 := HP.out.cell 14 rfl))
  have HPd := Aside0.mk (HP.out.below (below_drew (Below.refl _ _)))
  go_region_held3 (fun w' => w'.cell? ⟨g, 0, none⟩ = some (.string { data := #[112] }) ∧ w'.cell? ⟨g, 1, none⟩ = some (.int .i64 1) ∧ w'.cell? ⟨g, 2, none⟩ = some (.int .i64 5) ∧ w'.cell? ⟨g, 3, none⟩ = some (.int .i64 10) ∧ w'.cell? ⟨g, 4, none⟩ = some (.slice none 0 0) ∧ w'.cell? ⟨g, 5, none⟩ = some (.slice none 0 0) ∧ w'.cell? ⟨g, 6, none⟩ = some (.slice none 0 0) ∧ w'.cell? ⟨g, 7, none⟩ = some (.slice none 0 0) ∧ w'.cell? ⟨g, 8, none⟩ = some (.slice none 0 0) ∧ w'.cell? ⟨g, 9, none⟩ = some (.slice none 0 0) ∧ w'.cell? ⟨g, 10, none⟩ = some (.slice none 0 0) ∧ w'.cell? ⟨g, 11, none⟩ = some (.int .i64 0) ∧ w'.cell? ⟨g, 12, none⟩ = some (.int .i64 0) ∧ w'.cell? ⟨g, 13, none⟩ = some (.int .i64 0) ∧ w'.cell? ⟨g, 14, none⟩ = some (.int .i64 0)) (first | exact ⟨hc0, hc1, hc2, hc3, hc4, hc5, hc6, hc7, hc8, hc9, hc10, hc11, hc12, hc13, hc14⟩ | exact ⟨pw_cell_below (below_alloc (Below.refl _ _) _) hc0, pw_cell_below (below_alloc (Below.refl _ _) _) hc1, pw_cell_below (below_alloc (Below.refl _ _) _) hc2, pw_cell_below (below_alloc (Below.refl _ _) _) hc3, pw_cell_below (below_alloc (Below.refl _ _) _) hc4, pw_cell_below (below_alloc (Below.refl _ _) _) hc5, pw_cell_below (below_alloc (Below.refl _ _) _) hc6, pw_cell_below (below_alloc (Below.refl _ _) _) hc7, pw_cell_below (below_alloc (Below.refl _ _) _) hc8, pw_cell_below (below_alloc (Below.refl _ _) _) hc9, pw_cell_below (below_alloc (Below.refl _ _) _) hc10, pw_cell_below (below_alloc (Below.refl _ _) _) hc11, pw_cell_below (below_alloc (Below.refl _ _) _) hc12, pw_cell_below (below_alloc (Below.refl _ _) _) hc13, pw_cell_below (below_alloc (Below.refl _ _) _) hc14⟩) (first
    | (go_at_call 12; refine (Right_p _).mono ?_; rintro e w3 ⟨rfl, hB⟩; have HQ := Aside0.mk (HPd.out.below hB); clear HPd hB hc0 hc1 hc2 hc3 hc4 hc5 hc6 hc7 hc8 hc9 hc10 hc11 hc12 hc13 hc14; have HPd := HQ; clear HQ; have hc0 := HPd.out.cell 0 rfl; have hc1 := HPd.out.cell 1 rfl; have hc2 := HPd.out.cell 2 rfl; have hc3 := HPd.out.cell 3 rfl; have hc4 := HPd.out.cell 4 rfl; have hc5 := HPd.out.cell 5 rfl; have hc6 := HPd.out.cell 6 rfl; have hc7 := HPd.out.cell 7 rfl; have hc8 := HPd.out.cell 8 rfl; have hc9 := HPd.out.cell 9 rfl; have hc10 := HPd.out.cell 10 rfl; have hc11 := HPd.out.cell 11 rfl; have hc12 := HPd.out.cell 12 rfl; have hc13 := HPd.out.cell 13 rfl; have hc14 := HPd.out.cell 14 rfl)
    | (go_at_call 19; refine (Plans_p _).mono ?_; rintro e w3 ⟨rfl, hB⟩; have HQ := Aside0.mk (HPd.out.below hB); clear HPd hB hc0 hc1 hc2 hc3 hc4 hc5 hc6 hc7 hc8 hc9 hc10 hc11 hc12 hc13 hc14; have HPd := HQ; clear HQ; have hc0 := HPd.out.cell 0 rfl; have hc1 := HPd.out.cell 1 rfl; have hc2 := HPd.out.cell 2 rfl; have hc3 := HPd.out.cell 3 rfl; have hc4 := HPd.out.cell 4 rfl; have hc5 := HPd.out.cell 5 rfl; have hc6 := HPd.out.cell 6 rfl; have hc7 := HPd.out.cell 7 rfl; have hc8 := HPd.out.cell 8 rfl; have hc9 := HPd.out.cell 9 rfl; have hc10 := HPd.out.cell 10 rfl; have hc11 := HPd.out.cell 11 rfl; have hc12 := HPd.out.cell 12 rfl; have hc13 := HPd.out.cell 13 rfl; have hc14 := HPd.out.cell 14 rfl)
    | (go_at_call 14; refine (Copy_p _).mono ?_; rintro e w3 ⟨rfl, hB⟩; have HQ := Aside0.mk (HPd.out.below hB); clear HPd hB hc0 hc1 hc2 hc3 hc4 hc5 hc6 hc7 hc8 hc9 hc10 hc11 hc12 hc13 hc14; have HPd := HQ; clear HQ; have hc0 := HPd.out.cell 0 rfl; have hc1 := HPd.out.cell 1 rfl; have hc2 := HPd.out.cell 2 rfl; have hc3 := HPd.out.cell 3 rfl; have hc4 := HPd.out.cell 4 rfl; have hc5 := HPd.out.cell 5 rfl; have hc6 := HPd.out.cell 6 rfl; have hc7 := HPd.out.cell 7 rfl; have hc8 := HPd.out.cell 8 rfl; have hc9 := HPd.out.cell 9 rfl; have hc10 := HPd.out.cell 10 rfl; have hc11 := HPd.out.cell 11 rfl; have hc12 := HPd.out.cell 12 rfl; have hc13 := HPd.out.cell 13 rfl; have hc14 := HPd.out.cell 14 rfl)
    | (go_at_call 15; refine (Same_p _).mono ?_; rintro e w3 ⟨rfl, hB⟩; have HQ := Aside0.mk (HPd.out.below hB); clear HPd hB hc0 hc1 hc2 hc3 hc4 hc5 hc6 hc7 hc8 hc9 hc10 hc11 hc12 hc13 hc14; have HPd := HQ; clear HQ; have hc0 := HPd.out.cell 0 rfl; have hc1 := HPd.out.cell 1 rfl; have hc2 := HPd.out.cell 2 rfl; have hc3 := HPd.out.cell 3 rfl; have hc4 := HPd.out.cell 4 rfl; have hc5 := HPd.out.cell 5 rfl; have hc6 := HPd.out.cell 6 rfl; have hc7 := HPd.out.cell 7 rfl; have hc8 := HPd.out.cell 8 rfl; have hc9 := HPd.out.cell 9 rfl; have hc10 := HPd.out.cell 10 rfl; have hc11 := HPd.out.cell 11 rfl; have hc12 := HPd.out.cell 12 rfl; have hc13 := HPd.out.cell 13 rfl; have hc14 := HPd.out.cell 14 rfl)
    | (go_at_call 33; refine (Rule_is _ 2 8 _ 2 2 [1, 0] 0 0 true 0 rfl (litC _) (Nat.le_refl _) (by decide)).mono ?_; rintro e w3 ⟨rfl, hB⟩; rw [rule_ex]; have hB2 := below_then (below_alloc (Below.refl _ _) _) (below_size (below_alloc (Below.refl _ _) _)) hB; clear hB; have hB := hB2; clear hB2; have HQ := Aside0.mk (HPd.out.below hB); clear HPd hB hc0 hc1 hc2 hc3 hc4 hc5 hc6 hc7 hc8 hc9 hc10 hc11 hc12 hc13 hc14; have HPd := HQ; clear HQ; have hc0 := HPd.out.cell 0 rfl; have hc1 := HPd.out.cell 1 rfl; have hc2 := HPd.out.cell 2 rfl; have hc3 := HPd.out.cell 3 rfl; have hc4 := HPd.out.cell 4 rfl; have hc5 := HPd.out.cell 5 rfl; have hc6 := HPd.out.cell 6 rfl; have hc7 := HPd.out.cell 7 rfl; have hc8 := HPd.out.cell 8 rfl; have hc9 := HPd.out.cell 9 rfl; have hc10 := HPd.out.cell 10 rfl; have hc11 := HPd.out.cell 11 rfl; have hc12 := HPd.out.cell 12 rfl; have hc13 := HPd.out.cell 13 rfl; have hc14 := HPd.out.cell 14 rfl)
    | (go_at_call 25; refine (FindClass_p _).mono ?_; rintro e w3 ⟨rfl, hB⟩; have HQ := Aside0.mk (HPd.out.below hB); clear HPd hB hc0 hc1 hc2 hc3 hc4 hc5 hc6 hc7 hc8 hc9 hc10 hc11 hc12 hc13 hc14; have HPd := HQ; clear HQ; have hc0 := HPd.out.cell 0 rfl; have hc1 := HPd.out.cell 1 rfl; have hc2 := HPd.out.cell 2 rfl; have hc3 := HPd.out.cell 3 rfl; have hc4 := HPd.out.cell 4 rfl; have hc5 := HPd.out.cell 5 rfl; have hc6 := HPd.out.cell 6 rfl; have hc7 := HPd.out.cell 7 rfl; have hc8 := HPd.out.cell 8 rfl; have hc9 := HPd.out.cell 9 rfl; have hc10 := HPd.out.cell 10 rfl; have hc11 := HPd.out.cell 11 rfl; have hc12 := HPd.out.cell 12 rfl; have hc13 := HPd.out.cell 13 rfl; have hc14 := HPd.out.cell 14 rfl))
  go_wp2
  go_ret
  exact ⟨rfl, HPd.out.bel⟩
end Go.Proofs.YtineikfhfmiidaaGreat.Pm
namespace Go.Proofs.YtineikfhfmiidaaGreat.Pm
open Go Go.RowKit Go.Proofs.YtineikfhfmiidaaGreat.Gp Go.Proofs.YtineikfhfmiidaaGreat.Mw Go.Proofs.YtineikfhfmiidaaGreatW.PrintWords Go.Proofs.YtineikfhfmiidaaGreatW.PrintLast Go.Proofs.YtineikfhfmiidaaGreatW.PrintMore
set_option linter.unusedVariables false
set_option linter.unusedSimpArgs false
set_option maxRecDepth 100000 in
set_option maxHeartbeats 4000000 in
theorem Checks_is (w : World) (p : PV) (a : PA) (h : PRd w p a) (hg : GoodP p) :
    Calls Tryz.prog 3 #[.agg (pcs p a)] w fun e w' => e = .returned (.bool true) ∧ Below w.heap.size w w' := by
  have H := Aside0.mk h
  have HG := Aside0.mk hg
  clear h hg
  have hu := Tryz.underlying34
  go_enter Tryz.func3, Tryz.ntmps3
  go_wp2_with (first
    | ((with_reducible refine gate_dst (N := 1) rfl ?_); refine box_event ?hg (N := 1) ?hd (cs := pcs p a) (t := 34) ?hr ?_; (case hd => rfl); (case hg => rfl); (case hr => first | (go_simp; done) | (go_simp; rfl)); intro g hg w2 hbox hB; have HP := Aside0.mk (PBox.mk hbox hB (show w.heap.size ≤ g by rw [hg]; exact Nat.le_refl _)); clear hbox hB hg; obtain ⟨hc0, hc1, hc2, hc3, hc4, hc5, hc6, hc7, hc8, hc9, hc10, hc11, hc12, hc13, hc14⟩ := pcx HP.out)
    | (go_at_call 8; refine (Few_is _ p a (H.out.below HP.out.bel)).mono ?_; rintro e w3 ⟨⟨fb, rfl, hfb⟩, hB⟩; have HFb := Aside0.mk hfb; clear hfb; have HQ := Aside0.mk (HP.out.below hB); clear HP hB hc0 hc1 hc2 hc3 hc4 hc5 hc6 hc7 hc8 hc9 hc10 hc11 hc12 hc13 hc14; have HP := HQ; clear HQ; obtain ⟨hc0, hc1, hc2, hc3, hc4, hc5, hc6, hc7, hc8, hc9, hc10, hc11, hc12, hc13, hc14⟩ := pcx HP.out)
    | (go_at_call 9; refine (heads_is _).mono ?_; rintro e w3 ⟨rfl, hB⟩; have HQ := Aside0.mk (HP.out.below hB); clear HP hB hc0 hc1 hc2 hc3 hc4 hc5 hc6 hc7 hc8 hc9 hc10 hc11 hc12 hc13 hc14; have HP := HQ; clear HQ; obtain ⟨hc0, hc1, hc2, hc3, hc4, hc5, hc6, hc7, hc8, hc9, hc10, hc11, hc12, hc13, hc14⟩ := pcx HP.out))
  · go_ret
    exact ⟨rfl, HP.out.bel⟩
  · have h9 : (!fb) = false := by assumption
    obtain rfl : fb = true := by
      cases fb with
      | false => cases h9
      | true => rfl
    have HSh := Aside0.mk (show Short p from HFb.out rfl)
    clear HFb h9
    simp only [Bool.not_true]
    have HC := Aside0.mk (fun (u : World) (hu : PRd u p a) => Check_is u p a HSh.out hu HG.out)
    have HR := Aside0.mk (fun (u : World) (hu : PRd u p a) => RCheck_is u p a HSh.out hu HG.out)
    have HT := Aside0.mk (fun (u : World) (hu : PRd u p a) => Right_is u p a HSh.out hu HG.out)
    clear HSh HG
    unfold rightB at HT
    generalize checkE p = r at HC HR HT
    obtain ⟨r1, r2⟩ := r
    refine (HC.out _ (H.out.below HP.out.bel)).mono ?_
    rintro e w3 ⟨rfl, hB⟩
    have HQ := Aside0.mk (HP.out.below hB)
    clear HP hB hc0 hc1 hc2 hc3 hc4 hc5 hc6 hc7 hc8 hc9 hc10 hc11 hc12 hc13 hc14
    have HP := HQ
    clear HQ
    obtain ⟨hc0, hc1, hc2, hc3, hc4, hc5, hc6, hc7, hc8, hc9, hc10, hc11, hc12, hc13, hc14⟩ := pcx HP.out
    by_cases h0 : r1 = 0
    · subst h0
      rw [show decide (((0 : Int), r2).1 = 0) = true from rfl] at HT
      go_wp2_with (first
        | (go_at_call 11; refine (HR.out _ (H.out.below HP.out.bel)).mono ?_; rintro e w3 ⟨rfl, hB⟩; have HQ := Aside0.mk (HP.out.below hB); clear HP hB hc0 hc1 hc2 hc3 hc4 hc5 hc6 hc7 hc8 hc9 hc10 hc11 hc12 hc13 hc14; have HP := HQ; clear HQ; obtain ⟨hc0, hc1, hc2, hc3, hc4, hc5, hc6, hc7, hc8, hc9, hc10, hc11, hc12, hc13, hc14⟩ := pcx HP.out)
        | (go_at_call 12; refine (HT.out _ (H.out.below HP.out.bel)).mono ?_; rintro e w3 ⟨rfl, hB⟩; have HQ := Aside0.mk (HP.out.below hB); clear HP hB hc0 hc1 hc2 hc3 hc4 hc5 hc6 hc7 hc8 hc9 hc10 hc11 hc12 hc13 hc14; have HP := HQ; clear HQ; obtain ⟨hc0, hc1, hc2, hc3, hc4, hc5, hc6, hc7, hc8, hc9, hc10, hc11, hc12, hc13, hc14⟩ := pcx HP.out)
        | (go_at_call 9; refine (heads_is _).mono ?_; rintro e w3 ⟨rfl, hB⟩; have HQ := Aside0.mk (HP.out.below hB); clear HP hB hc0 hc1 hc2 hc3 hc4 hc5 hc6 hc7 hc8 hc9 hc10 hc11 hc12 hc13 hc14; have HP := HQ; clear HQ; obtain ⟨hc0, hc1, hc2, hc3, hc4, hc5, hc6, hc7, hc8, hc9, hc10, hc11, hc12, hc13, hc14⟩ := pcx HP.out))
      go_ret
      exact ⟨rfl, HP.out.bel⟩
    · have hz : (r1 == 0) = false := by rw [beq_eq_false_iff_ne]; exact h0
      rw [show decide ((r1, r2).1 = 0) = false from decide_eq_false h0] at HT
      clear h0
      go_wp2_with (first
        | (go_at_call 11; refine (HR.out _ (H.out.below HP.out.bel)).mono ?_; rintro e w3 ⟨rfl, hB⟩; have HQ := Aside0.mk (HP.out.below hB); clear HP hB hc0 hc1 hc2 hc3 hc4 hc5 hc6 hc7 hc8 hc9 hc10 hc11 hc12 hc13 hc14; have HP := HQ; clear HQ; obtain ⟨hc0, hc1, hc2, hc3, hc4, hc5, hc6, hc7, hc8, hc9, hc10, hc11, hc12, hc13, hc14⟩ := pcx HP.out)
        | (go_at_call 12; refine (HT.out _ (H.out.below HP.out.bel)).mono ?_; rintro e w3 ⟨rfl, hB⟩; have HQ := Aside0.mk (HP.out.below hB); clear HP hB hc0 hc1 hc2 hc3 hc4 hc5 hc6 hc7 hc8 hc9 hc10 hc11 hc12 hc13 hc14; have HP := HQ; clear HQ; obtain ⟨hc0, hc1, hc2, hc3, hc4, hc5, hc6, hc7, hc8, hc9, hc10, hc11, hc12, hc13, hc14⟩ := pcx HP.out)
        | (go_at_call 9; refine (heads_is _).mono ?_; rintro e w3 ⟨rfl, hB⟩; have HQ := Aside0.mk (HP.out.below hB); clear HP hB hc0 hc1 hc2 hc3 hc4 hc5 hc6 hc7 hc8 hc9 hc10 hc11 hc12 hc13 hc14; have HP := HQ; clear HQ; obtain ⟨hc0, hc1, hc2, hc3, hc4, hc5, hc6, hc7, hc8, hc9, hc10, hc11, hc12, hc13, hc14⟩ := pcx HP.out))
      go_ret
      exact ⟨rfl, HP.out.bel⟩
end Go.Proofs.YtineikfhfmiidaaGreat.Pm
namespace Go.Proofs.YtineikfhfmiidaaGreat.Ak
open Go Go.RowKit Go.ChangeShapes Go.WideShapes Go.Proofs.YtineikfhfmiidaaGreatW.PrintWords
set_option linter.unusedVariables false
set_option linter.unusedSimpArgs false
section
variable {P : Program} {α β : Type}
/-- What reads as type t has cells of this kind, and a value that is good. -/
def Opens (P : Program) (t : TypeId) (d : Kd α) (good : α → Prop) : Prop :=
  ∀ (H : Type) (enc : TypeId × Value → H) (w : World) (base : Nat) (spare : Nat → Bool) (held : Bool) (n : Nat) (cs : List Value) (x : DataW H × List MemPlace), DataW.trod enc P w base spare held n t cs = some x → ∃ y, d.K w y cs ∧ good y
def FOpens (P : Program) (fl : List Field) (o : Nat) (d : Kd α) (good : α → Prop) : Prop :=
  ∀ (H : Type) (enc : TypeId × Value → H) (w : World) (base : Nat) (spare : Nat → Bool) (held : Bool) (n : Nat) (cs : List Value), cs.length = o + d.sz → (∀ f, f ∈ fl → ∃ x, DataW.trod enc P w base spare held n f.type ((cs.drop f.offset).take (P.cellsOf f.type)) = some x) → ∃ y, d.K w y (cs.drop o) ∧ good y
theorem opens_int {t : TypeId} {k : IntKind} (ht : P.underlying t = some (.int k)) : Opens P t (Kd.int k) (fun n => (Lit.int k n).wf = true) := by
  intro H enc w base spare held n cs x h
  obtain ⟨a, rfl, _, hw⟩ := DataW.trod_int ht h
  exact ⟨a, rfl, hw⟩
theorem opens_bool {t : TypeId} (ht : P.underlying t = some .bool) : Opens P t Kd.bool (fun _ => True) := by
  intro H enc w base spare held n cs x h
  obtain ⟨a, rfl, _⟩ := DataW.trod_bool ht h
  exact ⟨a, rfl, trivial⟩
theorem opens_string {t : TypeId} (ht : P.underlying t = some .string) : Opens P t Kd.string (fun s => s.size ≤ maxLen) := by
  intro H enc w base spare held n cs x h
  obtain ⟨a, rfl, _, hw⟩ := DataW.trod_string ht h
  exact ⟨a, rfl, hw⟩
theorem opens_slice {t e : TypeId} {q : Nat} {d : Kd α} {good : α → Prop} (ht : P.underlying t = some (.slice e)) (hd : Opens P e d good) (hs : P.cellsOf e = d.sz) : Opens P t (Kd.slice q d) (fun xs => ∀ y, y ∈ xs → good y) := by
  intro H enc w base spare held n cs x h
  rcases Deep.open_slice ht h with ⟨rfl, _⟩ | ⟨a, len, cap, m, k, D, Pl, rfl, hb, hl, hm, hmm, hxe, hx⟩
  · exact ⟨[], ⟨none, 0, rfl, Nat.le_refl _, rfl, by simp, fun h0 => absurd h0 (Nat.lt_irrefl 0)⟩, fun y hy => by cases hy⟩
  · have hlm : len ≤ m := by rw [hmm]; split <;> omega
    have key : ∀ i, i < len → ∃ y : α, (∃ c, c.length = d.sz ∧ d.K w y c ∧ ∀ j u, c[j]? = some u → w.cell? (a.add (i * d.sz + j)) = some u) ∧ good y := by
      intro i hi
      obtain ⟨cs', h1, h2⟩ := hx i (by omega)
      rw [hs] at h1
      obtain ⟨_, hlen, hcell⟩ := World.cells?_some h1
      obtain ⟨y, hy, hg⟩ := hd _ _ _ _ _ _ _ _ _ h2
      refine ⟨y, ⟨cs', hlen, hy, fun j u hu => ?_⟩, hg⟩
      have hj : j < d.sz := by rw [← hlen]; exact (List.getElem?_eq_some_iff.1 hu).1
      have := hcell j hj
      rw [Deep.add_add] at this
      rw [this, hu]
    obtain ⟨ys, hyl, hy⟩ : ∃ ys : List α, ys.length = len ∧ ∀ j p, ys[j]? = some p → (∃ c, c.length = d.sz ∧ d.K w p c ∧ ∀ i u, c[i]? = some u → w.cell? (a.add (j * d.sz + i)) = some u) ∧ good p := by
      clear h hx hl hm hmm hlm hxe
      induction len with
      | zero => exact ⟨[], rfl, fun j p hp => by simp at hp⟩
      | succ k ih =>
        obtain ⟨ys, hyl, hy⟩ := ih (fun i hi => key i (by omega))
        obtain ⟨y, hy1⟩ := key k (by omega)
        refine ⟨ys ++ [y], by simp [hyl], fun j p hp => ?_⟩
        by_cases e : j < ys.length
        · rw [List.getElem?_append_left e] at hp
          exact hy j p hp
        · rw [List.getElem?_append_right (by omega)] at hp
          have hj : j - ys.length = 0 := by
            have := (List.getElem?_eq_some_iff.1 hp).1
            simp at this
            omega
          rw [hj] at hp
          simp at hp
          subst hp
          have : j = k := by omega
          subst this
          exact hy1
    refine ⟨ys, ⟨some a, cap, by rw [hyl], by omega, rfl, by rw [hyl]; unfold maxLen at hm; omega, fun _ => ⟨a, rfl, fun j p hp => ?_⟩⟩, fun y hy2 => ?_⟩
    · obtain ⟨⟨c, h1, h2, h3⟩, _⟩ := hy j p hp
      exact ⟨c, h1, h2, h3⟩
    · obtain ⟨j, hj, rfl⟩ := List.getElem_of_mem hy2
      exact (hy j _ (List.getElem?_eq_getElem hj)).2
theorem fopens_one {f : Field} {o : Nat} {d : Kd α} {good : α → Prop} (hd : Opens P f.type d good) (ho : f.offset = o) (hs : P.cellsOf f.type = d.sz) : FOpens P [f] o d good := by
  intro H enc w base spare held n cs hl hf
  obtain ⟨x, hx⟩ := hf f (List.mem_singleton.2 rfl)
  rw [ho, hs, List.take_of_length_le (by rw [List.length_drop]; omega)] at hx
  exact hd _ _ _ _ _ _ _ _ _ hx
theorem fopens_cons {f : Field} {fl : List Field} {o : Nat} {d : Kd α} {d' : Kd β} {good : α → Prop} {good' : β → Prop} (hd : Opens P f.type d good) (ho : f.offset = o) (hs : P.cellsOf f.type = d.sz) (hr : FOpens P fl (o + d.sz) d' good') : FOpens P (f :: fl) o (Kd.pair d d') (fun y => good y.1 ∧ good' y.2) := by
  intro H enc w base spare held n cs hl hf
  have hl2 : cs.length = o + (d.sz + d'.sz) := hl
  obtain ⟨x, hx⟩ := hf f List.mem_cons_self
  rw [ho, hs] at hx
  obtain ⟨y, hy, hg⟩ := hd _ _ _ _ _ _ _ _ _ hx
  obtain ⟨z, hz, hg2⟩ := hr H enc w base spare held n cs (by omega) (fun f2 hf2 => hf f2 (List.mem_cons_of_mem _ hf2))
  exact ⟨(y, z), ⟨_, _, by rw [← List.drop_drop, List.take_append_drop], hy, hz⟩, hg, hg2⟩
theorem opens_struct {t : TypeId} {fs : Array Field} {d : Kd α} {good : α → Prop} (ht : P.underlying t = some (.struct fs)) (hF : FOpens P fs.toList 0 d good) (hs : P.cellsOf t = d.sz) : Opens P t d good := by
  intro H enc w base spare held n cs x h
  obtain ⟨xs, m, rfl, rfl, hl, hxl, hx⟩ := DataW.trod_struct ht h
  have := hF H enc w base spare held m cs (by rw [hl, hs]; omega) (fun f hf => ?_)
  · rw [List.drop_zero] at this
    exact this
  · obtain ⟨i, hi, rfl⟩ := List.getElem_of_mem hf
    have hi2 : i < fs.size := by simpa using hi
    have h3 := hx i fs.toList[i] (by simp [hi2])
    rw [h3, List.getElem?_eq_getElem (by omega)]
    exact ⟨_, rfl⟩
theorem open_any {H : Type} {enc : TypeId × Value → H} {w : World} {base : Nat} {spare : Nat → Bool} {held : Bool} {t : TypeId} {v : Value} {dd : DataW H} {ps : List MemPlace} {d : Kd α} {good : α → Prop} (hd : Opens P t d good) (h : DataW.Trod enc P w base spare held t v dd ps) : ∃ y, d.K w y v.cells.toList ∧ good y := by
  obtain ⟨fuel, hf⟩ := h
  exact hd _ _ _ _ _ _ _ _ _ hf
end
theorem i64_lo {a : Int} (h : (Lit.int .i64 a).wf = true) : -9223372036854775808 ≤ a := by
  simp [Lit.wf, IntKind.min, IntKind.max, IntKind.signed, IntKind.bits] at h
  omega
theorem i64_hi {a : Int} (h : (Lit.int .i64 a).wf = true) : a ≤ 9223372036854775807 := by
  simp [Lit.wf, IntKind.min, IntKind.max, IntKind.signed, IntKind.bits] at h
  omega
end Go.Proofs.YtineikfhfmiidaaGreat.Ak
namespace Go.Proofs.YtineikfhfmiidaaGreat.Ak
open Go Go.RowKit Go.ChangeShapes Go.WideShapes Go.Proofs.YtineikfhfmiidaaGreatW.PrintWords Go.Proofs.YtineikfhfmiidaaGreat.Gp Go.Proofs.YtineikfhfmiidaaGreat.Pm
set_option linter.unusedVariables false
set_option linter.unusedSimpArgs false
theorem opens_iso {P : Program} {α β : Type} {t : TypeId} {d : Kd α} {good : α → Prop} {f : β → α} (g : α → β) (hfg : ∀ y, f (g y) = y) (h : Opens P t d good) : Opens P t (Kd.iso d f) (fun x => good (f x)) := by
  intro H enc w base spare held n cs x hx
  obtain ⟨y, hy, hg⟩ := h H enc w base spare held n cs x hx
  exact ⟨g y, by show d.K w (f (g y)) cs; rw [hfg]; exact hy, by show good (f (g y)); rw [hfg]; exact hg⟩
theorem opens_any {P : Program} {α : Type} {t : TypeId} {d : Kd α} {good : α → Prop} (h : Opens P t d good) : Opens P t d (fun _ => True) := by
  intro H enc w base spare held n cs x hx
  obtain ⟨y, hy, _⟩ := h H enc w base spare held n cs x hx
  exact ⟨y, hy, trivial⟩
set_option maxRecDepth 100000 in
theorem opensPlace : Opens Tryz.prog 120 k120 (fun _ => True) :=
  opens_any (opens_iso (fun y => ⟨y.1, y.2⟩) (fun y => rfl) (opens_struct Tryz.underlying120
      (fopens_cons (opens_int Tryz.underlying3) rfl (by kernel_rfl)
      (fopens_one (opens_int Tryz.underlying3) rfl (by kernel_rfl))) (by kernel_rfl)))
set_option maxRecDepth 100000 in
theorem opensWay : Opens Tryz.prog 63 k63 (fun _ => True) :=
  opens_any (opens_iso (fun y => ⟨y⟩) (fun y => rfl) (opens_struct Tryz.underlying63
      (fopens_one (opens_slice Tryz.underlying25 (opens_slice Tryz.underlying51 (opens_int Tryz.underlying3) (by kernel_rfl)) (by kernel_rfl)) rfl (by kernel_rfl)) (by kernel_rfl)))
set_option maxRecDepth 100000 in
theorem opensCourse : Opens Tryz.prog 61 k61 (fun _ => True) :=
  opens_any (opens_iso (fun y => ⟨y.1, y.2⟩) (fun y => rfl) (opens_struct Tryz.underlying61
      (fopens_cons (opens_string Tryz.underlying9) rfl (by kernel_rfl)
      (fopens_one (opens_slice Tryz.underlying59 opensWay (by kernel_rfl)) rfl (by kernel_rfl))) (by kernel_rfl)))
set_option maxRecDepth 100000 in
theorem opensStudent : Opens Tryz.prog 66 k66 (fun _ => True) :=
  opens_any (opens_iso (fun y => ⟨y.1, y.2⟩) (fun y => rfl) (opens_struct Tryz.underlying66
      (fopens_cons (opens_string Tryz.underlying9) rfl (by kernel_rfl)
      (fopens_one (opens_slice Tryz.underlying51 (opens_int Tryz.underlying3) (by kernel_rfl)) rfl (by kernel_rfl))) (by kernel_rfl)))
set_option maxRecDepth 100000 in
theorem opensRule : Opens Tryz.prog 69 k69 (fun _ => True) :=
  opens_any (opens_iso (fun y => ⟨y.1, y.2.1, y.2.2.1, y.2.2.2.1, y.2.2.2.2.1, y.2.2.2.2.2⟩) (fun y => rfl) (opens_struct Tryz.underlying69
      (fopens_cons (opens_int Tryz.underlying67) rfl (by kernel_rfl)
      (fopens_cons (opens_slice Tryz.underlying51 (opens_int Tryz.underlying3) (by kernel_rfl)) rfl (by kernel_rfl)
      (fopens_cons (opens_int Tryz.underlying3) rfl (by kernel_rfl)
      (fopens_cons (opens_int Tryz.underlying3) rfl (by kernel_rfl)
      (fopens_cons (opens_bool Tryz.underlying4) rfl (by kernel_rfl)
      (fopens_one (opens_int Tryz.underlying3) rfl (by kernel_rfl))))))) (by kernel_rfl)))
set_option maxRecDepth 100000 in
theorem opensGrid : Opens Tryz.prog 23 (Kd.pair (Kd.int .i64) (Kd.pair (Kd.int .i64) (Kd.int .i64))) (fun _ => True) :=
  opens_any (opens_struct Tryz.underlying23 (fopens_cons (opens_int Tryz.underlying3) rfl (by kernel_rfl)
      (fopens_cons (opens_int Tryz.underlying3) rfl (by kernel_rfl)
      (fopens_one (opens_int Tryz.underlying3) rfl (by kernel_rfl)))) (by kernel_rfl))
set_option maxRecDepth 100000 in
theorem opensWeigh : Opens Tryz.prog 32 (Kd.pair (Kd.int .i64) (Kd.pair (Kd.int .i64) (Kd.pair (Kd.int .i64) (Kd.int .i64)))) (fun _ => True) :=
  opens_any (opens_struct Tryz.underlying32 (fopens_cons (opens_int Tryz.underlying3) rfl (by kernel_rfl)
      (fopens_cons (opens_int Tryz.underlying3) rfl (by kernel_rfl)
      (fopens_cons (opens_int Tryz.underlying3) rfl (by kernel_rfl)
      (fopens_one (opens_int Tryz.underlying3) rfl (by kernel_rfl))))) (by kernel_rfl))
theorem agg_ofP {cs : Array Value} {l : List Value} (h : cs.toList = l) : Value.agg cs = .agg l.toArray := by rw [← h]
end Go.Proofs.YtineikfhfmiidaaGreat.Ak
namespace Go.Proofs.YtineikfhfmiidaaGreat.Ak
open Go Go.RowKit Go.ChangeShapes Go.WideShapes Go.Proofs.YtineikfhfmiidaaGreatW.PrintWords Go.Proofs.YtineikfhfmiidaaGreat.Gp Go.Proofs.YtineikfhfmiidaaGreat.Pm
set_option linter.unusedVariables false
set_option linter.unusedSimpArgs false
theorem u32_lo {a : Int} (h : (Lit.int .u32 a).wf = true) : 0 ≤ a := by
  simp [Lit.wf, IntKind.min, IntKind.max, IntKind.signed, IntKind.bits] at h
  omega
theorem u32_hi {a : Int} (h : (Lit.int .u32 a).wf = true) : a < 4294967296 := by
  simp [Lit.wf, IntKind.min, IntKind.max, IntKind.signed, IntKind.bits] at h
  omega
theorem u8_lo {a : Int} (h : (Lit.int .u8 a).wf = true) : 0 ≤ a := by
  simp [Lit.wf, IntKind.min, IntKind.max, IntKind.signed, IntKind.bits] at h
  omega
theorem u8_hi {a : Int} (h : (Lit.int .u8 a).wf = true) : a < 256 := by
  simp [Lit.wf, IntKind.min, IntKind.max, IntKind.signed, IntKind.bits] at h
  omega
theorem opens_mono {P : Program} {α : Type} {t : TypeId} {d : Kd α} {good good' : α → Prop} (h : Opens P t d good) (hg : ∀ x, good x → good' x) : Opens P t d good' := by
  intro H enc w base spare held n cs x hx
  obtain ⟨y, hy, h2⟩ := h H enc w base spare held n cs x hx
  exact ⟨y, hy, hg y h2⟩
set_option maxRecDepth 100000 in
theorem opensWhenG : Opens Tryz.prog 50 k50 (fun x => GoodV x) :=
  opens_mono (opens_iso (fun y => ⟨y.1, y.2.1, y.2.2.1, y.2.2.2⟩) (fun y => rfl) (opens_struct Tryz.underlying50
      (fopens_cons (opens_int Tryz.underlying48) rfl (by kernel_rfl)
      (fopens_cons (opens_int Tryz.underlying5) rfl (by kernel_rfl)
      (fopens_cons (opens_int Tryz.underlying3) rfl (by kernel_rfl)
      (fopens_one (opens_int Tryz.underlying3) rfl (by kernel_rfl))))) (by kernel_rfl))) (fun x h => ⟨⟨u32_lo h.1, u32_hi h.1, u8_lo h.2.1, u8_hi h.2.1, i64_lo h.2.2.1, i64_hi h.2.2.1, i64_hi h.2.2.2⟩, i64_lo h.2.2.2⟩)
set_option maxRecDepth 100000 in
theorem opensRoomG : Opens Tryz.prog 47 k47 (fun x => ∀ y, y ∈ x.f3 → GoodV y) :=
  opens_mono (opens_iso (fun y => ⟨y.1, y.2.1, y.2.2.1, y.2.2.2⟩) (fun y => rfl) (opens_struct Tryz.underlying47
      (fopens_cons (opens_string Tryz.underlying9) rfl (by kernel_rfl)
      (fopens_cons (opens_int Tryz.underlying3) rfl (by kernel_rfl)
      (fopens_cons (opens_int Tryz.underlying44) rfl (by kernel_rfl)
      (fopens_one (opens_slice Tryz.underlying45 opensWhenG (by kernel_rfl)) rfl (by kernel_rfl))))) (by kernel_rfl))) (fun x h => h.2.2.2)
set_option maxRecDepth 100000 in
theorem opensPersonG : Opens Tryz.prog 53 k53 (fun x => ∀ y, y ∈ x.f1 → GoodV y) :=
  opens_mono (opens_iso (fun y => ⟨y.1, y.2⟩) (fun y => rfl) (opens_struct Tryz.underlying53
      (fopens_cons (opens_string Tryz.underlying9) rfl (by kernel_rfl)
      (fopens_one (opens_slice Tryz.underlying45 opensWhenG (by kernel_rfl)) rfl (by kernel_rfl))) (by kernel_rfl))) (fun x h => h.2)
set_option maxRecDepth 100000 in
theorem opensTimeG : Opens Tryz.prog 117 k117 (fun x => GoodV x.f0) :=
  opens_mono (opens_iso (fun y => ⟨y.1, y.2⟩) (fun y => rfl) (opens_struct Tryz.underlying117
      (fopens_cons opensWhenG rfl (by kernel_rfl)
      (fopens_one (opens_int Tryz.underlying3) rfl (by kernel_rfl))) (by kernel_rfl))) (fun x h => h.1)
set_option maxRecDepth 100000 in
theorem opensClassG : Opens Tryz.prog 58 k58 (fun x => ∀ y, y ∈ x.f4 → GoodV y.f0) :=
  opens_mono (opens_iso (fun y => ⟨y.1, y.2.1, y.2.2.1, y.2.2.2.1, y.2.2.2.2.1, y.2.2.2.2.2.1, y.2.2.2.2.2.2⟩) (fun y => rfl) (opens_struct Tryz.underlying58
      (fopens_cons (opens_string Tryz.underlying9) rfl (by kernel_rfl)
      (fopens_cons (opens_int Tryz.underlying3) rfl (by kernel_rfl)
      (fopens_cons (opens_int Tryz.underlying44) rfl (by kernel_rfl)
      (fopens_cons (opens_slice Tryz.underlying51 (opens_int Tryz.underlying3) (by kernel_rfl)) rfl (by kernel_rfl)
      (fopens_cons (opens_slice Tryz.underlying55 opensTimeG (by kernel_rfl)) rfl (by kernel_rfl)
      (fopens_cons (opens_slice Tryz.underlying56 opensPlace (by kernel_rfl)) rfl (by kernel_rfl)
      (fopens_one (opens_int Tryz.underlying3) rfl (by kernel_rfl)))))))) (by kernel_rfl))) (fun x h => h.2.2.2.2.1)
set_option maxRecDepth 100000 in
theorem opensProblemG : Opens Tryz.prog 34 (Kd.pair Kd.string (Kd.pair (Kd.pair (Kd.int .i64) (Kd.pair (Kd.int .i64) (Kd.int .i64))) (Kd.pair (Kd.slice 0 k47) (Kd.pair (Kd.slice 0 (Kd.slice 3 (Kd.int .i64))) (Kd.pair (Kd.slice 0 k53) (Kd.pair (Kd.slice 0 k58) (Kd.pair (Kd.slice 0 k61) (Kd.pair (Kd.slice 0 k66) (Kd.pair (Kd.slice 0 k69) (Kd.pair (Kd.int .i64) (Kd.pair (Kd.int .i64) (Kd.pair (Kd.int .i64) (Kd.int .i64))))))))))))) (fun y => (∀ x, x ∈ y.2.2.1 → ∀ z, z ∈ x.f3 → GoodV z) ∧ (∀ x, x ∈ y.2.2.2.2.1 → ∀ z, z ∈ x.f1 → GoodV z) ∧ (∀ x, x ∈ y.2.2.2.2.2.1 → ∀ z, z ∈ x.f4 → GoodV z.f0)) :=
  opens_mono (opens_struct Tryz.underlying34
      (fopens_cons (opens_string Tryz.underlying9) rfl (by kernel_rfl)
      (fopens_cons opensGrid rfl (by kernel_rfl)
      (fopens_cons (opens_slice Tryz.underlying24 opensRoomG (by kernel_rfl)) rfl (by kernel_rfl)
      (fopens_cons (opens_slice Tryz.underlying25 (opens_slice Tryz.underlying51 (opens_int Tryz.underlying3) (by kernel_rfl)) (by kernel_rfl)) rfl (by kernel_rfl)
      (fopens_cons (opens_slice Tryz.underlying26 opensPersonG (by kernel_rfl)) rfl (by kernel_rfl)
      (fopens_cons (opens_slice Tryz.underlying27 opensClassG (by kernel_rfl)) rfl (by kernel_rfl)
      (fopens_cons (opens_slice Tryz.underlying28 opensCourse (by kernel_rfl)) rfl (by kernel_rfl)
      (fopens_cons (opens_slice Tryz.underlying29 opensStudent (by kernel_rfl)) rfl (by kernel_rfl)
      (fopens_cons (opens_slice Tryz.underlying30 opensRule (by kernel_rfl)) rfl (by kernel_rfl)
      (fopens_one opensWeigh rfl (by kernel_rfl))))))))))) (by kernel_rfl)) (fun x h => ⟨h.2.2.1, h.2.2.2.2.1, h.2.2.2.2.2.1⟩)
set_option maxRecDepth 100000 in
theorem open_problemG {H : Type} {enc : TypeId × Value → H} {w : World} {base b0 : Nat} {r : Reach} {spare : Nat → Bool} {held : Bool} {v : Value} {dd : DataW H} {ps : List MemPlace} (hv : Value.okWide Tryz.prog w r b0 34 v)
    (h : DataW.Trod enc Tryz.prog w base spare held 34 v dd ps) : ∃ (p : PV) (a : PA), v = .agg (pcs p a) ∧ PRd w p a ∧ GoodP p := by
  obtain ⟨cells, rfl, _⟩ := okWide_struct Tryz.underlying34 hv
  obtain ⟨⟨nm, ⟨g0, g1, g2⟩, rooms, walk, persons, classes, courses, students, rules, w0, w1, w2, w3⟩, hK, hgR, hgP, hgC⟩ := open_any opensProblemG h
  obtain ⟨cn, r0, e0, hn, hK⟩ := hK
  obtain ⟨cg, r1, rfl, ⟨cg0, cg1, rfl, hg0, ⟨cg2, cg3, rfl, hg1, hg2⟩⟩, hK⟩ := hK
  obtain ⟨cc4, rr4, rfl, ⟨A4, c4, rfl, l4, C4⟩, hK⟩ := hK
  obtain ⟨cc5, rr5, rfl, ⟨A5, c5, rfl, l5, C5⟩, hK⟩ := hK
  obtain ⟨cc6, rr6, rfl, ⟨A6, c6, rfl, l6, C6⟩, hK⟩ := hK
  obtain ⟨cc7, rr7, rfl, ⟨A7, c7, rfl, l7, C7⟩, hK⟩ := hK
  obtain ⟨cc8, rr8, rfl, ⟨A8, c8, rfl, l8, C8⟩, hK⟩ := hK
  obtain ⟨cc9, rr9, rfl, ⟨A9, c9, rfl, l9, C9⟩, hK⟩ := hK
  obtain ⟨cc10, rr10, rfl, ⟨A10, c10, rfl, l10, C10⟩, hK⟩ := hK
  obtain ⟨cw0, cw1, rfl, hw0, ⟨cw2, cw3, rfl, hw1, ⟨cw4, cw5, rfl, hw2, hw3⟩⟩⟩ := hK
  have hn' : cn = [.string nm] := hn
  have hg0' : cg0 = [.int .i64 g0] := hg0
  have hg1' : cg2 = [.int .i64 g1] := hg1
  have hg2' : cg3 = [.int .i64 g2] := hg2
  have hw0' : cw0 = [.int .i64 w0] := hw0
  have hw1' : cw2 = [.int .i64 w1] := hw1
  have hw2' : cw4 = [.int .i64 w2] := hw2
  have hw3' : cw5 = [.int .i64 w3] := hw3
  subst hn' hg0' hg1' hg2' hw0' hw1' hw2' hw3'
  exact ⟨⟨nm, g0, g1, g2, rooms, walk, persons, classes, courses, students, rules, w0, w1, w2, w3⟩, ⟨A4, c4, A5, c5, A6, c6, A7, c7, A8, c8, A9, c9, A10, c10⟩, agg_ofP e0, ⟨C4, l4, C5, l5, C6, l6, C7, l7, C8, l8, C9, l9, C10, l10⟩, ⟨fun x hx y hy => (hgR x hx y hy).1, fun x hx y hy => (hgP x hx y hy).1, hgC⟩⟩
end Go.Proofs.YtineikfhfmiidaaGreat.Ak
