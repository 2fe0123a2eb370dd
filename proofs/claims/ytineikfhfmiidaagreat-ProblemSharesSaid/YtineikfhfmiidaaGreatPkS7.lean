import Derived.Test.YtineikfhfmiidaaGreatPkS6
/- The example of law 17. -/
namespace Go.Proofs.YtineikfhfmiidaaGreat.Pm
open Go Go.RowKit Go.Proofs.YtineikfhfmiidaaGreat.Gp Go.Proofs.YtineikfhfmiidaaGreatW.PrintWords Go.Proofs.YtineikfhfmiidaaGreatW.PrintLast Go.Proofs.YtineikfhfmiidaaGreatW.PrintMore
set_option linter.unusedVariables false
set_option linter.unusedSimpArgs false
theorem litC (W : World) : (Kd.int .i64).C (W.alloc (.cells #[.int .i64 1, .int .i64 0] 3)) (some ⟨W.heap.size, 0, none⟩) 2 [1, 0] := by
  have h2 := World.ownsRow_lit (base := 0) (e := 3) (size := 1) W ([1, 0].map (Value.int .i64)).toArray 2 (Nat.zero_le _) (by simp only [maxLen]; omega) (by simp)
  have h3 : (Kd.int .i64).R 3 (W.alloc (.cells #[.int .i64 1, .int .i64 0] 3)) 0 (fun _ => True) (.slice (some ⟨W.heap.size, 0, none⟩) 2 2) [1, 0] := Kd.R_of_own (by simpa [encs] using h2) (fun _ _ => trivial)
  exact (Kd.R_reads' h3).2.2
theorem rule_ex : ruleOk 2 8 [1, 0] 0 0 true 0 = true := by decide
set_option maxRecDepth 100000 in
set_option maxHeartbeats 2000000 in
theorem heads_is (w : World) : Calls Tryz.prog 9 #[] w fun e w' => e = .returned (.bool true) ∧ Below w.heap.size w w' := by
  have hu40 := Tryz.underlying34
  have hu29 := Tryz.underlying23
  have hu25 := Tryz.underlying69
  go_enter Tryz.func9, Tryz.ntmps9
  go_wp2_with (first
    | ((with_reducible refine gate_dst (N := 1) rfl ?_); refine box_event ?hg (N := 1) ?hd (cs := #[.string ByteArray.empty, .int .i64 0, .int .i64 0, .int .i64 0, .slice none 0 0, .slice none 0 0, .slice none 0 0, .slice none 0 0, .slice none 0 0, .slice none 0 0, .slice none 0 0, .int .i64 0, .int .i64 0, .int .i64 0, .int .i64 0]) (t := 34) ?hr ?_; (case hd => rfl); (case hg => rfl); (case hr => first | (go_simp; done) | (go_simp; rfl)); intro g hg w2 hbox hB; have HZ := Aside0.mk (PBox.mk hbox hB (show w.heap.size ≤ g by rw [hg]; exact Nat.le_refl _)); clear hbox hB hg; have hz0 := HZ.out.cell 0 rfl; have hz1 := HZ.out.cell 1 rfl; have hz2 := HZ.out.cell 2 rfl; have hz3 := HZ.out.cell 3 rfl; have hz4 := HZ.out.cell 4 rfl; have hz5 := HZ.out.cell 5 rfl; have hz6 := HZ.out.cell 6 rfl; have hz7 := HZ.out.cell 7 rfl; have hz8 := HZ.out.cell 8 rfl; have hz9 := HZ.out.cell 9 rfl; have hz10 := HZ.out.cell 10 rfl; have hz11 := HZ.out.cell 11 rfl; have hz12 := HZ.out.cell 12 rfl; have hz13 := HZ.out.cell 13 rfl; have hz14 := HZ.out.cell 14 rfl; have hf0 := HZ.out.fro 0; have hf1 := HZ.out.fro 1; have hf2 := HZ.out.fro 2; have hf3 := HZ.out.fro 3; have hf4 := HZ.out.fro 4; have hf5 := HZ.out.fro 5; have hf6 := HZ.out.fro 6; have hf7 := HZ.out.fro 7; have hf8 := HZ.out.fro 8; have hf9 := HZ.out.fro 9; have hf10 := HZ.out.fro 10; have hf11 := HZ.out.fro 11; have hf12 := HZ.out.fro 12; have hf13 := HZ.out.fro 13; have hf14 := HZ.out.fro 14)
    | (go_at_call 10; (with_reducible refine (Check_p _).mono ?_); rintro e w3 ⟨rfl, hB⟩; have HP0 : Aside0 (PBox w _ g 34 #[.string { data := #[112] }, .int .i64 1, .int .i64 5, .int .i64 10, .slice none 0 0, .slice none 0 0, .slice none 0 0, .slice none 0 0, .slice none 0 0, .slice none 0 0, .slice none 0 0, .int .i64 0, .int .i64 0, .int .i64 0, .int .i64 0]) := Aside0.mk (((((((((((((((HZ.out.put 0 (.string { data := #[112] }) rfl).put 1 (.int .i64 1) rfl).put 2 (.int .i64 5) rfl).put 3 (.int .i64 10) rfl).put 4 (.slice none 0 0) rfl).put 5 (.slice none 0 0) rfl).put 6 (.slice none 0 0) rfl).put 7 (.slice none 0 0) rfl).put 8 (.slice none 0 0) rfl).put 9 (.slice none 0 0) rfl).put 10 (.slice none 0 0) rfl).put 11 (.int .i64 0) rfl).put 12 (.int .i64 0) rfl).put 13 (.int .i64 0) rfl).put 14 (.int .i64 0) rfl); have HP := Aside0.mk (HP0.out.below hB); clear HP0 HZ hB hz0 hz1 hz2 hz3 hz4 hz5 hz6 hz7 hz8 hz9 hz10 hz11 hz12 hz13 hz14 hf0 hf1 hf2 hf3 hf4 hf5 hf6 hf7 hf8 hf9 hf10 hf11 hf12 hf13 hf14; have hc0 := HP.out.cell 0 rfl; have hc1 := HP.out.cell 1 rfl; have hc2 := HP.out.cell 2 rfl; have hc3 := HP.out.cell 3 rfl; have hc4 := HP.out.cell 4 rfl; have hc5 := HP.out.cell 5 rfl; have hc6 := HP.out.cell 6 rfl; have hc7 := HP.out.cell 7 rfl; have hc8 := HP.out.cell 8 rfl; have hc9 := HP.out.cell 9 rfl; have hc10 := HP.out.cell 10 rfl; have hc11 := HP.out.cell 11 rfl; have hc12 := HP.out.cell 12 rfl; have hc13 := HP.out.cell 13 rfl; have hc14 := HP.out.cell 14 rfl)
    | (go_at_call 10; (with_reducible refine (Check_none _).mono ?_); rintro e w3 ⟨rfl, hB⟩; have HQ := Aside0.mk (HP.out.below hB); clear HP hB hc0 hc1 hc2 hc3 hc4 hc5 hc6 hc7 hc8 hc9 hc10 hc11 hc12 hc13 hc14; have HP := HQ; clear HQ; have hc0 := HP.out.cell 0 rfl; have hc1 := HP.out.cell 1 rfl; have hc2 := HP.out.cell 2 rfl; have hc3 := HP.out.cell 3 rfl; have hc4 := HP.out.cell 4 rfl; have hc5 := HP.out.cell 5 rfl; have hc6 := HP.out.cell 6 rfl; have hc7 := HP.out.cell 7 rfl; have hc8 := HP.out.cell 8 rfl; have hc9 := HP.out.cell 9 rfl; have hc10 := HP.out.cell 10 rfl; have hc11 := HP.out.cell 11 rfl; have hc12 := HP.out.cell 12 rfl; have hc13 := HP.out.cell 13 rfl; have hc14 := HP.out.cell 14 rfl))
  have HPd := Aside0.mk (HP.out.below (below_drew (Below.refl _ _)))
  go_region_held3 (fun w' => w'.cell? ⟨g, 0, none⟩ = some (.string { data := #[112] }) ∧ w'.cell? ⟨g, 1, none⟩ = some (.int .i64 1) ∧ w'.cell? ⟨g, 2, none⟩ = some (.int .i64 5) ∧ w'.cell? ⟨g, 3, none⟩ = some (.int .i64 10) ∧ w'.cell? ⟨g, 4, none⟩ = some (.slice none 0 0) ∧ w'.cell? ⟨g, 5, none⟩ = some (.slice none 0 0) ∧ w'.cell? ⟨g, 6, none⟩ = some (.slice none 0 0) ∧ w'.cell? ⟨g, 7, none⟩ = some (.slice none 0 0) ∧ w'.cell? ⟨g, 8, none⟩ = some (.slice none 0 0) ∧ w'.cell? ⟨g, 9, none⟩ = some (.slice none 0 0) ∧ w'.cell? ⟨g, 10, none⟩ = some (.slice none 0 0) ∧ w'.cell? ⟨g, 11, none⟩ = some (.int .i64 0) ∧ w'.cell? ⟨g, 12, none⟩ = some (.int .i64 0) ∧ w'.cell? ⟨g, 13, none⟩ = some (.int .i64 0) ∧ w'.cell? ⟨g, 14, none⟩ = some (.int .i64 0)) (first | exact ⟨hc0, hc1, hc2, hc3, hc4, hc5, hc6, hc7, hc8, hc9, hc10, hc11, hc12, hc13, hc14⟩ | exact ⟨pw_cell_below (below_alloc (Below.refl _ _) _) hc0, pw_cell_below (below_alloc (Below.refl _ _) _) hc1, pw_cell_below (below_alloc (Below.refl _ _) _) hc2, pw_cell_below (below_alloc (Below.refl _ _) _) hc3, pw_cell_below (below_alloc (Below.refl _ _) _) hc4, pw_cell_below (below_alloc (Below.refl _ _) _) hc5, pw_cell_below (below_alloc (Below.refl _ _) _) hc6, pw_cell_below (below_alloc (Below.refl _ _) _) hc7, pw_cell_below (below_alloc (Below.refl _ _) _) hc8, pw_cell_below (below_alloc (Below.refl _ _) _) hc9, pw_cell_below (below_alloc (Below.refl _ _) _) hc10, pw_cell_below (below_alloc (Below.refl _ _) _) hc11, pw_cell_below (below_alloc (Below.refl _ _) _) hc12, pw_cell_below (below_alloc (Below.refl _ _) _) hc13, pw_cell_below (below_alloc (Below.refl _ _) _) hc14⟩) (first
    | (go_at_call 12; refine (Right_p _).mono ?_; rintro e w3 ⟨rfl, hB⟩; have HQ := Aside0.mk (HPd.out.below hB); clear HPd hB hc0 hc1 hc2 hc3 hc4 hc5 hc6 hc7 hc8 hc9 hc10 hc11 hc12 hc13 hc14; have HPd := HQ; clear HQ; have hc0 := HPd.out.cell 0 rfl; have hc1 := HPd.out.cell 1 rfl; have hc2 := HPd.out.cell 2 rfl; have hc3 := HPd.out.cell 3 rfl; have hc4 := HPd.out.cell 4 rfl; have hc5 := HPd.out.cell 5 rfl; have hc6 := HPd.out.cell 6 rfl; have hc7 := HPd.out.cell 7 rfl; have hc8 := HPd.out.cell 8 rfl; have hc9 := HPd.out.cell 9 rfl; have hc10 := HPd.out.cell 10 rfl; have hc11 := HPd.out.cell 11 rfl; have hc12 := HPd.out.cell 12 rfl; have hc13 := HPd.out.cell 13 rfl; have hc14 := HPd.out.cell 14 rfl)
    | (go_at_call 19; refine (Plans_p _).mono ?_; rintro e w3 ⟨rfl, hB⟩; have HQ := Aside0.mk (HPd.out.below hB); clear HPd hB hc0 hc1 hc2 hc3 hc4 hc5 hc6 hc7 hc8 hc9 hc10 hc11 hc12 hc13 hc14; have HPd := HQ; clear HQ; have hc0 := HPd.out.cell 0 rfl; have hc1 := HPd.out.cell 1 rfl; have hc2 := HPd.out.cell 2 rfl; have hc3 := HPd.out.cell 3 rfl; have hc4 := HPd.out.cell 4 rfl; have hc5 := HPd.out.cell 5 rfl; have hc6 := HPd.out.cell 6 rfl; have hc7 := HPd.out.cell 7 rfl; have hc8 := HPd.out.cell 8 rfl; have hc9 := HPd.out.cell 9 rfl; have hc10 := HPd.out.cell 10 rfl; have hc11 := HPd.out.cell 11 rfl; have hc12 := HPd.out.cell 12 rfl; have hc13 := HPd.out.cell 13 rfl; have hc14 := HPd.out.cell 14 rfl)
    | (go_at_call 14; refine (Copy_p _).mono ?_; rintro e w3 ⟨rfl, hB⟩; have HQ := Aside0.mk (HPd.out.below hB); clear HPd hB hc0 hc1 hc2 hc3 hc4 hc5 hc6 hc7 hc8 hc9 hc10 hc11 hc12 hc13 hc14; have HPd := HQ; clear HQ; have hc0 := HPd.out.cell 0 rfl; have hc1 := HPd.out.cell 1 rfl; have hc2 := HPd.out.cell 2 rfl; have hc3 := HPd.out.cell 3 rfl; have hc4 := HPd.out.cell 4 rfl; have hc5 := HPd.out.cell 5 rfl; have hc6 := HPd.out.cell 6 rfl; have hc7 := HPd.out.cell 7 rfl; have hc8 := HPd.out.cell 8 rfl; have hc9 := HPd.out.cell 9 rfl; have hc10 := HPd.out.cell 10 rfl; have hc11 := HPd.out.cell 11 rfl; have hc12 := HPd.out.cell 12 rfl; have hc13 := HPd.out.cell 13 rfl; have hc14 := HPd.out.cell 14 rfl)
    | (go_at_call 15; refine (Same_p _).mono ?_; rintro e w3 ⟨rfl, hB⟩; have HQ := Aside0.mk (HPd.out.below hB); clear HPd hB hc0 hc1 hc2 hc3 hc4 hc5 hc6 hc7 hc8 hc9 hc10 hc11 hc12 hc13 hc14; have HPd := HQ; clear HQ; have hc0 := HPd.out.cell 0 rfl; have hc1 := HPd.out.cell 1 rfl; have hc2 := HPd.out.cell 2 rfl; have hc3 := HPd.out.cell 3 rfl; have hc4 := HPd.out.cell 4 rfl; have hc5 := HPd.out.cell 5 rfl; have hc6 := HPd.out.cell 6 rfl; have hc7 := HPd.out.cell 7 rfl; have hc8 := HPd.out.cell 8 rfl; have hc9 := HPd.out.cell 9 rfl; have hc10 := HPd.out.cell 10 rfl; have hc11 := HPd.out.cell 11 rfl; have hc12 := HPd.out.cell 12 rfl; have hc13 := HPd.out.cell 13 rfl; have hc14 := HPd.out.cell 14 rfl)
    | (go_at_call 33; refine (Rule_is _ 2 8 _ 2 2 [1, 0] 0 0 true 0 rfl (litC _) (Nat.le_refl _) (by decide)).mono ?_; rintro e w3 ⟨rfl, hB⟩; rw [rule_ex]; have hB2 := below_then (below_alloc (Below.refl _ _) _) (below_size (below_alloc (Below.refl _ _) _)) hB; clear hB; have hB := hB2; clear hB2; have HQ := Aside0.mk (HPd.out.below hB); clear HPd hB hc0 hc1 hc2 hc3 hc4 hc5 hc6 hc7 hc8 hc9 hc10 hc11 hc12 hc13 hc14; have HPd := HQ; clear HQ; have hc0 := HPd.out.cell 0 rfl; have hc1 := HPd.out.cell 1 rfl; have hc2 := HPd.out.cell 2 rfl; have hc3 := HPd.out.cell 3 rfl; have hc4 := HPd.out.cell 4 rfl; have hc5 := HPd.out.cell 5 rfl; have hc6 := HPd.out.cell 6 rfl; have hc7 := HPd.out.cell 7 rfl; have hc8 := HPd.out.cell 8 rfl; have hc9 := HPd.out.cell 9 rfl; have hc10 := HPd.out.cell 10 rfl; have hc11 := HPd.out.cell 11 rfl; have hc12 := HPd.out.cell 12 rfl; have hc13 := HPd.out.cell 13 rfl; have hc14 := HPd.out.cell 14 rfl)
    | (go_at_call 25; refine (FindClass_p _).mono ?_; rintro e w3 ⟨rfl, hB⟩; have HQ := Aside0.mk (HPd.out.below hB); clear HPd hB hc0 hc1 hc2 hc3 hc4 hc5 hc6 hc7 hc8 hc9 hc10 hc11 hc12 hc13 hc14; have HPd := HQ; clear HQ; have hc0 := HPd.out.cell 0 rfl; have hc1 := HPd.out.cell 1 rfl; have hc2 := HPd.out.cell 2 rfl; have hc3 := HPd.out.cell 3 rfl; have hc4 := HPd.out.cell 4 rfl; have hc5 := HPd.out.cell 5 rfl; have hc6 := HPd.out.cell 6 rfl; have hc7 := HPd.out.cell 7 rfl; have hc8 := HPd.out.cell 8 rfl; have hc9 := HPd.out.cell 9 rfl; have hc10 := HPd.out.cell 10 rfl; have hc11 := HPd.out.cell 11 rfl; have hc12 := HPd.out.cell 12 rfl; have hc13 := HPd.out.cell 13 rfl; have hc14 := HPd.out.cell 14 rfl))
  go_wp2
  go_ret
  exact ⟨rfl, HPd.out.bel⟩
end Go.Proofs.YtineikfhfmiidaaGreat.Pm

/- The law ProblemShares, walked. -/
namespace Go.Proofs.YtineikfhfmiidaaGreat.Pm
open Go Go.RowKit Go.Proofs.YtineikfhfmiidaaGreat.Gp Go.Proofs.YtineikfhfmiidaaGreatW.PrintWords Go.Proofs.YtineikfhfmiidaaGreatW.PrintLast Go.Proofs.YtineikfhfmiidaaGreatW.PrintMore
set_option linter.unusedVariables false
set_option linter.unusedSimpArgs false
/-- A block of the call's own, and what holds of the argument. -/
structure PBR (w wr : World) (g : Nat) (t : TypeId) (cs : Array Value) (R : World → Prop) : Prop where
  box : PBox w wr g t cs
  arg : R wr
theorem PBR.below {w wr w1 : World} {g : Nat} {t : TypeId} {cs : Array Value} {R : World → Prop} (hR : ∀ w w', R w → Below w.heap.size w w' → R w') (h : PBR w wr g t cs R) (hB : Below wr.heap.size wr w1) : PBR w w1 g t cs R := ⟨h.box.below hB, hR _ _ h.arg hB⟩
theorem pallv {w wr : World} {g : Nat} {t : TypeId} {v0 v1 v2 v3 v4 v5 v6 v7 v8 v9 v10 v11 v12 v13 v14 : Value} {R : World → Prop} (h : PBR w wr g t #[v0, v1, v2, v3, v4, v5, v6, v7, v8, v9, v10, v11, v12, v13, v14] R) : wr.cell? ⟨g, 0, none⟩ = some v0 ∧ wr.cell? ⟨g, 1, none⟩ = some v1 ∧ wr.cell? ⟨g, 2, none⟩ = some v2 ∧ wr.cell? ⟨g, 3, none⟩ = some v3 ∧ wr.cell? ⟨g, 4, none⟩ = some v4 ∧ wr.cell? ⟨g, 5, none⟩ = some v5 ∧ wr.cell? ⟨g, 6, none⟩ = some v6 ∧ wr.cell? ⟨g, 7, none⟩ = some v7 ∧ wr.cell? ⟨g, 8, none⟩ = some v8 ∧ wr.cell? ⟨g, 9, none⟩ = some v9 ∧ wr.cell? ⟨g, 10, none⟩ = some v10 ∧ wr.cell? ⟨g, 11, none⟩ = some v11 ∧ wr.cell? ⟨g, 12, none⟩ = some v12 ∧ wr.cell? ⟨g, 13, none⟩ = some v13 ∧ wr.cell? ⟨g, 14, none⟩ = some v14 :=
  ⟨h.box.cell 0 rfl, h.box.cell 1 rfl, h.box.cell 2 rfl, h.box.cell 3 rfl, h.box.cell 4 rfl, h.box.cell 5 rfl, h.box.cell 6 rfl, h.box.cell 7 rfl, h.box.cell 8 rfl, h.box.cell 9 rfl, h.box.cell 10 rfl, h.box.cell 11 rfl, h.box.cell 12 rfl, h.box.cell 13 rfl, h.box.cell 14 rfl⟩
def SharesR.T8 : Bool × List (List Nat × List Nat) := (true, [([], []), ([], []), ([], []), ([0, 1, 2], [0, 1, 2]), ([], []), ([], []), ([], []), ([4, 5, 6, 3], [4, 5, 6]), ([3, 7, 7], [3, 7]), ([8, 8], [8]), ([9], [9]), ([9], [9]), ([9], [9]), ([10, 11, 12, 9, 9], [9, 10, 11, 12]), ([9], [9]), ([9], [9]), ([9], [9]), ([14, 15, 16, 13, 9], [9, 14, 15, 16]), ([13, 17, 17, 9], [9, 13, 17]), ([9, 18], [9, 18]), ([19, 18], [19]), ([20, 20], [20]), ([20, 21], [20, 21]), ([22, 21, 0, 1, 2, 3, 4, 5, 6, 7, 8, 9, 10, 11, 12, 13, 14, 15, 16, 17, 18, 19, 20, 21, 22], [22])])
def SharesR.B8 : List Nat := [0, 0, 0, 7, 0, 0, 0, 127, 255, 511, 1023, 1023, 1023, 8191, 1023, 1023, 1023, 131071, 262143, 524287, 1048575, 2097151, 4194303, 8388607]
theorem SharesR.tab8 : rtab .any (opsOf Tryz.f7 8) = SharesR.T8 := by kernel_rfl
theorem SharesR.bits8 : waitsOk SharesR.T8.2 SharesR.B8 = true := by kernel_rfl
theorem ints_ev (l : List Int) (hl : l.length ≤ 9223372036854775807) : ∀ d i : Nat, d + i = l.length → Ev (fun k => horariumref03_Ints.l0 k l l (i : Int)) true := by
  intro d
  induction d with
  | zero =>
    intro i hi
    refine Ev.step (f := fun _ => some true) (fun k => ?_) (Ev.now _)
    simp only [horariumref03_Ints.l0]
    rw [if_neg (by omega)]
  | succ d ih =>
    intro i hi
    refine Ev.step (fun k => ?_) (ih (i + 1) (by omega))
    simp only [horariumref03_Ints.l0]
    rw [if_pos (by omega), if_pos (by omega), if_pos (by omega), if_pos trivial, wr1 (by omega)]
theorem ints_is (w : World) (A : Option Addr) (c : Nat) (A2 : Option Addr) (c2 : Nat) (l : List Int) (hC : (Kd.int .i64).C w A l.length l) (hc : l.length ≤ c) (hC2 : (Kd.int .i64).C w A2 l.length l) (hc2 : l.length ≤ c2) :
    Calls Tryz.prog 30 #[.slice A l.length c, .slice A2 l.length c2] w fun e w' => e = .returned (.bool true) ∧ Below w.heap.size w w' := by
  have h2 : Ev (fun k => horariumref03_Ints.f k l l) true := by
    refine Ev.congr (fun k => ?_) (ints_ev l (Kd.C_max hC) l.length 0 rfl)
    unfold horariumref03_Ints.f
    rw [if_pos rfl]
    rfl
  obtain ⟨k, hk⟩ := h2.rounds
  refine (horariumref03_Ints.calls k A c l A2 c2 l true w hC hc hC2 hc2 hk).mono ?_
  rintro e w' ⟨he, hD⟩
  exact ⟨he, hD.below⟩
theorem Rising_q (w : World) (A : Option Addr) (c : Nat) (l : List Int) (n : Int) (b : Bool) (k : Nat) (hC : (Kd.int .i64).C w A l.length l) (hc : l.length ≤ c) (hk : horariumref13_Rising.f k l n = some b) (q : Nat) :
    Calls Tryz.prog 29 #[.slice A l.length c, .int .i64 n] (w.drewN q) fun e w' => e = .returned (.bool b) ∧ ∃ m, w' = (w.drewN q).drewN m := by
  refine (horariumref13_Rising.calls k A c l n b (w.drewN q) (Kd.C_drewN hC q) hc hk).mono ?_
  rintro e w' ⟨he, hD⟩
  exact ⟨he, hD.out⟩
/-- The classes below k have rising rows of persons. -/
def RisTo (p : PV) (k : Nat) : Prop := ∀ (i : Nat) x, i < k → p.classes[i]? = some x → Ris x.f3 (p.persons.length : Int)
theorem folk_ris {p : PV} (h : RisTo p p.classes.length) (c : Int) : Ris (folkL p c) (p.persons.length : Int) := by
  unfold folkL
  by_cases h0 : 0 ≤ c
  · rw [if_pos h0]
    cases hx : p.classes[c.toNat]? with
    | none => exact ⟨fun x hx => (by cases hx), List.Pairwise.nil⟩
    | some x => exact h c.toNat x (List.getElem?_eq_some_iff.1 hx).1 hx
  · rw [if_neg h0]
    exact ⟨fun x hx => (by cases hx), List.Pairwise.nil⟩
theorem share_same {p : PV} (hs : p.persons.length ≤ 30) (h : RisTo p p.classes.length) (x y : Int) : (folkL p x).filter (fun z => (folkL p y).contains z) = shareTo p x y 64 ∧ (folkL p y).filter (fun z => (folkL p x).contains z) = shareTo p x y 64 := by
  have hx := folk_ris h x
  have hy := folk_ris h y
  constructor
  · refine rise_unique _ _ (hx.rise.filter _) (shareTo_rise p x y 64) (fun z => ?_)
    rw [List.mem_filter, shareTo_mem]
    unfold both
    rw [Bool.and_eq_true, List.contains_eq_mem, List.contains_eq_mem, decide_eq_true_iff, decide_eq_true_iff]
    constructor
    · rintro ⟨h1, h2⟩
      have := hx.inn z h1
      exact ⟨⟨this.1, by omega⟩, h1, h2⟩
    · rintro ⟨_, h1, h2⟩
      exact ⟨h1, h2⟩
  · refine rise_unique _ _ (hy.rise.filter _) (shareTo_rise p x y 64) (fun z => ?_)
    rw [List.mem_filter, shareTo_mem]
    unfold both
    rw [Bool.and_eq_true, List.contains_eq_mem, List.contains_eq_mem, decide_eq_true_iff, decide_eq_true_iff]
    constructor
    · rintro ⟨h1, h2⟩
      have := hy.inn z h1
      exact ⟨⟨this.1, by omega⟩, h2, h1⟩
    · rintro ⟨_, h1, h2⟩
      exact ⟨h2, h1⟩
theorem ris_short {l : List Int} {n : Nat} (h : Ris l (n : Int)) : l.length ≤ n := by
  have h1 : ∀ (l : List Int) (k : Int), l.Pairwise (· < ·) → (∀ x, x ∈ l → k ≤ x ∧ x < n) → (l.length : Int) ≤ max 0 (n - k) := by
    intro l
    induction l with
    | nil => intro k _ _; simp; omega
    | cons x t ih =>
      intro k hp hi
      rw [List.pairwise_cons] at hp
      have h2 := hi x List.mem_cons_self
      have h3 := ih (x + 1) hp.2 (fun y hy => ⟨by have := hp.1 y hy; omega, (hi y (List.mem_cons_of_mem _ hy)).2⟩)
      rw [List.length_cons]
      omega
  have := h1 l 0 h.rise (fun x hx => h.inn x hx)
  omega
def SRet (L : List Int) (e : Ending) (w' : World) : Prop := ∃ X d, e = .returned (.slice X L.length d) ∧ L.length ≤ d ∧ (Kd.int .i64).C w' X L.length L
theorem sret_of {w w' : World} {e : Ending} {L : List Int} (h : ∃ v, e = .returned v ∧ (Kd.int .i64).R 3 w' w.heap.size (fun _ => True) v L ∧ Below w.heap.size w w') : SRet L e w' ∧ Below w.heap.size w w' := by
  obtain ⟨v, rfl, hR, hB⟩ := h
  obtain ⟨A, c, rfl, hc, hC⟩ := Kd.R_reads hR
  exact ⟨⟨A, c, rfl, hc, hC⟩, hB⟩
set_option maxRecDepth 100000 in
set_option maxHeartbeats 4000000 in
theorem Shares_is (w : World) (p : PV) (a : PA) (x y : Int) (h : PRd w p a) :
    Calls Tryz.prog 7 #[.agg (pcs p a), .int .i64 x, .int .i64 y] w fun e w' => e = .returned (.bool true) ∧ Below w.heap.size w w' := by
  have H := Aside0.mk h
  clear h
  have hu := Tryz.underlying34
  go_enter Tryz.func7, Tryz.ntmps7
  go_wp2_with (first
    | ((with_reducible refine gate_dst (N := 3) rfl ?_); refine box_event ?hg (N := 3) ?hd (cs := pcs p a) (t := 34) ?hr ?_; (case hd => rfl); (case hg => rfl); (case hr => first | (go_simp; done) | (go_simp; rfl)); intro g hg w2 hbox hB; have HP := Aside0.mk (PBox.mk hbox hB (show w.heap.size ≤ g by rw [hg]; exact Nat.le_refl _)); clear hbox hB hg; obtain ⟨hc0, hc1, hc2, hc3, hc4, hc5, hc6, hc7, hc8, hc9, hc10, hc11, hc12, hc13, hc14⟩ := pall HP.out)
    | (go_at_call 8; refine (Few_is _ p a (H.out.below HP.out.bel)).mono ?_; rintro e w3 ⟨⟨fb, rfl, hfb⟩, hB⟩; have HFb := Aside0.mk hfb; clear hfb; have HQ := Aside0.mk (HP.out.below hB); clear HP hB hc0 hc1 hc2 hc3 hc4 hc5 hc6 hc7 hc8 hc9 hc10 hc11 hc12 hc13 hc14; have HP := HQ; clear HQ; obtain ⟨hc0, hc1, hc2, hc3, hc4, hc5, hc6, hc7, hc8, hc9, hc10, hc11, hc12, hc13, hc14⟩ := pall HP.out)
    | (go_at_call 9; refine (heads_is _).mono ?_; rintro e w3 ⟨rfl, hB⟩; have HQ := Aside0.mk (HP.out.below hB); clear HP hB hc0 hc1 hc2 hc3 hc4 hc5 hc6 hc7 hc8 hc9 hc10 hc11 hc12 hc13 hc14; have HP := HQ; clear HQ; obtain ⟨hc0, hc1, hc2, hc3, hc4, hc5, hc6, hc7, hc8, hc9, hc10, hc11, hc12, hc13, hc14⟩ := pall HP.out))
  · go_ret
    exact ⟨rfl, HP.out.bel⟩
  · have h9 : (!fb) = false := by assumption
    obtain rfl : fb = true := by
      cases fb with
      | false => cases h9
      | true => rfl
    have HSh := Aside0.mk (show Short p from HFb.out rfl)
    clear HFb h9
    simp only [Bool.not_true]
    have hps := HSh.out.2.2.1
    have hcs := HSh.out.2.2.2.1
    go_loopw [7] (fun v7 wr => ∃ i : Nat, i ≤ p.classes.length ∧ v7 = .int .i64 i ∧ Aside0 (RisTo p i) ∧ Aside0 (PBox w wr g 34 (pcs p a))) (fun v7 _ => p.classes.length - (intOf v7).toNat)
    case atStart => exact ⟨0, Nat.zero_le _, rfl, ⟨fun i x hi => by omega⟩, HP⟩
    case round =>
      clear HP hc0 hc1 hc2 hc3 hc4 hc5 hc6 hc7 hc8 hc9 hc10 hc11 hc12 hc13 hc14
      obtain ⟨i, hi, rfl, HRt, HP⟩ := hrel
      obtain ⟨hc0, hc1, hc2, hc3, hc4, hc5, hc6, hc7, hc8, hc9, hc10, hc11, hc12, hc13, hc14⟩ := pall HP.out
      by_cases hin : i < p.classes.length
      · have hi2 : (i : Int) < (p.classes.length : Int) := by omega
        obtain ⟨cx, hcx⟩ : ∃ z, p.classes[i]? = some z := ⟨_, List.getElem?_eq_getElem hin⟩
        obtain ⟨ad, B3, d3, B4, d4, B5, d5, hA, e0, e1, e2, e3, e4, e5, e6, g3, g4, g5⟩ := elClass (H.out.below HP.out.bel).r7 hcx
        rw [hA] at hc7
        obtain ⟨b, hb, hr⟩ := ris_ev cx.f3 (p.persons.length : Int) (Kd.C_max g3.1) cx.f3.length 0 rfl (fun j hj => by omega)
        obtain ⟨k, hk⟩ := hb.rounds
        have HK := Aside0.mk (show horariumref13_Rising.f k cx.f3 (p.persons.length : Int) = some b from hk)
        have HG := Aside0.mk g3
        have HRr := Aside0.mk hr
        have HX := Aside0.mk hcx
        clear hb hk hr hcx g3 g4 g5 e0 e1 e2 e4 e5 e6 hA
        cases b with
        | false =>
          go_wp2
          go_quiet (first | (go_at_call 29; exact Calls.quiet_of (Rising_q _ B3 d3 cx.f3 _ false k HG.out.1 HG.out.2 HK.out _)))
          have HPq := Aside0.mk (HP.out.below (pw_below_drewN (Below.refl _ _) nq))
          go_wp2_with (first
            | (go_at_call 9; refine (heads_is _).mono ?_; rintro e w3 ⟨rfl, hB⟩; have HP9 := Aside0.mk (HPq.out.below hB); clear hB))
          go_ret
          exact ⟨rfl, HP9.out.bel⟩
        | true =>
          go_wp2
          go_quiet (first | (go_at_call 29; exact Calls.quiet_of (Rising_q _ B3 d3 cx.f3 _ true k HG.out.1 HG.out.2 HK.out _)))
          go_wp2
          exact ⟨⟨i + 1, by omega, by go_num, ⟨fun j z hj hz => by
            by_cases e : j = i
            · subst e
              rw [HX.out] at hz
              cases hz
              exact HRr.out (by trivial)
            · exact HRt.out j z (by omega) hz⟩, ⟨HP.out.below (pw_below_drewN (Below.refl _ _) nq)⟩⟩, by simp [intOf]; omega⟩
      · obtain rfl : i = p.classes.length := by omega
        have hss := share_same hps HRt.out x y
        have hrx := folk_ris HRt.out x
        have hry := folk_ris HRt.out y
        have hlx := ris_short hrx
        have hly := ris_short hry
        have HS1 : Aside0 (∀ W, PRd W p a → Calls Tryz.prog 31 #[.agg #[.string p.nm, .int .i64 p.g0, .int .i64 p.g1, .int .i64 p.g2, .slice a.A4 p.rooms.length a.c4, .slice a.A5 p.walk.length a.c5, .slice a.A6 p.persons.length a.c6, .slice a.A7 p.classes.length a.c7, .slice a.A8 p.courses.length a.c8, .slice a.A9 p.students.length a.c9, .slice a.A10 p.rules.length a.c10, .int .i64 p.w0, .int .i64 p.w1, .int .i64 p.w2, .int .i64 p.w3], .int .i64 x, .int .i64 y] W fun e w' => SRet (shareTo p x y 64) e w' ∧ Below W.heap.size W w') := ⟨fun W hW => (Share_is W p a x y hW (by omega) hrx.rise).mono (fun e w' h => by rw [hss.1] at h; exact sret_of h)⟩
        have HS2 : Aside0 (∀ W, PRd W p a → Calls Tryz.prog 31 #[.agg #[.string p.nm, .int .i64 p.g0, .int .i64 p.g1, .int .i64 p.g2, .slice a.A4 p.rooms.length a.c4, .slice a.A5 p.walk.length a.c5, .slice a.A6 p.persons.length a.c6, .slice a.A7 p.classes.length a.c7, .slice a.A8 p.courses.length a.c8, .slice a.A9 p.students.length a.c9, .slice a.A10 p.rules.length a.c10, .int .i64 p.w0, .int .i64 p.w1, .int .i64 p.w2, .int .i64 p.w3], .int .i64 y, .int .i64 x] W fun e w' => SRet (shareTo p x y 64) e w' ∧ Below W.heap.size W w') := ⟨fun W hW => (Share_is W p a y x hW (by omega) hry.rise).mono (fun e w' h => by rw [hss.2] at h; exact sret_of h)⟩
        have HT : Aside0 (∀ W, PRd W p a → Calls Tryz.prog 32 #[.agg #[.string p.nm, .int .i64 p.g0, .int .i64 p.g1, .int .i64 p.g2, .slice a.A4 p.rooms.length a.c4, .slice a.A5 p.walk.length a.c5, .slice a.A6 p.persons.length a.c6, .slice a.A7 p.classes.length a.c7, .slice a.A8 p.courses.length a.c8, .slice a.A9 p.students.length a.c9, .slice a.A10 p.rules.length a.c10, .int .i64 p.w0, .int .i64 p.w1, .int .i64 p.w2, .int .i64 p.w3], .int .i64 x, .int .i64 y] W fun e w' => SRet (shareTo p x y 64) e w' ∧ Below W.heap.size W w') := ⟨fun W hW => (RShare_is W p a x y hW).mono (fun e w' h => sret_of h)⟩
        have HRm := Aside0.mk (fun (W W' : World) (hW : PRd W p a) (hB : Below W.heap.size W W') => hW.below hB)
        have HPb : Aside0 (PBR w wr g 34 #[.string p.nm, .int .i64 p.g0, .int .i64 p.g1, .int .i64 p.g2, .slice a.A4 p.rooms.length a.c4, .slice a.A5 p.walk.length a.c5, .slice a.A6 p.persons.length a.c6, .slice a.A7 p.classes.length a.c7, .slice a.A8 p.courses.length a.c8, .slice a.A9 p.students.length a.c9, .slice a.A10 p.rules.length a.c10, .int .i64 p.w0, .int .i64 p.w1, .int .i64 p.w2, .int .i64 p.w3] (fun W => PRd W p a)) := ⟨⟨HP.out, H.out.below HP.out.bel⟩⟩
        clear hss hrx hry hlx hly HP HRt HSh hps hcs H
        generalize shareTo p x y 64 = L at HS1 HS2 HT
        go_wp2
        clear hc0 hc1 hc2 hc3 hc4 hc5 hc6 hc7 hc8 hc9 hc10 hc11 hc12 hc13 hc14
        generalize hgv0 : (.string p.nm : Value) = v0 at HS1 HS2 HT HPb ⊢
        clear hgv0
        generalize hgv1 : (.int .i64 p.g0 : Value) = v1 at HS1 HS2 HT HPb ⊢
        clear hgv1
        generalize hgv2 : (.int .i64 p.g1 : Value) = v2 at HS1 HS2 HT HPb ⊢
        clear hgv2
        generalize hgv3 : (.int .i64 p.g2 : Value) = v3 at HS1 HS2 HT HPb ⊢
        clear hgv3
        generalize hgv4 : (.slice a.A4 p.rooms.length a.c4 : Value) = v4 at HS1 HS2 HT HPb ⊢
        clear hgv4
        generalize hgv5 : (.slice a.A5 p.walk.length a.c5 : Value) = v5 at HS1 HS2 HT HPb ⊢
        clear hgv5
        generalize hgv6 : (.slice a.A6 p.persons.length a.c6 : Value) = v6 at HS1 HS2 HT HPb ⊢
        clear hgv6
        generalize hgv7 : (.slice a.A7 p.classes.length a.c7 : Value) = v7 at HS1 HS2 HT HPb ⊢
        clear hgv7
        generalize hgv8 : (.slice a.A8 p.courses.length a.c8 : Value) = v8 at HS1 HS2 HT HPb ⊢
        clear hgv8
        generalize hgv9 : (.slice a.A9 p.students.length a.c9 : Value) = v9 at HS1 HS2 HT HPb ⊢
        clear hgv9
        generalize hgv10 : (.slice a.A10 p.rules.length a.c10 : Value) = v10 at HS1 HS2 HT HPb ⊢
        clear hgv10
        generalize hgv11 : (.int .i64 p.w0 : Value) = v11 at HS1 HS2 HT HPb ⊢
        clear hgv11
        generalize hgv12 : (.int .i64 p.w1 : Value) = v12 at HS1 HS2 HT HPb ⊢
        clear hgv12
        generalize hgv13 : (.int .i64 p.w2 : Value) = v13 at HS1 HS2 HT HPb ⊢
        clear hgv13
        generalize hgv14 : (.int .i64 p.w3 : Value) = v14 at HS1 HS2 HT HPb ⊢
        clear hgv14
        as_aux_lemma =>
          refine start_ (n := 24) (S := (fun w' => w'.cell? ⟨g, 0, none⟩ = some v0 ∧ w'.cell? ⟨g, 1, none⟩ = some v1 ∧ w'.cell? ⟨g, 2, none⟩ = some v2 ∧ w'.cell? ⟨g, 3, none⟩ = some v3 ∧ w'.cell? ⟨g, 4, none⟩ = some v4 ∧ w'.cell? ⟨g, 5, none⟩ = some v5 ∧ w'.cell? ⟨g, 6, none⟩ = some v6 ∧ w'.cell? ⟨g, 7, none⟩ = some v7 ∧ w'.cell? ⟨g, 8, none⟩ = some v8 ∧ w'.cell? ⟨g, 9, none⟩ = some v9 ∧ w'.cell? ⟨g, 10, none⟩ = some v10 ∧ w'.cell? ⟨g, 11, none⟩ = some v11 ∧ w'.cell? ⟨g, 12, none⟩ = some v12 ∧ w'.cell? ⟨g, 13, none⟩ = some v13 ∧ w'.cell? ⟨g, 14, none⟩ = some v14)) (ds := []) #[false, false, false, false, false, false, false, false, false, false, false, false, false, false, false, false, false, false, false, false, false, false, false, false] (by kernel_rfl) rfl rfl (pallv (PBR.below HRm.out HPb.out (below_drew (Below.refl _ _)))) (fun hHeld => ?_); refine with_tabW SharesR.tab8 SharesR.bits8 (fun HT_ HW_ => ?_)
          have HPd := Aside0.mk (PBR.below HRm.out HPb.out (below_drew (Below.refl _ _)))
          clear HPb
          generalize wr.drew = wx at HPd hHeld ⊢
          refine take_ (i := 0) (N := some 31) (v := ?_) (a' := ?_) #[true, false, false, false, false, false, false, false, false, false, false, false, false, false, false, false, false, false, false, false, false, false, false, false] rfl rfl (take_ofW HT_.out HW_.out (by kernel_rfl)) (fun _ _ _ h => h) (Or.inl ⟨by rfl, ?_⟩) hHeld ?_ ?_
          rotate_left
          · intro w' s0
            (obtain ⟨s0, s1, s2, s3, s4, s5, s6, s7, s8, s9, s10, s11, s12, s13, s14⟩ := s0)
            go_simp
            with_reducible rfl
          rotate_left
          · simp only [Act.put, List.setIfInBounds_toArray, List.set_cons_zero, List.set_cons_succ, i64_w, i32_w]
            rfl
          refine pure_ (i := 1) (N := some 32) (v := ?_) (a' := ?_) #[true, true, false, false, false, false, false, false, false, false, false, false, false, false, false, false, false, false, false, false, false, false, false, false] rfl rfl (any_of HT_.out (by kernel_rfl)) (fun _ _ _ h => h) (Or.inl ⟨by rfl, ?_⟩) ?_ ?_
          rotate_left
          · intro w'
            go_simp
            with_reducible rfl
          rotate_left
          · simp only [Act.put, List.setIfInBounds_toArray, List.set_cons_zero, List.set_cons_succ, i64_w, i32_w]
            rfl
          refine pure_ (i := 2) (N := some 33) (v := ?_) (a' := ?_) #[true, true, true, false, false, false, false, false, false, false, false, false, false, false, false, false, false, false, false, false, false, false, false, false] rfl rfl (any_of HT_.out (by kernel_rfl)) (fun _ _ _ h => h) (Or.inl ⟨by rfl, ?_⟩) ?_ ?_
          rotate_left
          · intro w'
            go_simp
            with_reducible rfl
          rotate_left
          · simp only [Act.put, List.setIfInBounds_toArray, List.set_cons_zero, List.set_cons_succ, i64_w, i32_w]
            rfl
          refine take_ (i := 4) (N := some 35) (v := ?_) (a' := ?_) #[true, true, true, false, true, false, false, false, false, false, false, false, false, false, false, false, false, false, false, false, false, false, false, false] rfl rfl (take_ofW HT_.out HW_.out (by kernel_rfl)) (fun _ _ _ h => h) (Or.inl ⟨by rfl, ?_⟩) hHeld ?_ ?_
          rotate_left
          · intro w' s0
            (obtain ⟨s0, s1, s2, s3, s4, s5, s6, s7, s8, s9, s10, s11, s12, s13, s14⟩ := s0)
            go_simp
            with_reducible rfl
          rotate_left
          · simp only [Act.put, List.setIfInBounds_toArray, List.set_cons_zero, List.set_cons_succ, i64_w, i32_w]
            rfl
          refine pure_ (i := 5) (N := some 36) (v := ?_) (a' := ?_) #[true, true, true, false, true, true, false, false, false, false, false, false, false, false, false, false, false, false, false, false, false, false, false, false] rfl rfl (any_of HT_.out (by kernel_rfl)) (fun _ _ _ h => h) (Or.inl ⟨by rfl, ?_⟩) ?_ ?_
          rotate_left
          · intro w'
            go_simp
            with_reducible rfl
          rotate_left
          · simp only [Act.put, List.setIfInBounds_toArray, List.set_cons_zero, List.set_cons_succ, i64_w, i32_w]
            rfl
          refine pure_ (i := 6) (N := some 37) (v := ?_) (a' := ?_) #[true, true, true, false, true, true, true, false, false, false, false, false, false, false, false, false, false, false, false, false, false, false, false, false] rfl rfl (any_of HT_.out (by kernel_rfl)) (fun _ _ _ h => h) (Or.inl ⟨by rfl, ?_⟩) ?_ ?_
          rotate_left
          · intro w'
            go_simp
            with_reducible rfl
          rotate_left
          · simp only [Act.put, List.setIfInBounds_toArray, List.set_cons_zero, List.set_cons_succ, i64_w, i32_w]
            rfl
          as_aux_lemma =>
            refine one_ (i := 3) (N := some 34) #[true, true, true, true, true, true, true, false, false, false, false, false, false, false, false, false, false, false, false, false, false, false, false, false] rfl rfl (one_of HT_.out (by kernel_rfl)) (by decide) (fun K hK => ?_)
            refine goes_ Tryz.func31 (by kernel_rfl) rfl #[.agg #[v0, v1, v2, v3, v4, v5, v6, v7, v8, v9, v10, v11, v12, v13, v14], .int .i64 x, .int .i64 y] (by rfl) rfl rfl (by (try simp only [List.map_toArray, List.map_cons, List.map_nil]); first | done | rfl) ?_
            refine (HS1.out _ HPd.out.arg).mono ?_
            rintro e wk ⟨⟨X1, d1, rfl, hd, hC⟩, hb⟩
            have HX1 := Aside0.mk (And.intro hC hd)
            clear hC hd
            have HQ := Aside0.mk (PBR.below HRm.out HPd.out hb)
            clear HPd hb
            have HPd := HQ
            clear HQ
            refine ⟨_, rfl, hK.out _ _ (pallv HPd.out) (fun hHeld => ?_)⟩
            clear hK K
            refine norm_ (a' := ?_) ?_ ?_
            rotate_left
            · show Act.put _ (some 34) _ = _
              simp only [Act.put, List.setIfInBounds_toArray, List.set_cons_zero, List.set_cons_succ, i64_w, i32_w]
              rfl
            as_aux_lemma =>
              refine one_ (i := 7) (N := some 38) #[true, true, true, true, true, true, true, true, false, false, false, false, false, false, false, false, false, false, false, false, false, false, false, false] rfl rfl (one_of HT_.out (by kernel_rfl)) (by decide) (fun K hK => ?_)
              refine goes_ Tryz.func32 (by kernel_rfl) rfl #[.agg #[v0, v1, v2, v3, v4, v5, v6, v7, v8, v9, v10, v11, v12, v13, v14], .int .i64 x, .int .i64 y] (by rfl) rfl rfl (by (try simp only [List.map_toArray, List.map_cons, List.map_nil]); first | done | rfl) ?_
              refine (HT.out _ HPd.out.arg).mono ?_
              rintro e wk ⟨⟨X2, d2, rfl, hd, hC⟩, hb⟩
              have HX2 := Aside0.mk (And.intro hC hd)
              have nX1 := Aside0.mk (And.intro (Kd.C_below HX1.out.1 hb) HX1.out.2)
              clear hC hd
              clear HX1
              have HX1 := nX1
              have HQ := Aside0.mk (PBR.below HRm.out HPd.out hb)
              clear HPd hb
              have HPd := HQ
              clear HQ
              refine ⟨_, rfl, hK.out _ _ (pallv HPd.out) (fun hHeld => ?_)⟩
              clear hK K
              refine norm_ (a' := ?_) ?_ ?_
              rotate_left
              · show Act.put _ (some 38) _ = _
                simp only [Act.put, List.setIfInBounds_toArray, List.set_cons_zero, List.set_cons_succ, i64_w, i32_w]
                rfl
              as_aux_lemma =>
                refine one_ (i := 8) (N := some 39) #[true, true, true, true, true, true, true, true, true, false, false, false, false, false, false, false, false, false, false, false, false, false, false, false] rfl rfl (one_of HT_.out (by kernel_rfl)) (by decide) (fun K hK => ?_)
                refine goes_ Tryz.func30 (by kernel_rfl) rfl #[.slice X1 L.length d1, .slice X2 L.length d2] (by rfl) rfl rfl (by (try simp only [List.map_toArray, List.map_cons, List.map_nil]); first | done | rfl) ?_
                refine (ints_is _ X1 d1 X2 d2 L HX1.out.1 HX1.out.2 HX2.out.1 HX2.out.2).mono ?_
                rintro e wk ⟨rfl, hb⟩
                clear HX1 HX2
                have HQ := Aside0.mk (PBR.below HRm.out HPd.out hb)
                clear HPd hb
                have HPd := HQ
                clear HQ
                refine ⟨_, rfl, hK.out _ _ (pallv HPd.out) (fun hHeld => ?_)⟩
                clear hK K
                refine norm_ (a' := ?_) ?_ ?_
                rotate_left
                · show Act.put _ (some 39) _ = _
                  simp only [Act.put, List.setIfInBounds_toArray, List.set_cons_zero, List.set_cons_succ, i64_w, i32_w]
                  rfl
                refine pure_ (i := 9) (N := some 40) (v := ?_) (a' := ?_) #[true, true, true, true, true, true, true, true, true, true, false, false, false, false, false, false, false, false, false, false, false, false, false, false] rfl rfl (any_of HT_.out (by kernel_rfl)) (fun _ _ _ h => h) (Or.inl ⟨by rfl, ?_⟩) ?_ ?_
                rotate_left
                · intro w'
                  go_simp
                  with_reducible rfl
                rotate_left
                · simp only [Act.put, List.setIfInBounds_toArray, List.set_cons_zero, List.set_cons_succ, i64_w, i32_w]
                  rfl
                refine take_ (i := 10) (N := some 41) (v := ?_) (a' := ?_) #[true, true, true, true, true, true, true, true, true, true, true, false, false, false, false, false, false, false, false, false, false, false, false, false] rfl rfl (take_ofW HT_.out HW_.out (by kernel_rfl)) (fun _ _ _ h => h) (Or.inl ⟨by rfl, ?_⟩) hHeld ?_ ?_
                rotate_left
                · intro w' s0
                  (obtain ⟨s0, s1, s2, s3, s4, s5, s6, s7, s8, s9, s10, s11, s12, s13, s14⟩ := s0)
                  go_simp
                  with_reducible rfl
                rotate_left
                · simp only [Act.put, List.setIfInBounds_toArray, List.set_cons_zero, List.set_cons_succ, i64_w, i32_w]
                  rfl
                refine pure_ (i := 11) (N := some 42) (v := ?_) (a' := ?_) #[true, true, true, true, true, true, true, true, true, true, true, true, false, false, false, false, false, false, false, false, false, false, false, false] rfl rfl (any_of HT_.out (by kernel_rfl)) (fun _ _ _ h => h) (Or.inl ⟨by rfl, ?_⟩) ?_ ?_
                rotate_left
                · intro w'
                  go_simp
                  with_reducible rfl
                rotate_left
                · simp only [Act.put, List.setIfInBounds_toArray, List.set_cons_zero, List.set_cons_succ, i64_w, i32_w]
                  rfl
                refine pure_ (i := 12) (N := some 43) (v := ?_) (a' := ?_) #[true, true, true, true, true, true, true, true, true, true, true, true, true, false, false, false, false, false, false, false, false, false, false, false] rfl rfl (any_of HT_.out (by kernel_rfl)) (fun _ _ _ h => h) (Or.inl ⟨by rfl, ?_⟩) ?_ ?_
                rotate_left
                · intro w'
                  go_simp
                  with_reducible rfl
                rotate_left
                · simp only [Act.put, List.setIfInBounds_toArray, List.set_cons_zero, List.set_cons_succ, i64_w, i32_w]
                  rfl
                refine take_ (i := 14) (N := some 45) (v := ?_) (a' := ?_) #[true, true, true, true, true, true, true, true, true, true, true, true, true, false, true, false, false, false, false, false, false, false, false, false] rfl rfl (take_ofW HT_.out HW_.out (by kernel_rfl)) (fun _ _ _ h => h) (Or.inl ⟨by rfl, ?_⟩) hHeld ?_ ?_
                rotate_left
                · intro w' s0
                  (obtain ⟨s0, s1, s2, s3, s4, s5, s6, s7, s8, s9, s10, s11, s12, s13, s14⟩ := s0)
                  go_simp
                  with_reducible rfl
                rotate_left
                · simp only [Act.put, List.setIfInBounds_toArray, List.set_cons_zero, List.set_cons_succ, i64_w, i32_w]
                  rfl
                refine pure_ (i := 15) (N := some 46) (v := ?_) (a' := ?_) #[true, true, true, true, true, true, true, true, true, true, true, true, true, false, true, true, false, false, false, false, false, false, false, false] rfl rfl (any_of HT_.out (by kernel_rfl)) (fun _ _ _ h => h) (Or.inl ⟨by rfl, ?_⟩) ?_ ?_
                rotate_left
                · intro w'
                  go_simp
                  with_reducible rfl
                rotate_left
                · simp only [Act.put, List.setIfInBounds_toArray, List.set_cons_zero, List.set_cons_succ, i64_w, i32_w]
                  rfl
                refine pure_ (i := 16) (N := some 47) (v := ?_) (a' := ?_) #[true, true, true, true, true, true, true, true, true, true, true, true, true, false, true, true, true, false, false, false, false, false, false, false] rfl rfl (any_of HT_.out (by kernel_rfl)) (fun _ _ _ h => h) (Or.inl ⟨by rfl, ?_⟩) ?_ ?_
                rotate_left
                · intro w'
                  go_simp
                  with_reducible rfl
                rotate_left
                · simp only [Act.put, List.setIfInBounds_toArray, List.set_cons_zero, List.set_cons_succ, i64_w, i32_w]
                  rfl
                as_aux_lemma =>
                  refine one_ (i := 13) (N := some 44) #[true, true, true, true, true, true, true, true, true, true, true, true, true, true, true, true, true, false, false, false, false, false, false, false] rfl rfl (one_of HT_.out (by kernel_rfl)) (by decide) (fun K hK => ?_)
                  refine goes_ Tryz.func31 (by kernel_rfl) rfl #[.agg #[v0, v1, v2, v3, v4, v5, v6, v7, v8, v9, v10, v11, v12, v13, v14], .int .i64 y, .int .i64 x] (by rfl) rfl rfl (by (try simp only [List.map_toArray, List.map_cons, List.map_nil]); first | done | rfl) ?_
                  refine (HS2.out _ HPd.out.arg).mono ?_
                  rintro e wk ⟨⟨X3, d3, rfl, hd, hC⟩, hb⟩
                  have HX3 := Aside0.mk (And.intro hC hd)
                  clear hC hd
                  have HQ := Aside0.mk (PBR.below HRm.out HPd.out hb)
                  clear HPd hb
                  have HPd := HQ
                  clear HQ
                  refine ⟨_, rfl, hK.out _ _ (pallv HPd.out) (fun hHeld => ?_)⟩
                  clear hK K
                  refine norm_ (a' := ?_) ?_ ?_
                  rotate_left
                  · show Act.put _ (some 44) _ = _
                    simp only [Act.put, List.setIfInBounds_toArray, List.set_cons_zero, List.set_cons_succ, i64_w, i32_w]
                    rfl
                  as_aux_lemma =>
                    refine one_ (i := 17) (N := some 48) #[true, true, true, true, true, true, true, true, true, true, true, true, true, true, true, true, true, true, false, false, false, false, false, false] rfl rfl (one_of HT_.out (by kernel_rfl)) (by decide) (fun K hK => ?_)
                    refine goes_ Tryz.func32 (by kernel_rfl) rfl #[.agg #[v0, v1, v2, v3, v4, v5, v6, v7, v8, v9, v10, v11, v12, v13, v14], .int .i64 x, .int .i64 y] (by rfl) rfl rfl (by (try simp only [List.map_toArray, List.map_cons, List.map_nil]); first | done | rfl) ?_
                    refine (HT.out _ HPd.out.arg).mono ?_
                    rintro e wk ⟨⟨X4, d4, rfl, hd, hC⟩, hb⟩
                    have HX4 := Aside0.mk (And.intro hC hd)
                    have nX3 := Aside0.mk (And.intro (Kd.C_below HX3.out.1 hb) HX3.out.2)
                    clear hC hd
                    clear HX3
                    have HX3 := nX3
                    have HQ := Aside0.mk (PBR.below HRm.out HPd.out hb)
                    clear HPd hb
                    have HPd := HQ
                    clear HQ
                    refine ⟨_, rfl, hK.out _ _ (pallv HPd.out) (fun hHeld => ?_)⟩
                    clear hK K
                    refine norm_ (a' := ?_) ?_ ?_
                    rotate_left
                    · show Act.put _ (some 48) _ = _
                      simp only [Act.put, List.setIfInBounds_toArray, List.set_cons_zero, List.set_cons_succ, i64_w, i32_w]
                      rfl
                    as_aux_lemma =>
                      refine one_ (i := 18) (N := some 49) #[true, true, true, true, true, true, true, true, true, true, true, true, true, true, true, true, true, true, true, false, false, false, false, false] rfl rfl (one_of HT_.out (by kernel_rfl)) (by decide) (fun K hK => ?_)
                      refine goes_ Tryz.func30 (by kernel_rfl) rfl #[.slice X3 L.length d3, .slice X4 L.length d4] (by rfl) rfl rfl (by (try simp only [List.map_toArray, List.map_cons, List.map_nil]); first | done | rfl) ?_
                      refine (ints_is _ X3 d3 X4 d4 L HX3.out.1 HX3.out.2 HX4.out.1 HX4.out.2).mono ?_
                      rintro e wk ⟨rfl, hb⟩
                      clear HX3 HX4
                      have HQ := Aside0.mk (PBR.below HRm.out HPd.out hb)
                      clear HPd hb
                      have HPd := HQ
                      clear HQ
                      refine ⟨_, rfl, hK.out _ _ (pallv HPd.out) (fun hHeld => ?_)⟩
                      clear hK K
                      refine norm_ (a' := ?_) ?_ ?_
                      rotate_left
                      · show Act.put _ (some 49) _ = _
                        simp only [Act.put, List.setIfInBounds_toArray, List.set_cons_zero, List.set_cons_succ, i64_w, i32_w]
                        rfl
                      refine pure_ (i := 19) (N := some 50) (v := ?_) (a' := ?_) #[true, true, true, true, true, true, true, true, true, true, true, true, true, true, true, true, true, true, true, true, false, false, false, false] rfl rfl (any_of HT_.out (by kernel_rfl)) (fun _ _ _ h => h) (Or.inl ⟨by rfl, ?_⟩) ?_ ?_
                      rotate_left
                      · intro w'
                        go_simp
                        with_reducible rfl
                      rotate_left
                      · simp only [Act.put, List.setIfInBounds_toArray, List.set_cons_zero, List.set_cons_succ, i64_w, i32_w]
                        rfl
                      refine pure_ (i := 20) (N := some 51) (v := ?_) (a' := ?_) #[true, true, true, true, true, true, true, true, true, true, true, true, true, true, true, true, true, true, true, true, true, false, false, false] rfl rfl (any_of HT_.out (by kernel_rfl)) (fun _ _ _ h => h) (Or.inl ⟨by rfl, ?_⟩) ?_ ?_
                      rotate_left
                      · intro w'
                        go_simp
                        with_reducible rfl
                      rotate_left
                      · simp only [Act.put, List.setIfInBounds_toArray, List.set_cons_zero, List.set_cons_succ, i64_w, i32_w]
                        rfl
                      as_aux_lemma =>
                        refine one_ (i := 21) (N := some 52) #[true, true, true, true, true, true, true, true, true, true, true, true, true, true, true, true, true, true, true, true, true, true, false, false] rfl rfl (one_of HT_.out (by kernel_rfl)) (by decide) (fun K hK => ?_)
                        refine goes_ Tryz.func9 (by kernel_rfl) rfl #[] (by rfl) rfl rfl (by (try simp only [List.map_toArray, List.map_cons, List.map_nil]); first | done | rfl) ?_
                        refine (heads_is _).mono ?_
                        rintro e wk ⟨rfl, hb⟩
                        have HQ := Aside0.mk (PBR.below HRm.out HPd.out hb)
                        clear HPd hb
                        have HPd := HQ
                        clear HQ
                        refine ⟨_, rfl, hK.out _ _ (pallv HPd.out) (fun hHeld => ?_)⟩
                        clear hK K
                        refine norm_ (a' := ?_) ?_ ?_
                        rotate_left
                        · show Act.put _ (some 52) _ = _
                          simp only [Act.put, List.setIfInBounds_toArray, List.set_cons_zero, List.set_cons_succ, i64_w, i32_w]
                          rfl
                        refine pure_ (i := 22) (N := some 53) (v := ?_) (a' := ?_) #[true, true, true, true, true, true, true, true, true, true, true, true, true, true, true, true, true, true, true, true, true, true, true, false] rfl rfl (any_of HT_.out (by kernel_rfl)) (fun _ _ _ h => h) (Or.inl ⟨by rfl, ?_⟩) ?_ ?_
                        rotate_left
                        · intro w'
                          go_simp
                          with_reducible rfl
                        rotate_left
                        · simp only [Act.put, List.setIfInBounds_toArray, List.set_cons_zero, List.set_cons_succ, i64_w, i32_w]
                          rfl
                        refine pure_ (i := 23) (N := some 6) (v := ?_) (a' := ?_) #[true, true, true, true, true, true, true, true, true, true, true, true, true, true, true, true, true, true, true, true, true, true, true, true] rfl rfl (any_of HT_.out (by kernel_rfl)) (fun _ _ _ h => h) (Or.inl ⟨by rfl, ?_⟩) ?_ ?_
                        rotate_left
                        · intro w'
                          go_simp
                          with_reducible rfl
                        rotate_left
                        · simp only [Act.put, List.setIfInBounds_toArray, List.set_cons_zero, List.set_cons_succ, i64_w, i32_w]
                          rfl
                        refine done_ (done_of HT_.out (by kernel_rfl)) ?_
                        go_wp2
                        go_ret
                        exact ⟨rfl, HPd.out.box.bel⟩
end Go.Proofs.YtineikfhfmiidaaGreat.Pm
