/- The chapter's example, walked. -/
import Derived.Test.YtfkmngmnnlgjdaaGrHeads
namespace Go.Proofs.Ytfkmngmnnlgjdaa.Gr
open Go Go.RowKit Go.Proofs.Ytfkmngmnnlgjdaa.Gf Go.Proofs.Ytfkmngmnnlgjdaa.Pu Go.Proofs.Ytfkmngmnnlgjdaa.Pr Go.Proofs.Ytfkmngmnnlgjdaa.Mw Go.Proofs.YtfkmngmnnlgjdaaW.PrintWords Go.Proofs.YtfkmngmnnlgjdaaW.PrintLast Go.Proofs.YtfkmngmnnlgjdaaW.PrintMore
set_option linter.unusedVariables false
set_option linter.unusedSimpArgs false
theorem lit_R (W : World) (l : List Int) (hl : l.length ≤ 1000) : (Kd.int .i64).R 3 (W.alloc (.cells (l.map (Value.int .i64)).toArray 3)) 0 (fun _ => True) (.slice (some ⟨W.heap.size, 0, none⟩) l.length l.length) l := by
  refine Kd.R_of_own ?_ (fun _ _ => trivial)
  have h2 := World.ownsRow_lit (base := 0) (e := 3) (size := 1) W (l.map (Value.int .i64)).toArray l.length (Nat.zero_le _) (by simp only [maxLen]; omega) (by simp)
  simpa [encs] using h2
theorem lit_rows (W : World) : Kd.R (Kd.slice 3 (Kd.int .i64)) 38 (((W.alloc (.cells #[.int .i64 0, .int .i64 1, .int .i64 2] 3)).alloc (.cells #[.int .i64 3] 3)).alloc (.cells #[.slice (some ⟨W.heap.size, 0, none⟩) 3 3, .slice (some ⟨W.heap.size + 1, 0, none⟩) 1 1] 38)) 0 (fun _ => True) (.slice (some ⟨W.heap.size + 1 + 1, 0, none⟩) 2 2) [[0, 1, 2], [3]] := by
  have h1 : (Kd.int .i64).R 3 (W.alloc (.cells #[.int .i64 0, .int .i64 1, .int .i64 2] 3)) 0 (fun _ => True) (.slice (some ⟨W.heap.size, 0, none⟩) 3 3) [0, 1, 2] := lit_R W [0, 1, 2] (by simp)
  generalize hW1 : W.alloc (.cells #[.int .i64 0, .int .i64 1, .int .i64 2] 3) = W1 at h1 ⊢
  have hs1 : W1.heap.size = W.heap.size + 1 := by rw [← hW1]; exact World.size_alloc _ _
  have h2 : (Kd.int .i64).R 3 (W1.alloc (.cells #[.int .i64 3] 3)) 0 (fun _ => True) (.slice (some ⟨W.heap.size + 1, 0, none⟩) 1 1) [3] := by
    have := lit_R W1 [3] (by simp)
    rw [hs1] at this
    exact this
  have h1' := Kd.R_alloc h1 (.cells #[.int .i64 3] 3)
  generalize hW2 : W1.alloc (.cells #[.int .i64 3] 3) = W2 at h1' h2 ⊢
  have hs2 : W2.heap.size = W.heap.size + 1 + 1 := by rw [← hW2, World.size_alloc, hs1]
  have hown := World.ownsRow_lit (base := 0) (e := 38) (size := 1) W2 #[.slice (some ⟨W.heap.size, 0, none⟩) 3 3, .slice (some ⟨W.heap.size + 1, 0, none⟩) 1 1] 2 (Nat.zero_le _) (by simp only [maxLen]; omega) (by simp)
  rw [hs2] at hown
  refine ⟨fun _ _ => trivial, _, hown, ?_⟩
  refine Reps.one (p := [0, 1, 2]) ⟨_, rfl, ?_⟩ (Reps.one (p := [3]) ⟨_, rfl, ?_⟩ (Reps.none _ _))
  · exact Kd.R_mono (Kd.R_alloc (Kd.R_tight rfl h1') _) (fun k hk => ⟨trivial, fun e => by rw [e] at hk; simp [Value.ownBlock] at hk <;> omega⟩)
  · exact Kd.R_mono (Kd.R_alloc (Kd.R_tight rfl h2) _) (fun k hk => ⟨trivial, fun e => by rw [e] at hk; simp [Value.ownBlock] at hk <;> omega⟩)
set_option maxRecDepth 100000 in
set_option maxHeartbeats 1000000 in
theorem heads_is (w : World) : Calls Try.prog 10 #[] w fun e w' => e = .returned (.bool true) ∧ Below w.heap.size w w' := by
  go_enter Try.func10, Try.ntmps10
  go_wp2_with (first
    | (go_at_call 9; refine (NewH w).mono ?_; rintro e w1 ⟨g, v, rfl, hG, hgb, hvb, hB⟩; have HG := Aside0.mk hG; have HV := Aside0.mk hvb; have HB := Aside0.mk hB; clear hG hvb hB)
    | (go_at_call 14; (with_reducible first | refine (JoinH0 _ g v HG.out).mono ?_ | refine (JoinH1 _ g v HG.out).mono ?_ | refine (JoinH2 _ g v HG.out).mono ?_); rintro e w2 ⟨rfl, hG, hg⟩; have HB2 := Aside0.mk (HB.out.grown hg HB.out.size HV.out); clear HG HB; have HG := Aside0.mk hG; clear hG hg; have HB := HB2; clear HB2)
    | (go_at_call 22; refine (PartsH _ g v HG.out).mono ?_; rintro e w5 ⟨vp, rfl, hR, hB⟩; have HRp := Aside0.mk hR; clear hR; have HB2 := Aside0.mk (below_then HB.out HB.out.size hB); have HG2 := Aside0.mk (HG.out.below hB); clear HG HB; have HG := HG2; have HB := HB2; clear HG2 HB2; clear hB)
    | (go_at_call 24; refine (Rows_is _ _ _ [[0, 1, 2], [3]] [[0, 1, 2], [3]] (Kd.R_alloc (Kd.R_alloc (Kd.R_alloc HRp.out _) _) _) (lit_rows _) (by decide) (by rintro (_ | _ | j) <;> simp)).mono ?_; rintro e w6 ⟨rfl, hB⟩; rw [decide_eq_true (show [[0, 1, 2], [3]] = [[0, 1, 2], [(3 : Int)]] from rfl)]; have hB3 := below_then (below_alloc (below_alloc (below_alloc (Below.refl _ _) _) _) _) (below_size (below_alloc (below_alloc (below_alloc (Below.refl _ _) _) _) _)) hB; clear hB; have hB := hB3; clear hB3; have HB2 := Aside0.mk (below_then HB.out HB.out.size hB); have HG2 := Aside0.mk (HG.out.below hB); clear HG HB; have HG := HG2; have HB := HB2; clear HG2 HB2; clear hB HRp)
    | (go_at_call 26; refine (ShellH _ g v HG.out).mono ?_; rintro e w7 ⟨vs, rfl, hR, hB⟩; have HRs := Aside0.mk hR; clear hR; have HB2 := Aside0.mk (below_then HB.out HB.out.size hB); have HG2 := Aside0.mk (HG.out.below hB); clear HG HB; have HG := HG2; have HB := HB2; clear HG2 HB2; clear hB)
    | (go_at_call 18; refine (Ints_is _ _ _ [3, 0, 1, 2] [3, 0, 1, 2] (Kd.R_alloc HRs.out _) (lit_R _ [3, 0, 1, 2] (by simp))).mono ?_; rintro e w8 ⟨rfl, hB⟩; rw [decide_eq_true (show [3, 0, 1, 2] = [3, 0, 1, (2 : Int)] from rfl)]; have hB3 := below_then (below_alloc (Below.refl _ _) _) (below_size (below_alloc (Below.refl _ _) _)) hB; clear hB; have hB := hB3; clear hB3; have HB2 := Aside0.mk (below_then HB.out HB.out.size hB); have HG2 := Aside0.mk (HG.out.below hB); clear HG HB; have HG := HG2; have HB := HB2; clear HG2 HB2; clear hB HRs)
    | (go_at_call 16; (with_reducible first | refine (HasH1 _ g v HG.out).mono ?_ | refine (HasH2 _ g v HG.out).mono ?_); rintro e w9 ⟨rfl, hB⟩; have HB2 := Aside0.mk (below_then HB.out HB.out.size hB); have HG2 := Aside0.mk (HG.out.below hB); clear HG HB; have HG := HG2; have HB := HB2; clear HG2 HB2; clear hB)
    | (go_at_call 11; refine (LenH _ g v HG.out).mono ?_; rintro e w10 ⟨rfl, rfl⟩))
  go_ret
  exact ⟨rfl, HB.out⟩
end Go.Proofs.Ytfkmngmnnlgjdaa.Gr
