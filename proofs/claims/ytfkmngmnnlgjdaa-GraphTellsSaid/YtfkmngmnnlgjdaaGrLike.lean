/- like, walked: a graph and the document's with the same joins are alike. -/
import Derived.Test.YtfkmngmnnlgjdaaGrNobody
namespace Go.Proofs.Ytfkmngmnnlgjdaa.Gr
open Go Go.RowKit Go.Proofs.Ytfkmngmnnlgjdaa.Gf Go.Proofs.Ytfkmngmnnlgjdaa.Pu Go.Proofs.Ytfkmngmnnlgjdaa.Pr Go.Proofs.Ytfkmngmnnlgjdaa.Mw Go.Proofs.YtfkmngmnnlgjdaaW.PrintWords Go.Proofs.YtfkmngmnnlgjdaaW.PrintLast Go.Proofs.YtfkmngmnnlgjdaaW.PrintMore
set_option linter.unusedVariables false
set_option linter.unusedSimpArgs false
theorem GIs.drew {w : World} {g n : Nat} {v : Value} {adj : Adj} (h : GIs w g v n adj) : GIs w.drew g v n adj := h.below (below_drew (Below.refl _ _))
theorem RIs.drew {w : World} {n : Nat} {v : Value} {adj : Adj} (h : RIs w v n adj) : RIs w.drew v n adj := h.below (below_drew (Below.refl _ _))
theorem HasB (w : World) (g : Nat) (v : Value) (n : Nat) (adj : Adj) (a b : Nat) (h : GIs w g v n adj) (hb : b < n) :
    Calls Try.prog 16 #[.pointer (some ⟨g, 0, none⟩), .int .i64 a, .int .i64 b] w fun e w' => e = .returned (.bool (hasN n adj a b)) ∧ Below w.heap.size w w' := by
  have hn := h.le
  refine (Has_is w g v n adj a b h (by omega) (by omega)).mono ?_
  rintro e w' ⟨he, hD⟩
  exact ⟨he, hD.below⟩
set_option maxRecDepth 100000 in
set_option maxHeartbeats 1000000 in
theorem like_is (w : World) (g : Nat) (v u : Value) (n : Nat) (adj : Adj) (hg : GIs w g v n adj) (hr : RIs w u n adj) :
    Calls Try.prog 15 #[.pointer (some ⟨g, 0, none⟩), .agg #[.int .i64 n, u]] w fun e w' => e = .returned (.bool true) ∧ Below w.heap.size w w' := by
  have hu29 := Try.underlying29
  have hn4 := hg.le
  have HG := Aside0.mk hg
  have HR := Aside0.mk hr
  clear hg hr
  have hne : ((n : Int) != (n : Int)) = false := by simp
  go_enter Try.func15, Try.ntmps15
  go_wp2_with (first
    | ((with_reducible refine gate_dst (N := 3) rfl ?_); refine box_event ?hg (N := 3) ?hd (cs := #[.int .i64 n, u]) (t := 29) ?hr ?_; (case hd => rfl); (case hg => rfl); (case hr => first | (go_simp; done) | (go_simp; rfl)); intro gb hgb w1 hbox hB; have BK := Aside0.mk hbox; have HB := Aside0.mk hB; have HG1 := Aside0.mk (HG.out.below hB); have HR1 := Aside0.mk (HR.out.below hB); have HW := Aside0.mk (show w.heap.size ≤ gb by rw [hgb]; exact Nat.le_refl _); clear hbox hB hgb HG HR; have hcz0 : w1.cell? ⟨gb, 0, none⟩ = some (.int .i64 n) := (blk_cell BK.out 0).trans rfl; have hcz1 : w1.cell? ⟨gb, 1, none⟩ = some u := (blk_cell BK.out 1).trans rfl))
  go_region_held3 (fun w' => w'.cell? ⟨gb, 0, none⟩ = some (.int .i64 n) ∧ w'.cell? ⟨gb, 1, none⟩ = some u) (first | exact ⟨hcz0, hcz1⟩) (first | (go_at_call 11; refine (Len_is _ g v n adj HG1.out.drew).mono ?_; rintro e w' ⟨rfl, rfl⟩))
  have BK2 : Aside0 (w1.drew.heap[gb]? = some (Obj.cells #[.int .i64 n, u] 29 (0, 0))) := BK
  have HB2 := Aside0.mk (below_drew HB.out)
  have HG2 := Aside0.mk HG1.out.drew
  have HR2 := Aside0.mk HR1.out.drew
  clear BK HB HG1 HR1 hcz0 hcz1
  generalize w1.drew = w2 at BK2 HB2 HG2 HR2 ⊢
  have hcz0 : w2.cell? ⟨gb, 0, none⟩ = some (.int .i64 n) := (blk_cell BK2.out 0).trans rfl
  go_wp2
  go_loopw [5] (fun v5 wr => ∃ a : Nat, a ≤ n ∧ v5 = .int .i64 a ∧ Aside0 (wr.heap[gb]? = some (Obj.cells #[.int .i64 n, u] 29 (0, 0))) ∧ Aside0 (Below w.heap.size w wr) ∧ Aside0 (GIs wr g v n adj) ∧ Aside0 (RIs wr u n adj)) (fun v5 _ => n - (intOf v5).toNat)
  case atStart => exact ⟨0, Nat.zero_le _, rfl, BK2, HB2, HG2, HR2⟩
  case round =>
    clear BK2 HB2 HG2 HR2 hcz0
    obtain ⟨a, ha, rfl, BK, HB, HG, HR⟩ := hrel
    have hcz0 : wr.cell? ⟨gb, 0, none⟩ = some (.int .i64 n) := (blk_cell BK.out 0).trans rfl
    have hcz1 : wr.cell? ⟨gb, 1, none⟩ = some u := (blk_cell BK.out 1).trans rfl
    by_cases hlt : a < n
    · go_wp2
      have BKd : Aside0 (wr.drew.heap[gb]? = some (Obj.cells #[.int .i64 n, u] 29 (0, 0))) := BK
      have HGd := Aside0.mk HG.out.drew
      have HRd := Aside0.mk HR.out.drew
      have HBd := Aside0.mk (below_drew HB.out)
      clear BK HG HR HB
      have BK := BKd
      have HG := HGd
      have HR := HRd
      have HB := HBd
      clear BKd HGd HRd HBd
      go_region_held3 (fun w' => w'.cell? ⟨gb, 0, none⟩ = some (.int .i64 n) ∧ w'.cell? ⟨gb, 1, none⟩ = some u) (first | exact ⟨hcz0, hcz1⟩) (first
        | (go_at_call 19; refine (Near_is _ g v n adj a HG.out).mono ?_; rintro e w3 ⟨v20, rfl, hR, hB⟩; have BK3 := Aside0.mk (blk_below BK.out hB); have HB3 := Aside0.mk (below_then HB.out HB.out.size hB); have HG3 := Aside0.mk (HG.out.below hB); have HR3 := Aside0.mk (HR.out.below hB); have HN3 := Aside0.mk hR; clear BK HB HG HR hcz0 hcz1; have BK := BK3; have HB := HB3; have HG := HG3; have HR := HR3; clear BK3 HB3 HG3 HR3 hB; have hcz0 : w3.cell? ⟨gb, 0, none⟩ = some (.int .i64 n) := (blk_cell BK.out 0).trans rfl; have hcz1 : w3.cell? ⟨gb, 1, none⟩ = some u := (blk_cell BK.out 1).trans rfl; clear hR)
        | (go_at_call 20; refine (RNear_is _ u n adj a HR.out).mono ?_; rintro e w4 ⟨v23, rfl, hR, hB⟩; have BK4 := Aside0.mk (blk_below BK.out hB); have HB4 := Aside0.mk (below_then HB.out HB.out.size hB); have HG4 := Aside0.mk (HG.out.below hB); have HR4 := Aside0.mk (HR.out.below hB); have HN4 := Aside0.mk hR; have HN5 := Aside0.mk (Kd.R_below HN3.out hB); clear HN3; clear BK HB HG HR hcz0 hcz1; have BK := BK4; have HB := HB4; have HG := HG4; have HR := HR4; clear BK4 HB4 HG4 HR4 hB; have hcz0 : w4.cell? ⟨gb, 0, none⟩ = some (.int .i64 n) := (blk_cell BK.out 0).trans rfl; have hcz1 : w4.cell? ⟨gb, 1, none⟩ = some u := (blk_cell BK.out 1).trans rfl; clear hR)
        | (go_at_call 18; refine (Ints_is _ _ _ (nearI n adj a) (nearI n adj a) HN5.out HN4.out).mono ?_; rintro e w5 ⟨rfl, hB⟩; rw [decide_eq_true (show nearI n adj a = nearI n adj a from rfl)]; have BK5 := Aside0.mk (blk_below BK.out hB); have HB5 := Aside0.mk (below_then HB.out HB.out.size hB); have HG5 := Aside0.mk (HG.out.below hB); have HR5 := Aside0.mk (HR.out.below hB); clear HN4 HN5; clear BK HB HG HR hcz0 hcz1; have BK := BK5; have HB := HB5; have HG := HG5; have HR := HR5; clear BK5 HB5 HG5 HR5 hB; have hcz0 : w5.cell? ⟨gb, 0, none⟩ = some (.int .i64 n) := (blk_cell BK.out 0).trans rfl; have hcz1 : w5.cell? ⟨gb, 1, none⟩ = some u := (blk_cell BK.out 1).trans rfl))
      go_wp2
      go_loopw [6] (fun v6 wr => ∃ b : Nat, b ≤ n ∧ v6 = .int .i64 b ∧ Aside0 (wr.heap[gb]? = some (Obj.cells #[.int .i64 n, u] 29 (0, 0))) ∧ Aside0 (Below w.heap.size w wr) ∧ Aside0 (GIs wr g v n adj) ∧ Aside0 (RIs wr u n adj)) (fun v6 _ => n - (intOf v6).toNat)
      case atStart => exact ⟨0, Nat.zero_le _, rfl, BK, HB, HG, HR⟩
      case round =>
        clear BK HB HG HR hcz0 hcz1
        obtain ⟨b, hb, rfl, BK, HB, HG, HR⟩ := hrel
        have hcz0 : wr.cell? ⟨gb, 0, none⟩ = some (.int .i64 n) := (blk_cell BK.out 0).trans rfl
        have hcz1 : wr.cell? ⟨gb, 1, none⟩ = some u := (blk_cell BK.out 1).trans rfl
        by_cases hltb : b < n
        · go_wp2
          have BKd : Aside0 (wr.drew.heap[gb]? = some (Obj.cells #[.int .i64 n, u] 29 (0, 0))) := BK
          have HGd := Aside0.mk HG.out.drew
          have HRd := Aside0.mk HR.out.drew
          have HBd := Aside0.mk (below_drew HB.out)
          clear BK HG HR HB
          have BK := BKd
          have HG := HGd
          have HR := HRd
          have HB := HBd
          clear BKd HGd HRd HBd
          have hnb : (hasN n adj a b != hasN n adj a b) = false := by simp
          go_region_held3 (fun w' => w'.cell? ⟨gb, 0, none⟩ = some (.int .i64 n) ∧ w'.cell? ⟨gb, 1, none⟩ = some u) (first | exact ⟨hcz0, hcz1⟩) (first
            | (go_at_call 16; refine (HasB _ g v n adj a b HG.out hltb).mono ?_; rintro e w3 ⟨rfl, hB⟩; have BK3 := Aside0.mk (blk_below BK.out hB); have HB3 := Aside0.mk (below_then HB.out HB.out.size hB); have HG3 := Aside0.mk (HG.out.below hB); have HR3 := Aside0.mk (HR.out.below hB); clear BK HB HG HR hcz0 hcz1; have BK := BK3; have HB := HB3; have HG := HG3; have HR := HR3; clear BK3 HB3 HG3 HR3 hB; have hcz0 : w3.cell? ⟨gb, 0, none⟩ = some (.int .i64 n) := (blk_cell BK.out 0).trans rfl; have hcz1 : w3.cell? ⟨gb, 1, none⟩ = some u := (blk_cell BK.out 1).trans rfl)
            | (go_at_call 17; refine (RHas_is _ u n adj a b HR.out).mono ?_; rintro e w4 ⟨rfl, hB⟩; have BK4 := Aside0.mk (blk_below BK.out hB); have HB4 := Aside0.mk (below_then HB.out HB.out.size hB); have HG4 := Aside0.mk (HG.out.below hB); have HR4 := Aside0.mk (HR.out.below hB); clear BK HB HG HR hcz0 hcz1; have BK := BK4; have HB := HB4; have HG := HG4; have HR := HR4; clear BK4 HB4 HG4 HR4 hB; have hcz0 : w4.cell? ⟨gb, 0, none⟩ = some (.int .i64 n) := (blk_cell BK.out 0).trans rfl; have hcz1 : w4.cell? ⟨gb, 1, none⟩ = some u := (blk_cell BK.out 1).trans rfl))
          go_wp2
          exact ⟨⟨b + 1, by omega, by go_num, BK, HB, HG, HR⟩, by simp [intOf]; omega⟩
        · obtain rfl : b = n := by omega
          go_wp2
          exact ⟨⟨a + 1, by omega, by go_num, BK, HB, HG, HR⟩, by simp [intOf]; omega⟩
    · obtain rfl : a = n := by omega
      go_wp2
      go_ret
      exact ⟨rfl, HB.out⟩
end Go.Proofs.Ytfkmngmnnlgjdaa.Gr
