/- What the law rests on, part 5: words over the model, contracts of functions, plain facts. -/
import Derived.Test.YtineikfhfmiidaaGreatQC4
namespace Go.Proofs.YtineikfhfmiidaaGreat.Gp
open Go.RowKit Go.Proofs.YtineikfhfmiidaaGreatW.PrintWords Go.Proofs.YtineikfhfmiidaaGreatW.PrintLast Go.Proofs.YtineikfhfmiidaaGreatW.PrintMore
set_option linter.unusedVariables false
set_option linter.unusedSimpArgs false
def horariumref11_Whens.l0 : Nat → List (S50) → Int → Int → Int → Int → Int → Option (Bool)
  | 0, _, _, _, _, _, _ => none
  | k + 1, x1, x2, x7, x364000, x364001, x364002 => if x7 < (x1.length : Int) then (if 0 ≤ x7 then ((horariumref09_Right.f k x364000 x364001 x364002 ((rd_T50 x1 x7).f0) ((rd_T50 x1 x7).f1) ((rd_T50 x1 x7).f2) ((rd_T50 x1 x7).f3)).bind fun t365 => (if t365 = true then (horariumref11_Whens.l0 k x1 x2 (wrap64 (x7 + 1)) x364000 x364001 x364002) else (some false))) else (none)) else (some (decide ((x1.length : Int) ≤ x2)))
def horariumref11_Whens.f (k : Nat) (a0_0 : Int) (a0_1 : Int) (a0_2 : Int) (l1 : List (S50)) (a2 : Int) : Option (Bool) := horariumref11_Whens.l0 k l1 a2 0 a0_0 a0_1 a0_2
set_option maxHeartbeats 8000000 in
set_option maxRecDepth 100000 in
theorem horariumref11_Whens.calls (k : Nat) (a0_0 : Int) (a0_1 : Int) (a0_2 : Int) (A1 : Option Addr) (c1 : Nat) (l1 : List (S50)) (a2 : Int) (r : Bool) (w : World) (hr1 : Kd.C k50 w A1 l1.length l1) (hc1 : l1.length ≤ c1) (h : horariumref11_Whens.f k a0_0 a0_1 a0_2 l1 a2 = some r) :
    Calls Tryz.prog 163 #[.agg #[.int .i64 a0_0, .int .i64 a0_1, .int .i64 a0_2], .slice A1 l1.length c1, .int .i64 a2] w fun e w' => e = .returned (.bool r) ∧ Below w.heap.size w w' := by
  have hu23 := Tryz.underlying23
  have hu50 := Tryz.underlying50
  have HR1 := Aside0.mk hr1
  have HC1 := Aside0.mk hc1
  clear hr1 hc1
  have HB := Aside0.mk (Below.refl w.heap.size w)
  have H : (horariumref11_Whens.l0 k l1 a2 0 a0_0 a0_1 a0_2) = some r := h
  clear h
  have H' := Aside0.mk H
  clear H
  go_enter Tryz.func163, Tryz.ntmps163
  go_wp2_with (first | ((with_reducible refine gate_dst (N := 3) rfl ?_); refine box_event ?hg (N := 3) ?hd (cs := #[.int .i64 a0_0, .int .i64 a0_1, .int .i64 a0_2]) (t := 23) ?hr ?_; (case hd => rfl); (case hg => rfl); (case hr => first | (go_simp; done) | (go_simp; rfl)); intro gb363 hg w4 hbox hb; have n0_ := Aside0.mk (below_step (by repeat (first | (with_reducible first | exact HB.out | apply below_alloc | apply pw_below_drewN | apply below_drew1) | exact HB.out)) hb); have n1_ := Aside0.mk (hbox); have n2_ := Aside0.mk ((by rw [hg]; exact (below_size (by repeat (first | (with_reducible first | exact HB.out | apply below_alloc | apply pw_below_drewN | apply below_drew1) | exact HB.out))) : w.heap.size ≤ gb363)); have n3_ := Aside0.mk ((by rw [hg]; exact (below_size (by repeat (first | (with_reducible first | exact HB.out | apply below_alloc | apply pw_below_drewN | apply below_drew1) | exact HB.out))) : w.heap.size ≤ gb363)); clear HB; have HB := n0_; have BK363 := n1_; have GW363 := n2_; have GE363 := n3_; clear n0_ n1_ n2_ n3_; clear hb hbox hg))
  go_loopg [7] k (fun kq v7 w' => ∃ (x7_1 : Int), v7 = .int .i64 x7_1 ∧ Aside0 (horariumref11_Whens.l0 kq l1 a2 x7_1 a0_0 a0_1 a0_2 = some r) ∧ Aside0 (kq ≤ k) ∧ Aside0 (w'.heap[gb363]? = some (.cells #[.int .i64 a0_0, .int .i64 a0_1, .int .i64 a0_2] 23 (0, 0))) ∧ Aside0 (Below w.heap.size w w'))
  case atStart => exact ⟨(0), (by first | rfl | (simp; done) | (simp [*]; done)), H', ⟨Nat.le_refl _⟩, ⟨by (with_reducible repeat (first | refine blk_drewN ?_ _ | refine blk_drew ?_ | refine blk_alloc ?_ _)); exact BK363.out⟩, ⟨by repeat (first | (with_reducible first | exact HB.out | apply below_alloc | apply pw_below_drewN | apply below_drew1 | refine below_set ?_ GE363.out) | exact HB.out)⟩⟩
  case round =>
    clear H'
    try clear c1
    try clear p2
    obtain ⟨x7_1, rfl, HA, HK1, BK363, HB⟩ := hrel
    cases gk with
    | zero => exact absurd HA.out (by simp [horariumref11_Whens.l0])
    | succ k1 =>
      have H := HA.out
      clear HA
      simp only [horariumref11_Whens.l0] at H
      by_cases c5 : x7_1 < (l1.length : Int)
      · rw [if_pos c5] at H
        have c5b0 : decide (x7_1 < (l1.length : Int)) = true := decide_eq_true c5
        clear c5
        by_cases c6 : 0 ≤ x7_1
        · rw [if_pos c6] at H
          have c6b0 : decide (0 ≤ x7_1) = true := decide_eq_true c6
          clear c6
          replace H := Option.bind_eq_some_iff.mp H
          obtain ⟨t365, A70, H⟩ := H
          replace H : (if t365 = true then (horariumref11_Whens.l0 k1 l1 a2 (wrap64 (x7_1 + 1)) a0_0 a0_1 a0_2) else (some false)) = some r := H
          have A7 := Aside0.mk A70
          clear A70
          by_cases c8 : t365 = true
          · subst c8
            have H1 : (horariumref11_Whens.l0 k1 l1 a2 (wrap64 (x7_1 + 1)) a0_0 a0_1 a0_2) = some r := by rw [if_pos rfl] at H; exact H
            clear H
            have H := H1
            clear H1
            have H' := Aside0.mk H
            clear H
            try go_wp2
            have n0_ := Aside0.mk (blk_drew BK363.out)
            have n1_ := Aside0.mk (below_drew1 HB.out)
            clear BK363
            clear HB
            have BK363 := n0_
            have HB := n1_
            clear n0_ n1_
            have p364 : 0 ≤ (x7_1 : Int) := of_decide_eq_true (by first | (with_reducible assumption) | assumption)
            have q364 : x7_1 < (l1.length : Int) := of_decide_eq_true (by first | (with_reducible assumption) | assumption)
            obtain ⟨ad364, e364, hx364_0, hx364_1, hx364_2, hx364_3⟩ := at_T50 HR1.out x7_1 p364 q364
            have hw364_3 := hx364_3
            have hw364_2 := hx364_2
            have hw364_1 := hx364_1
            have hw364_0 := hx364_0
            cases e364
            replace hx364_0 := (HB.out.cell (World.block_lt_of_cell? w _ hx364_0)).trans hx364_0
            replace hx364_1 := (HB.out.cell (World.block_lt_of_cell? w _ hx364_1)).trans hx364_1
            replace hx364_2 := (HB.out.cell (World.block_lt_of_cell? w _ hx364_2)).trans hx364_2
            replace hx364_3 := (HB.out.cell (World.block_lt_of_cell? w _ hx364_3)).trans hx364_3
            replace p364 := eq_true p364
            replace q364 := eq_true q364
            refine start_ (n := 7) (S := fun w' => w'.cell? ⟨gb363, 0, none⟩ = some (.int .i64 a0_0) ∧ w'.cell? ⟨gb363, 1, none⟩ = some (.int .i64 a0_1) ∧ w'.cell? ⟨gb363, 2, none⟩ = some (.int .i64 a0_2) ∧ w'.cell? (ad364.add ((x7_1).toNat * 4)) = some (.int .u32 ((rd_T50 l1 x7_1).f0)) ∧ w'.cell? ⟨(ad364.add ((x7_1).toNat * 4)).block, (ad364.add ((x7_1).toNat * 4)).off + 1, none⟩ = some (.int .u8 ((rd_T50 l1 x7_1).f1)) ∧ w'.cell? ⟨(ad364.add ((x7_1).toNat * 4)).block, (ad364.add ((x7_1).toNat * 4)).off + 2, none⟩ = some (.int .i64 ((rd_T50 l1 x7_1).f2)) ∧ w'.cell? ⟨(ad364.add ((x7_1).toNat * 4)).block, (ad364.add ((x7_1).toNat * 4)).off + 3, none⟩ = some (.int .i64 ((rd_T50 l1 x7_1).f3))) (ds := []) #[false, false, false, false, false, false, false] (by kernel_rfl) rfl rfl ⟨(blk_cell BK363.out 0).trans rfl, (blk_cell BK363.out 1).trans rfl, (blk_cell BK363.out 2).trans rfl, ((HB.out.cell (World.block_lt_of_cell? w _ hw364_0)).trans hw364_0), ((HB.out.cell (World.block_lt_of_cell? w _ hw364_1)).trans hw364_1), ((HB.out.cell (World.block_lt_of_cell? w _ hw364_2)).trans hw364_2), ((HB.out.cell (World.block_lt_of_cell? w _ hw364_3)).trans hw364_3)⟩ (fun hHeld => ?_)
            generalize wr.drew = w9 at BK363 HB hx364_0 hx364_1 hx364_2 hx364_3 hHeld ⊢
            refine pure_ (i := 1) (N := some 15) (v := ?_) (a' := ?_) #[false, true, false, false, false, false, false] rfl rfl (by kernel_rfl) (fun _ _ _ h => h) (Or.inl ⟨by rfl, ?_⟩) ?_ ?_
            rotate_left
            · intro w'
              go_simp
              with_reducible rfl
            rotate_left
            · simp only [Act.put, List.setIfInBounds_toArray, List.set_cons_zero, List.set_cons_succ, i64_w, i32_w]
              rfl
            refine pure_ (i := 2) (N := some 16) (v := ?_) (a' := ?_) #[false, true, true, false, false, false, false] rfl rfl (by kernel_rfl) (fun _ _ _ h => h) (Or.inl ⟨by rfl, ?_⟩) ?_ ?_
            rotate_left
            · intro w'
              go_simp
              with_reducible rfl
            rotate_left
            · simp only [Act.put, List.setIfInBounds_toArray, List.set_cons_zero, List.set_cons_succ, i64_w, i32_w]
              rfl
            refine pure_ (i := 3) (N := some 17) (v := ?_) (a' := ?_) #[false, true, true, true, false, false, false] rfl rfl (by kernel_rfl) (fun _ _ _ h => h) (Or.inl ⟨by rfl, ?_⟩) ?_ ?_
            rotate_left
            · intro w'
              go_simp
              with_reducible rfl
            rotate_left
            · simp only [Act.put, List.setIfInBounds_toArray, List.set_cons_zero, List.set_cons_succ, i64_w, i32_w]
              rfl
            refine take_ (i := 0) (N := some 14) (v := ?_) (a' := ?_) #[true, true, true, true, false, false, false] rfl rfl (by kernel_rfl) (fun _ _ _ h => h) (Or.inl ⟨by rfl, ?_⟩) hHeld ?_ ?_
            rotate_left
            · rintro w' ⟨s0, s1, s2, s3, s4, s5, s6⟩
              go_simp
              with_reducible rfl
            rotate_left
            · simp only [Act.put, List.setIfInBounds_toArray, List.set_cons_zero, List.set_cons_succ, i64_w, i32_w]
              rfl
            refine take_ (i := 4) (N := some 18) (v := ?_) (a' := ?_) #[true, true, true, true, true, false, false] rfl rfl (by kernel_rfl) (fun _ _ _ h => h) (Or.inl ⟨by rfl, ?_⟩) hHeld ?_ ?_
            rotate_left
            · rintro w' ⟨s0, s1, s2, s3, s4, s5, s6⟩
              go_simp
              with_reducible rfl
            rotate_left
            · simp only [Act.put, List.setIfInBounds_toArray, List.set_cons_zero, List.set_cons_succ, i64_w, i32_w]
              rfl
            refine one_ (i := 5) (N := some 19) #[true, true, true, true, true, true, false] rfl rfl (by kernel_rfl) (by decide) (fun K hK => ?_)
            refine goes_ Tryz.func181 (by kernel_rfl) rfl #[.agg #[.int .i64 a0_0, .int .i64 a0_1, .int .i64 a0_2], .agg #[.int .u32 ((rd_T50 l1 x7_1).f0), .int .u8 ((rd_T50 l1 x7_1).f1), .int .i64 ((rd_T50 l1 x7_1).f2), .int .i64 ((rd_T50 l1 x7_1).f3)]] (by rfl) rfl rfl (by (try simp only [List.map_toArray, List.map_cons, List.map_nil]); first | done | rfl | (simp only [List.length_drop, List.length_take]; rfl)) ?_
            with_reducible refine (horariumref09_Right.calls k1 a0_0 a0_1 a0_2 ((rd_T50 l1 x7_1).f0) ((rd_T50 l1 x7_1).f1) ((rd_T50 l1 x7_1).f2) ((rd_T50 l1 x7_1).f3) true _ A7.out).mono ?_
            rintro e w10 ⟨rfl, hb⟩
            refine ⟨_, rfl, ?_⟩
            have n0_ := Aside0.mk (blk_below (g := gb363) (o := .cells #[.int .i64 a0_0, .int .i64 a0_1, .int .i64 a0_2] 23 (0, 0)) (by (with_reducible repeat (first | refine blk_drewN ?_ _ | refine blk_drew ?_ | refine blk_alloc ?_ _)); exact BK363.out) hb)
            have n1_ := Aside0.mk (below_step (by repeat (first | (with_reducible first | exact HB.out | apply below_alloc | apply pw_below_drewN | apply below_drew1 | refine below_set ?_ GE363.out) | exact HB.out)) hb)
            clear BK363
            clear HB
            have BK363 := n0_
            have HB := n1_
            clear n0_ n1_
            (try clear hb)
            (try clear hb2)
            (try clear hk)
            (try clear hi)
            refine hK.out _ _ ⟨(blk_cell BK363.out 0).trans rfl, (blk_cell BK363.out 1).trans rfl, (blk_cell BK363.out 2).trans rfl, ((HB.out.cell (World.block_lt_of_cell? w _ hw364_0)).trans hw364_0), ((HB.out.cell (World.block_lt_of_cell? w _ hw364_1)).trans hw364_1), ((HB.out.cell (World.block_lt_of_cell? w _ hw364_2)).trans hw364_2), ((HB.out.cell (World.block_lt_of_cell? w _ hw364_3)).trans hw364_3)⟩ (fun hHeld => ?_)
            clear hK K
            refine norm_ (a' := ?_) ?_ ?_
            rotate_left
            · show Act.put _ (some 19) _ = _
              simp only [Act.put, List.setIfInBounds_toArray, List.set_cons_zero, List.set_cons_succ, i64_w, i32_w]
              rfl
            refine pure_ (i := 6) (N := some 20) (v := ?_) (a' := ?_) #[true, true, true, true, true, true, true] rfl rfl (by kernel_rfl) (fun _ _ _ h => h) (Or.inl ⟨by rfl, ?_⟩) ?_ ?_
            rotate_left
            · intro w'
              go_simp
              with_reducible rfl
            rotate_left
            · simp only [Act.put, List.setIfInBounds_toArray, List.set_cons_zero, List.set_cons_succ, i64_w, i32_w]
              rfl
            refine done_ (by kernel_rfl) ?_
            try go_wp2
            go_roundg k1
            case measure => have := HK1.out; omega
            case rel => exact ⟨(wrap64 (x7_1 + 1)), (by first | rfl | (simp; done) | (simp [*]; done)), H', ⟨by have := HK1.out; omega⟩, ⟨by (with_reducible repeat (first | refine blk_drewN ?_ _ | refine blk_drew ?_ | refine blk_alloc ?_ _)); exact BK363.out⟩, ⟨by repeat (first | (with_reducible first | exact HB.out | apply below_alloc | apply pw_below_drewN | apply below_drew1 | refine below_set ?_ GE363.out) | exact HB.out)⟩⟩
          · replace c8 := Bool.eq_false_iff.mpr c8
            subst c8
            have H1 : (some false) = some r := by rw [if_neg (show ¬ (false = true) by decide)] at H; exact H
            clear H
            have H := H1
            clear H1
            obtain rfl := Option.some.inj H
            try go_wp2
            have n0_ := Aside0.mk (blk_drew BK363.out)
            have n1_ := Aside0.mk (below_drew1 HB.out)
            clear BK363
            clear HB
            have BK363 := n0_
            have HB := n1_
            clear n0_ n1_
            have p364 : 0 ≤ (x7_1 : Int) := of_decide_eq_true (by first | (with_reducible assumption) | assumption)
            have q364 : x7_1 < (l1.length : Int) := of_decide_eq_true (by first | (with_reducible assumption) | assumption)
            obtain ⟨ad364, e364, hx364_0, hx364_1, hx364_2, hx364_3⟩ := at_T50 HR1.out x7_1 p364 q364
            have hw364_3 := hx364_3
            have hw364_2 := hx364_2
            have hw364_1 := hx364_1
            have hw364_0 := hx364_0
            cases e364
            replace hx364_0 := (HB.out.cell (World.block_lt_of_cell? w _ hx364_0)).trans hx364_0
            replace hx364_1 := (HB.out.cell (World.block_lt_of_cell? w _ hx364_1)).trans hx364_1
            replace hx364_2 := (HB.out.cell (World.block_lt_of_cell? w _ hx364_2)).trans hx364_2
            replace hx364_3 := (HB.out.cell (World.block_lt_of_cell? w _ hx364_3)).trans hx364_3
            replace p364 := eq_true p364
            replace q364 := eq_true q364
            refine start_ (n := 7) (S := fun w' => w'.cell? ⟨gb363, 0, none⟩ = some (.int .i64 a0_0) ∧ w'.cell? ⟨gb363, 1, none⟩ = some (.int .i64 a0_1) ∧ w'.cell? ⟨gb363, 2, none⟩ = some (.int .i64 a0_2) ∧ w'.cell? (ad364.add ((x7_1).toNat * 4)) = some (.int .u32 ((rd_T50 l1 x7_1).f0)) ∧ w'.cell? ⟨(ad364.add ((x7_1).toNat * 4)).block, (ad364.add ((x7_1).toNat * 4)).off + 1, none⟩ = some (.int .u8 ((rd_T50 l1 x7_1).f1)) ∧ w'.cell? ⟨(ad364.add ((x7_1).toNat * 4)).block, (ad364.add ((x7_1).toNat * 4)).off + 2, none⟩ = some (.int .i64 ((rd_T50 l1 x7_1).f2)) ∧ w'.cell? ⟨(ad364.add ((x7_1).toNat * 4)).block, (ad364.add ((x7_1).toNat * 4)).off + 3, none⟩ = some (.int .i64 ((rd_T50 l1 x7_1).f3))) (ds := []) #[false, false, false, false, false, false, false] (by kernel_rfl) rfl rfl ⟨(blk_cell BK363.out 0).trans rfl, (blk_cell BK363.out 1).trans rfl, (blk_cell BK363.out 2).trans rfl, ((HB.out.cell (World.block_lt_of_cell? w _ hw364_0)).trans hw364_0), ((HB.out.cell (World.block_lt_of_cell? w _ hw364_1)).trans hw364_1), ((HB.out.cell (World.block_lt_of_cell? w _ hw364_2)).trans hw364_2), ((HB.out.cell (World.block_lt_of_cell? w _ hw364_3)).trans hw364_3)⟩ (fun hHeld => ?_)
            generalize wr.drew = w11 at BK363 HB hx364_0 hx364_1 hx364_2 hx364_3 hHeld ⊢
            refine pure_ (i := 1) (N := some 15) (v := ?_) (a' := ?_) #[false, true, false, false, false, false, false] rfl rfl (by kernel_rfl) (fun _ _ _ h => h) (Or.inl ⟨by rfl, ?_⟩) ?_ ?_
            rotate_left
            · intro w'
              go_simp
              with_reducible rfl
            rotate_left
            · simp only [Act.put, List.setIfInBounds_toArray, List.set_cons_zero, List.set_cons_succ, i64_w, i32_w]
              rfl
            refine pure_ (i := 2) (N := some 16) (v := ?_) (a' := ?_) #[false, true, true, false, false, false, false] rfl rfl (by kernel_rfl) (fun _ _ _ h => h) (Or.inl ⟨by rfl, ?_⟩) ?_ ?_
            rotate_left
            · intro w'
              go_simp
              with_reducible rfl
            rotate_left
            · simp only [Act.put, List.setIfInBounds_toArray, List.set_cons_zero, List.set_cons_succ, i64_w, i32_w]
              rfl
            refine pure_ (i := 3) (N := some 17) (v := ?_) (a' := ?_) #[false, true, true, true, false, false, false] rfl rfl (by kernel_rfl) (fun _ _ _ h => h) (Or.inl ⟨by rfl, ?_⟩) ?_ ?_
            rotate_left
            · intro w'
              go_simp
              with_reducible rfl
            rotate_left
            · simp only [Act.put, List.setIfInBounds_toArray, List.set_cons_zero, List.set_cons_succ, i64_w, i32_w]
              rfl
            refine take_ (i := 0) (N := some 14) (v := ?_) (a' := ?_) #[true, true, true, true, false, false, false] rfl rfl (by kernel_rfl) (fun _ _ _ h => h) (Or.inl ⟨by rfl, ?_⟩) hHeld ?_ ?_
            rotate_left
            · rintro w' ⟨s0, s1, s2, s3, s4, s5, s6⟩
              go_simp
              with_reducible rfl
            rotate_left
            · simp only [Act.put, List.setIfInBounds_toArray, List.set_cons_zero, List.set_cons_succ, i64_w, i32_w]
              rfl
            refine take_ (i := 4) (N := some 18) (v := ?_) (a' := ?_) #[true, true, true, true, true, false, false] rfl rfl (by kernel_rfl) (fun _ _ _ h => h) (Or.inl ⟨by rfl, ?_⟩) hHeld ?_ ?_
            rotate_left
            · rintro w' ⟨s0, s1, s2, s3, s4, s5, s6⟩
              go_simp
              with_reducible rfl
            rotate_left
            · simp only [Act.put, List.setIfInBounds_toArray, List.set_cons_zero, List.set_cons_succ, i64_w, i32_w]
              rfl
            refine one_ (i := 5) (N := some 19) #[true, true, true, true, true, true, false] rfl rfl (by kernel_rfl) (by decide) (fun K hK => ?_)
            refine goes_ Tryz.func181 (by kernel_rfl) rfl #[.agg #[.int .i64 a0_0, .int .i64 a0_1, .int .i64 a0_2], .agg #[.int .u32 ((rd_T50 l1 x7_1).f0), .int .u8 ((rd_T50 l1 x7_1).f1), .int .i64 ((rd_T50 l1 x7_1).f2), .int .i64 ((rd_T50 l1 x7_1).f3)]] (by rfl) rfl rfl (by (try simp only [List.map_toArray, List.map_cons, List.map_nil]); first | done | rfl | (simp only [List.length_drop, List.length_take]; rfl)) ?_
            with_reducible refine (horariumref09_Right.calls k1 a0_0 a0_1 a0_2 ((rd_T50 l1 x7_1).f0) ((rd_T50 l1 x7_1).f1) ((rd_T50 l1 x7_1).f2) ((rd_T50 l1 x7_1).f3) false _ A7.out).mono ?_
            rintro e w12 ⟨rfl, hb⟩
            refine ⟨_, rfl, ?_⟩
            have n0_ := Aside0.mk (blk_below (g := gb363) (o := .cells #[.int .i64 a0_0, .int .i64 a0_1, .int .i64 a0_2] 23 (0, 0)) (by (with_reducible repeat (first | refine blk_drewN ?_ _ | refine blk_drew ?_ | refine blk_alloc ?_ _)); exact BK363.out) hb)
            have n1_ := Aside0.mk (below_step (by repeat (first | (with_reducible first | exact HB.out | apply below_alloc | apply pw_below_drewN | apply below_drew1 | refine below_set ?_ GE363.out) | exact HB.out)) hb)
            clear BK363
            clear HB
            have BK363 := n0_
            have HB := n1_
            clear n0_ n1_
            (try clear hb)
            (try clear hb2)
            (try clear hk)
            (try clear hi)
            refine hK.out _ _ ⟨(blk_cell BK363.out 0).trans rfl, (blk_cell BK363.out 1).trans rfl, (blk_cell BK363.out 2).trans rfl, ((HB.out.cell (World.block_lt_of_cell? w _ hw364_0)).trans hw364_0), ((HB.out.cell (World.block_lt_of_cell? w _ hw364_1)).trans hw364_1), ((HB.out.cell (World.block_lt_of_cell? w _ hw364_2)).trans hw364_2), ((HB.out.cell (World.block_lt_of_cell? w _ hw364_3)).trans hw364_3)⟩ (fun hHeld => ?_)
            clear hK K
            refine norm_ (a' := ?_) ?_ ?_
            rotate_left
            · show Act.put _ (some 19) _ = _
              simp only [Act.put, List.setIfInBounds_toArray, List.set_cons_zero, List.set_cons_succ, i64_w, i32_w]
              rfl
            refine pure_ (i := 6) (N := some 20) (v := ?_) (a' := ?_) #[true, true, true, true, true, true, true] rfl rfl (by kernel_rfl) (fun _ _ _ h => h) (Or.inl ⟨by rfl, ?_⟩) ?_ ?_
            rotate_left
            · intro w'
              go_simp
              with_reducible rfl
            rotate_left
            · simp only [Act.put, List.setIfInBounds_toArray, List.set_cons_zero, List.set_cons_succ, i64_w, i32_w]
              rfl
            refine done_ (by kernel_rfl) ?_
            try go_wp2
            go_ret
            exact ⟨by first | rfl | (simp [errW_none, errW_some] <;> rfl) | (simp [*, errW_none, errW_some] <;> rfl), by repeat (first | (with_reducible first | exact HB.out | apply below_alloc | apply pw_below_drewN | apply below_drew1 | refine below_set ?_ GE363.out) | exact HB.out)⟩
        · rw [if_neg c6] at H
          exact absurd H (by simp)
      · rw [if_neg c5] at H
        have c5b0 : decide (x7_1 < (l1.length : Int)) = false := decide_eq_false c5
        clear c5
        obtain rfl := Option.some.inj H
        go_wp2
        go_ret
        exact ⟨by first | rfl | (simp [errW_none, errW_some] <;> rfl) | (simp [*, errW_none, errW_some] <;> rfl), by repeat (first | (with_reducible first | exact HB.out | apply below_alloc | apply pw_below_drewN | apply below_drew1 | refine below_set ?_ GE363.out) | exact HB.out)⟩
end Go.Proofs.YtineikfhfmiidaaGreat.Gp
namespace Go.Proofs.YtineikfhfmiidaaGreat.Gp
open Go.RowKit Go.Proofs.YtineikfhfmiidaaGreatW.PrintWords Go.Proofs.YtineikfhfmiidaaGreatW.PrintLast Go.Proofs.YtineikfhfmiidaaGreatW.PrintMore
set_option linter.unusedVariables false
set_option linter.unusedSimpArgs false
end Go.Proofs.YtineikfhfmiidaaGreat.Gp
namespace Go.Proofs.YtineikfhfmiidaaGreat.Gp
open Go.RowKit Go.Proofs.YtineikfhfmiidaaGreatW.PrintWords Go.Proofs.YtineikfhfmiidaaGreatW.PrintLast Go.Proofs.YtineikfhfmiidaaGreatW.PrintMore
set_option linter.unusedVariables false
set_option linter.unusedSimpArgs false
mutual
def horariumref17_first.l0 : Nat → List ByteArray → List Bool → Int → Int → Option (Int)
  | 0, _, _, _, _ => none
  | k + 1, x0, x1, x2, x7 => if x7 < (x0.length : Int) then (if x7 = x2 then (horariumref17_first.j1 k x0 x1 x2 x7 true) else (if 0 ≤ x7 then (if x7 < (x1.length : Int) then (horariumref17_first.j1 k x0 x1 x2 x7 (!(rdOf false x1 x7))) else (none)) else (none))) else (some (-1))
def horariumref17_first.j1 : Nat → List ByteArray → List Bool → Int → Int → Bool → Option (Int)
  | 0, _, _, _, _, _ => none
  | k + 1, x0, x1, x2, x7, x24 => if x24 = true then (some x7) else (horariumref17_first.l1 k x0 x1 x2 x7 0)
def horariumref17_first.l1 : Nat → List ByteArray → List Bool → Int → Int → Int → Option (Int)
  | 0, _, _, _, _, _ => none
  | k + 1, x0, x1, x2, x7, x8 => if x8 < x7 then (if 0 ≤ x8 then (if x8 < (x0.length : Int) then (if 0 ≤ x7 then (if x7 < (x0.length : Int) then (if (rdOf ByteArray.empty x0 x8).toList = (rdOf ByteArray.empty x0 x7).toList then (some x7) else (horariumref17_first.l1 k x0 x1 x2 x7 (wrap64 (x8 + 1)))) else (none)) else (none)) else (none)) else (none)) else (horariumref17_first.l0 k x0 x1 x2 (wrap64 (x7 + 1)))
end
def horariumref17_first.f (k : Nat) (l0 : List ByteArray) (l1 : List Bool) (a2 : Int) : Option (Int) := horariumref17_first.l0 k l0 l1 a2 0
set_option maxHeartbeats 8000000 in
set_option maxRecDepth 100000 in
theorem horariumref17_first.calls (k : Nat) (A0 : Option Addr) (c0 : Nat) (l0 : List ByteArray) (A1 : Option Addr) (c1 : Nat) (l1 : List Bool) (a2 : Int) (r : Int) (w : World) (hr0 : Kd.C Kd.string w A0 l0.length l0) (hc0 : l0.length ≤ c0) (hr1 : Kd.C Kd.bool w A1 l1.length l1) (hc1 : l1.length ≤ c1) (h : horariumref17_first.f k l0 l1 a2 = some r) :
    Calls Tryz.prog 132 #[.slice A0 l0.length c0, .slice A1 l1.length c1, .int .i64 a2] w fun e w' => e = .returned (.int .i64 r) ∧ Drawn0 w w' := by
  have HR0 := Aside0.mk hr0
  have HC0 := Aside0.mk hc0
  clear hr0 hc0
  have HR1 := Aside0.mk hr1
  have HC1 := Aside0.mk hc1
  clear hr1 hc1
  have H : (horariumref17_first.l0 k l0 l1 a2 0) = some r := h
  clear h
  have H' := Aside0.mk H
  clear H
  go_enter Tryz.func132, Tryz.ntmps132
  go_wp2
  repeat (go_quiet (fail); try go_wp2)
  go_loopg [7] k (fun kq v7 w' => ∃ (x7_1 : Int), v7 = .int .i64 x7_1 ∧ Aside0 (horariumref17_first.l0 kq l0 l1 a2 x7_1 = some r) ∧ Aside0 (kq ≤ k) ∧ Drawn0 w w')
  case atStart => exact ⟨(0), (by first | rfl | (simp; done) | (simp [*]; done)), H', ⟨Nat.le_refl _⟩, by repeat (first | exact Drawn0.refl _ | apply Drawn0.step)⟩
  case round =>
    clear H'
    try clear c1
    try clear p2
    obtain ⟨x7_1, rfl, HA, HK1, ⟨m1, rfl⟩⟩ := hrel
    cases gk with
    | zero => exact absurd HA.out (by simp [horariumref17_first.l0])
    | succ k1 =>
      have H := HA.out
      clear HA
      simp only [horariumref17_first.l0] at H
      by_cases c4 : x7_1 < (l0.length : Int)
      · rw [if_pos c4] at H
        have c4b0 : decide (x7_1 < (l0.length : Int)) = true := decide_eq_true c4
        clear c4
        have HC5 := Aside0.mk H
        clear H
        go_upto_region 4 with (fail)
        repeat (go_quiet (fail); go_upto_region 4 with (fail))
        go_cut [24] (fun v24 wc => ∃ (kq : Nat) (x24_4 : Bool), v24 = .bool x24_4 ∧ Aside0 (horariumref17_first.j1 kq l0 l1 a2 x7_1 x24_4 = some r) ∧ Aside0 (kq ≤ k1) ∧ Drawn0 w wc)
        case first =>
          have H := HC5.out
          clear HC5
          by_cases c6 : x7_1 = a2
          · rw [if_pos c6] at H
            have c6b0 : (x7_1 == a2) = true := beq_iff_eq.mpr c6
            have c6b1 : (x7_1 != a2) = false := bne_eq_false_iff_eq.mpr c6
            clear c6
            (first | rw [c6b0] | (simp only [i64_w, i32_w]; rw [c6b0]) | skip)
            have H' := Aside0.mk H
            clear H
            go_wp2
            repeat (go_quiet (fail); try go_wp2)
            go_meet
            case rel => exact ⟨_, (true), (by first | rfl | (simp; done) | (simp [*]; done)), H', ⟨by have := HK1.out; first | omega | exact Nat.le_refl _⟩, by repeat (first | exact Drawn0.refl _ | apply Drawn0.step)⟩
          · rw [if_neg c6] at H
            have c6b0 : (x7_1 == a2) = false := beq_eq_false_iff_ne.mpr c6
            have c6b1 : (x7_1 != a2) = true := bne_iff_ne.mpr c6
            (first | rw [c6b0] | (simp only [i64_w, i32_w]; rw [c6b0]) | skip)
            by_cases c7 : 0 ≤ x7_1
            · rw [if_pos c7] at H
              have c7b0 : decide (0 ≤ x7_1) = true := decide_eq_true c7
              clear c7
              by_cases c8 : x7_1 < (l1.length : Int)
              · rw [if_pos c8] at H
                have c8b0 : decide (x7_1 < (l1.length : Int)) = true := decide_eq_true c8
                clear c8
                have H' := Aside0.mk H
                clear H
                have p371 : 0 ≤ (x7_1 : Int) := of_decide_eq_true (by first | (with_reducible assumption) | assumption)
                have q371 : x7_1 < (l1.length : Int) := of_decide_eq_true (by first | (with_reducible assumption) | assumption)
                obtain ⟨ad371, e371, hx371_0⟩ := Kd.at_bool HR1.out x7_1 p371 q371
                cases e371
                replace p371 := eq_true p371
                replace q371 := eq_true q371
                go_wp2
                repeat (go_quiet (fail); try go_wp2)
                go_meet
                case rel => exact ⟨_, (!(rdOf false l1 x7_1)), (by first | rfl | (simp; done) | (simp [*]; done)), H', ⟨by have := HK1.out; first | omega | exact Nat.le_refl _⟩, by repeat (first | exact Drawn0.refl _ | apply Drawn0.step)⟩
              · rw [if_neg c8] at H
                exact absurd H (by simp)
            · rw [if_neg c7] at H
              exact absurd H (by simp)
        case rest =>
          clear HC5
          try clear c1
          try clear p2
          try clear p3
          try clear q3
          try clear hx3
          try clear c4
          try clear c4b0
          try clear c6
          try clear c6b0
          try clear c6b1
          try clear c7
          try clear c7b0
          try clear c8
          try clear c8b0
          try clear hx371_0
          try clear p2
          try clear p371
          try clear q371
          obtain ⟨kq, x24_4, rfl, HA, HJ4, ⟨mc4, rfl⟩⟩ := hcut
          cases kq with
          | zero => exact absurd HA.out (by simp [horariumref17_first.j1])
          | succ kj4 =>
            have H := HA.out
            clear HA
            simp only [horariumref17_first.j1] at H
            by_cases c9 : x24_4 = true
            · subst c9
              have H1 : (some x7_1) = some r := by rw [if_pos rfl] at H; exact H
              clear H
              have H := H1
              clear H1
              obtain rfl := Option.some.inj H
              go_wp2
              repeat (go_quiet (fail); try go_wp2)
              go_ret
              exact ⟨by first | rfl | (simp; done) | (simp [*]; done), by repeat (first | exact Drawn0.refl _ | apply Drawn0.step)⟩
            · replace c9 := Bool.eq_false_iff.mpr c9
              subst c9
              have H1 : (horariumref17_first.l1 kj4 l0 l1 a2 x7_1 0) = some r := by rw [if_neg (show ¬ (false = true) by decide)] at H; exact H
              clear H
              have H := H1
              clear H1
              have H' := Aside0.mk H
              clear H
              go_wp2
              repeat (go_quiet (fail); try go_wp2)
              go_loopg [8] kj4 (fun kq v8 w' => ∃ (x8_3 : Int), v8 = .int .i64 x8_3 ∧ Aside0 (horariumref17_first.l1 kq l0 l1 a2 x7_1 x8_3 = some r) ∧ Aside0 (kq ≤ kj4) ∧ Drawn0 w w')
              case atStart => exact ⟨(0), (by first | rfl | (simp; done) | (simp [*]; done)), H', ⟨Nat.le_refl _⟩, by repeat (first | exact Drawn0.refl _ | apply Drawn0.step)⟩
              case round =>
                clear H'
                try clear c1
                try clear p2
                try clear p3
                try clear q3
                try clear hx3
                try clear c4
                try clear c4b0
                try clear c6
                try clear c6b0
                try clear c6b1
                try clear c7
                try clear c7b0
                try clear c8
                try clear c8b0
                try clear c9
                try clear hx371_0
                try clear p2
                try clear p3
                try clear p371
                try clear q3
                try clear q371
                obtain ⟨x8_3, rfl, HA, HK3, ⟨m3, rfl⟩⟩ := hrel
                cases gk with
                | zero => exact absurd HA.out (by simp [horariumref17_first.l1])
                | succ k3 =>
                  have H := HA.out
                  clear HA
                  simp only [horariumref17_first.l1] at H
                  by_cases c10 : x8_3 < x7_1
                  · rw [if_pos c10] at H
                    have c10b0 : decide (x8_3 < x7_1) = true := decide_eq_true c10
                    clear c10
                    by_cases c11 : 0 ≤ x8_3
                    · rw [if_pos c11] at H
                      have c11b0 : decide (0 ≤ x8_3) = true := decide_eq_true c11
                      clear c11
                      by_cases c12 : x8_3 < (l0.length : Int)
                      · rw [if_pos c12] at H
                        have c12b0 : decide (x8_3 < (l0.length : Int)) = true := decide_eq_true c12
                        clear c12
                        by_cases c13 : 0 ≤ x7_1
                        · rw [if_pos c13] at H
                          have c13b0 : decide (0 ≤ x7_1) = true := decide_eq_true c13
                          clear c13
                          by_cases c14 : x7_1 < (l0.length : Int)
                          · rw [if_pos c14] at H
                            have c14b0 : decide (x7_1 < (l0.length : Int)) = true := decide_eq_true c14
                            clear c14
                            by_cases c15 : (rdOf ByteArray.empty l0 x8_3).toList = (rdOf ByteArray.empty l0 x7_1).toList
                            · rw [if_pos c15] at H
                              have c15b0 : ((rdOf ByteArray.empty l0 x8_3).toList == (rdOf ByteArray.empty l0 x7_1).toList) = true := beq_iff_eq.mpr c15
                              have c15b1 : ((rdOf ByteArray.empty l0 x8_3).toList != (rdOf ByteArray.empty l0 x7_1).toList) = false := bne_eq_false_iff_eq.mpr c15
                              clear c15
                              obtain rfl := Option.some.inj H
                              have p372 : 0 ≤ (x8_3 : Int) := of_decide_eq_true (by first | (with_reducible assumption) | assumption)
                              have q372 : x8_3 < (l0.length : Int) := of_decide_eq_true (by first | (with_reducible assumption) | assumption)
                              obtain ⟨ad372, e372, hx372_0⟩ := Kd.at_string HR0.out x8_3 p372 q372
                              cases e372
                              replace p372 := eq_true p372
                              replace q372 := eq_true q372
                              have p373 : 0 ≤ (x7_1 : Int) := of_decide_eq_true (by first | (with_reducible assumption) | assumption)
                              have q373 : x7_1 < (l0.length : Int) := of_decide_eq_true (by first | (with_reducible assumption) | assumption)
                              obtain ⟨ad373, e373, hx373_0⟩ := Kd.at_string HR0.out x7_1 p373 q373
                              obtain rfl : ad372 = ad373 := (by injection e373)
                              replace p373 := eq_true p373
                              replace q373 := eq_true q373
                              go_wp2
                              repeat (go_quiet (fail); try go_wp2)
                              go_ret
                              exact ⟨by first | rfl | (simp; done) | (simp [*]; done), by repeat (first | exact Drawn0.refl _ | apply Drawn0.step)⟩
                            · rw [if_neg c15] at H
                              have c15b0 : ((rdOf ByteArray.empty l0 x8_3).toList == (rdOf ByteArray.empty l0 x7_1).toList) = false := beq_eq_false_iff_ne.mpr c15
                              have c15b1 : ((rdOf ByteArray.empty l0 x8_3).toList != (rdOf ByteArray.empty l0 x7_1).toList) = true := bne_iff_ne.mpr c15
                              have H' := Aside0.mk H
                              clear H
                              have p372 : 0 ≤ (x8_3 : Int) := of_decide_eq_true (by first | (with_reducible assumption) | assumption)
                              have q372 : x8_3 < (l0.length : Int) := of_decide_eq_true (by first | (with_reducible assumption) | assumption)
                              obtain ⟨ad372, e372, hx372_0⟩ := Kd.at_string HR0.out x8_3 p372 q372
                              cases e372
                              replace p372 := eq_true p372
                              replace q372 := eq_true q372
                              have p373 : 0 ≤ (x7_1 : Int) := of_decide_eq_true (by first | (with_reducible assumption) | assumption)
                              have q373 : x7_1 < (l0.length : Int) := of_decide_eq_true (by first | (with_reducible assumption) | assumption)
                              obtain ⟨ad373, e373, hx373_0⟩ := Kd.at_string HR0.out x7_1 p373 q373
                              obtain rfl : ad372 = ad373 := (by injection e373)
                              replace p373 := eq_true p373
                              replace q373 := eq_true q373
                              go_wp2
                              repeat (go_quiet (fail); try go_wp2)
                              go_roundg k3
                              case measure => have := HK1.out; have := HJ4.out; have := HK3.out; omega
                              case rel => exact ⟨(wrap64 (x8_3 + 1)), (by first | rfl | (simp; done) | (simp [*]; done)), H', ⟨by have := HK1.out; have := HJ4.out; have := HK3.out; omega⟩, by repeat (first | exact Drawn0.refl _ | apply Drawn0.step)⟩
                          · rw [if_neg c14] at H
                            exact absurd H (by simp)
                        · rw [if_neg c13] at H
                          exact absurd H (by simp)
                      · rw [if_neg c12] at H
                        exact absurd H (by simp)
                    · rw [if_neg c11] at H
                      exact absurd H (by simp)
                  · rw [if_neg c10] at H
                    have c10b0 : decide (x8_3 < x7_1) = false := decide_eq_false c10
                    clear c10
                    have H' := Aside0.mk H
                    clear H
                    go_wp2
                    repeat (go_quiet (fail); try go_wp2)
                    go_roundg k3
                    case measure => have := HK1.out; have := HJ4.out; have := HK3.out; omega
                    case rel => exact ⟨(wrap64 (x7_1 + 1)), (by first | rfl | (simp; done) | (simp [*]; done)), H', ⟨by have := HK1.out; have := HJ4.out; have := HK3.out; omega⟩, by repeat (first | exact Drawn0.refl _ | apply Drawn0.step)⟩
      · rw [if_neg c4] at H
        have c4b0 : decide (x7_1 < (l0.length : Int)) = false := decide_eq_false c4
        clear c4
        obtain rfl := Option.some.inj H
        go_wp2
        repeat (go_quiet (fail); try go_wp2)
        go_ret
        exact ⟨by first | rfl | (simp; done) | (simp [*]; done), by repeat (first | exact Drawn0.refl _ | apply Drawn0.step)⟩
end Go.Proofs.YtineikfhfmiidaaGreat.Gp
namespace Go.Proofs.YtineikfhfmiidaaGreat.Gp
open Go.RowKit Go.Proofs.YtineikfhfmiidaaGreatW.PrintWords Go.Proofs.YtineikfhfmiidaaGreatW.PrintLast Go.Proofs.YtineikfhfmiidaaGreatW.PrintMore
set_option linter.unusedVariables false
set_option linter.unusedSimpArgs false
end Go.Proofs.YtineikfhfmiidaaGreat.Gp
namespace Go.Proofs.YtineikfhfmiidaaGreat.Gp
open Go.RowKit Go.Proofs.YtineikfhfmiidaaGreatW.PrintWords Go.Proofs.YtineikfhfmiidaaGreatW.PrintLast Go.Proofs.YtineikfhfmiidaaGreatW.PrintMore
set_option linter.unusedVariables false
set_option linter.unusedSimpArgs false
mutual
def horariumref11_RightWalk.j0 : Nat → Int → List (List Int) → Bool → Option (Bool)
  | 0, _, _, _ => none
  | k + 1, x0, x1, x19 => if x19 = true then (some false) else (horariumref11_RightWalk.l0 k x0 x1 0)
def horariumref11_RightWalk.l0 : Nat → Int → List (List Int) → Int → Option (Bool)
  | 0, _, _, _ => none
  | k + 1, x0, x1, x5 => if x5 < x0 then (if 0 ≤ x5 then (if x5 < (x1.length : Int) then (if ((rd_L8 x1 x5).length : Int) = x0 then (horariumref11_RightWalk.l0 k x0 x1 (wrap64 (x5 + 1))) else (some false)) else (none)) else (none)) else (horariumref11_RightWalk.l1 k x0 x1 0)
def horariumref11_RightWalk.l1 : Nat → Int → List (List Int) → Int → Option (Bool)
  | 0, _, _, _ => none
  | k + 1, x0, x1, x6 => if x6 < x0 then (horariumref11_RightWalk.l2 k x0 x1 x6 0) else (some true)
def horariumref11_RightWalk.l2 : Nat → Int → List (List Int) → Int → Int → Option (Bool)
  | 0, _, _, _, _ => none
  | k + 1, x0, x1, x6, x7 => if x7 < x0 then (if 0 ≤ x6 then (if x6 < (x1.length : Int) then (if 0 ≤ x7 then (if x7 < ((rd_L8 x1 x6).length : Int) then (if (rd (rd_L8 x1 x6) x7) < 0 then (some false) else (if (rd (rd_L8 x1 x6) x7) > 96 then (some false) else (if x7 < (x1.length : Int) then (if x6 < ((rd_L8 x1 x7).length : Int) then (if (rd (rd_L8 x1 x6) x7) = (rd (rd_L8 x1 x7) x6) then (if x6 = x7 then (if (rd (rd_L8 x1 x6) x7) = 0 then (horariumref11_RightWalk.l2 k x0 x1 x6 (wrap64 (x7 + 1))) else (some false)) else (horariumref11_RightWalk.l2 k x0 x1 x6 (wrap64 (x7 + 1)))) else (some false)) else (none)) else (none)))) else (none)) else (none)) else (none)) else (none)) else (horariumref11_RightWalk.l1 k x0 x1 (wrap64 (x6 + 1)))
end
def horariumref11_RightWalk.f (k : Nat) (a0 : Int) (l1 : List (List Int)) : Option (Bool) := if a0 < 0 then (horariumref11_RightWalk.j0 k a0 l1 true) else (if a0 > 24 then (horariumref11_RightWalk.j0 k a0 l1 true) else (horariumref11_RightWalk.j0 k a0 l1 ((l1.length : Int) != a0)))
set_option maxHeartbeats 8000000 in
set_option maxRecDepth 100000 in
theorem horariumref11_RightWalk.calls (k : Nat) (a0 : Int) (A1 : Option Addr) (c1 : Nat) (l1 : List (List Int)) (r : Bool) (w : World) (hr1 : Kd.C (Kd.slice 3 (Kd.int .i64)) w A1 l1.length l1) (hc1 : l1.length ≤ c1) (h : horariumref11_RightWalk.f k a0 l1 = some r) :
    Calls Tryz.prog 63 #[.int .i64 a0, .slice A1 l1.length c1] w fun e w' => e = .returned (.bool r) ∧ Drawn0 w w' := by
  have HR1 := Aside0.mk hr1
  have HC1 := Aside0.mk hc1
  clear hr1 hc1
  have H : (if a0 < 0 then (horariumref11_RightWalk.j0 k a0 l1 true) else (if a0 > 24 then (horariumref11_RightWalk.j0 k a0 l1 true) else (horariumref11_RightWalk.j0 k a0 l1 ((l1.length : Int) != a0)))) = some r := h
  clear h
  have HC3 := Aside0.mk H
  clear H
  go_enter Tryz.func63, Tryz.ntmps63
  go_upto_region 1 with (fail)
  repeat (go_quiet (fail); go_upto_region 1 with (fail))
  go_cut [19] (fun v19 wc => ∃ (kq : Nat) (x19_2 : Bool), v19 = .bool x19_2 ∧ Aside0 (horariumref11_RightWalk.j0 kq a0 l1 x19_2 = some r) ∧ Aside0 (kq ≤ k) ∧ Drawn0 w wc)
  case first =>
    have H := HC3.out
    clear HC3
    by_cases c4 : a0 < 0
    · rw [if_pos c4] at H
      have c4b0 : decide (a0 < 0) = true := decide_eq_true c4
      clear c4
      (first | rw [c4b0] | (simp only [i64_w, i32_w]; rw [c4b0]) | skip)
      have H' := Aside0.mk H
      clear H
      go_wp2
      repeat (go_quiet (fail); try go_wp2)
      go_meet
      case rel => exact ⟨_, (true), (by first | rfl | (simp; done) | (simp [*]; done)), H', ⟨by first | omega | exact Nat.le_refl _⟩, by repeat (first | exact Drawn0.refl _ | apply Drawn0.step)⟩
    · rw [if_neg c4] at H
      have c4b0 : decide (a0 < 0) = false := decide_eq_false c4
      clear c4
      (first | rw [c4b0] | (simp only [i64_w, i32_w]; rw [c4b0]) | skip)
      by_cases c5 : a0 > 24
      · rw [if_pos c5] at H
        have c5b0 : decide (24 < a0) = true := decide_eq_true c5
        clear c5
        have H' := Aside0.mk H
        clear H
        go_wp2
        repeat (go_quiet (fail); try go_wp2)
        go_meet
        case rel => exact ⟨_, (true), (by first | rfl | (simp; done) | (simp [*]; done)), H', ⟨by first | omega | exact Nat.le_refl _⟩, by repeat (first | exact Drawn0.refl _ | apply Drawn0.step)⟩
      · rw [if_neg c5] at H
        have c5b0 : decide (24 < a0) = false := decide_eq_false c5
        clear c5
        have H' := Aside0.mk H
        clear H
        go_wp2
        repeat (go_quiet (fail); try go_wp2)
        go_meet
        case rel => exact ⟨_, (((l1.length : Int) != a0)), (by first | rfl | (simp; done) | (simp [*]; done)), H', ⟨by first | omega | exact Nat.le_refl _⟩, by repeat (first | exact Drawn0.refl _ | apply Drawn0.step)⟩
  case rest =>
    clear HC3
    try clear c1
    try clear p2
    try clear c4
    try clear c4b0
    try clear c5
    try clear c5b0
    obtain ⟨kq, x19_2, rfl, HA, HJ2, ⟨mc2, rfl⟩⟩ := hcut
    cases kq with
    | zero => exact absurd HA.out (by simp [horariumref11_RightWalk.j0])
    | succ kj2 =>
      have H := HA.out
      clear HA
      simp only [horariumref11_RightWalk.j0] at H
      by_cases c6 : x19_2 = true
      · subst c6
        have H1 : (some false) = some r := by rw [if_pos rfl] at H; exact H
        clear H
        have H := H1
        clear H1
        obtain rfl := Option.some.inj H
        go_wp2
        repeat (go_quiet (fail); try go_wp2)
        go_ret
        exact ⟨by first | rfl | (simp; done) | (simp [*]; done), by repeat (first | exact Drawn0.refl _ | apply Drawn0.step)⟩
      · replace c6 := Bool.eq_false_iff.mpr c6
        subst c6
        have H1 : (horariumref11_RightWalk.l0 kj2 a0 l1 0) = some r := by rw [if_neg (show ¬ (false = true) by decide)] at H; exact H
        clear H
        have H := H1
        clear H1
        have H' := Aside0.mk H
        clear H
        go_wp2
        repeat (go_quiet (fail); try go_wp2)
        go_loopg [5] kj2 (fun kq v5 w' => ∃ (x5_2 : Int), v5 = .int .i64 x5_2 ∧ Aside0 (horariumref11_RightWalk.l0 kq a0 l1 x5_2 = some r) ∧ Aside0 (kq ≤ kj2) ∧ Drawn0 w w')
        case atStart => exact ⟨(0), (by first | rfl | (simp; done) | (simp [*]; done)), H', ⟨Nat.le_refl _⟩, by repeat (first | exact Drawn0.refl _ | apply Drawn0.step)⟩
        case round =>
          clear H'
          try clear c1
          try clear c2
          try clear p2
          try clear c4
          try clear c4b0
          try clear c5
          try clear c5b0
          try clear c6
          try clear p2
          obtain ⟨x5_2, rfl, HA, HK2, ⟨m2, rfl⟩⟩ := hrel
          cases gk with
          | zero => exact absurd HA.out (by simp [horariumref11_RightWalk.l0])
          | succ k2 =>
            have H := HA.out
            clear HA
            simp only [horariumref11_RightWalk.l0] at H
            by_cases c7 : x5_2 < a0
            · rw [if_pos c7] at H
              have c7b0 : decide (x5_2 < a0) = true := decide_eq_true c7
              clear c7
              by_cases c8 : 0 ≤ x5_2
              · rw [if_pos c8] at H
                have c8b0 : decide (0 ≤ x5_2) = true := decide_eq_true c8
                clear c8
                by_cases c9 : x5_2 < (l1.length : Int)
                · rw [if_pos c9] at H
                  have c9b0 : decide (x5_2 < (l1.length : Int)) = true := decide_eq_true c9
                  clear c9
                  by_cases c10 : ((rd_L8 l1 x5_2).length : Int) = a0
                  · rw [if_pos c10] at H
                    have c10b0 : (((rd_L8 l1 x5_2).length : Int) == a0) = true := beq_iff_eq.mpr c10
                    have c10b1 : (((rd_L8 l1 x5_2).length : Int) != a0) = false := bne_eq_false_iff_eq.mpr c10
                    clear c10
                    have H' := Aside0.mk H
                    clear H
                    have p385 : 0 ≤ (x5_2 : Int) := of_decide_eq_true (by first | (with_reducible assumption) | assumption)
                    have q385 : x5_2 < (l1.length : Int) := of_decide_eq_true (by first | (with_reducible assumption) | assumption)
                    obtain ⟨ad385, A385_0, c385_0, e385, hx385_0, hl385_0, hi385_0⟩ := at_L8 HR1.out x5_2 p385 q385
                    cases e385
                    have HR385_0 := Aside0.mk hi385_0
                    have HC385_0 := Aside0.mk hl385_0
                    clear hi385_0 hl385_0
                    replace p385 := eq_true p385
                    replace q385 := eq_true q385
                    go_wp2
                    repeat (go_quiet (fail); try go_wp2)
                    go_roundg k2
                    case measure => have := HJ2.out; have := HK2.out; omega
                    case rel => exact ⟨(wrap64 (x5_2 + 1)), (by first | rfl | (simp; done) | (simp [*]; done)), H', ⟨by have := HJ2.out; have := HK2.out; omega⟩, by repeat (first | exact Drawn0.refl _ | apply Drawn0.step)⟩
                  · rw [if_neg c10] at H
                    have c10b0 : (((rd_L8 l1 x5_2).length : Int) == a0) = false := beq_eq_false_iff_ne.mpr c10
                    have c10b1 : (((rd_L8 l1 x5_2).length : Int) != a0) = true := bne_iff_ne.mpr c10
                    obtain rfl := Option.some.inj H
                    have p385 : 0 ≤ (x5_2 : Int) := of_decide_eq_true (by first | (with_reducible assumption) | assumption)
                    have q385 : x5_2 < (l1.length : Int) := of_decide_eq_true (by first | (with_reducible assumption) | assumption)
                    obtain ⟨ad385, A385_0, c385_0, e385, hx385_0, hl385_0, hi385_0⟩ := at_L8 HR1.out x5_2 p385 q385
                    cases e385
                    have HR385_0 := Aside0.mk hi385_0
                    have HC385_0 := Aside0.mk hl385_0
                    clear hi385_0 hl385_0
                    replace p385 := eq_true p385
                    replace q385 := eq_true q385
                    go_wp2
                    repeat (go_quiet (fail); try go_wp2)
                    go_ret
                    exact ⟨by first | rfl | (simp; done) | (simp [*]; done), by repeat (first | exact Drawn0.refl _ | apply Drawn0.step)⟩
                · rw [if_neg c9] at H
                  exact absurd H (by simp)
              · rw [if_neg c8] at H
                exact absurd H (by simp)
            · rw [if_neg c7] at H
              have c7b0 : decide (x5_2 < a0) = false := decide_eq_false c7
              clear c7
              have H' := Aside0.mk H
              clear H
              go_wp2
              repeat (go_quiet (fail); try go_wp2)
              go_loopg [6] k2 (fun kq v6 w' => ∃ (x6_3 : Int), v6 = .int .i64 x6_3 ∧ Aside0 (horariumref11_RightWalk.l1 kq a0 l1 x6_3 = some r) ∧ Aside0 (kq ≤ k2) ∧ Drawn0 w w')
              case atStart => exact ⟨(0), (by first | rfl | (simp; done) | (simp [*]; done)), H', ⟨Nat.le_refl _⟩, by repeat (first | exact Drawn0.refl _ | apply Drawn0.step)⟩
              case round =>
                clear H'
                try clear c1
                try clear c2
                try clear p2
                try clear c3
                try clear p3
                try clear q3
                try clear hx3
                try clear c4
                try clear c4b0
                try clear c5
                try clear c5b0
                try clear c6
                try clear p6
                try clear c7
                try clear c7b0
                try clear c8
                try clear c8b0
                try clear c9
                try clear c9b0
                try clear c10
                try clear c10b0
                try clear c10b1
                try clear hx385_0
                try clear p2
                try clear p385
                try clear q385
                obtain ⟨x6_3, rfl, HA, HK3, ⟨m3, rfl⟩⟩ := hrel
                cases gk with
                | zero => exact absurd HA.out (by simp [horariumref11_RightWalk.l1])
                | succ k3 =>
                  have H := HA.out
                  clear HA
                  simp only [horariumref11_RightWalk.l1] at H
                  by_cases c11 : x6_3 < a0
                  · rw [if_pos c11] at H
                    have c11b0 : decide (x6_3 < a0) = true := decide_eq_true c11
                    clear c11
                    have H' := Aside0.mk H
                    clear H
                    go_wp2
                    repeat (go_quiet (fail); try go_wp2)
                    go_loopg [7] k3 (fun kq v7 w' => ∃ (x7_4 : Int), v7 = .int .i64 x7_4 ∧ Aside0 (horariumref11_RightWalk.l2 kq a0 l1 x6_3 x7_4 = some r) ∧ Aside0 (kq ≤ k3) ∧ Drawn0 w w')
                    case atStart => exact ⟨(0), (by first | rfl | (simp; done) | (simp [*]; done)), H', ⟨Nat.le_refl _⟩, by repeat (first | exact Drawn0.refl _ | apply Drawn0.step)⟩
                    case round =>
                      clear H'
                      try clear c1
                      try clear c2
                      try clear p2
                      try clear c3
                      try clear p3
                      try clear q3
                      try clear hx3
                      try clear c4
                      try clear c4b0
                      try clear c5
                      try clear c5b0
                      try clear c6
                      try clear p6
                      try clear c7
                      try clear c7b0
                      try clear c8
                      try clear c8b0
                      try clear c9
                      try clear c9b0
                      try clear c10
                      try clear c10b0
                      try clear c10b1
                      try clear c11
                      try clear c11b0
                      try clear hx385_0
                      try clear p2
                      try clear p3
                      try clear p385
                      try clear p6
                      try clear q3
                      try clear q385
                      obtain ⟨x7_4, rfl, HA, HK4, ⟨m4, rfl⟩⟩ := hrel
                      cases gk with
                      | zero => exact absurd HA.out (by simp [horariumref11_RightWalk.l2])
                      | succ k4 =>
                        have H := HA.out
                        clear HA
                        simp only [horariumref11_RightWalk.l2] at H
                        by_cases c12 : x7_4 < a0
                        · rw [if_pos c12] at H
                          have c12b0 : decide (x7_4 < a0) = true := decide_eq_true c12
                          clear c12
                          by_cases c13 : 0 ≤ x6_3
                          · rw [if_pos c13] at H
                            have c13b0 : decide (0 ≤ x6_3) = true := decide_eq_true c13
                            clear c13
                            by_cases c14 : x6_3 < (l1.length : Int)
                            · rw [if_pos c14] at H
                              have c14b0 : decide (x6_3 < (l1.length : Int)) = true := decide_eq_true c14
                              clear c14
                              by_cases c15 : 0 ≤ x7_4
                              · rw [if_pos c15] at H
                                have c15b0 : decide (0 ≤ x7_4) = true := decide_eq_true c15
                                clear c15
                                by_cases c16 : x7_4 < ((rd_L8 l1 x6_3).length : Int)
                                · rw [if_pos c16] at H
                                  have c16b0 : decide (x7_4 < ((rd_L8 l1 x6_3).length : Int)) = true := decide_eq_true c16
                                  clear c16
                                  by_cases c17 : (rd (rd_L8 l1 x6_3) x7_4) < 0
                                  · rw [if_pos c17] at H
                                    have c17b0 : decide ((rd (rd_L8 l1 x6_3) x7_4) < 0) = true := decide_eq_true c17
                                    clear c17
                                    obtain rfl := Option.some.inj H
                                    have p386 : 0 ≤ (x6_3 : Int) := of_decide_eq_true (by first | (with_reducible assumption) | assumption)
                                    have q386 : x6_3 < (l1.length : Int) := of_decide_eq_true (by first | (with_reducible assumption) | assumption)
                                    obtain ⟨ad386, A386_0, c386_0, e386, hx386_0, hl386_0, hi386_0⟩ := at_L8 HR1.out x6_3 p386 q386
                                    cases e386
                                    have HR386_0 := Aside0.mk hi386_0
                                    have HC386_0 := Aside0.mk hl386_0
                                    clear hi386_0 hl386_0
                                    replace p386 := eq_true p386
                                    replace q386 := eq_true q386
                                    have p387 : 0 ≤ (x7_4 : Int) := of_decide_eq_true (by first | (with_reducible assumption) | assumption)
                                    have q387 : x7_4 < ((rd_L8 l1 x6_3).length : Int) := of_decide_eq_true (by first | (with_reducible assumption) | assumption)
                                    obtain ⟨ad387, e387, hx387_0⟩ := Kd.at_int HR386_0.out x7_4 p387 q387
                                    cases e387
                                    replace p387 := eq_true p387
                                    replace q387 := eq_true q387
                                    go_wp2
                                    repeat (go_quiet (fail); try go_wp2)
                                    go_ret
                                    exact ⟨by first | rfl | (simp; done) | (simp [*]; done), by repeat (first | exact Drawn0.refl _ | apply Drawn0.step)⟩
                                  · rw [if_neg c17] at H
                                    have c17b0 : decide ((rd (rd_L8 l1 x6_3) x7_4) < 0) = false := decide_eq_false c17
                                    clear c17
                                    by_cases c18 : (rd (rd_L8 l1 x6_3) x7_4) > 96
                                    · rw [if_pos c18] at H
                                      have c18b0 : decide (96 < (rd (rd_L8 l1 x6_3) x7_4)) = true := decide_eq_true c18
                                      clear c18
                                      obtain rfl := Option.some.inj H
                                      have p386 : 0 ≤ (x6_3 : Int) := of_decide_eq_true (by first | (with_reducible assumption) | assumption)
                                      have q386 : x6_3 < (l1.length : Int) := of_decide_eq_true (by first | (with_reducible assumption) | assumption)
                                      obtain ⟨ad386, A386_0, c386_0, e386, hx386_0, hl386_0, hi386_0⟩ := at_L8 HR1.out x6_3 p386 q386
                                      cases e386
                                      have HR386_0 := Aside0.mk hi386_0
                                      have HC386_0 := Aside0.mk hl386_0
                                      clear hi386_0 hl386_0
                                      replace p386 := eq_true p386
                                      replace q386 := eq_true q386
                                      have p387 : 0 ≤ (x7_4 : Int) := of_decide_eq_true (by first | (with_reducible assumption) | assumption)
                                      have q387 : x7_4 < ((rd_L8 l1 x6_3).length : Int) := of_decide_eq_true (by first | (with_reducible assumption) | assumption)
                                      obtain ⟨ad387, e387, hx387_0⟩ := Kd.at_int HR386_0.out x7_4 p387 q387
                                      cases e387
                                      replace p387 := eq_true p387
                                      replace q387 := eq_true q387
                                      have p388 : 0 ≤ (x6_3 : Int) := of_decide_eq_true (by first | (with_reducible assumption) | assumption)
                                      have q388 : x6_3 < (l1.length : Int) := of_decide_eq_true (by first | (with_reducible assumption) | assumption)
                                      obtain ⟨ad388, A388_0, c388_0, e388, hx388_0, hl388_0, hi388_0⟩ := at_L8 HR1.out x6_3 p388 q388
                                      obtain rfl : ad386 = ad388 := (by injection e388)
                                      have HR388_0 := Aside0.mk hi388_0
                                      have HC388_0 := Aside0.mk hl388_0
                                      clear hi388_0 hl388_0
                                      replace p388 := eq_true p388
                                      replace q388 := eq_true q388
                                      have ea_ := Option.some.inj (hx386_0.symm.trans hx388_0)
                                      injection ea_ with ea_ en_ ec_
                                      subst ea_
                                      subst ec_
                                      clear en_
                                      have p389 : 0 ≤ (x7_4 : Int) := of_decide_eq_true (by first | (with_reducible assumption) | assumption)
                                      have q389 : x7_4 < ((rd_L8 l1 x6_3).length : Int) := of_decide_eq_true (by first | (with_reducible assumption) | assumption)
                                      obtain ⟨ad389, e389, hx389_0⟩ := Kd.at_int HR388_0.out x7_4 p389 q389
                                      cases e389
                                      replace p389 := eq_true p389
                                      replace q389 := eq_true q389
                                      go_wp2
                                      repeat (go_quiet (fail); try go_wp2)
                                      go_ret
                                      exact ⟨by first | rfl | (simp; done) | (simp [*]; done), by repeat (first | exact Drawn0.refl _ | apply Drawn0.step)⟩
                                    · rw [if_neg c18] at H
                                      have c18b0 : decide (96 < (rd (rd_L8 l1 x6_3) x7_4)) = false := decide_eq_false c18
                                      clear c18
                                      by_cases c19 : x7_4 < (l1.length : Int)
                                      · rw [if_pos c19] at H
                                        have c19b0 : decide (x7_4 < (l1.length : Int)) = true := decide_eq_true c19
                                        clear c19
                                        by_cases c20 : x6_3 < ((rd_L8 l1 x7_4).length : Int)
                                        · rw [if_pos c20] at H
                                          have c20b0 : decide (x6_3 < ((rd_L8 l1 x7_4).length : Int)) = true := decide_eq_true c20
                                          clear c20
                                          by_cases c21 : (rd (rd_L8 l1 x6_3) x7_4) = (rd (rd_L8 l1 x7_4) x6_3)
                                          · rw [if_pos c21] at H
                                            have c21b0 : ((rd (rd_L8 l1 x6_3) x7_4) == (rd (rd_L8 l1 x7_4) x6_3)) = true := beq_iff_eq.mpr c21
                                            have c21b1 : ((rd (rd_L8 l1 x6_3) x7_4) != (rd (rd_L8 l1 x7_4) x6_3)) = false := bne_eq_false_iff_eq.mpr c21
                                            clear c21
                                            by_cases c22 : x6_3 = x7_4
                                            · rw [if_pos c22] at H
                                              have c22b0 : (x6_3 == x7_4) = true := beq_iff_eq.mpr c22
                                              have c22b1 : (x6_3 != x7_4) = false := bne_eq_false_iff_eq.mpr c22
                                              clear c22
                                              by_cases c23 : (rd (rd_L8 l1 x6_3) x7_4) = 0
                                              · rw [if_pos c23] at H
                                                have c23b0 : ((rd (rd_L8 l1 x6_3) x7_4) == 0) = true := beq_iff_eq.mpr c23
                                                have c23b1 : ((rd (rd_L8 l1 x6_3) x7_4) != 0) = false := bne_eq_false_iff_eq.mpr c23
                                                clear c23
                                                have H' := Aside0.mk H
                                                clear H
                                                have p386 : 0 ≤ (x6_3 : Int) := of_decide_eq_true (by first | (with_reducible assumption) | assumption)
                                                have q386 : x6_3 < (l1.length : Int) := of_decide_eq_true (by first | (with_reducible assumption) | assumption)
                                                obtain ⟨ad386, A386_0, c386_0, e386, hx386_0, hl386_0, hi386_0⟩ := at_L8 HR1.out x6_3 p386 q386
                                                cases e386
                                                have HR386_0 := Aside0.mk hi386_0
                                                have HC386_0 := Aside0.mk hl386_0
                                                clear hi386_0 hl386_0
                                                replace p386 := eq_true p386
                                                replace q386 := eq_true q386
                                                have p387 : 0 ≤ (x7_4 : Int) := of_decide_eq_true (by first | (with_reducible assumption) | assumption)
                                                have q387 : x7_4 < ((rd_L8 l1 x6_3).length : Int) := of_decide_eq_true (by first | (with_reducible assumption) | assumption)
                                                obtain ⟨ad387, e387, hx387_0⟩ := Kd.at_int HR386_0.out x7_4 p387 q387
                                                cases e387
                                                replace p387 := eq_true p387
                                                replace q387 := eq_true q387
                                                have p388 : 0 ≤ (x6_3 : Int) := of_decide_eq_true (by first | (with_reducible assumption) | assumption)
                                                have q388 : x6_3 < (l1.length : Int) := of_decide_eq_true (by first | (with_reducible assumption) | assumption)
                                                obtain ⟨ad388, A388_0, c388_0, e388, hx388_0, hl388_0, hi388_0⟩ := at_L8 HR1.out x6_3 p388 q388
                                                obtain rfl : ad386 = ad388 := (by injection e388)
                                                have HR388_0 := Aside0.mk hi388_0
                                                have HC388_0 := Aside0.mk hl388_0
                                                clear hi388_0 hl388_0
                                                replace p388 := eq_true p388
                                                replace q388 := eq_true q388
                                                have ea_ := Option.some.inj (hx386_0.symm.trans hx388_0)
                                                injection ea_ with ea_ en_ ec_
                                                subst ea_
                                                subst ec_
                                                clear en_
                                                have p389 : 0 ≤ (x7_4 : Int) := of_decide_eq_true (by first | (with_reducible assumption) | assumption)
                                                have q389 : x7_4 < ((rd_L8 l1 x6_3).length : Int) := of_decide_eq_true (by first | (with_reducible assumption) | assumption)
                                                obtain ⟨ad389, e389, hx389_0⟩ := Kd.at_int HR388_0.out x7_4 p389 q389
                                                cases e389
                                                replace p389 := eq_true p389
                                                replace q389 := eq_true q389
                                                have p390 : 0 ≤ (x6_3 : Int) := of_decide_eq_true (by first | (with_reducible assumption) | assumption)
                                                have q390 : x6_3 < (l1.length : Int) := of_decide_eq_true (by first | (with_reducible assumption) | assumption)
                                                obtain ⟨ad390, A390_0, c390_0, e390, hx390_0, hl390_0, hi390_0⟩ := at_L8 HR1.out x6_3 p390 q390
                                                obtain rfl : ad386 = ad390 := (by injection e390)
                                                have HR390_0 := Aside0.mk hi390_0
                                                have HC390_0 := Aside0.mk hl390_0
                                                clear hi390_0 hl390_0
                                                replace p390 := eq_true p390
                                                replace q390 := eq_true q390
                                                have ea_ := Option.some.inj (hx386_0.symm.trans hx390_0)
                                                injection ea_ with ea_ en_ ec_
                                                subst ea_
                                                subst ec_
                                                clear en_
                                                have p391 : 0 ≤ (x7_4 : Int) := of_decide_eq_true (by first | (with_reducible assumption) | assumption)
                                                have q391 : x7_4 < ((rd_L8 l1 x6_3).length : Int) := of_decide_eq_true (by first | (with_reducible assumption) | assumption)
                                                obtain ⟨ad391, e391, hx391_0⟩ := Kd.at_int HR390_0.out x7_4 p391 q391
                                                cases e391
                                                replace p391 := eq_true p391
                                                replace q391 := eq_true q391
                                                have p392 : 0 ≤ (x7_4 : Int) := of_decide_eq_true (by first | (with_reducible assumption) | assumption)
                                                have q392 : x7_4 < (l1.length : Int) := of_decide_eq_true (by first | (with_reducible assumption) | assumption)
                                                obtain ⟨ad392, A392_0, c392_0, e392, hx392_0, hl392_0, hi392_0⟩ := at_L8 HR1.out x7_4 p392 q392
                                                obtain rfl : ad386 = ad392 := (by injection e392)
                                                have HR392_0 := Aside0.mk hi392_0
                                                have HC392_0 := Aside0.mk hl392_0
                                                clear hi392_0 hl392_0
                                                replace p392 := eq_true p392
                                                replace q392 := eq_true q392
                                                have p393 : 0 ≤ (x6_3 : Int) := of_decide_eq_true (by first | (with_reducible assumption) | assumption)
                                                have q393 : x6_3 < ((rd_L8 l1 x7_4).length : Int) := of_decide_eq_true (by first | (with_reducible assumption) | assumption)
                                                obtain ⟨ad393, e393, hx393_0⟩ := Kd.at_int HR392_0.out x6_3 p393 q393
                                                cases e393
                                                replace p393 := eq_true p393
                                                replace q393 := eq_true q393
                                                have p394 : 0 ≤ (x6_3 : Int) := of_decide_eq_true (by first | (with_reducible assumption) | assumption)
                                                have q394 : x6_3 < (l1.length : Int) := of_decide_eq_true (by first | (with_reducible assumption) | assumption)
                                                obtain ⟨ad394, A394_0, c394_0, e394, hx394_0, hl394_0, hi394_0⟩ := at_L8 HR1.out x6_3 p394 q394
                                                obtain rfl : ad386 = ad394 := (by injection e394)
                                                have HR394_0 := Aside0.mk hi394_0
                                                have HC394_0 := Aside0.mk hl394_0
                                                clear hi394_0 hl394_0
                                                replace p394 := eq_true p394
                                                replace q394 := eq_true q394
                                                have ea_ := Option.some.inj (hx386_0.symm.trans hx394_0)
                                                injection ea_ with ea_ en_ ec_
                                                subst ea_
                                                subst ec_
                                                clear en_
                                                have p395 : 0 ≤ (x7_4 : Int) := of_decide_eq_true (by first | (with_reducible assumption) | assumption)
                                                have q395 : x7_4 < ((rd_L8 l1 x6_3).length : Int) := of_decide_eq_true (by first | (with_reducible assumption) | assumption)
                                                obtain ⟨ad395, e395, hx395_0⟩ := Kd.at_int HR394_0.out x7_4 p395 q395
                                                cases e395
                                                replace p395 := eq_true p395
                                                replace q395 := eq_true q395
                                                go_wp2
                                                repeat (go_quiet (fail); try go_wp2)
                                                go_roundg k4
                                                case measure => have := HJ2.out; have := HK2.out; have := HK3.out; have := HK4.out; omega
                                                case rel => exact ⟨(wrap64 (x7_4 + 1)), (by first | rfl | (simp; done) | (simp [*]; done)), H', ⟨by have := HJ2.out; have := HK2.out; have := HK3.out; have := HK4.out; omega⟩, by repeat (first | exact Drawn0.refl _ | apply Drawn0.step)⟩
                                              · rw [if_neg c23] at H
                                                have c23b0 : ((rd (rd_L8 l1 x6_3) x7_4) == 0) = false := beq_eq_false_iff_ne.mpr c23
                                                have c23b1 : ((rd (rd_L8 l1 x6_3) x7_4) != 0) = true := bne_iff_ne.mpr c23
                                                obtain rfl := Option.some.inj H
                                                have p386 : 0 ≤ (x6_3 : Int) := of_decide_eq_true (by first | (with_reducible assumption) | assumption)
                                                have q386 : x6_3 < (l1.length : Int) := of_decide_eq_true (by first | (with_reducible assumption) | assumption)
                                                obtain ⟨ad386, A386_0, c386_0, e386, hx386_0, hl386_0, hi386_0⟩ := at_L8 HR1.out x6_3 p386 q386
                                                cases e386
                                                have HR386_0 := Aside0.mk hi386_0
                                                have HC386_0 := Aside0.mk hl386_0
                                                clear hi386_0 hl386_0
                                                replace p386 := eq_true p386
                                                replace q386 := eq_true q386
                                                have p387 : 0 ≤ (x7_4 : Int) := of_decide_eq_true (by first | (with_reducible assumption) | assumption)
                                                have q387 : x7_4 < ((rd_L8 l1 x6_3).length : Int) := of_decide_eq_true (by first | (with_reducible assumption) | assumption)
                                                obtain ⟨ad387, e387, hx387_0⟩ := Kd.at_int HR386_0.out x7_4 p387 q387
                                                cases e387
                                                replace p387 := eq_true p387
                                                replace q387 := eq_true q387
                                                have p388 : 0 ≤ (x6_3 : Int) := of_decide_eq_true (by first | (with_reducible assumption) | assumption)
                                                have q388 : x6_3 < (l1.length : Int) := of_decide_eq_true (by first | (with_reducible assumption) | assumption)
                                                obtain ⟨ad388, A388_0, c388_0, e388, hx388_0, hl388_0, hi388_0⟩ := at_L8 HR1.out x6_3 p388 q388
                                                obtain rfl : ad386 = ad388 := (by injection e388)
                                                have HR388_0 := Aside0.mk hi388_0
                                                have HC388_0 := Aside0.mk hl388_0
                                                clear hi388_0 hl388_0
                                                replace p388 := eq_true p388
                                                replace q388 := eq_true q388
                                                have ea_ := Option.some.inj (hx386_0.symm.trans hx388_0)
                                                injection ea_ with ea_ en_ ec_
                                                subst ea_
                                                subst ec_
                                                clear en_
                                                have p389 : 0 ≤ (x7_4 : Int) := of_decide_eq_true (by first | (with_reducible assumption) | assumption)
                                                have q389 : x7_4 < ((rd_L8 l1 x6_3).length : Int) := of_decide_eq_true (by first | (with_reducible assumption) | assumption)
                                                obtain ⟨ad389, e389, hx389_0⟩ := Kd.at_int HR388_0.out x7_4 p389 q389
                                                cases e389
                                                replace p389 := eq_true p389
                                                replace q389 := eq_true q389
                                                have p390 : 0 ≤ (x6_3 : Int) := of_decide_eq_true (by first | (with_reducible assumption) | assumption)
                                                have q390 : x6_3 < (l1.length : Int) := of_decide_eq_true (by first | (with_reducible assumption) | assumption)
                                                obtain ⟨ad390, A390_0, c390_0, e390, hx390_0, hl390_0, hi390_0⟩ := at_L8 HR1.out x6_3 p390 q390
                                                obtain rfl : ad386 = ad390 := (by injection e390)
                                                have HR390_0 := Aside0.mk hi390_0
                                                have HC390_0 := Aside0.mk hl390_0
                                                clear hi390_0 hl390_0
                                                replace p390 := eq_true p390
                                                replace q390 := eq_true q390
                                                have ea_ := Option.some.inj (hx386_0.symm.trans hx390_0)
                                                injection ea_ with ea_ en_ ec_
                                                subst ea_
                                                subst ec_
                                                clear en_
                                                have p391 : 0 ≤ (x7_4 : Int) := of_decide_eq_true (by first | (with_reducible assumption) | assumption)
                                                have q391 : x7_4 < ((rd_L8 l1 x6_3).length : Int) := of_decide_eq_true (by first | (with_reducible assumption) | assumption)
                                                obtain ⟨ad391, e391, hx391_0⟩ := Kd.at_int HR390_0.out x7_4 p391 q391
                                                cases e391
                                                replace p391 := eq_true p391
                                                replace q391 := eq_true q391
                                                have p392 : 0 ≤ (x7_4 : Int) := of_decide_eq_true (by first | (with_reducible assumption) | assumption)
                                                have q392 : x7_4 < (l1.length : Int) := of_decide_eq_true (by first | (with_reducible assumption) | assumption)
                                                obtain ⟨ad392, A392_0, c392_0, e392, hx392_0, hl392_0, hi392_0⟩ := at_L8 HR1.out x7_4 p392 q392
                                                obtain rfl : ad386 = ad392 := (by injection e392)
                                                have HR392_0 := Aside0.mk hi392_0
                                                have HC392_0 := Aside0.mk hl392_0
                                                clear hi392_0 hl392_0
                                                replace p392 := eq_true p392
                                                replace q392 := eq_true q392
                                                have p393 : 0 ≤ (x6_3 : Int) := of_decide_eq_true (by first | (with_reducible assumption) | assumption)
                                                have q393 : x6_3 < ((rd_L8 l1 x7_4).length : Int) := of_decide_eq_true (by first | (with_reducible assumption) | assumption)
                                                obtain ⟨ad393, e393, hx393_0⟩ := Kd.at_int HR392_0.out x6_3 p393 q393
                                                cases e393
                                                replace p393 := eq_true p393
                                                replace q393 := eq_true q393
                                                have p394 : 0 ≤ (x6_3 : Int) := of_decide_eq_true (by first | (with_reducible assumption) | assumption)
                                                have q394 : x6_3 < (l1.length : Int) := of_decide_eq_true (by first | (with_reducible assumption) | assumption)
                                                obtain ⟨ad394, A394_0, c394_0, e394, hx394_0, hl394_0, hi394_0⟩ := at_L8 HR1.out x6_3 p394 q394
                                                obtain rfl : ad386 = ad394 := (by injection e394)
                                                have HR394_0 := Aside0.mk hi394_0
                                                have HC394_0 := Aside0.mk hl394_0
                                                clear hi394_0 hl394_0
                                                replace p394 := eq_true p394
                                                replace q394 := eq_true q394
                                                have ea_ := Option.some.inj (hx386_0.symm.trans hx394_0)
                                                injection ea_ with ea_ en_ ec_
                                                subst ea_
                                                subst ec_
                                                clear en_
                                                have p395 : 0 ≤ (x7_4 : Int) := of_decide_eq_true (by first | (with_reducible assumption) | assumption)
                                                have q395 : x7_4 < ((rd_L8 l1 x6_3).length : Int) := of_decide_eq_true (by first | (with_reducible assumption) | assumption)
                                                obtain ⟨ad395, e395, hx395_0⟩ := Kd.at_int HR394_0.out x7_4 p395 q395
                                                cases e395
                                                replace p395 := eq_true p395
                                                replace q395 := eq_true q395
                                                go_wp2
                                                repeat (go_quiet (fail); try go_wp2)
                                                go_ret
                                                exact ⟨by first | rfl | (simp; done) | (simp [*]; done), by repeat (first | exact Drawn0.refl _ | apply Drawn0.step)⟩
                                            · rw [if_neg c22] at H
                                              have c22b0 : (x6_3 == x7_4) = false := beq_eq_false_iff_ne.mpr c22
                                              have c22b1 : (x6_3 != x7_4) = true := bne_iff_ne.mpr c22
                                              have H' := Aside0.mk H
                                              clear H
                                              have p386 : 0 ≤ (x6_3 : Int) := of_decide_eq_true (by first | (with_reducible assumption) | assumption)
                                              have q386 : x6_3 < (l1.length : Int) := of_decide_eq_true (by first | (with_reducible assumption) | assumption)
                                              obtain ⟨ad386, A386_0, c386_0, e386, hx386_0, hl386_0, hi386_0⟩ := at_L8 HR1.out x6_3 p386 q386
                                              cases e386
                                              have HR386_0 := Aside0.mk hi386_0
                                              have HC386_0 := Aside0.mk hl386_0
                                              clear hi386_0 hl386_0
                                              replace p386 := eq_true p386
                                              replace q386 := eq_true q386
                                              have p387 : 0 ≤ (x7_4 : Int) := of_decide_eq_true (by first | (with_reducible assumption) | assumption)
                                              have q387 : x7_4 < ((rd_L8 l1 x6_3).length : Int) := of_decide_eq_true (by first | (with_reducible assumption) | assumption)
                                              obtain ⟨ad387, e387, hx387_0⟩ := Kd.at_int HR386_0.out x7_4 p387 q387
                                              cases e387
                                              replace p387 := eq_true p387
                                              replace q387 := eq_true q387
                                              have p388 : 0 ≤ (x6_3 : Int) := of_decide_eq_true (by first | (with_reducible assumption) | assumption)
                                              have q388 : x6_3 < (l1.length : Int) := of_decide_eq_true (by first | (with_reducible assumption) | assumption)
                                              obtain ⟨ad388, A388_0, c388_0, e388, hx388_0, hl388_0, hi388_0⟩ := at_L8 HR1.out x6_3 p388 q388
                                              obtain rfl : ad386 = ad388 := (by injection e388)
                                              have HR388_0 := Aside0.mk hi388_0
                                              have HC388_0 := Aside0.mk hl388_0
                                              clear hi388_0 hl388_0
                                              replace p388 := eq_true p388
                                              replace q388 := eq_true q388
                                              have ea_ := Option.some.inj (hx386_0.symm.trans hx388_0)
                                              injection ea_ with ea_ en_ ec_
                                              subst ea_
                                              subst ec_
                                              clear en_
                                              have p389 : 0 ≤ (x7_4 : Int) := of_decide_eq_true (by first | (with_reducible assumption) | assumption)
                                              have q389 : x7_4 < ((rd_L8 l1 x6_3).length : Int) := of_decide_eq_true (by first | (with_reducible assumption) | assumption)
                                              obtain ⟨ad389, e389, hx389_0⟩ := Kd.at_int HR388_0.out x7_4 p389 q389
                                              cases e389
                                              replace p389 := eq_true p389
                                              replace q389 := eq_true q389
                                              have p390 : 0 ≤ (x6_3 : Int) := of_decide_eq_true (by first | (with_reducible assumption) | assumption)
                                              have q390 : x6_3 < (l1.length : Int) := of_decide_eq_true (by first | (with_reducible assumption) | assumption)
                                              obtain ⟨ad390, A390_0, c390_0, e390, hx390_0, hl390_0, hi390_0⟩ := at_L8 HR1.out x6_3 p390 q390
                                              obtain rfl : ad386 = ad390 := (by injection e390)
                                              have HR390_0 := Aside0.mk hi390_0
                                              have HC390_0 := Aside0.mk hl390_0
                                              clear hi390_0 hl390_0
                                              replace p390 := eq_true p390
                                              replace q390 := eq_true q390
                                              have ea_ := Option.some.inj (hx386_0.symm.trans hx390_0)
                                              injection ea_ with ea_ en_ ec_
                                              subst ea_
                                              subst ec_
                                              clear en_
                                              have p391 : 0 ≤ (x7_4 : Int) := of_decide_eq_true (by first | (with_reducible assumption) | assumption)
                                              have q391 : x7_4 < ((rd_L8 l1 x6_3).length : Int) := of_decide_eq_true (by first | (with_reducible assumption) | assumption)
                                              obtain ⟨ad391, e391, hx391_0⟩ := Kd.at_int HR390_0.out x7_4 p391 q391
                                              cases e391
                                              replace p391 := eq_true p391
                                              replace q391 := eq_true q391
                                              have p392 : 0 ≤ (x7_4 : Int) := of_decide_eq_true (by first | (with_reducible assumption) | assumption)
                                              have q392 : x7_4 < (l1.length : Int) := of_decide_eq_true (by first | (with_reducible assumption) | assumption)
                                              obtain ⟨ad392, A392_0, c392_0, e392, hx392_0, hl392_0, hi392_0⟩ := at_L8 HR1.out x7_4 p392 q392
                                              obtain rfl : ad386 = ad392 := (by injection e392)
                                              have HR392_0 := Aside0.mk hi392_0
                                              have HC392_0 := Aside0.mk hl392_0
                                              clear hi392_0 hl392_0
                                              replace p392 := eq_true p392
                                              replace q392 := eq_true q392
                                              have p393 : 0 ≤ (x6_3 : Int) := of_decide_eq_true (by first | (with_reducible assumption) | assumption)
                                              have q393 : x6_3 < ((rd_L8 l1 x7_4).length : Int) := of_decide_eq_true (by first | (with_reducible assumption) | assumption)
                                              obtain ⟨ad393, e393, hx393_0⟩ := Kd.at_int HR392_0.out x6_3 p393 q393
                                              cases e393
                                              replace p393 := eq_true p393
                                              replace q393 := eq_true q393
                                              go_wp2
                                              repeat (go_quiet (fail); try go_wp2)
                                              go_roundg k4
                                              case measure => have := HJ2.out; have := HK2.out; have := HK3.out; have := HK4.out; omega
                                              case rel => exact ⟨(wrap64 (x7_4 + 1)), (by first | rfl | (simp; done) | (simp [*]; done)), H', ⟨by have := HJ2.out; have := HK2.out; have := HK3.out; have := HK4.out; omega⟩, by repeat (first | exact Drawn0.refl _ | apply Drawn0.step)⟩
                                          · rw [if_neg c21] at H
                                            have c21b0 : ((rd (rd_L8 l1 x6_3) x7_4) == (rd (rd_L8 l1 x7_4) x6_3)) = false := beq_eq_false_iff_ne.mpr c21
                                            have c21b1 : ((rd (rd_L8 l1 x6_3) x7_4) != (rd (rd_L8 l1 x7_4) x6_3)) = true := bne_iff_ne.mpr c21
                                            obtain rfl := Option.some.inj H
                                            have p386 : 0 ≤ (x6_3 : Int) := of_decide_eq_true (by first | (with_reducible assumption) | assumption)
                                            have q386 : x6_3 < (l1.length : Int) := of_decide_eq_true (by first | (with_reducible assumption) | assumption)
                                            obtain ⟨ad386, A386_0, c386_0, e386, hx386_0, hl386_0, hi386_0⟩ := at_L8 HR1.out x6_3 p386 q386
                                            cases e386
                                            have HR386_0 := Aside0.mk hi386_0
                                            have HC386_0 := Aside0.mk hl386_0
                                            clear hi386_0 hl386_0
                                            replace p386 := eq_true p386
                                            replace q386 := eq_true q386
                                            have p387 : 0 ≤ (x7_4 : Int) := of_decide_eq_true (by first | (with_reducible assumption) | assumption)
                                            have q387 : x7_4 < ((rd_L8 l1 x6_3).length : Int) := of_decide_eq_true (by first | (with_reducible assumption) | assumption)
                                            obtain ⟨ad387, e387, hx387_0⟩ := Kd.at_int HR386_0.out x7_4 p387 q387
                                            cases e387
                                            replace p387 := eq_true p387
                                            replace q387 := eq_true q387
                                            have p388 : 0 ≤ (x6_3 : Int) := of_decide_eq_true (by first | (with_reducible assumption) | assumption)
                                            have q388 : x6_3 < (l1.length : Int) := of_decide_eq_true (by first | (with_reducible assumption) | assumption)
                                            obtain ⟨ad388, A388_0, c388_0, e388, hx388_0, hl388_0, hi388_0⟩ := at_L8 HR1.out x6_3 p388 q388
                                            obtain rfl : ad386 = ad388 := (by injection e388)
                                            have HR388_0 := Aside0.mk hi388_0
                                            have HC388_0 := Aside0.mk hl388_0
                                            clear hi388_0 hl388_0
                                            replace p388 := eq_true p388
                                            replace q388 := eq_true q388
                                            have ea_ := Option.some.inj (hx386_0.symm.trans hx388_0)
                                            injection ea_ with ea_ en_ ec_
                                            subst ea_
                                            subst ec_
                                            clear en_
                                            have p389 : 0 ≤ (x7_4 : Int) := of_decide_eq_true (by first | (with_reducible assumption) | assumption)
                                            have q389 : x7_4 < ((rd_L8 l1 x6_3).length : Int) := of_decide_eq_true (by first | (with_reducible assumption) | assumption)
                                            obtain ⟨ad389, e389, hx389_0⟩ := Kd.at_int HR388_0.out x7_4 p389 q389
                                            cases e389
                                            replace p389 := eq_true p389
                                            replace q389 := eq_true q389
                                            have p390 : 0 ≤ (x6_3 : Int) := of_decide_eq_true (by first | (with_reducible assumption) | assumption)
                                            have q390 : x6_3 < (l1.length : Int) := of_decide_eq_true (by first | (with_reducible assumption) | assumption)
                                            obtain ⟨ad390, A390_0, c390_0, e390, hx390_0, hl390_0, hi390_0⟩ := at_L8 HR1.out x6_3 p390 q390
                                            obtain rfl : ad386 = ad390 := (by injection e390)
                                            have HR390_0 := Aside0.mk hi390_0
                                            have HC390_0 := Aside0.mk hl390_0
                                            clear hi390_0 hl390_0
                                            replace p390 := eq_true p390
                                            replace q390 := eq_true q390
                                            have ea_ := Option.some.inj (hx386_0.symm.trans hx390_0)
                                            injection ea_ with ea_ en_ ec_
                                            subst ea_
                                            subst ec_
                                            clear en_
                                            have p391 : 0 ≤ (x7_4 : Int) := of_decide_eq_true (by first | (with_reducible assumption) | assumption)
                                            have q391 : x7_4 < ((rd_L8 l1 x6_3).length : Int) := of_decide_eq_true (by first | (with_reducible assumption) | assumption)
                                            obtain ⟨ad391, e391, hx391_0⟩ := Kd.at_int HR390_0.out x7_4 p391 q391
                                            cases e391
                                            replace p391 := eq_true p391
                                            replace q391 := eq_true q391
                                            have p392 : 0 ≤ (x7_4 : Int) := of_decide_eq_true (by first | (with_reducible assumption) | assumption)
                                            have q392 : x7_4 < (l1.length : Int) := of_decide_eq_true (by first | (with_reducible assumption) | assumption)
                                            obtain ⟨ad392, A392_0, c392_0, e392, hx392_0, hl392_0, hi392_0⟩ := at_L8 HR1.out x7_4 p392 q392
                                            obtain rfl : ad386 = ad392 := (by injection e392)
                                            have HR392_0 := Aside0.mk hi392_0
                                            have HC392_0 := Aside0.mk hl392_0
                                            clear hi392_0 hl392_0
                                            replace p392 := eq_true p392
                                            replace q392 := eq_true q392
                                            have p393 : 0 ≤ (x6_3 : Int) := of_decide_eq_true (by first | (with_reducible assumption) | assumption)
                                            have q393 : x6_3 < ((rd_L8 l1 x7_4).length : Int) := of_decide_eq_true (by first | (with_reducible assumption) | assumption)
                                            obtain ⟨ad393, e393, hx393_0⟩ := Kd.at_int HR392_0.out x6_3 p393 q393
                                            cases e393
                                            replace p393 := eq_true p393
                                            replace q393 := eq_true q393
                                            go_wp2
                                            repeat (go_quiet (fail); try go_wp2)
                                            go_ret
                                            exact ⟨by first | rfl | (simp; done) | (simp [*]; done), by repeat (first | exact Drawn0.refl _ | apply Drawn0.step)⟩
                                        · rw [if_neg c20] at H
                                          exact absurd H (by simp)
                                      · rw [if_neg c19] at H
                                        exact absurd H (by simp)
                                · rw [if_neg c16] at H
                                  exact absurd H (by simp)
                              · rw [if_neg c15] at H
                                exact absurd H (by simp)
                            · rw [if_neg c14] at H
                              exact absurd H (by simp)
                          · rw [if_neg c13] at H
                            exact absurd H (by simp)
                        · rw [if_neg c12] at H
                          have c12b0 : decide (x7_4 < a0) = false := decide_eq_false c12
                          clear c12
                          have H' := Aside0.mk H
                          clear H
                          go_wp2
                          repeat (go_quiet (fail); try go_wp2)
                          go_roundg k4
                          case measure => have := HJ2.out; have := HK2.out; have := HK3.out; have := HK4.out; omega
                          case rel => exact ⟨(wrap64 (x6_3 + 1)), (by first | rfl | (simp; done) | (simp [*]; done)), H', ⟨by have := HJ2.out; have := HK2.out; have := HK3.out; have := HK4.out; omega⟩, by repeat (first | exact Drawn0.refl _ | apply Drawn0.step)⟩
                  · rw [if_neg c11] at H
                    have c11b0 : decide (x6_3 < a0) = false := decide_eq_false c11
                    clear c11
                    obtain rfl := Option.some.inj H
                    go_wp2
                    repeat (go_quiet (fail); try go_wp2)
                    go_ret
                    exact ⟨by first | rfl | (simp; done) | (simp [*]; done), by repeat (first | exact Drawn0.refl _ | apply Drawn0.step)⟩
end Go.Proofs.YtineikfhfmiidaaGreat.Gp
namespace Go.Proofs.YtineikfhfmiidaaGreat.Gp
open Go.RowKit Go.Proofs.YtineikfhfmiidaaGreatW.PrintWords Go.Proofs.YtineikfhfmiidaaGreatW.PrintLast Go.Proofs.YtineikfhfmiidaaGreatW.PrintMore
set_option linter.unusedVariables false
set_option linter.unusedSimpArgs false
end Go.Proofs.YtineikfhfmiidaaGreat.Gp
namespace Go.Proofs.YtineikfhfmiidaaGreat.Gp
open Go.RowKit Go.Proofs.YtineikfhfmiidaaGreatW.PrintWords Go.Proofs.YtineikfhfmiidaaGreatW.PrintLast Go.Proofs.YtineikfhfmiidaaGreatW.PrintMore
set_option linter.unusedVariables false
set_option linter.unusedSimpArgs false
end Go.Proofs.YtineikfhfmiidaaGreat.Gp
namespace Go.Proofs.YtineikfhfmiidaaGreat.Gp
open Go.RowKit Go.Proofs.YtineikfhfmiidaaGreatW.PrintWords Go.Proofs.YtineikfhfmiidaaGreatW.PrintLast Go.Proofs.YtineikfhfmiidaaGreatW.PrintMore
set_option linter.unusedVariables false
set_option linter.unusedSimpArgs false
def horariumref17_weigh.l0 : Nat → List Int → Int → Option (Bool)
  | 0, _, _ => none
  | k + 1, x3, x4 => if x4 < (x3.length : Int) then (if 0 ≤ x4 then (if (rd x3 x4) < 0 then (some false) else (if (rd x3 x4) > 1000 then (some false) else (horariumref17_weigh.l0 k x3 (wrap64 (x4 + 1))))) else (none)) else (some true)
def horariumref17_weigh.f (k : Nat) (a0_0 : Int) (a0_1 : Int) (a0_2 : Int) (a0_3 : Int) : Option (Bool) := horariumref17_weigh.l0 k (([a0_0, a0_1, a0_2, a0_3] : List Int)) 0
set_option maxHeartbeats 8000000 in
set_option maxRecDepth 100000 in
theorem horariumref17_weigh.calls (k : Nat) (a0_0 : Int) (a0_1 : Int) (a0_2 : Int) (a0_3 : Int) (r : Bool) (w : World) (h : horariumref17_weigh.f k a0_0 a0_1 a0_2 a0_3 = some r) :
    Calls Tryz.prog 69 #[.agg #[.int .i64 a0_0, .int .i64 a0_1, .int .i64 a0_2, .int .i64 a0_3]] w fun e w' => e = .returned (.bool r) ∧ Below w.heap.size w w' := by
  have hu32 := Tryz.underlying32
  have HB := Aside0.mk (Below.refl w.heap.size w)
  have H : (horariumref17_weigh.l0 k (([a0_0, a0_1, a0_2, a0_3] : List Int)) 0) = some r := h
  clear h
  obtain ⟨y500, hy500⟩ : ∃ y_ : List Int, y_ = (([a0_0, a0_1, a0_2, a0_3] : List Int)) := ⟨_, rfl⟩
  replace H : (horariumref17_weigh.l0 k y500 0) = some r := by first | (rw [hy500]; with_reducible exact H) | (have H2_ := (Option.bind_some _ _).symm.trans H; rw [hy500]; with_reducible exact H2_) | (have H2_ := (Option.bind_some _ _).symm.trans H; with_reducible exact H2_) | with_reducible exact H | (rw [hy500]; exact H) | exact H
  have Ny500 := Aside0.mk hy500
  clear hy500
  have H' := Aside0.mk H
  clear H
  go_enter Tryz.func69, Tryz.ntmps69
  go_wp2_with (first | ((with_reducible refine gate_dst (N := 1) rfl ?_); refine box_event ?hg (N := 1) ?hd (cs := #[.int .i64 a0_0, .int .i64 a0_1, .int .i64 a0_2, .int .i64 a0_3]) (t := 32) ?hr ?_; (case hd => rfl); (case hg => rfl); (case hr => first | (go_simp; done) | (go_simp; rfl)); intro gb499 hg w2 hbox hb; have n0_ := Aside0.mk (below_step (by repeat (first | (with_reducible first | exact HB.out | apply below_alloc | apply pw_below_drewN | apply below_drew1) | exact HB.out)) hb); have n1_ := Aside0.mk (hbox); have n2_ := Aside0.mk ((by rw [hg]; exact (below_size (by repeat (first | (with_reducible first | exact HB.out | apply below_alloc | apply pw_below_drewN | apply below_drew1) | exact HB.out))) : w.heap.size ≤ gb499)); have n3_ := Aside0.mk ((by rw [hg]; exact (below_size (by repeat (first | (with_reducible first | exact HB.out | apply below_alloc | apply pw_below_drewN | apply below_drew1) | exact HB.out))) : w.heap.size ≤ gb499)); clear HB; have HB := n0_; have BK499 := n1_; have GW499 := n2_; have GE499 := n3_; clear n0_ n1_ n2_ n3_; clear hb hbox hg; have hcz3_0 : w2.cell? ⟨gb499, 0, none⟩ = some (.int .i64 a0_0) := (blk_cell BK499.out 0).trans rfl; have hcz3_1 : w2.cell? ⟨gb499, 1, none⟩ = some (.int .i64 a0_1) := (blk_cell BK499.out 1).trans rfl; have hcz3_2 : w2.cell? ⟨gb499, 2, none⟩ = some (.int .i64 a0_2) := (blk_cell BK499.out 2).trans rfl; have hcz3_3 : w2.cell? ⟨gb499, 3, none⟩ = some (.int .i64 a0_3) := (blk_cell BK499.out 3).trans rfl; have hfz3_0 := blk_frozen BK499.out 0; have hfz3_1 := blk_frozen BK499.out 1; have hfz3_2 := blk_frozen BK499.out 2; have hfz3_3 := blk_frozen BK499.out 3) | ((with_reducible refine gate_dst (N := 13) rfl ?_); refine Kd.R_lit (Kd.int .i64) _ 3 ?hg (N := 13) ?hd (xs := ([a0_0, a0_1, a0_2, a0_3] : List Int)) (inner := [.int .i64 a0_0, .int .i64 a0_1, .int .i64 a0_2, .int .i64 a0_3]) (ok := fun _ => True) (okp := fun _ => True) ?hr ?hp (fun _ hk => hk) trivial (Below.refl _ _) (Nat.le_refl _) (by simp) ?_; (case hd => rfl); (case hg => rfl); (case hr => first | (go_simp; done) | (go_simp; rfl)); (case hp => exact (Reps.one (show Kd.M (Kd.int .i64) _ _ _ a0_0 [.int .i64 a0_0] from rfl) (Reps.one (show Kd.M (Kd.int .i64) _ _ _ a0_1 [.int .i64 a0_1] from rfl) (Reps.one (show Kd.M (Kd.int .i64) _ _ _ a0_2 [.int .i64 a0_2] from rfl) (Reps.one (show Kd.M (Kd.int .i64) _ _ _ a0_3 [.int .i64 a0_3] from rfl) (Reps.none _ _)))))); intro v501 w4 ho5 hb hg_ hnew_; clear hg_ hnew_; (first | rw [← Ny500.out] at ho5 | (simp only [Int.reduceToNat] at ho5; rw [← Ny500.out] at ho5)); have n0_ := Aside0.mk (Kd.R_lower ho5 (below_size (by repeat (first | (with_reducible first | exact HB.out | apply below_alloc | apply pw_below_drewN | apply below_drew1 | refine below_set ?_ GE499.out) | exact HB.out)))); have n1_ := Aside0.mk (blk_below (g := gb499) (o := .cells #[.int .i64 a0_0, .int .i64 a0_1, .int .i64 a0_2, .int .i64 a0_3] 32 (0, 0)) (by (with_reducible repeat (first | refine blk_drewN ?_ _ | refine blk_drew ?_ | refine blk_alloc ?_ _)); exact BK499.out) hb); have n2_ := Aside0.mk (below_step (by repeat (first | (with_reducible first | exact HB.out | apply below_alloc | apply pw_below_drewN | apply below_drew1 | refine below_set ?_ GE499.out) | exact HB.out)) hb); clear BK499; clear HB; have HO502 := n0_; have BK499 := n1_; have HB := n2_; clear n0_ n1_ n2_; clear hb ho5))
  go_loopg [4] k (fun kq v4 w' => ∃ (x4_1 : Int), v4 = .int .i64 x4_1 ∧ Aside0 (horariumref17_weigh.l0 kq y500 x4_1 = some r) ∧ Aside0 (kq ≤ k) ∧ Aside0 (Kd.R (Kd.int .i64) 3 w' w.heap.size (fun _ => True) v501 y500) ∧ Aside0 (w'.heap[gb499]? = some (.cells #[.int .i64 a0_0, .int .i64 a0_1, .int .i64 a0_2, .int .i64 a0_3] 32 (0, 0))) ∧ Aside0 (Below w.heap.size w w'))
  case atStart => exact ⟨(0), (by first | rfl | (simp; done) | (simp [*]; done)), H', ⟨Nat.le_refl _⟩, ⟨by (with_reducible repeat (first | apply Kd.R_alloc | apply Kd.R_drewN | apply Kd.R_drew)); exact HO502.out⟩, ⟨by (with_reducible repeat (first | refine blk_drewN ?_ _ | refine blk_drew ?_ | refine blk_alloc ?_ _)); exact BK499.out⟩, ⟨by repeat (first | (with_reducible first | exact HB.out | apply below_alloc | apply pw_below_drewN | apply below_drew1 | refine below_set ?_ GE499.out) | exact HB.out)⟩⟩
  case round =>
    clear H'
    try clear p2
    try clear hcz3_0
    try clear hcz3_1
    try clear hcz3_2
    try clear hcz3_3
    try clear hfz3_0
    try clear hfz3_1
    try clear hfz3_2
    try clear hfz3_3
    obtain ⟨x4_1, rfl, HA, HK1, HO_3, BK499, HB⟩ := hrel
    cases gk with
    | zero => exact absurd HA.out (by simp [horariumref17_weigh.l0])
    | succ k1 =>
      have H := HA.out
      clear HA
      simp only [horariumref17_weigh.l0] at H
      by_cases c6 : x4_1 < (y500.length : Int)
      · rw [if_pos c6] at H
        have c6b0 : decide (x4_1 < (y500.length : Int)) = true := decide_eq_true c6
        clear c6
        by_cases c7 : 0 ≤ x4_1
        · rw [if_pos c7] at H
          have c7b0 : decide (0 ≤ x4_1) = true := decide_eq_true c7
          clear c7
          by_cases c8 : (rd y500 x4_1) < 0
          · rw [if_pos c8] at H
            have c8b0 : decide ((rd y500 x4_1) < 0) = true := decide_eq_true c8
            clear c8
            obtain rfl := Option.some.inj H
            obtain ⟨Ao9, co9, eo9⟩ := Kd.R_slice HO_3.out
            subst eo9
            have p503 : 0 ≤ (x4_1 : Int) := of_decide_eq_true (by first | (with_reducible assumption) | assumption)
            have q503 : x4_1 < (y500.length : Int) := of_decide_eq_true (by first | (with_reducible assumption) | assumption)
            obtain ⟨ad503, e503, hx503_0⟩ := Kd.at_int (Kd.R_reads' HO_3.out).2.2 x4_1 p503 q503
            cases e503
            replace p503 := eq_true p503
            replace q503 := eq_true q503
            go_wp2
            go_ret
            exact ⟨by first | rfl | (simp [errW_none, errW_some] <;> rfl) | (simp [*, errW_none, errW_some] <;> rfl), by repeat (first | (with_reducible first | exact HB.out | apply below_alloc | apply pw_below_drewN | apply below_drew1 | refine below_set ?_ GE499.out) | exact HB.out)⟩
          · rw [if_neg c8] at H
            have c8b0 : decide ((rd y500 x4_1) < 0) = false := decide_eq_false c8
            clear c8
            by_cases c10 : (rd y500 x4_1) > 1000
            · rw [if_pos c10] at H
              have c10b0 : decide (1000 < (rd y500 x4_1)) = true := decide_eq_true c10
              clear c10
              obtain rfl := Option.some.inj H
              obtain ⟨Ao11, co11, eo11⟩ := Kd.R_slice HO_3.out
              subst eo11
              have p503 : 0 ≤ (x4_1 : Int) := of_decide_eq_true (by first | (with_reducible assumption) | assumption)
              have q503 : x4_1 < (y500.length : Int) := of_decide_eq_true (by first | (with_reducible assumption) | assumption)
              obtain ⟨ad503, e503, hx503_0⟩ := Kd.at_int (Kd.R_reads' HO_3.out).2.2 x4_1 p503 q503
              cases e503
              replace p503 := eq_true p503
              replace q503 := eq_true q503
              have p504 : 0 ≤ (x4_1 : Int) := of_decide_eq_true (by first | (with_reducible assumption) | assumption)
              have q504 : x4_1 < (y500.length : Int) := of_decide_eq_true (by first | (with_reducible assumption) | assumption)
              obtain ⟨ad504, e504, hx504_0⟩ := Kd.at_int (Kd.R_reads' HO_3.out).2.2 x4_1 p504 q504
              obtain rfl : ad503 = ad504 := (by injection e504)
              replace p504 := eq_true p504
              replace q504 := eq_true q504
              go_wp2
              go_ret
              exact ⟨by first | rfl | (simp [errW_none, errW_some] <;> rfl) | (simp [*, errW_none, errW_some] <;> rfl), by repeat (first | (with_reducible first | exact HB.out | apply below_alloc | apply pw_below_drewN | apply below_drew1 | refine below_set ?_ GE499.out) | exact HB.out)⟩
            · rw [if_neg c10] at H
              have c10b0 : decide (1000 < (rd y500 x4_1)) = false := decide_eq_false c10
              clear c10
              have H' := Aside0.mk H
              clear H
              obtain ⟨Ao12, co12, eo12⟩ := Kd.R_slice HO_3.out
              subst eo12
              have p503 : 0 ≤ (x4_1 : Int) := of_decide_eq_true (by first | (with_reducible assumption) | assumption)
              have q503 : x4_1 < (y500.length : Int) := of_decide_eq_true (by first | (with_reducible assumption) | assumption)
              obtain ⟨ad503, e503, hx503_0⟩ := Kd.at_int (Kd.R_reads' HO_3.out).2.2 x4_1 p503 q503
              cases e503
              replace p503 := eq_true p503
              replace q503 := eq_true q503
              have p504 : 0 ≤ (x4_1 : Int) := of_decide_eq_true (by first | (with_reducible assumption) | assumption)
              have q504 : x4_1 < (y500.length : Int) := of_decide_eq_true (by first | (with_reducible assumption) | assumption)
              obtain ⟨ad504, e504, hx504_0⟩ := Kd.at_int (Kd.R_reads' HO_3.out).2.2 x4_1 p504 q504
              obtain rfl : ad503 = ad504 := (by injection e504)
              replace p504 := eq_true p504
              replace q504 := eq_true q504
              go_wp2
              go_roundg k1
              case measure => have := HK1.out; omega
              case rel => exact ⟨(wrap64 (x4_1 + 1)), (by first | rfl | (simp; done) | (simp [*]; done)), H', ⟨by have := HK1.out; omega⟩, ⟨by (with_reducible repeat (first | apply Kd.R_alloc | apply Kd.R_drewN | apply Kd.R_drew)); exact HO_3.out⟩, ⟨by (with_reducible repeat (first | refine blk_drewN ?_ _ | refine blk_drew ?_ | refine blk_alloc ?_ _)); exact BK499.out⟩, ⟨by repeat (first | (with_reducible first | exact HB.out | apply below_alloc | apply pw_below_drewN | apply below_drew1 | refine below_set ?_ GE499.out) | exact HB.out)⟩⟩
        · rw [if_neg c7] at H
          exact absurd H (by simp)
      · rw [if_neg c6] at H
        have c6b0 : decide (x4_1 < (y500.length : Int)) = false := decide_eq_false c6
        clear c6
        obtain rfl := Option.some.inj H
        obtain ⟨Ao13, co13, eo13⟩ := Kd.R_slice HO_3.out
        subst eo13
        go_wp2
        go_ret
        exact ⟨by first | rfl | (simp [errW_none, errW_some] <;> rfl) | (simp [*, errW_none, errW_some] <;> rfl), by repeat (first | (with_reducible first | exact HB.out | apply below_alloc | apply pw_below_drewN | apply below_drew1 | refine below_set ?_ GE499.out) | exact HB.out)⟩
end Go.Proofs.YtineikfhfmiidaaGreat.Gp
namespace Go.Proofs.YtineikfhfmiidaaGreat.Pm
open Go Go.RowKit Go.Proofs.YtineikfhfmiidaaGreat.Gp Go.Proofs.YtineikfhfmiidaaGreat.Mw Go.Proofs.YtineikfhfmiidaaGreatW.PrintWords Go.Proofs.YtineikfhfmiidaaGreatW.PrintLast Go.Proofs.YtineikfhfmiidaaGreatW.PrintMore
set_option linter.unusedVariables false
set_option linter.unusedSimpArgs false
theorem rdl_nat (l : List (List Int)) (i : Nat) : Gp.rd_L8 l (i : Int) = l.getD i [] := by
  unfold Gp.rd_L8
  rw [Int.toNat_natCast]
/-- May a number stand there? -/
def cellB (l : List (List Int)) (i j : Nat) : Bool := decide (0 ≤ (l.getD i []).getD j 0 ∧ (l.getD i []).getD j 0 ≤ 96 ∧ (l.getD i []).getD j 0 = (l.getD j []).getD i 0 ∧ (i = j → (l.getD i []).getD j 0 = 0))
def squareB (l : List (List Int)) : Bool := allAt l.length (fun i => decide ((l.getD i []).length = l.length))
def cellsB (l : List (List Int)) : Bool := allAt l.length (fun i => allAt l.length (cellB l i))
/-- May a walk be, of so many rooms? -/
def walkB (n : Int) (l : List (List Int)) : Bool := decide (0 ≤ n) && (decide (n ≤ 24) && (decide ((l.length : Int) = n) && (squareB l && cellsB l)))
theorem cells_bad {l : List (List Int)} {i j : Nat} (hi : i < l.length) (hj : j < l.length) (h : cellB l i j = false) : cellsB l = false := allAt_bad hi (allAt_bad hj h)
theorem cell_no {l : List (List Int)} {i j : Nat} (h : ¬ (0 ≤ (l.getD i []).getD j 0 ∧ (l.getD i []).getD j 0 ≤ 96 ∧ (l.getD i []).getD j 0 = (l.getD j []).getD i 0 ∧ (i = j → (l.getD i []).getD j 0 = 0))) : cellB l i j = false := decide_eq_false h
theorem cell_yes {l : List (List Int)} {i j : Nat} (h : 0 ≤ (l.getD i []).getD j 0 ∧ (l.getD i []).getD j 0 ≤ 96 ∧ (l.getD i []).getD j 0 = (l.getD j []).getD i 0 ∧ (i = j → (l.getD i []).getD j 0 = 0)) : cellB l i j = true := decide_eq_true h
theorem more_all {n i : Nat} {q : Nat → Bool} (h : ∀ j, j < i → q j = true) (hi : q i = true) : ∀ j, j < i + 1 → q j = true := fun j hj => by
  by_cases e : j = i
  · rw [e]; exact hi
  · exact h j (by omega)
section
variable (l : List (List Int)) (hl : l.length ≤ 1000) (hsq : ∀ i, i < l.length → (l.getD i []).length = l.length)
include hl hsq
theorem walk2_ev (i : Nat) (hi : i < l.length) (hn : allAt l.length (cellB l i) = true → Ev (fun k => Gp.room_RightWalk.l1 k l l (l.length : Int) ((i + 1 : Nat) : Int)) (cellsB l)) : ∀ d j : Nat, d + j = l.length → (∀ j', j' < j → cellB l i j' = true) → Ev (fun k => Gp.room_RightWalk.l2 k l (i : Int) l (l.length : Int) (i : Int) (l.getD i []) (l.length : Int) (j : Int)) (cellsB l) := by
  intro d
  induction d with
  | zero =>
    intro j hj hc
    refine Ev.step (fun k => ?_) (hn (allAt_all (fun j' h => hc j' (by omega))))
    simp only [Gp.room_RightWalk.l2]
    rw [if_neg (by omega), wr1 (by omega)]
  | succ d ih =>
    intro j hj hc
    have hjl : j < l.length := by omega
    have hsi := hsq i hi
    have hsj := hsq j hjl
    generalize hx : (l.getD i []).getD j 0 = x at *
    generalize hy : (l.getD j []).getD i 0 = y at *
    have hno : ¬ (0 ≤ x ∧ x ≤ 96 ∧ x = y ∧ (i = j → x = 0)) → cellsB l = false := fun h => cells_bad hi hjl (cell_no (by rw [hx, hy]; exact h))
    by_cases h1 : x < 0
    · rw [hno (by omega)]
      refine Ev.step (f := fun _ => some false) (fun k => ?_) (Ev.now _)
      simp only [Gp.room_RightWalk.l2]
      rw [if_pos (by omega), if_pos (by omega), if_pos (by omega), rd_nat, hx, if_pos h1]
    by_cases h2 : x > 96
    · rw [hno (by omega)]
      refine Ev.step (f := fun _ => some false) (fun k => ?_) (Ev.now _)
      simp only [Gp.room_RightWalk.l2]
      rw [if_pos (by omega), if_pos (by omega), if_pos (by omega), rd_nat, hx, if_neg h1, if_pos h2]
    by_cases h3 : x = y
    rotate_left
    · rw [hno (by omega)]
      refine Ev.step (f := fun _ => some false) (fun k => ?_) (Ev.now _)
      simp only [Gp.room_RightWalk.l2]
      rw [if_pos (by omega), if_pos (by omega), if_pos (by omega), rd_nat, hx, if_neg h1, if_neg h2, if_pos (by omega), if_pos (by omega), rdl_nat, if_pos (by omega), rd_nat, hy, if_neg h3]
    by_cases h4 : i = j
    · by_cases h5 : x > 0
      · rw [hno (by omega)]
        refine Ev.step (f := fun _ => some false) (fun k => ?_) (Ev.now _)
        simp only [Gp.room_RightWalk.l2]
        rw [if_pos (by omega), if_pos (by omega), if_pos (by omega), rd_nat, hx, if_neg h1, if_neg h2, if_pos (by omega), if_pos (by omega), rdl_nat, if_pos (by omega), rd_nat, hy, if_pos h3, if_pos (by omega), if_pos h5]
      · refine Ev.step (fun k => ?_) (ih (j + 1) (by omega) (more_all (n := 0) hc (cell_yes (by rw [hx, hy]; exact ⟨by omega, by omega, h3, fun _ => by omega⟩))))
        simp only [Gp.room_RightWalk.l2]
        rw [if_pos (by omega), if_pos (by omega), if_pos (by omega), rd_nat, hx, if_neg h1, if_neg h2, if_pos (by omega), if_pos (by omega), rdl_nat, if_pos (by omega), rd_nat, hy, if_pos h3, if_pos (by omega), if_neg h5, wr1 (by omega)]
    · refine Ev.step (fun k => ?_) (ih (j + 1) (by omega) (more_all (n := 0) hc (cell_yes (by rw [hx, hy]; exact ⟨by omega, by omega, h3, fun e => absurd e h4⟩))))
      simp only [Gp.room_RightWalk.l2]
      rw [if_pos (by omega), if_pos (by omega), if_pos (by omega), rd_nat, hx, if_neg h1, if_neg h2, if_pos (by omega), if_pos (by omega), rdl_nat, if_pos (by omega), rd_nat, hy, if_pos h3, if_neg (by omega), wr1 (by omega)]
theorem walk1_ev : ∀ d i : Nat, d + i = l.length → (∀ i', i' < i → allAt l.length (cellB l i') = true) → Ev (fun k => Gp.room_RightWalk.l1 k l l (l.length : Int) (i : Int)) (cellsB l) := by
  intro d
  induction d with
  | zero =>
    intro i hi hc
    rw [show cellsB l = true from allAt_all (fun j h => hc j (by omega))]
    refine Ev.step (f := fun _ => some true) (fun k => ?_) (Ev.now _)
    simp only [Gp.room_RightWalk.l1]
    rw [if_neg (by omega)]
  | succ d ih =>
    intro i hi hc
    refine Ev.step (fun k => ?_) (walk2_ev l hl hsq i (by omega) (fun h => ih (i + 1) (by omega) (more_all (n := 0) hc h)) l.length 0 (by omega) (fun j hj => by omega))
    simp only [Gp.room_RightWalk.l1]
    rw [if_pos (by omega), if_pos (by omega), if_pos (by omega), rdl_nat, hsq i (by omega)]
    rfl
theorem dwalk2_ev (i : Nat) (hi : i < l.length) (hn : allAt l.length (cellB l i) = true → Ev (fun k => Gp.horariumref11_RightWalk.l1 k (l.length : Int) l ((i + 1 : Nat) : Int)) (cellsB l)) : ∀ d j : Nat, d + j = l.length → (∀ j', j' < j → cellB l i j' = true) → Ev (fun k => Gp.horariumref11_RightWalk.l2 k (l.length : Int) l (i : Int) (j : Int)) (cellsB l) := by
  intro d
  induction d with
  | zero =>
    intro j hj hc
    refine Ev.step (fun k => ?_) (hn (allAt_all (fun j' h => hc j' (by omega))))
    simp only [Gp.horariumref11_RightWalk.l2]
    rw [if_neg (by omega), wr1 (by omega)]
  | succ d ih =>
    intro j hj hc
    have hjl : j < l.length := by omega
    have hsi := hsq i hi
    have hsj := hsq j hjl
    generalize hx : (l.getD i []).getD j 0 = x at *
    generalize hy : (l.getD j []).getD i 0 = y at *
    have hno : ¬ (0 ≤ x ∧ x ≤ 96 ∧ x = y ∧ (i = j → x = 0)) → cellsB l = false := fun h => cells_bad hi hjl (cell_no (by rw [hx, hy]; exact h))
    by_cases h1 : x < 0
    · rw [hno (by omega)]
      refine Ev.step (f := fun _ => some false) (fun k => ?_) (Ev.now _)
      simp only [Gp.horariumref11_RightWalk.l2]
      rw [if_pos (by omega), if_pos (by omega), if_pos (by omega), if_pos (by omega), rdl_nat, if_pos (by omega), rd_nat, hx, if_pos h1]
    by_cases h2 : x > 96
    · rw [hno (by omega)]
      refine Ev.step (f := fun _ => some false) (fun k => ?_) (Ev.now _)
      simp only [Gp.horariumref11_RightWalk.l2]
      rw [if_pos (by omega), if_pos (by omega), if_pos (by omega), if_pos (by omega), rdl_nat, if_pos (by omega), rd_nat, hx, if_neg h1, if_pos h2]
    by_cases h3 : x = y
    rotate_left
    · rw [hno (by omega)]
      refine Ev.step (f := fun _ => some false) (fun k => ?_) (Ev.now _)
      simp only [Gp.horariumref11_RightWalk.l2]
      rw [if_pos (by omega), if_pos (by omega), if_pos (by omega), if_pos (by omega), rdl_nat, if_pos (by omega), rd_nat, hx, if_neg h1, if_neg h2, if_pos (by omega), rdl_nat, if_pos (by omega), rd_nat, hy, if_neg h3]
    by_cases h4 : i = j
    · by_cases h5 : x = 0
      rotate_left
      · rw [hno (by omega)]
        refine Ev.step (f := fun _ => some false) (fun k => ?_) (Ev.now _)
        simp only [Gp.horariumref11_RightWalk.l2]
        rw [if_pos (by omega), if_pos (by omega), if_pos (by omega), if_pos (by omega), rdl_nat, if_pos (by omega), rd_nat, hx, if_neg h1, if_neg h2, if_pos (by omega), rdl_nat, if_pos (by omega), rd_nat, hy, if_pos h3, if_pos (by omega), if_neg h5]
      · refine Ev.step (fun k => ?_) (ih (j + 1) (by omega) (more_all (n := 0) hc (cell_yes (by rw [hx, hy]; exact ⟨by omega, by omega, h3, fun _ => h5⟩))))
        simp only [Gp.horariumref11_RightWalk.l2]
        rw [if_pos (by omega), if_pos (by omega), if_pos (by omega), if_pos (by omega), rdl_nat, if_pos (by omega), rd_nat, hx, if_neg h1, if_neg h2, if_pos (by omega), rdl_nat, if_pos (by omega), rd_nat, hy, if_pos h3, if_pos (by omega), if_pos h5, wr1 (by omega)]
    · refine Ev.step (fun k => ?_) (ih (j + 1) (by omega) (more_all (n := 0) hc (cell_yes (by rw [hx, hy]; exact ⟨by omega, by omega, h3, fun e => absurd e h4⟩))))
      simp only [Gp.horariumref11_RightWalk.l2]
      rw [if_pos (by omega), if_pos (by omega), if_pos (by omega), if_pos (by omega), rdl_nat, if_pos (by omega), rd_nat, hx, if_neg h1, if_neg h2, if_pos (by omega), rdl_nat, if_pos (by omega), rd_nat, hy, if_pos h3, if_neg (by omega), wr1 (by omega)]
theorem dwalk1_ev : ∀ d i : Nat, d + i = l.length → (∀ i', i' < i → allAt l.length (cellB l i') = true) → Ev (fun k => Gp.horariumref11_RightWalk.l1 k (l.length : Int) l (i : Int)) (cellsB l) := by
  intro d
  induction d with
  | zero =>
    intro i hi hc
    rw [show cellsB l = true from allAt_all (fun j h => hc j (by omega))]
    refine Ev.step (f := fun _ => some true) (fun k => ?_) (Ev.now _)
    simp only [Gp.horariumref11_RightWalk.l1]
    rw [if_neg (by omega)]
  | succ d ih =>
    intro i hi hc
    refine Ev.step (fun k => ?_) (dwalk2_ev l hl hsq i (by omega) (fun h => ih (i + 1) (by omega) (more_all (n := 0) hc h)) l.length 0 (by omega) (fun j hj => by omega))
    simp only [Gp.horariumref11_RightWalk.l1]
    rw [if_pos (by omega)]
    rfl
end
theorem square_all {l : List (List Int)} (h : ∀ j, j < l.length → decide ((l.getD j []).length = l.length) = true) : ∀ i, i < l.length → (l.getD i []).length = l.length := fun i hi => of_decide_eq_true (h i hi)
theorem walk0_ev (l : List (List Int)) (hl : l.length ≤ 1000) : ∀ d i : Nat, d + i = l.length → (∀ i', i' < i → decide ((l.getD i' []).length = l.length) = true) → Ev (fun k => Gp.room_RightWalk.l0 k (l.length : Int) l l (l.length : Int) (i : Int)) (squareB l && cellsB l) := by
  intro d
  induction d with
  | zero =>
    intro i hi hc
    have hs : ∀ j, j < l.length → decide ((l.getD j []).length = l.length) = true := fun j h => hc j (by omega)
    rw [show squareB l = true from allAt_all hs, Bool.true_and]
    refine Ev.step (fun k => ?_) (walk1_ev l hl (square_all hs) l.length 0 (by omega) (fun j hj => by omega))
    simp only [Gp.room_RightWalk.l0]
    rw [if_neg (by omega)]
    rfl
  | succ d ih =>
    intro i hi hc
    by_cases h1 : (l.getD i []).length = l.length
    · refine Ev.step (fun k => ?_) (ih (i + 1) (by omega) (more_all (n := 0) (q := fun i => decide ((l.getD i []).length = l.length)) hc (decide_eq_true h1)))
      simp only [Gp.room_RightWalk.l0]
      rw [if_pos (by omega), if_pos (by omega), if_pos (by omega), rdl_nat, if_pos (by omega), wr1 (by omega)]
    · rw [show squareB l = false from allAt_bad (i := i) (by omega) (decide_eq_false h1), Bool.false_and]
      refine Ev.step (f := fun _ => some false) (fun k => ?_) (Ev.now _)
      simp only [Gp.room_RightWalk.l0]
      rw [if_pos (by omega), if_pos (by omega), if_pos (by omega), rdl_nat, if_neg (by omega)]
theorem dwalk0_ev (l : List (List Int)) (hl : l.length ≤ 1000) : ∀ d i : Nat, d + i = l.length → (∀ i', i' < i → decide ((l.getD i' []).length = l.length) = true) → Ev (fun k => Gp.horariumref11_RightWalk.l0 k (l.length : Int) l (i : Int)) (squareB l && cellsB l) := by
  intro d
  induction d with
  | zero =>
    intro i hi hc
    have hs : ∀ j, j < l.length → decide ((l.getD j []).length = l.length) = true := fun j h => hc j (by omega)
    rw [show squareB l = true from allAt_all hs, Bool.true_and]
    refine Ev.step (fun k => ?_) (dwalk1_ev l hl (square_all hs) l.length 0 (by omega) (fun j hj => by omega))
    simp only [Gp.horariumref11_RightWalk.l0]
    rw [if_neg (by omega)]
    rfl
  | succ d ih =>
    intro i hi hc
    by_cases h1 : (l.getD i []).length = l.length
    · refine Ev.step (fun k => ?_) (ih (i + 1) (by omega) (more_all (n := 0) (q := fun i => decide ((l.getD i []).length = l.length)) hc (decide_eq_true h1)))
      simp only [Gp.horariumref11_RightWalk.l0]
      rw [if_pos (by omega), if_pos (by omega), if_pos (by omega), rdl_nat, if_pos (by omega), wr1 (by omega)]
    · rw [show squareB l = false from allAt_bad (i := i) (by omega) (decide_eq_false h1), Bool.false_and]
      refine Ev.step (f := fun _ => some false) (fun k => ?_) (Ev.now _)
      simp only [Gp.horariumref11_RightWalk.l0]
      rw [if_pos (by omega), if_pos (by omega), if_pos (by omega), rdl_nat, if_neg (by omega)]
theorem qwalk (l : List (List Int)) (hl : l.length ≤ 1000) (n : Int) : Ev (fun k => Gp.room_RightWalk.f k n l) (walkB n l) := by
  have no : ∀ k, Gp.room_RightWalk.j0 (k + 1) n l true = some false := fun k => by simp only [Gp.room_RightWalk.j0]; rfl
  unfold walkB
  by_cases h0 : 0 ≤ n
  rotate_left
  · rw [decide_eq_false h0, Bool.false_and]
    refine Ev.step (f := fun _ => some false) (fun k => ?_) (Ev.now _)
    simp only [Gp.room_RightWalk.f]
    rw [if_pos (by omega), no]
  by_cases h1 : n ≤ 24
  rotate_left
  · rw [decide_eq_false h1, Bool.false_and, Bool.and_false]
    refine Ev.step (f := fun _ => some false) (fun k => ?_) (Ev.now _)
    simp only [Gp.room_RightWalk.f]
    rw [if_neg (by omega), if_pos (by omega), no]
  rw [decide_eq_true h0, decide_eq_true h1, Bool.true_and, Bool.true_and]
  by_cases h2 : (l.length : Int) = n
  rotate_left
  · rw [decide_eq_false h2, Bool.false_and]
    refine Ev.step (f := fun _ => some false) (fun k => ?_) (Ev.now _)
    simp only [Gp.room_RightWalk.f]
    rw [if_neg (by omega), if_neg (by omega), show ((l.length : Int) != n) = true from bne_iff_ne.2 h2, no]
  · rw [decide_eq_true h2, Bool.true_and]
    subst h2
    refine Ev.step (fun k => ?_) (walk0_ev l hl l.length 0 (by omega) (fun j hj => by omega))
    simp only [Gp.room_RightWalk.f]
    rw [if_neg (by omega), if_neg (by omega), show ((l.length : Int) != (l.length : Int)) = false from bne_self_eq_false _]
    simp only [Gp.room_RightWalk.j0]
    first | rfl | (rw [if_neg Bool.false_ne_true]; rfl)
theorem rwalk (l : List (List Int)) (hl : l.length ≤ 1000) (n : Int) : Ev (fun k => Gp.horariumref11_RightWalk.f k n l) (walkB n l) := by
  have no : ∀ k, Gp.horariumref11_RightWalk.j0 (k + 1) n l true = some false := fun k => by simp only [Gp.horariumref11_RightWalk.j0]; rfl
  unfold walkB
  by_cases h0 : 0 ≤ n
  rotate_left
  · rw [decide_eq_false h0, Bool.false_and]
    refine Ev.step (f := fun _ => some false) (fun k => ?_) (Ev.now _)
    simp only [Gp.horariumref11_RightWalk.f]
    rw [if_pos (by omega), no]
  by_cases h1 : n ≤ 24
  rotate_left
  · rw [decide_eq_false h1, Bool.false_and, Bool.and_false]
    refine Ev.step (f := fun _ => some false) (fun k => ?_) (Ev.now _)
    simp only [Gp.horariumref11_RightWalk.f]
    rw [if_neg (by omega), if_pos (by omega), no]
  rw [decide_eq_true h0, decide_eq_true h1, Bool.true_and, Bool.true_and]
  by_cases h2 : (l.length : Int) = n
  rotate_left
  · rw [decide_eq_false h2, Bool.false_and]
    refine Ev.step (f := fun _ => some false) (fun k => ?_) (Ev.now _)
    simp only [Gp.horariumref11_RightWalk.f]
    rw [if_neg (by omega), if_neg (by omega), show ((l.length : Int) != n) = true from bne_iff_ne.2 h2, no]
  · rw [decide_eq_true h2, Bool.true_and]
    subst h2
    refine Ev.step (fun k => ?_) (dwalk0_ev l hl l.length 0 (by omega) (fun j hj => by omega))
    simp only [Gp.horariumref11_RightWalk.f]
    rw [if_neg (by omega), if_neg (by omega), show ((l.length : Int) != (l.length : Int)) = false from bne_self_eq_false _]
    simp only [Gp.horariumref11_RightWalk.j0]
    first | rfl | (rw [if_neg Bool.false_ne_true]; rfl)
end Go.Proofs.YtineikfhfmiidaaGreat.Pm
