/- What the law rests on, part 6: words over the model, contracts of functions, plain facts. -/
import Derived.Laws.Strings
import Derived.Test.YtineikfhfmiidaaGreatQC5
namespace Go.Proofs.YtineikfhfmiidaaGreat.Gp
open Go.RowKit Go.Proofs.YtineikfhfmiidaaGreatW.PrintWords Go.Proofs.YtineikfhfmiidaaGreatW.PrintLast Go.Proofs.YtineikfhfmiidaaGreatW.PrintMore
set_option linter.unusedVariables false
set_option linter.unusedSimpArgs false
def horariumref13_cost.f (a0 : Int) : Option (Bool) := if a0 ≥ 0 then (some (decide (a0 ≤ 1000))) else (some false)
set_option maxHeartbeats 8000000 in
set_option maxRecDepth 100000 in
theorem horariumref13_cost.calls (a0 : Int) (r : Bool) (w : World) (h : horariumref13_cost.f a0 = some r) :
    Calls Tryz.prog 182 #[.int .i64 a0] w fun e w' => e = .returned (.bool r) ∧ Drawn0 w w' := by
  have H : (if a0 ≥ 0 then (some (decide (a0 ≤ 1000))) else (some false)) = some r := h
  clear h
  by_cases c2 : a0 ≥ 0
  · rw [if_pos c2] at H
    have c2b0 : decide (0 ≤ a0) = true := decide_eq_true c2
    clear c2
    obtain rfl := Option.some.inj H
    go_enter Tryz.func182, Tryz.ntmps182
    go_wp2
    go_ret
    exact ⟨by first | rfl | (simp; done) | (simp [*]; done), by repeat (first | exact Drawn0.refl _ | apply Drawn0.step)⟩
  · rw [if_neg c2] at H
    have c2b0 : decide (0 ≤ a0) = false := decide_eq_false c2
    clear c2
    obtain rfl := Option.some.inj H
    go_enter Tryz.func182, Tryz.ntmps182
    go_wp2
    go_ret
    exact ⟨by first | rfl | (simp; done) | (simp [*]; done), by repeat (first | exact Drawn0.refl _ | apply Drawn0.step)⟩
end Go.Proofs.YtineikfhfmiidaaGreat.Gp
namespace Go.Proofs.YtineikfhfmiidaaGreat.Gp
open Go.RowKit Go.Proofs.YtineikfhfmiidaaGreatW.PrintWords Go.Proofs.YtineikfhfmiidaaGreatW.PrintLast Go.Proofs.YtineikfhfmiidaaGreatW.PrintMore
set_option linter.unusedVariables false
set_option linter.unusedSimpArgs false
attribute [local go_sem high] eqA50
mutual
def horariumref13_times.l0 : Nat → List (S117) → Int → Int → Int → Int → Option (Bool)
  | 0, _, _, _, _, _ => none
  | k + 1, x1, x5, x413000, x413001, x413002 => if x5 < (x1.length : Int) then (if 0 ≤ x5 then ((horariumref09_Right.f k x413000 x413001 x413002 ((rd_T117 x1 x5).f0.f0) ((rd_T117 x1 x5).f0.f1) ((rd_T117 x1 x5).f0.f2) ((rd_T117 x1 x5).f0.f3)).bind fun t414 => (if t414 = true then ((horariumref13_cost.f ((rd_T117 x1 x5).f1)).bind fun t416 => (horariumref13_times.j1 k x1 x5 (!t416) x413000 x413001 x413002)) else (horariumref13_times.j1 k x1 x5 true x413000 x413001 x413002))) else (none)) else (if (x1.length : Int) ≥ 1 then (some (decide ((x1.length : Int) ≤ 16))) else (some false))
def horariumref13_times.j1 : Nat → List (S117) → Int → Bool → Int → Int → Int → Option (Bool)
  | 0, _, _, _, _, _, _ => none
  | k + 1, x1, x5, x29, x413000, x413001, x413002 => if x29 = true then (some false) else (horariumref13_times.l1 k x1 x5 0 x413000 x413001 x413002)
def horariumref13_times.l1 : Nat → List (S117) → Int → Int → Int → Int → Int → Option (Bool)
  | 0, _, _, _, _, _, _ => none
  | k + 1, x1, x5, x6, x413000, x413001, x413002 => if x6 < x5 then (if 0 ≤ x6 then (if x6 < (x1.length : Int) then (if 0 ≤ x5 then (if x5 < (x1.length : Int) then (if (((rd_T117 x1 x6).f0.f0) == ((rd_T117 x1 x5).f0.f0) && (((rd_T117 x1 x6).f0.f1) == ((rd_T117 x1 x5).f0.f1) && (((rd_T117 x1 x6).f0.f2) == ((rd_T117 x1 x5).f0.f2) && (((rd_T117 x1 x6).f0.f3) == ((rd_T117 x1 x5).f0.f3))))) = true then (some false) else (horariumref13_times.l1 k x1 x5 (wrap64 (x6 + 1)) x413000 x413001 x413002)) else (none)) else (none)) else (none)) else (none)) else (horariumref13_times.l0 k x1 (wrap64 (x5 + 1)) x413000 x413001 x413002)
end
def horariumref13_times.f (k : Nat) (a0_0 : Int) (a0_1 : Int) (a0_2 : Int) (l1 : List (S117)) : Option (Bool) := horariumref13_times.l0 k l1 0 a0_0 a0_1 a0_2
def horariumref13_times.T4 : Bool × List (List Nat × List Nat) := (true, [([], []), ([], []), ([], []), ([1, 2], [1, 2]), ([3], [3]), ([4], [4]), ([0, 5], [0, 5]), ([6], [6]), ([7, 6], [7]), ([8], [8]), ([8], [8]), ([9, 10, 8], [8, 9, 10]), ([11, 8], [8, 11]), ([12, 8], [8, 12]), ([13, 8, 8], [8, 13]), ([14, 8], [8, 14]), ([8, 15], [8, 15])])
def horariumref13_times.B4 : List Nat := [0, 0, 0, 6, 14, 30, 63, 127, 255, 511, 511, 2047, 4095, 8191, 16383, 32767, 65535]
theorem horariumref13_times.tab4 : rtab .any (opsOf Tryz.f164 4) = horariumref13_times.T4 := by kernel_rfl
theorem horariumref13_times.bits4 : waitsOk horariumref13_times.T4.2 horariumref13_times.B4 = true := by kernel_rfl
def horariumref13_times.T9 : Bool × List (List Nat × List Nat) := (true, [([], []), ([], []), ([0, 1], [0, 1]), ([2], [2]), ([3], [3]), ([], []), ([], []), ([5, 6], [5, 6]), ([7], [7]), ([8], [8]), ([4, 9], [4, 9])])
def horariumref13_times.B9 : List Nat := [0, 0, 3, 7, 15, 0, 0, 96, 224, 480, 1023]
theorem horariumref13_times.tab9 : rtab .any (opsOf Tryz.f164 9) = horariumref13_times.T9 := by kernel_rfl
theorem horariumref13_times.bits9 : waitsOk horariumref13_times.T9.2 horariumref13_times.B9 = true := by kernel_rfl
set_option maxHeartbeats 8000000 in
set_option maxRecDepth 100000 in
theorem horariumref13_times.calls (k : Nat) (a0_0 : Int) (a0_1 : Int) (a0_2 : Int) (A1 : Option Addr) (c1 : Nat) (l1 : List (S117)) (r : Bool) (w : World) (hr1 : Kd.C k117 w A1 l1.length l1) (hc1 : l1.length ≤ c1) (h : horariumref13_times.f k a0_0 a0_1 a0_2 l1 = some r) :
    Calls Tryz.prog 164 #[.agg #[.int .i64 a0_0, .int .i64 a0_1, .int .i64 a0_2], .slice A1 l1.length c1] w fun e w' => e = .returned (.bool r) ∧ Below w.heap.size w w' := by
  have hu23 := Tryz.underlying23
  have hu50 := Tryz.underlying50
  have HR1 := Aside0.mk hr1
  have HC1 := Aside0.mk hc1
  clear hr1 hc1
  have HB := Aside0.mk (Below.refl w.heap.size w)
  have H : (horariumref13_times.l0 k l1 0 a0_0 a0_1 a0_2) = some r := h
  clear h
  have H' := Aside0.mk H
  clear H
  go_enter Tryz.func164, Tryz.ntmps164
  go_wp2_with (first | ((with_reducible refine gate_dst (N := 2) rfl ?_); (try (refine gate_guard (by rfl) ?_; dsimp only)); refine box_event ?hg (N := 2) ?hd (cs := #[.int .i64 a0_0, .int .i64 a0_1, .int .i64 a0_2]) (t := 23) ?hr ?_; (case hd => rfl); (case hg => rfl); (case hr => first | (go_simp; done) | (go_simp; rfl)); intro gb412 hg w3 hbox hb; have n0_ := Aside0.mk (below_step (by repeat (first | (with_reducible first | exact HB.out | apply below_alloc | apply pw_below_drewN | apply below_drew1) | exact HB.out)) hb); have n1_ := Aside0.mk (hbox); have n2_ := Aside0.mk ((by rw [hg]; exact (below_size (by repeat (first | (with_reducible first | exact HB.out | apply below_alloc | apply pw_below_drewN | apply below_drew1) | exact HB.out))) : w.heap.size ≤ gb412)); have n3_ := Aside0.mk ((by rw [hg]; exact (below_size (by repeat (first | (with_reducible first | exact HB.out | apply below_alloc | apply pw_below_drewN | apply below_drew1) | exact HB.out))) : w.heap.size ≤ gb412)); clear HB; have HB := n0_; have BK412 := n1_; have GW412 := n2_; have GE412 := n3_; clear n0_ n1_ n2_ n3_; clear hb hbox hg))
  go_loopg [5] k (fun kq v5 w' => ∃ (x5_1 : Int), v5 = .int .i64 x5_1 ∧ Aside0 (horariumref13_times.l0 kq l1 x5_1 a0_0 a0_1 a0_2 = some r) ∧ Aside0 (kq ≤ k) ∧ Aside0 (w'.heap[gb412]? = some (.cells #[.int .i64 a0_0, .int .i64 a0_1, .int .i64 a0_2] 23 (0, 0))) ∧ Aside0 (Below w.heap.size w w'))
  case atStart => exact ⟨(0), (by first | rfl | (simp; done) | (simp [*]; done)), H', ⟨Nat.le_refl _⟩, ⟨by (with_reducible repeat (first | refine blk_drewN ?_ _ | refine blk_drew ?_ | refine blk_alloc ?_ _)); exact BK412.out⟩, ⟨by repeat (first | (with_reducible first | exact HB.out | apply below_alloc | apply pw_below_drewN | apply below_drew1 | refine below_set ?_ GE412.out) | exact HB.out)⟩⟩
  case round =>
    clear H'
    try clear c1
    try clear p2
    obtain ⟨x5_1, rfl, HA, HK1, BK412, HB⟩ := hrel
    cases gk with
    | zero => exact absurd HA.out (by simp [horariumref13_times.l0])
    | succ k1 =>
      have H := HA.out
      clear HA
      simp only [horariumref13_times.l0] at H
      by_cases c4 : x5_1 < (l1.length : Int)
      · rw [if_pos c4] at H
        have c4b0 : decide (x5_1 < (l1.length : Int)) = true := decide_eq_true c4
        clear c4
        have HC5 := Aside0.mk H
        clear H
        go_upto_region 4 with (fail)
        go_cut [29] (fun v29 wc => ∃ (kq : Nat) (x29_4 : Bool), v29 = .bool x29_4 ∧ Aside0 (horariumref13_times.j1 kq l1 x5_1 x29_4 a0_0 a0_1 a0_2 = some r) ∧ Aside0 (kq ≤ k1) ∧ Aside0 (wc.heap[gb412]? = some (.cells #[.int .i64 a0_0, .int .i64 a0_1, .int .i64 a0_2] 23 (0, 0))) ∧ Aside0 (Below w.heap.size w wc))
        case first =>
          have H := HC5.out
          clear HC5
          by_cases c6 : 0 ≤ x5_1
          · rw [if_pos c6] at H
            have c6b0 : decide (0 ≤ x5_1) = true := decide_eq_true c6
            clear c6
            (first | rw [c6b0] | (simp only [i64_w, i32_w]; rw [c6b0]) | skip)
            replace H := Option.bind_eq_some_iff.mp H
            obtain ⟨t414, A70, H⟩ := H
            replace H : (if t414 = true then ((horariumref13_cost.f ((rd_T117 l1 x5_1).f1)).bind fun t416 => (horariumref13_times.j1 k1 l1 x5_1 (!t416) a0_0 a0_1 a0_2)) else (horariumref13_times.j1 k1 l1 x5_1 true a0_0 a0_1 a0_2)) = some r := H
            have A7 := Aside0.mk A70
            clear A70
            by_cases c8 : t414 = true
            · subst c8
              have H1 : ((horariumref13_cost.f ((rd_T117 l1 x5_1).f1)).bind fun t416 => (horariumref13_times.j1 k1 l1 x5_1 (!t416) a0_0 a0_1 a0_2)) = some r := by rw [if_pos rfl] at H; exact H
              clear H
              have H := H1
              clear H1
              replace H := Option.bind_eq_some_iff.mp H
              obtain ⟨t416, A90, H⟩ := H
              replace H : (horariumref13_times.j1 k1 l1 x5_1 (!t416) a0_0 a0_1 a0_2) = some r := H
              have A9 := Aside0.mk A90
              clear A90
              have H' := Aside0.mk H
              clear H
              try go_wp2
              have n0_ := Aside0.mk (blk_drew BK412.out)
              have n1_ := Aside0.mk (below_drew1 HB.out)
              clear BK412
              clear HB
              have BK412 := n0_
              have HB := n1_
              clear n0_ n1_
              have p413 : 0 ≤ (x5_1 : Int) := of_decide_eq_true (by first | (with_reducible assumption) | assumption)
              have q413 : x5_1 < (l1.length : Int) := of_decide_eq_true (by first | (with_reducible assumption) | assumption)
              obtain ⟨ad413, e413, hx413_0, hx413_1, hx413_2, hx413_3, hx413_4⟩ := at_T117 HR1.out x5_1 p413 q413
              have hw413_4 := hx413_4
              have hw413_3 := hx413_3
              have hw413_2 := hx413_2
              have hw413_1 := hx413_1
              have hw413_0 := hx413_0
              cases e413
              replace hx413_0 := (HB.out.cell (World.block_lt_of_cell? w _ hx413_0)).trans hx413_0
              replace hx413_1 := (HB.out.cell (World.block_lt_of_cell? w _ hx413_1)).trans hx413_1
              replace hx413_2 := (HB.out.cell (World.block_lt_of_cell? w _ hx413_2)).trans hx413_2
              replace hx413_3 := (HB.out.cell (World.block_lt_of_cell? w _ hx413_3)).trans hx413_3
              replace hx413_4 := (HB.out.cell (World.block_lt_of_cell? w _ hx413_4)).trans hx413_4
              replace p413 := eq_true p413
              replace q413 := eq_true q413
              have p415 : 0 ≤ (x5_1 : Int) := of_decide_eq_true (by first | (with_reducible assumption) | assumption)
              have q415 : x5_1 < (l1.length : Int) := of_decide_eq_true (by first | (with_reducible assumption) | assumption)
              obtain ⟨ad415, e415, hx415_0, hx415_1, hx415_2, hx415_3, hx415_4⟩ := at_T117 HR1.out x5_1 p415 q415
              have hw415_4 := hx415_4
              have hw415_3 := hx415_3
              have hw415_2 := hx415_2
              have hw415_1 := hx415_1
              have hw415_0 := hx415_0
              obtain rfl : ad413 = ad415 := (by injection e415)
              replace hx415_0 := (HB.out.cell (World.block_lt_of_cell? w _ hx415_0)).trans hx415_0
              replace hx415_1 := (HB.out.cell (World.block_lt_of_cell? w _ hx415_1)).trans hx415_1
              replace hx415_2 := (HB.out.cell (World.block_lt_of_cell? w _ hx415_2)).trans hx415_2
              replace hx415_3 := (HB.out.cell (World.block_lt_of_cell? w _ hx415_3)).trans hx415_3
              replace hx415_4 := (HB.out.cell (World.block_lt_of_cell? w _ hx415_4)).trans hx415_4
              replace p415 := eq_true p415
              replace q415 := eq_true q415
              refine start_ (n := 17) (S := fun w' => w'.cell? ⟨gb412, 0, none⟩ = some (.int .i64 a0_0) ∧ w'.cell? ⟨gb412, 1, none⟩ = some (.int .i64 a0_1) ∧ w'.cell? ⟨gb412, 2, none⟩ = some (.int .i64 a0_2) ∧ w'.cell? (ad413.add ((x5_1).toNat * 5)) = some (.int .u32 ((rd_T117 l1 x5_1).f0.f0)) ∧ w'.cell? ⟨(ad413.add ((x5_1).toNat * 5)).block, (ad413.add ((x5_1).toNat * 5)).off + 1, none⟩ = some (.int .u8 ((rd_T117 l1 x5_1).f0.f1)) ∧ w'.cell? ⟨(ad413.add ((x5_1).toNat * 5)).block, (ad413.add ((x5_1).toNat * 5)).off + 2, none⟩ = some (.int .i64 ((rd_T117 l1 x5_1).f0.f2)) ∧ w'.cell? ⟨(ad413.add ((x5_1).toNat * 5)).block, (ad413.add ((x5_1).toNat * 5)).off + 3, none⟩ = some (.int .i64 ((rd_T117 l1 x5_1).f0.f3)) ∧ w'.cell? ⟨(ad413.add ((x5_1).toNat * 5)).block, (ad413.add ((x5_1).toNat * 5)).off + 4, none⟩ = some (.int .i64 ((rd_T117 l1 x5_1).f1)) ∧ w'.cell? (ad413.add ((x5_1).toNat * 5)) = some (.int .u32 ((rd_T117 l1 x5_1).f0.f0)) ∧ w'.cell? ⟨(ad413.add ((x5_1).toNat * 5)).block, (ad413.add ((x5_1).toNat * 5)).off + 1, none⟩ = some (.int .u8 ((rd_T117 l1 x5_1).f0.f1)) ∧ w'.cell? ⟨(ad413.add ((x5_1).toNat * 5)).block, (ad413.add ((x5_1).toNat * 5)).off + 2, none⟩ = some (.int .i64 ((rd_T117 l1 x5_1).f0.f2)) ∧ w'.cell? ⟨(ad413.add ((x5_1).toNat * 5)).block, (ad413.add ((x5_1).toNat * 5)).off + 3, none⟩ = some (.int .i64 ((rd_T117 l1 x5_1).f0.f3)) ∧ w'.cell? ⟨(ad413.add ((x5_1).toNat * 5)).block, (ad413.add ((x5_1).toNat * 5)).off + 4, none⟩ = some (.int .i64 ((rd_T117 l1 x5_1).f1))) (ds := []) #[false, false, false, false, false, false, false, false, false, false, false, false, false, false, false, false, false] (by kernel_rfl) rfl rfl ⟨(blk_cell BK412.out 0).trans rfl, (blk_cell BK412.out 1).trans rfl, (blk_cell BK412.out 2).trans rfl, ((HB.out.cell (World.block_lt_of_cell? w _ hw413_0)).trans hw413_0), ((HB.out.cell (World.block_lt_of_cell? w _ hw413_1)).trans hw413_1), ((HB.out.cell (World.block_lt_of_cell? w _ hw413_2)).trans hw413_2), ((HB.out.cell (World.block_lt_of_cell? w _ hw413_3)).trans hw413_3), ((HB.out.cell (World.block_lt_of_cell? w _ hw413_4)).trans hw413_4), ((HB.out.cell (World.block_lt_of_cell? w _ hw415_0)).trans hw415_0), ((HB.out.cell (World.block_lt_of_cell? w _ hw415_1)).trans hw415_1), ((HB.out.cell (World.block_lt_of_cell? w _ hw415_2)).trans hw415_2), ((HB.out.cell (World.block_lt_of_cell? w _ hw415_3)).trans hw415_3), ((HB.out.cell (World.block_lt_of_cell? w _ hw415_4)).trans hw415_4)⟩ (fun hHeld => ?_); refine with_tabW horariumref13_times.tab4 horariumref13_times.bits4 (fun HT_ HW_ => ?_)
              generalize wr.drew = w10 at BK412 HB hx413_0 hx413_1 hx413_2 hx413_3 hx413_4 hx415_0 hx415_1 hx415_2 hx415_3 hx415_4 hHeld ⊢
              refine pure_ (i := 1) (N := some 14) (v := ?_) (a' := ?_) #[false, true, false, false, false, false, false, false, false, false, false, false, false, false, false, false, false] rfl rfl (any_of HT_.out (by kernel_rfl)) (fun _ _ _ h => h) (Or.inl ⟨by rfl, ?_⟩) ?_ ?_
              rotate_left
              · intro w'
                go_simp
                with_reducible rfl
              rotate_left
              · simp only [Act.put, List.setIfInBounds_toArray, List.set_cons_zero, List.set_cons_succ, i64_w, i32_w]
                rfl
              refine pure_ (i := 2) (N := some 15) (v := ?_) (a' := ?_) #[false, true, true, false, false, false, false, false, false, false, false, false, false, false, false, false, false] rfl rfl (any_of HT_.out (by kernel_rfl)) (fun _ _ _ h => h) (Or.inl ⟨by rfl, ?_⟩) ?_ ?_
              rotate_left
              · intro w'
                go_simp
                with_reducible rfl
              rotate_left
              · simp only [Act.put, List.setIfInBounds_toArray, List.set_cons_zero, List.set_cons_succ, i64_w, i32_w]
                rfl
              refine pure_ (i := 3) (N := some 16) (v := ?_) (a' := ?_) #[false, true, true, true, false, false, false, false, false, false, false, false, false, false, false, false, false] rfl rfl (any_of HT_.out (by kernel_rfl)) (fun _ _ _ h => h) (Or.inl ⟨by rfl, ?_⟩) ?_ ?_
              rotate_left
              · intro w'
                go_simp
                with_reducible rfl
              rotate_left
              · simp only [Act.put, List.setIfInBounds_toArray, List.set_cons_zero, List.set_cons_succ, i64_w, i32_w]
                rfl
              refine pure_ (i := 4) (N := some 17) (v := ?_) (a' := ?_) #[false, true, true, true, true, false, false, false, false, false, false, false, false, false, false, false, false] rfl rfl (any_of HT_.out (by kernel_rfl)) (fun _ _ _ h => h) (Or.inl ⟨by rfl, ?_⟩) ?_ ?_
              rotate_left
              · intro w'
                go_simp
                with_reducible rfl
              rotate_left
              · simp only [Act.put, List.setIfInBounds_toArray, List.set_cons_zero, List.set_cons_succ, i64_w, i32_w]
                rfl
              refine take_ (i := 0) (N := some 13) (v := ?_) (a' := ?_) #[true, true, true, true, true, false, false, false, false, false, false, false, false, false, false, false, false] rfl rfl (take_ofW HT_.out HW_.out (by kernel_rfl)) (fun _ _ _ h => h) (Or.inl ⟨by rfl, ?_⟩) hHeld ?_ ?_
              rotate_left
              · rintro w' ⟨s0, s1, s2, s3, s4, s5, s6, s7, s8, s9, s10, s11, s12⟩
                go_simp
                with_reducible rfl
              rotate_left
              · simp only [Act.put, List.setIfInBounds_toArray, List.set_cons_zero, List.set_cons_succ, i64_w, i32_w]
                rfl
              refine take_ (i := 5) (N := some 18) (v := ?_) (a' := ?_) #[true, true, true, true, true, true, false, false, false, false, false, false, false, false, false, false, false] rfl rfl (take_ofW HT_.out HW_.out (by kernel_rfl)) (fun _ _ _ h => h) (Or.inl ⟨by rfl, ?_⟩) hHeld ?_ ?_
              rotate_left
              · rintro w' ⟨s0, s1, s2, s3, s4, s5, s6, s7, s8, s9, s10, s11, s12⟩
                go_simp
                with_reducible rfl
              rotate_left
              · simp only [Act.put, List.setIfInBounds_toArray, List.set_cons_zero, List.set_cons_succ, i64_w, i32_w]
                rfl
              refine one_ (i := 6) (N := some 19) #[true, true, true, true, true, true, true, false, false, false, false, false, false, false, false, false, false] rfl rfl (one_of HT_.out (by kernel_rfl)) (by decide) (fun K hK => ?_)
              refine goes_ Tryz.func181 (by kernel_rfl) rfl #[.agg #[.int .i64 a0_0, .int .i64 a0_1, .int .i64 a0_2], .agg #[.int .u32 ((rd_T117 l1 x5_1).f0.f0), .int .u8 ((rd_T117 l1 x5_1).f0.f1), .int .i64 ((rd_T117 l1 x5_1).f0.f2), .int .i64 ((rd_T117 l1 x5_1).f0.f3)]] (by rfl) rfl rfl (by (try simp only [List.map_toArray, List.map_cons, List.map_nil]); first | done | rfl | (simp only [List.length_drop, List.length_take]; rfl)) ?_
              with_reducible refine (horariumref09_Right.calls k1 a0_0 a0_1 a0_2 ((rd_T117 l1 x5_1).f0.f0) ((rd_T117 l1 x5_1).f0.f1) ((rd_T117 l1 x5_1).f0.f2) ((rd_T117 l1 x5_1).f0.f3) true _ A7.out).mono ?_
              rintro e w11 ⟨rfl, hb⟩
              refine ⟨_, rfl, ?_⟩
              have n0_ := Aside0.mk (blk_below (g := gb412) (o := .cells #[.int .i64 a0_0, .int .i64 a0_1, .int .i64 a0_2] 23 (0, 0)) (by (with_reducible repeat (first | refine blk_drewN ?_ _ | refine blk_drew ?_ | refine blk_alloc ?_ _)); exact BK412.out) hb)
              have n1_ := Aside0.mk (below_step (by repeat (first | (with_reducible first | exact HB.out | apply below_alloc | apply pw_below_drewN | apply below_drew1 | refine below_set ?_ GE412.out) | exact HB.out)) hb)
              clear BK412
              clear HB
              have BK412 := n0_
              have HB := n1_
              clear n0_ n1_
              (try clear hb)
              (try clear hb2)
              (try clear hk)
              (try clear hi)
              refine hK.out _ _ ⟨(blk_cell BK412.out 0).trans rfl, (blk_cell BK412.out 1).trans rfl, (blk_cell BK412.out 2).trans rfl, ((HB.out.cell (World.block_lt_of_cell? w _ hw413_0)).trans hw413_0), ((HB.out.cell (World.block_lt_of_cell? w _ hw413_1)).trans hw413_1), ((HB.out.cell (World.block_lt_of_cell? w _ hw413_2)).trans hw413_2), ((HB.out.cell (World.block_lt_of_cell? w _ hw413_3)).trans hw413_3), ((HB.out.cell (World.block_lt_of_cell? w _ hw413_4)).trans hw413_4), ((HB.out.cell (World.block_lt_of_cell? w _ hw415_0)).trans hw415_0), ((HB.out.cell (World.block_lt_of_cell? w _ hw415_1)).trans hw415_1), ((HB.out.cell (World.block_lt_of_cell? w _ hw415_2)).trans hw415_2), ((HB.out.cell (World.block_lt_of_cell? w _ hw415_3)).trans hw415_3), ((HB.out.cell (World.block_lt_of_cell? w _ hw415_4)).trans hw415_4)⟩ (fun hHeld => ?_)
              clear hK K
              refine norm_ (a' := ?_) ?_ ?_
              rotate_left
              · show Act.put _ (some 19) _ = _
                simp only [Act.put, List.setIfInBounds_toArray, List.set_cons_zero, List.set_cons_succ, i64_w, i32_w]
                rfl
              refine pure_ (i := 7) (N := some 20) (v := ?_) (a' := ?_) #[true, true, true, true, true, true, true, true, false, false, false, false, false, false, false, false, false] rfl rfl (any_of HT_.out (by kernel_rfl)) (fun _ _ _ h => h) (Or.inl ⟨by rfl, ?_⟩) ?_ ?_
              rotate_left
              · intro w'
                go_simp
                with_reducible rfl
              rotate_left
              · simp only [Act.put, List.setIfInBounds_toArray, List.set_cons_zero, List.set_cons_succ, i64_w, i32_w]
                rfl
              refine pure_ (i := 8) (N := some 21) (v := ?_) (a' := ?_) #[true, true, true, true, true, true, true, true, true, false, false, false, false, false, false, false, false] rfl rfl (any_of HT_.out (by kernel_rfl)) (fun _ _ _ h => h) (Or.inl ⟨by rfl, ?_⟩) ?_ ?_
              rotate_left
              · intro w'
                go_simp
                with_reducible rfl
              rotate_left
              · simp only [Act.put, List.setIfInBounds_toArray, List.set_cons_zero, List.set_cons_succ, i64_w, i32_w]
                rfl
              refine pure_ (i := 9) (N := some 22) (v := ?_) (a' := ?_) #[true, true, true, true, true, true, true, true, true, true, false, false, false, false, false, false, false] rfl rfl (any_of HT_.out (by kernel_rfl)) (fun _ _ _ h => h) (Or.inl ⟨by rfl, ?_⟩) ?_ ?_
              rotate_left
              · intro w'
                go_simp
                with_reducible rfl
              rotate_left
              · simp only [Act.put, List.setIfInBounds_toArray, List.set_cons_zero, List.set_cons_succ, i64_w, i32_w]
                rfl
              refine pure_ (i := 10) (N := some 23) (v := ?_) (a' := ?_) #[true, true, true, true, true, true, true, true, true, true, true, false, false, false, false, false, false] rfl rfl (any_of HT_.out (by kernel_rfl)) (fun _ _ _ h => h) (Or.inl ⟨by rfl, ?_⟩) ?_ ?_
              rotate_left
              · intro w'
                go_simp
                with_reducible rfl
              rotate_left
              · simp only [Act.put, List.setIfInBounds_toArray, List.set_cons_zero, List.set_cons_succ, i64_w, i32_w]
                rfl
              refine pure_ (i := 11) (N := some 24) (v := ?_) (a' := ?_) #[true, true, true, true, true, true, true, true, true, true, true, true, false, false, false, false, false] rfl rfl (any_of HT_.out (by kernel_rfl)) (fun _ _ _ h => h) (Or.inl ⟨by rfl, ?_⟩) ?_ ?_
              rotate_left
              · intro w'
                go_simp
                with_reducible rfl
              rotate_left
              · simp only [Act.put, List.setIfInBounds_toArray, List.set_cons_zero, List.set_cons_succ, i64_w, i32_w]
                rfl
              refine pure_ (i := 12) (N := some 25) (v := ?_) (a' := ?_) #[true, true, true, true, true, true, true, true, true, true, true, true, true, false, false, false, false] rfl rfl (any_of HT_.out (by kernel_rfl)) (fun _ _ _ h => h) (Or.inl ⟨by rfl, ?_⟩) ?_ ?_
              rotate_left
              · intro w'
                go_simp
                with_reducible rfl
              rotate_left
              · simp only [Act.put, List.setIfInBounds_toArray, List.set_cons_zero, List.set_cons_succ, i64_w, i32_w]
                rfl
              refine take_ (i := 13) (N := some 26) (v := ?_) (a' := ?_) #[true, true, true, true, true, true, true, true, true, true, true, true, true, true, false, false, false] rfl rfl (take_ofW HT_.out HW_.out (by kernel_rfl)) (fun _ _ _ h => h) (Or.inl ⟨by rfl, ?_⟩) hHeld ?_ ?_
              rotate_left
              · rintro w' ⟨s0, s1, s2, s3, s4, s5, s6, s7, s8, s9, s10, s11, s12⟩
                go_simp
                with_reducible rfl
              rotate_left
              · simp only [Act.put, List.setIfInBounds_toArray, List.set_cons_zero, List.set_cons_succ, i64_w, i32_w]
                rfl
              refine one_ (i := 14) (N := some 27) #[true, true, true, true, true, true, true, true, true, true, true, true, true, true, true, false, false] rfl rfl (one_of HT_.out (by kernel_rfl)) (by decide) (fun K hK => ?_)
              refine goes_ Tryz.func182 (by kernel_rfl) rfl #[.int .i64 ((rd_T117 l1 x5_1).f1)] (by rfl) rfl rfl (by (try simp only [List.map_toArray, List.map_cons, List.map_nil]); first | done | rfl | (simp only [List.length_drop, List.length_take]; rfl)) ?_
              with_reducible refine (horariumref13_cost.calls ((rd_T117 l1 x5_1).f1) t416 _ A9.out).mono ?_
              rintro e w' ⟨rfl, ⟨nd, rfl⟩⟩
              refine ⟨_, rfl, ?_⟩
              refine hK.out _ _ ⟨(blk_cell BK412.out 0).trans rfl, (blk_cell BK412.out 1).trans rfl, (blk_cell BK412.out 2).trans rfl, ((HB.out.cell (World.block_lt_of_cell? w _ hw413_0)).trans hw413_0), ((HB.out.cell (World.block_lt_of_cell? w _ hw413_1)).trans hw413_1), ((HB.out.cell (World.block_lt_of_cell? w _ hw413_2)).trans hw413_2), ((HB.out.cell (World.block_lt_of_cell? w _ hw413_3)).trans hw413_3), ((HB.out.cell (World.block_lt_of_cell? w _ hw413_4)).trans hw413_4), ((HB.out.cell (World.block_lt_of_cell? w _ hw415_0)).trans hw415_0), ((HB.out.cell (World.block_lt_of_cell? w _ hw415_1)).trans hw415_1), ((HB.out.cell (World.block_lt_of_cell? w _ hw415_2)).trans hw415_2), ((HB.out.cell (World.block_lt_of_cell? w _ hw415_3)).trans hw415_3), ((HB.out.cell (World.block_lt_of_cell? w _ hw415_4)).trans hw415_4)⟩ (fun hHeld => ?_)
              clear hK K
              refine norm_ (a' := ?_) ?_ ?_
              rotate_left
              · show Act.put _ (some 27) _ = _
                simp only [Act.put, List.setIfInBounds_toArray, List.set_cons_zero, List.set_cons_succ, i64_w, i32_w]
                rfl
              refine pure_ (i := 15) (N := some 28) (v := ?_) (a' := ?_) #[true, true, true, true, true, true, true, true, true, true, true, true, true, true, true, true, false] rfl rfl (any_of HT_.out (by kernel_rfl)) (fun _ _ _ h => h) (Or.inl ⟨by rfl, ?_⟩) ?_ ?_
              rotate_left
              · intro w'
                go_simp
                with_reducible rfl
              rotate_left
              · simp only [Act.put, List.setIfInBounds_toArray, List.set_cons_zero, List.set_cons_succ, i64_w, i32_w]
                rfl
              refine pure_ (i := 16) (N := some 29) (v := ?_) (a' := ?_) #[true, true, true, true, true, true, true, true, true, true, true, true, true, true, true, true, true] rfl rfl (any_of HT_.out (by kernel_rfl)) (fun _ _ _ h => h) (Or.inl ⟨by rfl, ?_⟩) ?_ ?_
              rotate_left
              · intro w'
                go_simp
                with_reducible rfl
              rotate_left
              · simp only [Act.put, List.setIfInBounds_toArray, List.set_cons_zero, List.set_cons_succ, i64_w, i32_w]
                rfl
              refine done_ (done_of HT_.out (by kernel_rfl)) ?_
              try go_wp2
              go_meet
              case rel => exact ⟨_, (!t416), (by first | rfl | (simp; done) | (simp [*]; done)), H', ⟨by have := HK1.out; first | omega | exact Nat.le_refl _⟩, ⟨by (with_reducible repeat (first | refine blk_drewN ?_ _ | refine blk_drew ?_ | refine blk_alloc ?_ _)); exact BK412.out⟩, ⟨by repeat (first | (with_reducible first | exact HB.out | apply below_alloc | apply pw_below_drewN | apply below_drew1 | refine below_set ?_ GE412.out) | exact HB.out)⟩⟩
            · replace c8 := Bool.eq_false_iff.mpr c8
              subst c8
              have H1 : (horariumref13_times.j1 k1 l1 x5_1 true a0_0 a0_1 a0_2) = some r := by rw [if_neg (show ¬ (false = true) by decide)] at H; exact H
              clear H
              have H := H1
              clear H1
              have H' := Aside0.mk H
              clear H
              try go_wp2
              have n0_ := Aside0.mk (blk_drew BK412.out)
              have n1_ := Aside0.mk (below_drew1 HB.out)
              clear BK412
              clear HB
              have BK412 := n0_
              have HB := n1_
              clear n0_ n1_
              have p413 : 0 ≤ (x5_1 : Int) := of_decide_eq_true (by first | (with_reducible assumption) | assumption)
              have q413 : x5_1 < (l1.length : Int) := of_decide_eq_true (by first | (with_reducible assumption) | assumption)
              obtain ⟨ad413, e413, hx413_0, hx413_1, hx413_2, hx413_3, hx413_4⟩ := at_T117 HR1.out x5_1 p413 q413
              have hw413_4 := hx413_4
              have hw413_3 := hx413_3
              have hw413_2 := hx413_2
              have hw413_1 := hx413_1
              have hw413_0 := hx413_0
              cases e413
              replace hx413_0 := (HB.out.cell (World.block_lt_of_cell? w _ hx413_0)).trans hx413_0
              replace hx413_1 := (HB.out.cell (World.block_lt_of_cell? w _ hx413_1)).trans hx413_1
              replace hx413_2 := (HB.out.cell (World.block_lt_of_cell? w _ hx413_2)).trans hx413_2
              replace hx413_3 := (HB.out.cell (World.block_lt_of_cell? w _ hx413_3)).trans hx413_3
              replace hx413_4 := (HB.out.cell (World.block_lt_of_cell? w _ hx413_4)).trans hx413_4
              replace p413 := eq_true p413
              replace q413 := eq_true q413
              refine start_ (n := 17) (S := fun w' => w'.cell? ⟨gb412, 0, none⟩ = some (.int .i64 a0_0) ∧ w'.cell? ⟨gb412, 1, none⟩ = some (.int .i64 a0_1) ∧ w'.cell? ⟨gb412, 2, none⟩ = some (.int .i64 a0_2) ∧ w'.cell? (ad413.add ((x5_1).toNat * 5)) = some (.int .u32 ((rd_T117 l1 x5_1).f0.f0)) ∧ w'.cell? ⟨(ad413.add ((x5_1).toNat * 5)).block, (ad413.add ((x5_1).toNat * 5)).off + 1, none⟩ = some (.int .u8 ((rd_T117 l1 x5_1).f0.f1)) ∧ w'.cell? ⟨(ad413.add ((x5_1).toNat * 5)).block, (ad413.add ((x5_1).toNat * 5)).off + 2, none⟩ = some (.int .i64 ((rd_T117 l1 x5_1).f0.f2)) ∧ w'.cell? ⟨(ad413.add ((x5_1).toNat * 5)).block, (ad413.add ((x5_1).toNat * 5)).off + 3, none⟩ = some (.int .i64 ((rd_T117 l1 x5_1).f0.f3)) ∧ w'.cell? ⟨(ad413.add ((x5_1).toNat * 5)).block, (ad413.add ((x5_1).toNat * 5)).off + 4, none⟩ = some (.int .i64 ((rd_T117 l1 x5_1).f1))) (ds := []) #[false, false, false, false, false, false, false, false, false, false, false, false, false, false, false, false, false] (by kernel_rfl) rfl rfl ⟨(blk_cell BK412.out 0).trans rfl, (blk_cell BK412.out 1).trans rfl, (blk_cell BK412.out 2).trans rfl, ((HB.out.cell (World.block_lt_of_cell? w _ hw413_0)).trans hw413_0), ((HB.out.cell (World.block_lt_of_cell? w _ hw413_1)).trans hw413_1), ((HB.out.cell (World.block_lt_of_cell? w _ hw413_2)).trans hw413_2), ((HB.out.cell (World.block_lt_of_cell? w _ hw413_3)).trans hw413_3), ((HB.out.cell (World.block_lt_of_cell? w _ hw413_4)).trans hw413_4)⟩ (fun hHeld => ?_); refine with_tabW horariumref13_times.tab4 horariumref13_times.bits4 (fun HT_ HW_ => ?_)
              generalize wr.drew = w12 at BK412 HB hx413_0 hx413_1 hx413_2 hx413_3 hx413_4 hHeld ⊢
              refine pure_ (i := 1) (N := some 14) (v := ?_) (a' := ?_) #[false, true, false, false, false, false, false, false, false, false, false, false, false, false, false, false, false] rfl rfl (any_of HT_.out (by kernel_rfl)) (fun _ _ _ h => h) (Or.inl ⟨by rfl, ?_⟩) ?_ ?_
              rotate_left
              · intro w'
                go_simp
                with_reducible rfl
              rotate_left
              · simp only [Act.put, List.setIfInBounds_toArray, List.set_cons_zero, List.set_cons_succ, i64_w, i32_w]
                rfl
              refine pure_ (i := 2) (N := some 15) (v := ?_) (a' := ?_) #[false, true, true, false, false, false, false, false, false, false, false, false, false, false, false, false, false] rfl rfl (any_of HT_.out (by kernel_rfl)) (fun _ _ _ h => h) (Or.inl ⟨by rfl, ?_⟩) ?_ ?_
              rotate_left
              · intro w'
                go_simp
                with_reducible rfl
              rotate_left
              · simp only [Act.put, List.setIfInBounds_toArray, List.set_cons_zero, List.set_cons_succ, i64_w, i32_w]
                rfl
              refine pure_ (i := 3) (N := some 16) (v := ?_) (a' := ?_) #[false, true, true, true, false, false, false, false, false, false, false, false, false, false, false, false, false] rfl rfl (any_of HT_.out (by kernel_rfl)) (fun _ _ _ h => h) (Or.inl ⟨by rfl, ?_⟩) ?_ ?_
              rotate_left
              · intro w'
                go_simp
                with_reducible rfl
              rotate_left
              · simp only [Act.put, List.setIfInBounds_toArray, List.set_cons_zero, List.set_cons_succ, i64_w, i32_w]
                rfl
              refine pure_ (i := 4) (N := some 17) (v := ?_) (a' := ?_) #[false, true, true, true, true, false, false, false, false, false, false, false, false, false, false, false, false] rfl rfl (any_of HT_.out (by kernel_rfl)) (fun _ _ _ h => h) (Or.inl ⟨by rfl, ?_⟩) ?_ ?_
              rotate_left
              · intro w'
                go_simp
                with_reducible rfl
              rotate_left
              · simp only [Act.put, List.setIfInBounds_toArray, List.set_cons_zero, List.set_cons_succ, i64_w, i32_w]
                rfl
              refine take_ (i := 0) (N := some 13) (v := ?_) (a' := ?_) #[true, true, true, true, true, false, false, false, false, false, false, false, false, false, false, false, false] rfl rfl (take_ofW HT_.out HW_.out (by kernel_rfl)) (fun _ _ _ h => h) (Or.inl ⟨by rfl, ?_⟩) hHeld ?_ ?_
              rotate_left
              · rintro w' ⟨s0, s1, s2, s3, s4, s5, s6, s7⟩
                go_simp
                with_reducible rfl
              rotate_left
              · simp only [Act.put, List.setIfInBounds_toArray, List.set_cons_zero, List.set_cons_succ, i64_w, i32_w]
                rfl
              refine take_ (i := 5) (N := some 18) (v := ?_) (a' := ?_) #[true, true, true, true, true, true, false, false, false, false, false, false, false, false, false, false, false] rfl rfl (take_ofW HT_.out HW_.out (by kernel_rfl)) (fun _ _ _ h => h) (Or.inl ⟨by rfl, ?_⟩) hHeld ?_ ?_
              rotate_left
              · rintro w' ⟨s0, s1, s2, s3, s4, s5, s6, s7⟩
                go_simp
                with_reducible rfl
              rotate_left
              · simp only [Act.put, List.setIfInBounds_toArray, List.set_cons_zero, List.set_cons_succ, i64_w, i32_w]
                rfl
              refine one_ (i := 6) (N := some 19) #[true, true, true, true, true, true, true, false, false, false, false, false, false, false, false, false, false] rfl rfl (one_of HT_.out (by kernel_rfl)) (by decide) (fun K hK => ?_)
              refine goes_ Tryz.func181 (by kernel_rfl) rfl #[.agg #[.int .i64 a0_0, .int .i64 a0_1, .int .i64 a0_2], .agg #[.int .u32 ((rd_T117 l1 x5_1).f0.f0), .int .u8 ((rd_T117 l1 x5_1).f0.f1), .int .i64 ((rd_T117 l1 x5_1).f0.f2), .int .i64 ((rd_T117 l1 x5_1).f0.f3)]] (by rfl) rfl rfl (by (try simp only [List.map_toArray, List.map_cons, List.map_nil]); first | done | rfl | (simp only [List.length_drop, List.length_take]; rfl)) ?_
              with_reducible refine (horariumref09_Right.calls k1 a0_0 a0_1 a0_2 ((rd_T117 l1 x5_1).f0.f0) ((rd_T117 l1 x5_1).f0.f1) ((rd_T117 l1 x5_1).f0.f2) ((rd_T117 l1 x5_1).f0.f3) false _ A7.out).mono ?_
              rintro e w13 ⟨rfl, hb⟩
              refine ⟨_, rfl, ?_⟩
              have n0_ := Aside0.mk (blk_below (g := gb412) (o := .cells #[.int .i64 a0_0, .int .i64 a0_1, .int .i64 a0_2] 23 (0, 0)) (by (with_reducible repeat (first | refine blk_drewN ?_ _ | refine blk_drew ?_ | refine blk_alloc ?_ _)); exact BK412.out) hb)
              have n1_ := Aside0.mk (below_step (by repeat (first | (with_reducible first | exact HB.out | apply below_alloc | apply pw_below_drewN | apply below_drew1 | refine below_set ?_ GE412.out) | exact HB.out)) hb)
              clear BK412
              clear HB
              have BK412 := n0_
              have HB := n1_
              clear n0_ n1_
              (try clear hb)
              (try clear hb2)
              (try clear hk)
              (try clear hi)
              refine hK.out _ _ ⟨(blk_cell BK412.out 0).trans rfl, (blk_cell BK412.out 1).trans rfl, (blk_cell BK412.out 2).trans rfl, ((HB.out.cell (World.block_lt_of_cell? w _ hw413_0)).trans hw413_0), ((HB.out.cell (World.block_lt_of_cell? w _ hw413_1)).trans hw413_1), ((HB.out.cell (World.block_lt_of_cell? w _ hw413_2)).trans hw413_2), ((HB.out.cell (World.block_lt_of_cell? w _ hw413_3)).trans hw413_3), ((HB.out.cell (World.block_lt_of_cell? w _ hw413_4)).trans hw413_4)⟩ (fun hHeld => ?_)
              clear hK K
              refine norm_ (a' := ?_) ?_ ?_
              rotate_left
              · show Act.put _ (some 19) _ = _
                simp only [Act.put, List.setIfInBounds_toArray, List.set_cons_zero, List.set_cons_succ, i64_w, i32_w]
                rfl
              refine pure_ (i := 7) (N := some 20) (v := ?_) (a' := ?_) #[true, true, true, true, true, true, true, true, false, false, false, false, false, false, false, false, false] rfl rfl (any_of HT_.out (by kernel_rfl)) (fun _ _ _ h => h) (Or.inl ⟨by rfl, ?_⟩) ?_ ?_
              rotate_left
              · intro w'
                go_simp
                with_reducible rfl
              rotate_left
              · simp only [Act.put, List.setIfInBounds_toArray, List.set_cons_zero, List.set_cons_succ, i64_w, i32_w]
                rfl
              refine pure_ (i := 8) (N := some 21) (v := ?_) (a' := ?_) #[true, true, true, true, true, true, true, true, true, false, false, false, false, false, false, false, false] rfl rfl (any_of HT_.out (by kernel_rfl)) (fun _ _ _ h => h) (Or.inl ⟨by rfl, ?_⟩) ?_ ?_
              rotate_left
              · intro w'
                go_simp
                with_reducible rfl
              rotate_left
              · simp only [Act.put, List.setIfInBounds_toArray, List.set_cons_zero, List.set_cons_succ, i64_w, i32_w]
                rfl
              refine pure_ (i := 9) (N := some 22) (v := undef) (a' := ?_) #[true, true, true, true, true, true, true, true, true, true, false, false, false, false, false, false, false] rfl rfl (any_of HT_.out (by kernel_rfl)) (fun _ _ _ h => h) (Or.inr ⟨by rfl, rfl⟩) ?_ ?_
              rotate_left
              · simp only [Act.put, List.setIfInBounds_toArray, List.set_cons_zero, List.set_cons_succ, i64_w, i32_w]
                rfl
              refine pure_ (i := 10) (N := some 23) (v := undef) (a' := ?_) #[true, true, true, true, true, true, true, true, true, true, true, false, false, false, false, false, false] rfl rfl (any_of HT_.out (by kernel_rfl)) (fun _ _ _ h => h) (Or.inr ⟨by rfl, rfl⟩) ?_ ?_
              rotate_left
              · simp only [Act.put, List.setIfInBounds_toArray, List.set_cons_zero, List.set_cons_succ, i64_w, i32_w]
                rfl
              refine pure_ (i := 11) (N := some 24) (v := undef) (a' := ?_) #[true, true, true, true, true, true, true, true, true, true, true, true, false, false, false, false, false] rfl rfl (any_of HT_.out (by kernel_rfl)) (fun _ _ _ h => h) (Or.inr ⟨by rfl, rfl⟩) ?_ ?_
              rotate_left
              · simp only [Act.put, List.setIfInBounds_toArray, List.set_cons_zero, List.set_cons_succ, i64_w, i32_w]
                rfl
              refine pure_ (i := 12) (N := some 25) (v := undef) (a' := ?_) #[true, true, true, true, true, true, true, true, true, true, true, true, true, false, false, false, false] rfl rfl (any_of HT_.out (by kernel_rfl)) (fun _ _ _ h => h) (Or.inr ⟨by rfl, rfl⟩) ?_ ?_
              rotate_left
              · simp only [Act.put, List.setIfInBounds_toArray, List.set_cons_zero, List.set_cons_succ, i64_w, i32_w]
                rfl
              refine pure_ (i := 13) (N := some 26) (v := undef) (a' := ?_) #[true, true, true, true, true, true, true, true, true, true, true, true, true, true, false, false, false] rfl rfl (any_of HT_.out (by kernel_rfl)) (fun _ _ _ h => h) (Or.inr ⟨by rfl, rfl⟩) ?_ ?_
              rotate_left
              · simp only [Act.put, List.setIfInBounds_toArray, List.set_cons_zero, List.set_cons_succ, i64_w, i32_w]
                rfl
              refine pure_ (i := 14) (N := some 27) (v := undef) (a' := ?_) #[true, true, true, true, true, true, true, true, true, true, true, true, true, true, true, false, false] rfl rfl (any_of HT_.out (by kernel_rfl)) (fun _ _ _ h => h) (Or.inr ⟨by rfl, rfl⟩) ?_ ?_
              rotate_left
              · simp only [Act.put, List.setIfInBounds_toArray, List.set_cons_zero, List.set_cons_succ, i64_w, i32_w]
                rfl
              refine pure_ (i := 15) (N := some 28) (v := undef) (a' := ?_) #[true, true, true, true, true, true, true, true, true, true, true, true, true, true, true, true, false] rfl rfl (any_of HT_.out (by kernel_rfl)) (fun _ _ _ h => h) (Or.inr ⟨by rfl, rfl⟩) ?_ ?_
              rotate_left
              · simp only [Act.put, List.setIfInBounds_toArray, List.set_cons_zero, List.set_cons_succ, i64_w, i32_w]
                rfl
              refine pure_ (i := 16) (N := some 29) (v := ?_) (a' := ?_) #[true, true, true, true, true, true, true, true, true, true, true, true, true, true, true, true, true] rfl rfl (any_of HT_.out (by kernel_rfl)) (fun _ _ _ h => h) (Or.inl ⟨by rfl, ?_⟩) ?_ ?_
              rotate_left
              · intro w'
                go_simp
                with_reducible rfl
              rotate_left
              · simp only [Act.put, List.setIfInBounds_toArray, List.set_cons_zero, List.set_cons_succ, i64_w, i32_w]
                rfl
              refine done_ (done_of HT_.out (by kernel_rfl)) ?_
              try go_wp2
              go_meet
              case rel => exact ⟨_, (true), (by first | rfl | (simp; done) | (simp [*]; done)), H', ⟨by have := HK1.out; first | omega | exact Nat.le_refl _⟩, ⟨by (with_reducible repeat (first | refine blk_drewN ?_ _ | refine blk_drew ?_ | refine blk_alloc ?_ _)); exact BK412.out⟩, ⟨by repeat (first | (with_reducible first | exact HB.out | apply below_alloc | apply pw_below_drewN | apply below_drew1 | refine below_set ?_ GE412.out) | exact HB.out)⟩⟩
          · rw [if_neg c6] at H
            exact absurd H (by simp)
        case rest =>
          clear HC5
          try clear c1
          try clear p2
          try clear c4
          try clear c4b0
          try clear p4
          try clear q4
          try clear hx4
          try clear c6
          try clear c6b0
          try clear c8
          try clear hx413_0
          try clear hx413_1
          try clear hx413_2
          try clear hx413_3
          try clear hx413_4
          try clear hx415_0
          try clear hx415_1
          try clear hx415_2
          try clear hx415_3
          try clear hx415_4
          try clear p2
          try clear p413
          try clear p415
          try clear q413
          try clear q415
          obtain ⟨kq, x29_4, rfl, HA, HJ4, BK412, HB⟩ := hcut
          cases kq with
          | zero => exact absurd HA.out (by simp [horariumref13_times.j1])
          | succ kj4 =>
            have H := HA.out
            clear HA
            simp only [horariumref13_times.j1] at H
            by_cases c14 : x29_4 = true
            · subst c14
              have H1 : (some false) = some r := by rw [if_pos rfl] at H; exact H
              clear H
              have H := H1
              clear H1
              obtain rfl := Option.some.inj H
              go_wp2
              go_ret
              exact ⟨by first | rfl | (simp [errW_none, errW_some] <;> rfl) | (simp [*, errW_none, errW_some] <;> rfl), by repeat (first | (with_reducible first | exact HB.out | apply below_alloc | apply pw_below_drewN | apply below_drew1 | refine below_set ?_ GE412.out) | exact HB.out)⟩
            · replace c14 := Bool.eq_false_iff.mpr c14
              subst c14
              have H1 : (horariumref13_times.l1 kj4 l1 x5_1 0 a0_0 a0_1 a0_2) = some r := by rw [if_neg (show ¬ (false = true) by decide)] at H; exact H
              clear H
              have H := H1
              clear H1
              have H' := Aside0.mk H
              clear H
              go_wp2
              go_loopg [6] kj4 (fun kq v6 w' => ∃ (x6_3 : Int), v6 = .int .i64 x6_3 ∧ Aside0 (horariumref13_times.l1 kq l1 x5_1 x6_3 a0_0 a0_1 a0_2 = some r) ∧ Aside0 (kq ≤ kj4) ∧ Aside0 (w'.heap[gb412]? = some (.cells #[.int .i64 a0_0, .int .i64 a0_1, .int .i64 a0_2] 23 (0, 0))) ∧ Aside0 (Below w.heap.size w w'))
              case atStart => exact ⟨(0), (by first | rfl | (simp; done) | (simp [*]; done)), H', ⟨Nat.le_refl _⟩, ⟨by (with_reducible repeat (first | refine blk_drewN ?_ _ | refine blk_drew ?_ | refine blk_alloc ?_ _)); exact BK412.out⟩, ⟨by repeat (first | (with_reducible first | exact HB.out | apply below_alloc | apply pw_below_drewN | apply below_drew1 | refine below_set ?_ GE412.out) | exact HB.out)⟩⟩
              case round =>
                clear H'
                try clear c1
                try clear p2
                try clear c4
                try clear c4b0
                try clear p4
                try clear q4
                try clear hx4
                try clear c6
                try clear c6b0
                try clear c8
                try clear c14
                try clear hx413_0
                try clear hx413_1
                try clear hx413_2
                try clear hx413_3
                try clear hx413_4
                try clear hx415_0
                try clear hx415_1
                try clear hx415_2
                try clear hx415_3
                try clear hx415_4
                try clear p2
                try clear p4
                try clear p413
                try clear p415
                try clear q4
                try clear q413
                try clear q415
                obtain ⟨x6_3, rfl, HA, HK3, BK412, HB⟩ := hrel
                cases gk with
                | zero => exact absurd HA.out (by simp [horariumref13_times.l1])
                | succ k3 =>
                  have H := HA.out
                  clear HA
                  simp only [horariumref13_times.l1] at H
                  by_cases c15 : x6_3 < x5_1
                  · rw [if_pos c15] at H
                    have c15b0 : decide (x6_3 < x5_1) = true := decide_eq_true c15
                    clear c15
                    by_cases c16 : 0 ≤ x6_3
                    · rw [if_pos c16] at H
                      have c16b0 : decide (0 ≤ x6_3) = true := decide_eq_true c16
                      clear c16
                      by_cases c17 : x6_3 < (l1.length : Int)
                      · rw [if_pos c17] at H
                        have c17b0 : decide (x6_3 < (l1.length : Int)) = true := decide_eq_true c17
                        clear c17
                        by_cases c18 : 0 ≤ x5_1
                        · rw [if_pos c18] at H
                          have c18b0 : decide (0 ≤ x5_1) = true := decide_eq_true c18
                          clear c18
                          by_cases c19 : x5_1 < (l1.length : Int)
                          · rw [if_pos c19] at H
                            have c19b0 : decide (x5_1 < (l1.length : Int)) = true := decide_eq_true c19
                            clear c19
                            by_cases c20 : (((rd_T117 l1 x6_3).f0.f0) == ((rd_T117 l1 x5_1).f0.f0) && (((rd_T117 l1 x6_3).f0.f1) == ((rd_T117 l1 x5_1).f0.f1) && (((rd_T117 l1 x6_3).f0.f2) == ((rd_T117 l1 x5_1).f0.f2) && (((rd_T117 l1 x6_3).f0.f3) == ((rd_T117 l1 x5_1).f0.f3))))) = true
                            · rw [if_pos c20] at H
                              have c20b0 : (((rd_T117 l1 x6_3).f0.f0) == ((rd_T117 l1 x5_1).f0.f0) && (((rd_T117 l1 x6_3).f0.f1) == ((rd_T117 l1 x5_1).f0.f1) && (((rd_T117 l1 x6_3).f0.f2) == ((rd_T117 l1 x5_1).f0.f2) && (((rd_T117 l1 x6_3).f0.f3) == ((rd_T117 l1 x5_1).f0.f3))))) = true := c20
                              (try (have c20b1 : decide (((rd_T117 l1 x6_3).f0.f0) = ((rd_T117 l1 x5_1).f0.f0) && (((rd_T117 l1 x6_3).f0.f1) == ((rd_T117 l1 x5_1).f0.f1) && (((rd_T117 l1 x6_3).f0.f2) == ((rd_T117 l1 x5_1).f0.f2) && (((rd_T117 l1 x6_3).f0.f3) == ((rd_T117 l1 x5_1).f0.f3))))) = true := by simpa using c20))
                              (try (have c20b2 : (((rd_T117 l1 x6_3).f0.f0) == ((rd_T117 l1 x5_1).f0.f0) && (((rd_T117 l1 x6_3).f0.f1) == ((rd_T117 l1 x5_1).f0.f1) && (((rd_T117 l1 x6_3).f0.f2) == ((rd_T117 l1 x5_1).f0.f2) && (((rd_T117 l1 x6_3).f0.f3) == ((rd_T117 l1 x5_1).f0.f3))))) = true := by simpa using c20))
                              clear c20
                              obtain rfl := Option.some.inj H
                              try go_wp2
                              have n0_ := Aside0.mk (blk_drew BK412.out)
                              have n1_ := Aside0.mk (below_drew1 HB.out)
                              clear BK412
                              clear HB
                              have BK412 := n0_
                              have HB := n1_
                              clear n0_ n1_
                              have p417 : 0 ≤ (x6_3 : Int) := of_decide_eq_true (by first | (with_reducible assumption) | assumption)
                              have q417 : x6_3 < (l1.length : Int) := of_decide_eq_true (by first | (with_reducible assumption) | assumption)
                              obtain ⟨ad417, e417, hx417_0, hx417_1, hx417_2, hx417_3, hx417_4⟩ := at_T117 HR1.out x6_3 p417 q417
                              have hw417_4 := hx417_4
                              have hw417_3 := hx417_3
                              have hw417_2 := hx417_2
                              have hw417_1 := hx417_1
                              have hw417_0 := hx417_0
                              cases e417
                              replace hx417_0 := (HB.out.cell (World.block_lt_of_cell? w _ hx417_0)).trans hx417_0
                              replace hx417_1 := (HB.out.cell (World.block_lt_of_cell? w _ hx417_1)).trans hx417_1
                              replace hx417_2 := (HB.out.cell (World.block_lt_of_cell? w _ hx417_2)).trans hx417_2
                              replace hx417_3 := (HB.out.cell (World.block_lt_of_cell? w _ hx417_3)).trans hx417_3
                              replace hx417_4 := (HB.out.cell (World.block_lt_of_cell? w _ hx417_4)).trans hx417_4
                              replace p417 := eq_true p417
                              replace q417 := eq_true q417
                              have p418 : 0 ≤ (x5_1 : Int) := of_decide_eq_true (by first | (with_reducible assumption) | assumption)
                              have q418 : x5_1 < (l1.length : Int) := of_decide_eq_true (by first | (with_reducible assumption) | assumption)
                              obtain ⟨ad418, e418, hx418_0, hx418_1, hx418_2, hx418_3, hx418_4⟩ := at_T117 HR1.out x5_1 p418 q418
                              have hw418_4 := hx418_4
                              have hw418_3 := hx418_3
                              have hw418_2 := hx418_2
                              have hw418_1 := hx418_1
                              have hw418_0 := hx418_0
                              obtain rfl : ad417 = ad418 := (by injection e418)
                              replace hx418_0 := (HB.out.cell (World.block_lt_of_cell? w _ hx418_0)).trans hx418_0
                              replace hx418_1 := (HB.out.cell (World.block_lt_of_cell? w _ hx418_1)).trans hx418_1
                              replace hx418_2 := (HB.out.cell (World.block_lt_of_cell? w _ hx418_2)).trans hx418_2
                              replace hx418_3 := (HB.out.cell (World.block_lt_of_cell? w _ hx418_3)).trans hx418_3
                              replace hx418_4 := (HB.out.cell (World.block_lt_of_cell? w _ hx418_4)).trans hx418_4
                              replace p418 := eq_true p418
                              replace q418 := eq_true q418
                              refine start_ (n := 11) (S := fun w' => w'.cell? (ad417.add ((x6_3).toNat * 5)) = some (.int .u32 ((rd_T117 l1 x6_3).f0.f0)) ∧ w'.cell? ⟨(ad417.add ((x6_3).toNat * 5)).block, (ad417.add ((x6_3).toNat * 5)).off + 1, none⟩ = some (.int .u8 ((rd_T117 l1 x6_3).f0.f1)) ∧ w'.cell? ⟨(ad417.add ((x6_3).toNat * 5)).block, (ad417.add ((x6_3).toNat * 5)).off + 2, none⟩ = some (.int .i64 ((rd_T117 l1 x6_3).f0.f2)) ∧ w'.cell? ⟨(ad417.add ((x6_3).toNat * 5)).block, (ad417.add ((x6_3).toNat * 5)).off + 3, none⟩ = some (.int .i64 ((rd_T117 l1 x6_3).f0.f3)) ∧ w'.cell? ⟨(ad417.add ((x6_3).toNat * 5)).block, (ad417.add ((x6_3).toNat * 5)).off + 4, none⟩ = some (.int .i64 ((rd_T117 l1 x6_3).f1)) ∧ w'.cell? (ad417.add ((x5_1).toNat * 5)) = some (.int .u32 ((rd_T117 l1 x5_1).f0.f0)) ∧ w'.cell? ⟨(ad417.add ((x5_1).toNat * 5)).block, (ad417.add ((x5_1).toNat * 5)).off + 1, none⟩ = some (.int .u8 ((rd_T117 l1 x5_1).f0.f1)) ∧ w'.cell? ⟨(ad417.add ((x5_1).toNat * 5)).block, (ad417.add ((x5_1).toNat * 5)).off + 2, none⟩ = some (.int .i64 ((rd_T117 l1 x5_1).f0.f2)) ∧ w'.cell? ⟨(ad417.add ((x5_1).toNat * 5)).block, (ad417.add ((x5_1).toNat * 5)).off + 3, none⟩ = some (.int .i64 ((rd_T117 l1 x5_1).f0.f3)) ∧ w'.cell? ⟨(ad417.add ((x5_1).toNat * 5)).block, (ad417.add ((x5_1).toNat * 5)).off + 4, none⟩ = some (.int .i64 ((rd_T117 l1 x5_1).f1))) (ds := []) #[false, false, false, false, false, false, false, false, false, false, false] (by kernel_rfl) rfl rfl ⟨((HB.out.cell (World.block_lt_of_cell? w _ hw417_0)).trans hw417_0), ((HB.out.cell (World.block_lt_of_cell? w _ hw417_1)).trans hw417_1), ((HB.out.cell (World.block_lt_of_cell? w _ hw417_2)).trans hw417_2), ((HB.out.cell (World.block_lt_of_cell? w _ hw417_3)).trans hw417_3), ((HB.out.cell (World.block_lt_of_cell? w _ hw417_4)).trans hw417_4), ((HB.out.cell (World.block_lt_of_cell? w _ hw418_0)).trans hw418_0), ((HB.out.cell (World.block_lt_of_cell? w _ hw418_1)).trans hw418_1), ((HB.out.cell (World.block_lt_of_cell? w _ hw418_2)).trans hw418_2), ((HB.out.cell (World.block_lt_of_cell? w _ hw418_3)).trans hw418_3), ((HB.out.cell (World.block_lt_of_cell? w _ hw418_4)).trans hw418_4)⟩ (fun hHeld => ?_); refine with_tabW horariumref13_times.tab9 horariumref13_times.bits9 (fun HT_ HW_ => ?_)
                              generalize wr.drew = w21 at BK412 HB hx417_0 hx417_1 hx417_2 hx417_3 hx417_4 hx418_0 hx418_1 hx418_2 hx418_3 hx418_4 hHeld ⊢
                              refine pure_ (i := 0) (N := some 35) (v := ?_) (a' := ?_) #[true, false, false, false, false, false, false, false, false, false, false] rfl rfl (any_of HT_.out (by kernel_rfl)) (fun _ _ _ h => h) (Or.inl ⟨by rfl, ?_⟩) ?_ ?_
                              rotate_left
                              · intro w'
                                go_simp
                                with_reducible rfl
                              rotate_left
                              · simp only [Act.put, List.setIfInBounds_toArray, List.set_cons_zero, List.set_cons_succ, i64_w, i32_w]
                                rfl
                              refine pure_ (i := 1) (N := some 36) (v := ?_) (a' := ?_) #[true, true, false, false, false, false, false, false, false, false, false] rfl rfl (any_of HT_.out (by kernel_rfl)) (fun _ _ _ h => h) (Or.inl ⟨by rfl, ?_⟩) ?_ ?_
                              rotate_left
                              · intro w'
                                go_simp
                                with_reducible rfl
                              rotate_left
                              · simp only [Act.put, List.setIfInBounds_toArray, List.set_cons_zero, List.set_cons_succ, i64_w, i32_w]
                                rfl
                              refine pure_ (i := 2) (N := some 37) (v := ?_) (a' := ?_) #[true, true, true, false, false, false, false, false, false, false, false] rfl rfl (any_of HT_.out (by kernel_rfl)) (fun _ _ _ h => h) (Or.inl ⟨by rfl, ?_⟩) ?_ ?_
                              rotate_left
                              · intro w'
                                go_simp
                                with_reducible rfl
                              rotate_left
                              · simp only [Act.put, List.setIfInBounds_toArray, List.set_cons_zero, List.set_cons_succ, i64_w, i32_w]
                                rfl
                              refine pure_ (i := 3) (N := some 38) (v := ?_) (a' := ?_) #[true, true, true, true, false, false, false, false, false, false, false] rfl rfl (any_of HT_.out (by kernel_rfl)) (fun _ _ _ h => h) (Or.inl ⟨by rfl, ?_⟩) ?_ ?_
                              rotate_left
                              · intro w'
                                go_simp
                                with_reducible rfl
                              rotate_left
                              · simp only [Act.put, List.setIfInBounds_toArray, List.set_cons_zero, List.set_cons_succ, i64_w, i32_w]
                                rfl
                              refine pure_ (i := 5) (N := some 40) (v := ?_) (a' := ?_) #[true, true, true, true, false, true, false, false, false, false, false] rfl rfl (any_of HT_.out (by kernel_rfl)) (fun _ _ _ h => h) (Or.inl ⟨by rfl, ?_⟩) ?_ ?_
                              rotate_left
                              · intro w'
                                go_simp
                                with_reducible rfl
                              rotate_left
                              · simp only [Act.put, List.setIfInBounds_toArray, List.set_cons_zero, List.set_cons_succ, i64_w, i32_w]
                                rfl
                              refine pure_ (i := 6) (N := some 41) (v := ?_) (a' := ?_) #[true, true, true, true, false, true, true, false, false, false, false] rfl rfl (any_of HT_.out (by kernel_rfl)) (fun _ _ _ h => h) (Or.inl ⟨by rfl, ?_⟩) ?_ ?_
                              rotate_left
                              · intro w'
                                go_simp
                                with_reducible rfl
                              rotate_left
                              · simp only [Act.put, List.setIfInBounds_toArray, List.set_cons_zero, List.set_cons_succ, i64_w, i32_w]
                                rfl
                              refine pure_ (i := 7) (N := some 42) (v := ?_) (a' := ?_) #[true, true, true, true, false, true, true, true, false, false, false] rfl rfl (any_of HT_.out (by kernel_rfl)) (fun _ _ _ h => h) (Or.inl ⟨by rfl, ?_⟩) ?_ ?_
                              rotate_left
                              · intro w'
                                go_simp
                                with_reducible rfl
                              rotate_left
                              · simp only [Act.put, List.setIfInBounds_toArray, List.set_cons_zero, List.set_cons_succ, i64_w, i32_w]
                                rfl
                              refine pure_ (i := 8) (N := some 43) (v := ?_) (a' := ?_) #[true, true, true, true, false, true, true, true, true, false, false] rfl rfl (any_of HT_.out (by kernel_rfl)) (fun _ _ _ h => h) (Or.inl ⟨by rfl, ?_⟩) ?_ ?_
                              rotate_left
                              · intro w'
                                go_simp
                                with_reducible rfl
                              rotate_left
                              · simp only [Act.put, List.setIfInBounds_toArray, List.set_cons_zero, List.set_cons_succ, i64_w, i32_w]
                                rfl
                              refine take_ (i := 4) (N := some 39) (v := ?_) (a' := ?_) #[true, true, true, true, true, true, true, true, true, false, false] rfl rfl (take_ofW HT_.out HW_.out (by kernel_rfl)) (fun _ _ _ h => h) (Or.inl ⟨by rfl, ?_⟩) hHeld ?_ ?_
                              rotate_left
                              · rintro w' ⟨s0, s1, s2, s3, s4, s5, s6, s7, s8, s9⟩
                                go_simp
                                with_reducible rfl
                              rotate_left
                              · simp only [Act.put, List.setIfInBounds_toArray, List.set_cons_zero, List.set_cons_succ, i64_w, i32_w]
                                rfl
                              refine take_ (i := 9) (N := some 44) (v := ?_) (a' := ?_) #[true, true, true, true, true, true, true, true, true, true, false] rfl rfl (take_ofW HT_.out HW_.out (by kernel_rfl)) (fun _ _ _ h => h) (Or.inl ⟨by rfl, ?_⟩) hHeld ?_ ?_
                              rotate_left
                              · rintro w' ⟨s0, s1, s2, s3, s4, s5, s6, s7, s8, s9⟩
                                go_simp
                                with_reducible rfl
                              rotate_left
                              · simp only [Act.put, List.setIfInBounds_toArray, List.set_cons_zero, List.set_cons_succ, i64_w, i32_w]
                                rfl
                              refine pure_ (i := 10) (N := some 45) (v := ?_) (a' := ?_) #[true, true, true, true, true, true, true, true, true, true, true] rfl rfl (any_of HT_.out (by kernel_rfl)) (fun _ _ _ h => h) (Or.inl ⟨by rfl, ?_⟩) ?_ ?_
                              rotate_left
                              · intro w'
                                go_simp
                                with_reducible rfl
                              rotate_left
                              · simp only [Act.put, List.setIfInBounds_toArray, List.set_cons_zero, List.set_cons_succ, i64_w, i32_w]
                                rfl
                              refine done_ (done_of HT_.out (by kernel_rfl)) ?_
                              try go_wp2
                              go_ret
                              exact ⟨by first | rfl | (simp [errW_none, errW_some] <;> rfl) | (simp [*, errW_none, errW_some] <;> rfl), by repeat (first | (with_reducible first | exact HB.out | apply below_alloc | apply pw_below_drewN | apply below_drew1 | refine below_set ?_ GE412.out) | exact HB.out)⟩
                            · rw [if_neg c20] at H
                              have c20b0 : (((rd_T117 l1 x6_3).f0.f0) == ((rd_T117 l1 x5_1).f0.f0) && (((rd_T117 l1 x6_3).f0.f1) == ((rd_T117 l1 x5_1).f0.f1) && (((rd_T117 l1 x6_3).f0.f2) == ((rd_T117 l1 x5_1).f0.f2) && (((rd_T117 l1 x6_3).f0.f3) == ((rd_T117 l1 x5_1).f0.f3))))) = false := by simpa using c20
                              (try (have c20b1 : decide (((rd_T117 l1 x6_3).f0.f0) = ((rd_T117 l1 x5_1).f0.f0) && (((rd_T117 l1 x6_3).f0.f1) == ((rd_T117 l1 x5_1).f0.f1) && (((rd_T117 l1 x6_3).f0.f2) == ((rd_T117 l1 x5_1).f0.f2) && (((rd_T117 l1 x6_3).f0.f3) == ((rd_T117 l1 x5_1).f0.f3))))) = false := by simpa using c20))
                              (try (have c20b2 : (((rd_T117 l1 x6_3).f0.f0) == ((rd_T117 l1 x5_1).f0.f0) && (((rd_T117 l1 x6_3).f0.f1) == ((rd_T117 l1 x5_1).f0.f1) && (((rd_T117 l1 x6_3).f0.f2) == ((rd_T117 l1 x5_1).f0.f2) && (((rd_T117 l1 x6_3).f0.f3) == ((rd_T117 l1 x5_1).f0.f3))))) = false := by simpa using c20))
                              (try (have c20b3 : ¬ (((rd_T117 l1 x6_3).f0.f0) = ((rd_T117 l1 x5_1).f0.f0) && (((rd_T117 l1 x6_3).f0.f1) == ((rd_T117 l1 x5_1).f0.f1) && (((rd_T117 l1 x6_3).f0.f2) == ((rd_T117 l1 x5_1).f0.f2) && (((rd_T117 l1 x6_3).f0.f3) == ((rd_T117 l1 x5_1).f0.f3))))) := by simpa using c20))
                              clear c20
                              have H' := Aside0.mk H
                              clear H
                              try go_wp2
                              have n0_ := Aside0.mk (blk_drew BK412.out)
                              have n1_ := Aside0.mk (below_drew1 HB.out)
                              clear BK412
                              clear HB
                              have BK412 := n0_
                              have HB := n1_
                              clear n0_ n1_
                              have p417 : 0 ≤ (x6_3 : Int) := of_decide_eq_true (by first | (with_reducible assumption) | assumption)
                              have q417 : x6_3 < (l1.length : Int) := of_decide_eq_true (by first | (with_reducible assumption) | assumption)
                              obtain ⟨ad417, e417, hx417_0, hx417_1, hx417_2, hx417_3, hx417_4⟩ := at_T117 HR1.out x6_3 p417 q417
                              have hw417_4 := hx417_4
                              have hw417_3 := hx417_3
                              have hw417_2 := hx417_2
                              have hw417_1 := hx417_1
                              have hw417_0 := hx417_0
                              cases e417
                              replace hx417_0 := (HB.out.cell (World.block_lt_of_cell? w _ hx417_0)).trans hx417_0
                              replace hx417_1 := (HB.out.cell (World.block_lt_of_cell? w _ hx417_1)).trans hx417_1
                              replace hx417_2 := (HB.out.cell (World.block_lt_of_cell? w _ hx417_2)).trans hx417_2
                              replace hx417_3 := (HB.out.cell (World.block_lt_of_cell? w _ hx417_3)).trans hx417_3
                              replace hx417_4 := (HB.out.cell (World.block_lt_of_cell? w _ hx417_4)).trans hx417_4
                              replace p417 := eq_true p417
                              replace q417 := eq_true q417
                              have p418 : 0 ≤ (x5_1 : Int) := of_decide_eq_true (by first | (with_reducible assumption) | assumption)
                              have q418 : x5_1 < (l1.length : Int) := of_decide_eq_true (by first | (with_reducible assumption) | assumption)
                              obtain ⟨ad418, e418, hx418_0, hx418_1, hx418_2, hx418_3, hx418_4⟩ := at_T117 HR1.out x5_1 p418 q418
                              have hw418_4 := hx418_4
                              have hw418_3 := hx418_3
                              have hw418_2 := hx418_2
                              have hw418_1 := hx418_1
                              have hw418_0 := hx418_0
                              obtain rfl : ad417 = ad418 := (by injection e418)
                              replace hx418_0 := (HB.out.cell (World.block_lt_of_cell? w _ hx418_0)).trans hx418_0
                              replace hx418_1 := (HB.out.cell (World.block_lt_of_cell? w _ hx418_1)).trans hx418_1
                              replace hx418_2 := (HB.out.cell (World.block_lt_of_cell? w _ hx418_2)).trans hx418_2
                              replace hx418_3 := (HB.out.cell (World.block_lt_of_cell? w _ hx418_3)).trans hx418_3
                              replace hx418_4 := (HB.out.cell (World.block_lt_of_cell? w _ hx418_4)).trans hx418_4
                              replace p418 := eq_true p418
                              replace q418 := eq_true q418
                              refine start_ (n := 11) (S := fun w' => w'.cell? (ad417.add ((x6_3).toNat * 5)) = some (.int .u32 ((rd_T117 l1 x6_3).f0.f0)) ∧ w'.cell? ⟨(ad417.add ((x6_3).toNat * 5)).block, (ad417.add ((x6_3).toNat * 5)).off + 1, none⟩ = some (.int .u8 ((rd_T117 l1 x6_3).f0.f1)) ∧ w'.cell? ⟨(ad417.add ((x6_3).toNat * 5)).block, (ad417.add ((x6_3).toNat * 5)).off + 2, none⟩ = some (.int .i64 ((rd_T117 l1 x6_3).f0.f2)) ∧ w'.cell? ⟨(ad417.add ((x6_3).toNat * 5)).block, (ad417.add ((x6_3).toNat * 5)).off + 3, none⟩ = some (.int .i64 ((rd_T117 l1 x6_3).f0.f3)) ∧ w'.cell? ⟨(ad417.add ((x6_3).toNat * 5)).block, (ad417.add ((x6_3).toNat * 5)).off + 4, none⟩ = some (.int .i64 ((rd_T117 l1 x6_3).f1)) ∧ w'.cell? (ad417.add ((x5_1).toNat * 5)) = some (.int .u32 ((rd_T117 l1 x5_1).f0.f0)) ∧ w'.cell? ⟨(ad417.add ((x5_1).toNat * 5)).block, (ad417.add ((x5_1).toNat * 5)).off + 1, none⟩ = some (.int .u8 ((rd_T117 l1 x5_1).f0.f1)) ∧ w'.cell? ⟨(ad417.add ((x5_1).toNat * 5)).block, (ad417.add ((x5_1).toNat * 5)).off + 2, none⟩ = some (.int .i64 ((rd_T117 l1 x5_1).f0.f2)) ∧ w'.cell? ⟨(ad417.add ((x5_1).toNat * 5)).block, (ad417.add ((x5_1).toNat * 5)).off + 3, none⟩ = some (.int .i64 ((rd_T117 l1 x5_1).f0.f3)) ∧ w'.cell? ⟨(ad417.add ((x5_1).toNat * 5)).block, (ad417.add ((x5_1).toNat * 5)).off + 4, none⟩ = some (.int .i64 ((rd_T117 l1 x5_1).f1))) (ds := []) #[false, false, false, false, false, false, false, false, false, false, false] (by kernel_rfl) rfl rfl ⟨((HB.out.cell (World.block_lt_of_cell? w _ hw417_0)).trans hw417_0), ((HB.out.cell (World.block_lt_of_cell? w _ hw417_1)).trans hw417_1), ((HB.out.cell (World.block_lt_of_cell? w _ hw417_2)).trans hw417_2), ((HB.out.cell (World.block_lt_of_cell? w _ hw417_3)).trans hw417_3), ((HB.out.cell (World.block_lt_of_cell? w _ hw417_4)).trans hw417_4), ((HB.out.cell (World.block_lt_of_cell? w _ hw418_0)).trans hw418_0), ((HB.out.cell (World.block_lt_of_cell? w _ hw418_1)).trans hw418_1), ((HB.out.cell (World.block_lt_of_cell? w _ hw418_2)).trans hw418_2), ((HB.out.cell (World.block_lt_of_cell? w _ hw418_3)).trans hw418_3), ((HB.out.cell (World.block_lt_of_cell? w _ hw418_4)).trans hw418_4)⟩ (fun hHeld => ?_); refine with_tabW horariumref13_times.tab9 horariumref13_times.bits9 (fun HT_ HW_ => ?_)
                              generalize wr.drew = w22 at BK412 HB hx417_0 hx417_1 hx417_2 hx417_3 hx417_4 hx418_0 hx418_1 hx418_2 hx418_3 hx418_4 hHeld ⊢
                              refine pure_ (i := 0) (N := some 35) (v := ?_) (a' := ?_) #[true, false, false, false, false, false, false, false, false, false, false] rfl rfl (any_of HT_.out (by kernel_rfl)) (fun _ _ _ h => h) (Or.inl ⟨by rfl, ?_⟩) ?_ ?_
                              rotate_left
                              · intro w'
                                go_simp
                                with_reducible rfl
                              rotate_left
                              · simp only [Act.put, List.setIfInBounds_toArray, List.set_cons_zero, List.set_cons_succ, i64_w, i32_w]
                                rfl
                              refine pure_ (i := 1) (N := some 36) (v := ?_) (a' := ?_) #[true, true, false, false, false, false, false, false, false, false, false] rfl rfl (any_of HT_.out (by kernel_rfl)) (fun _ _ _ h => h) (Or.inl ⟨by rfl, ?_⟩) ?_ ?_
                              rotate_left
                              · intro w'
                                go_simp
                                with_reducible rfl
                              rotate_left
                              · simp only [Act.put, List.setIfInBounds_toArray, List.set_cons_zero, List.set_cons_succ, i64_w, i32_w]
                                rfl
                              refine pure_ (i := 2) (N := some 37) (v := ?_) (a' := ?_) #[true, true, true, false, false, false, false, false, false, false, false] rfl rfl (any_of HT_.out (by kernel_rfl)) (fun _ _ _ h => h) (Or.inl ⟨by rfl, ?_⟩) ?_ ?_
                              rotate_left
                              · intro w'
                                go_simp
                                with_reducible rfl
                              rotate_left
                              · simp only [Act.put, List.setIfInBounds_toArray, List.set_cons_zero, List.set_cons_succ, i64_w, i32_w]
                                rfl
                              refine pure_ (i := 3) (N := some 38) (v := ?_) (a' := ?_) #[true, true, true, true, false, false, false, false, false, false, false] rfl rfl (any_of HT_.out (by kernel_rfl)) (fun _ _ _ h => h) (Or.inl ⟨by rfl, ?_⟩) ?_ ?_
                              rotate_left
                              · intro w'
                                go_simp
                                with_reducible rfl
                              rotate_left
                              · simp only [Act.put, List.setIfInBounds_toArray, List.set_cons_zero, List.set_cons_succ, i64_w, i32_w]
                                rfl
                              refine pure_ (i := 5) (N := some 40) (v := ?_) (a' := ?_) #[true, true, true, true, false, true, false, false, false, false, false] rfl rfl (any_of HT_.out (by kernel_rfl)) (fun _ _ _ h => h) (Or.inl ⟨by rfl, ?_⟩) ?_ ?_
                              rotate_left
                              · intro w'
                                go_simp
                                with_reducible rfl
                              rotate_left
                              · simp only [Act.put, List.setIfInBounds_toArray, List.set_cons_zero, List.set_cons_succ, i64_w, i32_w]
                                rfl
                              refine pure_ (i := 6) (N := some 41) (v := ?_) (a' := ?_) #[true, true, true, true, false, true, true, false, false, false, false] rfl rfl (any_of HT_.out (by kernel_rfl)) (fun _ _ _ h => h) (Or.inl ⟨by rfl, ?_⟩) ?_ ?_
                              rotate_left
                              · intro w'
                                go_simp
                                with_reducible rfl
                              rotate_left
                              · simp only [Act.put, List.setIfInBounds_toArray, List.set_cons_zero, List.set_cons_succ, i64_w, i32_w]
                                rfl
                              refine pure_ (i := 7) (N := some 42) (v := ?_) (a' := ?_) #[true, true, true, true, false, true, true, true, false, false, false] rfl rfl (any_of HT_.out (by kernel_rfl)) (fun _ _ _ h => h) (Or.inl ⟨by rfl, ?_⟩) ?_ ?_
                              rotate_left
                              · intro w'
                                go_simp
                                with_reducible rfl
                              rotate_left
                              · simp only [Act.put, List.setIfInBounds_toArray, List.set_cons_zero, List.set_cons_succ, i64_w, i32_w]
                                rfl
                              refine pure_ (i := 8) (N := some 43) (v := ?_) (a' := ?_) #[true, true, true, true, false, true, true, true, true, false, false] rfl rfl (any_of HT_.out (by kernel_rfl)) (fun _ _ _ h => h) (Or.inl ⟨by rfl, ?_⟩) ?_ ?_
                              rotate_left
                              · intro w'
                                go_simp
                                with_reducible rfl
                              rotate_left
                              · simp only [Act.put, List.setIfInBounds_toArray, List.set_cons_zero, List.set_cons_succ, i64_w, i32_w]
                                rfl
                              refine take_ (i := 4) (N := some 39) (v := ?_) (a' := ?_) #[true, true, true, true, true, true, true, true, true, false, false] rfl rfl (take_ofW HT_.out HW_.out (by kernel_rfl)) (fun _ _ _ h => h) (Or.inl ⟨by rfl, ?_⟩) hHeld ?_ ?_
                              rotate_left
                              · rintro w' ⟨s0, s1, s2, s3, s4, s5, s6, s7, s8, s9⟩
                                go_simp
                                with_reducible rfl
                              rotate_left
                              · simp only [Act.put, List.setIfInBounds_toArray, List.set_cons_zero, List.set_cons_succ, i64_w, i32_w]
                                rfl
                              refine take_ (i := 9) (N := some 44) (v := ?_) (a' := ?_) #[true, true, true, true, true, true, true, true, true, true, false] rfl rfl (take_ofW HT_.out HW_.out (by kernel_rfl)) (fun _ _ _ h => h) (Or.inl ⟨by rfl, ?_⟩) hHeld ?_ ?_
                              rotate_left
                              · rintro w' ⟨s0, s1, s2, s3, s4, s5, s6, s7, s8, s9⟩
                                go_simp
                                with_reducible rfl
                              rotate_left
                              · simp only [Act.put, List.setIfInBounds_toArray, List.set_cons_zero, List.set_cons_succ, i64_w, i32_w]
                                rfl
                              refine pure_ (i := 10) (N := some 45) (v := ?_) (a' := ?_) #[true, true, true, true, true, true, true, true, true, true, true] rfl rfl (any_of HT_.out (by kernel_rfl)) (fun _ _ _ h => h) (Or.inl ⟨by rfl, ?_⟩) ?_ ?_
                              rotate_left
                              · intro w'
                                go_simp
                                with_reducible rfl
                              rotate_left
                              · simp only [Act.put, List.setIfInBounds_toArray, List.set_cons_zero, List.set_cons_succ, i64_w, i32_w]
                                rfl
                              refine done_ (done_of HT_.out (by kernel_rfl)) ?_
                              try go_wp2
                              go_roundg k3
                              case measure => have := HK1.out; have := HJ4.out; have := HK3.out; omega
                              case rel => exact ⟨(wrap64 (x6_3 + 1)), (by first | rfl | (simp; done) | (simp [*]; done)), H', ⟨by have := HK1.out; have := HJ4.out; have := HK3.out; omega⟩, ⟨by (with_reducible repeat (first | refine blk_drewN ?_ _ | refine blk_drew ?_ | refine blk_alloc ?_ _)); exact BK412.out⟩, ⟨by repeat (first | (with_reducible first | exact HB.out | apply below_alloc | apply pw_below_drewN | apply below_drew1 | refine below_set ?_ GE412.out) | exact HB.out)⟩⟩
                          · rw [if_neg c19] at H
                            exact absurd H (by simp)
                        · rw [if_neg c18] at H
                          exact absurd H (by simp)
                      · rw [if_neg c17] at H
                        exact absurd H (by simp)
                    · rw [if_neg c16] at H
                      exact absurd H (by simp)
                  · rw [if_neg c15] at H
                    have c15b0 : decide (x6_3 < x5_1) = false := decide_eq_false c15
                    clear c15
                    have H' := Aside0.mk H
                    clear H
                    go_wp2
                    go_roundg k3
                    case measure => have := HK1.out; have := HJ4.out; have := HK3.out; omega
                    case rel => exact ⟨(wrap64 (x5_1 + 1)), (by first | rfl | (simp; done) | (simp [*]; done)), H', ⟨by have := HK1.out; have := HJ4.out; have := HK3.out; omega⟩, ⟨by (with_reducible repeat (first | refine blk_drewN ?_ _ | refine blk_drew ?_ | refine blk_alloc ?_ _)); exact BK412.out⟩, ⟨by repeat (first | (with_reducible first | exact HB.out | apply below_alloc | apply pw_below_drewN | apply below_drew1 | refine below_set ?_ GE412.out) | exact HB.out)⟩⟩
      · rw [if_neg c4] at H
        have c4b0 : decide (x5_1 < (l1.length : Int)) = false := decide_eq_false c4
        clear c4
        by_cases c23 : (l1.length : Int) ≥ 1
        · rw [if_pos c23] at H
          have c23b0 : decide (1 ≤ (l1.length : Int)) = true := decide_eq_true c23
          have c23b1 : decide (1 ≤ l1.length) = true := decide_eq_true (by omega)
          clear c23
          obtain rfl := Option.some.inj H
          go_wp2
          go_ret
          exact ⟨by first | rfl | (simp [errW_none, errW_some] <;> rfl) | (simp [*, errW_none, errW_some] <;> rfl), by repeat (first | (with_reducible first | exact HB.out | apply below_alloc | apply pw_below_drewN | apply below_drew1 | refine below_set ?_ GE412.out) | exact HB.out)⟩
        · rw [if_neg c23] at H
          have c23b0 : decide (1 ≤ (l1.length : Int)) = false := decide_eq_false c23
          have c23b1 : decide (1 ≤ l1.length) = false := decide_eq_false (by omega)
          clear c23
          obtain rfl := Option.some.inj H
          go_wp2
          go_ret
          exact ⟨by first | rfl | (simp [errW_none, errW_some] <;> rfl) | (simp [*, errW_none, errW_some] <;> rfl), by repeat (first | (with_reducible first | exact HB.out | apply below_alloc | apply pw_below_drewN | apply below_drew1 | refine below_set ?_ GE412.out) | exact HB.out)⟩
end Go.Proofs.YtineikfhfmiidaaGreat.Gp
namespace Go.Proofs.YtineikfhfmiidaaGreat.Gp
open Go.RowKit Go.Proofs.YtineikfhfmiidaaGreatW.PrintWords Go.Proofs.YtineikfhfmiidaaGreatW.PrintLast Go.Proofs.YtineikfhfmiidaaGreatW.PrintMore
set_option linter.unusedVariables false
set_option linter.unusedSimpArgs false
mutual
def horariumref13_places.l0 : Nat → Int → List (S120) → Int → Option (Bool)
  | 0, _, _, _ => none
  | k + 1, x0, x1, x5 => if x5 < (x1.length : Int) then (if 0 ≤ x5 then (if ((rd_T120 x1 x5).f0) < 0 then (horariumref13_places.j1 k x0 x1 x5 true) else (if ((rd_T120 x1 x5).f0) ≥ x0 then (horariumref13_places.j1 k x0 x1 x5 true) else ((horariumref13_cost.f ((rd_T120 x1 x5).f1)).bind fun t422 => (horariumref13_places.j1 k x0 x1 x5 (!t422))))) else (none)) else (some (decide ((x1.length : Int) ≤ 12)))
def horariumref13_places.j1 : Nat → Int → List (S120) → Int → Bool → Option (Bool)
  | 0, _, _, _, _ => none
  | k + 1, x0, x1, x5, x36 => if x36 = true then (some false) else (horariumref13_places.l1 k x0 x1 x5 0)
def horariumref13_places.l1 : Nat → Int → List (S120) → Int → Int → Option (Bool)
  | 0, _, _, _, _ => none
  | k + 1, x0, x1, x5, x6 => if x6 < x5 then (if 0 ≤ x6 then (if x6 < (x1.length : Int) then (if 0 ≤ x5 then (if x5 < (x1.length : Int) then (if ((rd_T120 x1 x6).f0) = ((rd_T120 x1 x5).f0) then (some false) else (horariumref13_places.l1 k x0 x1 x5 (wrap64 (x6 + 1)))) else (none)) else (none)) else (none)) else (none)) else (horariumref13_places.l0 k x0 x1 (wrap64 (x5 + 1)))
end
def horariumref13_places.f (k : Nat) (a0 : Int) (l1 : List (S120)) : Option (Bool) := horariumref13_places.l0 k a0 l1 0
set_option maxHeartbeats 8000000 in
set_option maxRecDepth 100000 in
theorem horariumref13_places.calls (k : Nat) (a0 : Int) (A1 : Option Addr) (c1 : Nat) (l1 : List (S120)) (r : Bool) (w : World) (hr1 : Kd.C k120 w A1 l1.length l1) (hc1 : l1.length ≤ c1) (h : horariumref13_places.f k a0 l1 = some r) :
    Calls Tryz.prog 165 #[.int .i64 a0, .slice A1 l1.length c1] w fun e w' => e = .returned (.bool r) ∧ Drawn0 w w' := by
  have HR1 := Aside0.mk hr1
  have HC1 := Aside0.mk hc1
  clear hr1 hc1
  have H : (horariumref13_places.l0 k a0 l1 0) = some r := h
  clear h
  have H' := Aside0.mk H
  clear H
  go_enter Tryz.func165, Tryz.ntmps165
  go_wp2
  repeat (go_quiet (fail); try go_wp2)
  go_loopg [5] k (fun kq v5 w' => ∃ (x5_1 : Int), v5 = .int .i64 x5_1 ∧ Aside0 (horariumref13_places.l0 kq a0 l1 x5_1 = some r) ∧ Aside0 (kq ≤ k) ∧ Drawn0 w w')
  case atStart => exact ⟨(0), (by first | rfl | (simp; done) | (simp [*]; done)), H', ⟨Nat.le_refl _⟩, by repeat (first | exact Drawn0.refl _ | apply Drawn0.step)⟩
  case round =>
    clear H'
    try clear c1
    try clear p2
    obtain ⟨x5_1, rfl, HA, HK1, ⟨m1, rfl⟩⟩ := hrel
    cases gk with
    | zero => exact absurd HA.out (by simp [horariumref13_places.l0])
    | succ k1 =>
      have H := HA.out
      clear HA
      simp only [horariumref13_places.l0] at H
      by_cases c3 : x5_1 < (l1.length : Int)
      · rw [if_pos c3] at H
        have c3b0 : decide (x5_1 < (l1.length : Int)) = true := decide_eq_true c3
        clear c3
        have HC4 := Aside0.mk H
        clear H
        go_upto_region 4 with (fail)
        repeat (go_quiet (fail); go_upto_region 4 with (fail))
        go_cut [36] (fun v36 wc => ∃ (kq : Nat) (x36_3 : Bool), v36 = .bool x36_3 ∧ Aside0 (horariumref13_places.j1 kq a0 l1 x5_1 x36_3 = some r) ∧ Aside0 (kq ≤ k1) ∧ Drawn0 w wc)
        case first =>
          have H := HC4.out
          clear HC4
          by_cases c5 : 0 ≤ x5_1
          · rw [if_pos c5] at H
            have c5b0 : decide (0 ≤ x5_1) = true := decide_eq_true c5
            clear c5
            (first | rw [c5b0] | (simp only [i64_w, i32_w]; rw [c5b0]) | skip)
            by_cases c6 : ((rd_T120 l1 x5_1).f0) < 0
            · rw [if_pos c6] at H
              have c6b0 : decide (((rd_T120 l1 x5_1).f0) < 0) = true := decide_eq_true c6
              clear c6
              have H' := Aside0.mk H
              clear H
              have p419 : 0 ≤ (x5_1 : Int) := of_decide_eq_true (by first | (with_reducible assumption) | assumption)
              have q419 : x5_1 < (l1.length : Int) := of_decide_eq_true (by first | (with_reducible assumption) | assumption)
              obtain ⟨ad419, e419, hx419_0, hx419_1⟩ := at_T120 HR1.out x5_1 p419 q419
              cases e419
              replace p419 := eq_true p419
              replace q419 := eq_true q419
              go_wp2
              repeat (go_quiet (fail); try go_wp2)
              go_meet
              case rel => exact ⟨_, (true), (by first | rfl | (simp; done) | (simp [*]; done)), H', ⟨by have := HK1.out; first | omega | exact Nat.le_refl _⟩, by repeat (first | exact Drawn0.refl _ | apply Drawn0.step)⟩
            · rw [if_neg c6] at H
              have c6b0 : decide (((rd_T120 l1 x5_1).f0) < 0) = false := decide_eq_false c6
              clear c6
              by_cases c7 : ((rd_T120 l1 x5_1).f0) ≥ a0
              · rw [if_pos c7] at H
                have c7b0 : decide (a0 ≤ ((rd_T120 l1 x5_1).f0)) = true := decide_eq_true c7
                clear c7
                have H' := Aside0.mk H
                clear H
                have p419 : 0 ≤ (x5_1 : Int) := of_decide_eq_true (by first | (with_reducible assumption) | assumption)
                have q419 : x5_1 < (l1.length : Int) := of_decide_eq_true (by first | (with_reducible assumption) | assumption)
                obtain ⟨ad419, e419, hx419_0, hx419_1⟩ := at_T120 HR1.out x5_1 p419 q419
                cases e419
                replace p419 := eq_true p419
                replace q419 := eq_true q419
                have p420 : 0 ≤ (x5_1 : Int) := of_decide_eq_true (by first | (with_reducible assumption) | assumption)
                have q420 : x5_1 < (l1.length : Int) := of_decide_eq_true (by first | (with_reducible assumption) | assumption)
                obtain ⟨ad420, e420, hx420_0, hx420_1⟩ := at_T120 HR1.out x5_1 p420 q420
                obtain rfl : ad419 = ad420 := (by injection e420)
                replace p420 := eq_true p420
                replace q420 := eq_true q420
                go_wp2
                repeat (go_quiet (fail); try go_wp2)
                go_meet
                case rel => exact ⟨_, (true), (by first | rfl | (simp; done) | (simp [*]; done)), H', ⟨by have := HK1.out; first | omega | exact Nat.le_refl _⟩, by repeat (first | exact Drawn0.refl _ | apply Drawn0.step)⟩
              · rw [if_neg c7] at H
                have c7b0 : decide (a0 ≤ ((rd_T120 l1 x5_1).f0)) = false := decide_eq_false c7
                clear c7
                replace H := Option.bind_eq_some_iff.mp H
                obtain ⟨t422, A80, H⟩ := H
                replace H : (horariumref13_places.j1 k1 a0 l1 x5_1 (!t422)) = some r := H
                have A8 := Aside0.mk A80
                clear A80
                have H' := Aside0.mk H
                clear H
                have p419 : 0 ≤ (x5_1 : Int) := of_decide_eq_true (by first | (with_reducible assumption) | assumption)
                have q419 : x5_1 < (l1.length : Int) := of_decide_eq_true (by first | (with_reducible assumption) | assumption)
                obtain ⟨ad419, e419, hx419_0, hx419_1⟩ := at_T120 HR1.out x5_1 p419 q419
                cases e419
                replace p419 := eq_true p419
                replace q419 := eq_true q419
                have p420 : 0 ≤ (x5_1 : Int) := of_decide_eq_true (by first | (with_reducible assumption) | assumption)
                have q420 : x5_1 < (l1.length : Int) := of_decide_eq_true (by first | (with_reducible assumption) | assumption)
                obtain ⟨ad420, e420, hx420_0, hx420_1⟩ := at_T120 HR1.out x5_1 p420 q420
                obtain rfl : ad419 = ad420 := (by injection e420)
                replace p420 := eq_true p420
                replace q420 := eq_true q420
                have p421 : 0 ≤ (x5_1 : Int) := of_decide_eq_true (by first | (with_reducible assumption) | assumption)
                have q421 : x5_1 < (l1.length : Int) := of_decide_eq_true (by first | (with_reducible assumption) | assumption)
                obtain ⟨ad421, e421, hx421_0, hx421_1⟩ := at_T120 HR1.out x5_1 p421 q421
                obtain rfl : ad419 = ad421 := (by injection e421)
                replace p421 := eq_true p421
                replace q421 := eq_true q421
                go_wp2_with (first | (go_at_call 182; (with_reducible refine (horariumref13_cost.calls ((rd_T120 l1 x5_1).f1) t422 _ A8.out).mono ?_); rintro e w' ⟨rfl, ⟨nd, rfl⟩⟩; (try first | exact ⟨rfl, _, World.drewN_drewN _ _ _⟩ | exact ⟨rfl, _, Eq.trans (World.drewN_drewN _ _ _) (congrArg (World.drewN _) (Nat.add_assoc _ _ _))⟩)))
                repeat (go_quiet (first | (go_at_call 182; (with_reducible refine (horariumref13_cost.calls ((rd_T120 l1 x5_1).f1) t422 _ A8.out).mono ?_); rintro e w' ⟨rfl, ⟨nd, rfl⟩⟩; (try first | exact ⟨rfl, _, World.drewN_drewN _ _ _⟩ | exact ⟨rfl, _, Eq.trans (World.drewN_drewN _ _ _) (congrArg (World.drewN _) (Nat.add_assoc _ _ _))⟩))); try go_wp2_with (first | (go_at_call 182; (with_reducible refine (horariumref13_cost.calls ((rd_T120 l1 x5_1).f1) t422 _ A8.out).mono ?_); rintro e w' ⟨rfl, ⟨nd, rfl⟩⟩; (try first | exact ⟨rfl, _, World.drewN_drewN _ _ _⟩ | exact ⟨rfl, _, Eq.trans (World.drewN_drewN _ _ _) (congrArg (World.drewN _) (Nat.add_assoc _ _ _))⟩))))
                go_meet
                case rel => exact ⟨_, (!t422), (by first | rfl | (simp; done) | (simp [*]; done)), H', ⟨by have := HK1.out; first | omega | exact Nat.le_refl _⟩, by repeat (first | exact Drawn0.refl _ | apply Drawn0.step)⟩
          · rw [if_neg c5] at H
            exact absurd H (by simp)
        case rest =>
          clear HC4
          try clear c1
          try clear p2
          try clear c3
          try clear c3b0
          try clear p4
          try clear q4
          try clear hx4
          try clear c5
          try clear c5b0
          try clear c6
          try clear c6b0
          try clear c7
          try clear c7b0
          try clear hx419_0
          try clear hx419_1
          try clear hx420_0
          try clear hx420_1
          try clear hx421_0
          try clear hx421_1
          try clear p2
          try clear p419
          try clear p420
          try clear p421
          try clear q419
          try clear q420
          try clear q421
          obtain ⟨kq, x36_3, rfl, HA, HJ3, ⟨mc3, rfl⟩⟩ := hcut
          cases kq with
          | zero => exact absurd HA.out (by simp [horariumref13_places.j1])
          | succ kj3 =>
            have H := HA.out
            clear HA
            simp only [horariumref13_places.j1] at H
            by_cases c9 : x36_3 = true
            · subst c9
              have H1 : (some false) = some r := by rw [if_pos rfl] at H; exact H
              clear H
              have H := H1
              clear H1
              obtain rfl := Option.some.inj H
              go_wp2
              repeat (go_quiet (fail); try go_wp2)
              go_ret
              exact ⟨by first | rfl | (simp; done) | (simp [*]; done), by repeat (first | exact Drawn0.refl _ | apply Drawn0.step)⟩
            · replace c9 := Bool.eq_false_iff.mpr c9
              subst c9
              have H1 : (horariumref13_places.l1 kj3 a0 l1 x5_1 0) = some r := by rw [if_neg (show ¬ (false = true) by decide)] at H; exact H
              clear H
              have H := H1
              clear H1
              have H' := Aside0.mk H
              clear H
              go_wp2
              repeat (go_quiet (fail); try go_wp2)
              go_loopg [6] kj3 (fun kq v6 w' => ∃ (x6_3 : Int), v6 = .int .i64 x6_3 ∧ Aside0 (horariumref13_places.l1 kq a0 l1 x5_1 x6_3 = some r) ∧ Aside0 (kq ≤ kj3) ∧ Drawn0 w w')
              case atStart => exact ⟨(0), (by first | rfl | (simp; done) | (simp [*]; done)), H', ⟨Nat.le_refl _⟩, by repeat (first | exact Drawn0.refl _ | apply Drawn0.step)⟩
              case round =>
                clear H'
                try clear c1
                try clear p2
                try clear c3
                try clear c3b0
                try clear p4
                try clear q4
                try clear hx4
                try clear c5
                try clear c5b0
                try clear c6
                try clear c6b0
                try clear c7
                try clear c7b0
                try clear c9
                try clear hx419_0
                try clear hx419_1
                try clear hx420_0
                try clear hx420_1
                try clear hx421_0
                try clear hx421_1
                try clear p2
                try clear p4
                try clear p419
                try clear p420
                try clear p421
                try clear q4
                try clear q419
                try clear q420
                try clear q421
                obtain ⟨x6_3, rfl, HA, HK3, ⟨m3, rfl⟩⟩ := hrel
                cases gk with
                | zero => exact absurd HA.out (by simp [horariumref13_places.l1])
                | succ k3 =>
                  have H := HA.out
                  clear HA
                  simp only [horariumref13_places.l1] at H
                  by_cases c10 : x6_3 < x5_1
                  · rw [if_pos c10] at H
                    have c10b0 : decide (x6_3 < x5_1) = true := decide_eq_true c10
                    clear c10
                    by_cases c11 : 0 ≤ x6_3
                    · rw [if_pos c11] at H
                      have c11b0 : decide (0 ≤ x6_3) = true := decide_eq_true c11
                      clear c11
                      by_cases c12 : x6_3 < (l1.length : Int)
                      · rw [if_pos c12] at H
                        have c12b0 : decide (x6_3 < (l1.length : Int)) = true := decide_eq_true c12
                        clear c12
                        by_cases c13 : 0 ≤ x5_1
                        · rw [if_pos c13] at H
                          have c13b0 : decide (0 ≤ x5_1) = true := decide_eq_true c13
                          clear c13
                          by_cases c14 : x5_1 < (l1.length : Int)
                          · rw [if_pos c14] at H
                            have c14b0 : decide (x5_1 < (l1.length : Int)) = true := decide_eq_true c14
                            clear c14
                            by_cases c15 : ((rd_T120 l1 x6_3).f0) = ((rd_T120 l1 x5_1).f0)
                            · rw [if_pos c15] at H
                              have c15b0 : (((rd_T120 l1 x6_3).f0) == ((rd_T120 l1 x5_1).f0)) = true := beq_iff_eq.mpr c15
                              have c15b1 : (((rd_T120 l1 x6_3).f0) != ((rd_T120 l1 x5_1).f0)) = false := bne_eq_false_iff_eq.mpr c15
                              clear c15
                              obtain rfl := Option.some.inj H
                              have p423 : 0 ≤ (x6_3 : Int) := of_decide_eq_true (by first | (with_reducible assumption) | assumption)
                              have q423 : x6_3 < (l1.length : Int) := of_decide_eq_true (by first | (with_reducible assumption) | assumption)
                              obtain ⟨ad423, e423, hx423_0, hx423_1⟩ := at_T120 HR1.out x6_3 p423 q423
                              cases e423
                              replace p423 := eq_true p423
                              replace q423 := eq_true q423
                              have p424 : 0 ≤ (x5_1 : Int) := of_decide_eq_true (by first | (with_reducible assumption) | assumption)
                              have q424 : x5_1 < (l1.length : Int) := of_decide_eq_true (by first | (with_reducible assumption) | assumption)
                              obtain ⟨ad424, e424, hx424_0, hx424_1⟩ := at_T120 HR1.out x5_1 p424 q424
                              obtain rfl : ad423 = ad424 := (by injection e424)
                              replace p424 := eq_true p424
                              replace q424 := eq_true q424
                              go_wp2
                              repeat (go_quiet (fail); try go_wp2)
                              go_ret
                              exact ⟨by first | rfl | (simp; done) | (simp [*]; done), by repeat (first | exact Drawn0.refl _ | apply Drawn0.step)⟩
                            · rw [if_neg c15] at H
                              have c15b0 : (((rd_T120 l1 x6_3).f0) == ((rd_T120 l1 x5_1).f0)) = false := beq_eq_false_iff_ne.mpr c15
                              have c15b1 : (((rd_T120 l1 x6_3).f0) != ((rd_T120 l1 x5_1).f0)) = true := bne_iff_ne.mpr c15
                              have H' := Aside0.mk H
                              clear H
                              have p423 : 0 ≤ (x6_3 : Int) := of_decide_eq_true (by first | (with_reducible assumption) | assumption)
                              have q423 : x6_3 < (l1.length : Int) := of_decide_eq_true (by first | (with_reducible assumption) | assumption)
                              obtain ⟨ad423, e423, hx423_0, hx423_1⟩ := at_T120 HR1.out x6_3 p423 q423
                              cases e423
                              replace p423 := eq_true p423
                              replace q423 := eq_true q423
                              have p424 : 0 ≤ (x5_1 : Int) := of_decide_eq_true (by first | (with_reducible assumption) | assumption)
                              have q424 : x5_1 < (l1.length : Int) := of_decide_eq_true (by first | (with_reducible assumption) | assumption)
                              obtain ⟨ad424, e424, hx424_0, hx424_1⟩ := at_T120 HR1.out x5_1 p424 q424
                              obtain rfl : ad423 = ad424 := (by injection e424)
                              replace p424 := eq_true p424
                              replace q424 := eq_true q424
                              go_wp2
                              repeat (go_quiet (fail); try go_wp2)
                              go_roundg k3
                              case measure => have := HK1.out; have := HJ3.out; have := HK3.out; omega
                              case rel => exact ⟨(wrap64 (x6_3 + 1)), (by first | rfl | (simp; done) | (simp [*]; done)), H', ⟨by have := HK1.out; have := HJ3.out; have := HK3.out; omega⟩, by repeat (first | exact Drawn0.refl _ | apply Drawn0.step)⟩
                          · rw [if_neg c14] at H
                            exact absurd H (by simp)
                        · rw [if_neg c13] at H
                          exact absurd H (by simp)
                      · rw [if_neg c12] at H
                        exact absurd H (by simp)
                    · rw [if_neg c11] at H
                      exact absurd H (by simp)
                  · rw [if_neg c10] at H
                    have c10b0 : decide (x6_3 < x5_1) = false := decide_eq_false c10
                    clear c10
                    have H' := Aside0.mk H
                    clear H
                    go_wp2
                    repeat (go_quiet (fail); try go_wp2)
                    go_roundg k3
                    case measure => have := HK1.out; have := HJ3.out; have := HK3.out; omega
                    case rel => exact ⟨(wrap64 (x5_1 + 1)), (by first | rfl | (simp; done) | (simp [*]; done)), H', ⟨by have := HK1.out; have := HJ3.out; have := HK3.out; omega⟩, by repeat (first | exact Drawn0.refl _ | apply Drawn0.step)⟩
      · rw [if_neg c3] at H
        have c3b0 : decide (x5_1 < (l1.length : Int)) = false := decide_eq_false c3
        clear c3
        obtain rfl := Option.some.inj H
        go_wp2
        repeat (go_quiet (fail); try go_wp2)
        go_ret
        exact ⟨by first | rfl | (simp; done) | (simp [*]; done), by repeat (first | exact Drawn0.refl _ | apply Drawn0.step)⟩
end Go.Proofs.YtineikfhfmiidaaGreat.Gp
namespace Go.Proofs.YtineikfhfmiidaaGreat.Gp
open Go.RowKit Go.Proofs.YtineikfhfmiidaaGreatW.PrintWords Go.Proofs.YtineikfhfmiidaaGreatW.PrintLast Go.Proofs.YtineikfhfmiidaaGreatW.PrintMore
set_option linter.unusedVariables false
set_option linter.unusedSimpArgs false
end Go.Proofs.YtineikfhfmiidaaGreat.Gp
namespace Go.Proofs.YtineikfhfmiidaaGreat.Gp
open Go.RowKit Go.Proofs.YtineikfhfmiidaaGreatW.PrintWords Go.Proofs.YtineikfhfmiidaaGreatW.PrintLast Go.Proofs.YtineikfhfmiidaaGreatW.PrintMore
set_option linter.unusedVariables false
set_option linter.unusedSimpArgs false
end Go.Proofs.YtineikfhfmiidaaGreat.Gp
namespace Go.Proofs.YtineikfhfmiidaaGreat.Gp
open Go.RowKit Go.Proofs.YtineikfhfmiidaaGreatW.PrintWords Go.Proofs.YtineikfhfmiidaaGreatW.PrintLast Go.Proofs.YtineikfhfmiidaaGreatW.PrintMore
set_option linter.unusedVariables false
set_option linter.unusedSimpArgs false
mutual
def horariumref14_Right.j0 : Nat → Int → Bool → ByteArray → List (S63) → Option (Bool)
  | 0, _, _, _, _ => none
  | k + 1, x0, x26, x444000, x444001 => if x26 = true then (some false) else (horariumref14_Right.l0 k x0 0 x444000 x444001)
def horariumref14_Right.l0 : Nat → Int → Int → ByteArray → List (S63) → Option (Bool)
  | 0, _, _, _, _ => none
  | k + 1, x0, x5, x444000, x444001 => if x5 < (x444001.length : Int) then (if 0 ≤ x5 then (if (((rd_T63 x444001 x5).f0).length : Int) < 1 then (horariumref14_Right.j2 k x0 x5 true x444000 x444001 ((rd_T63 x444001 x5).f0)) else (horariumref14_Right.j2 k x0 x5 (decide ((((rd_T63 x444001 x5).f0).length : Int) > 4)) x444000 x444001 ((rd_T63 x444001 x5).f0))) else (none)) else (some true)
def horariumref14_Right.j2 : Nat → Int → Int → Bool → ByteArray → List (S63) → List (List Int) → Option (Bool)
  | 0, _, _, _, _, _, _ => none
  | k + 1, x0, x5, x48, x444000, x444001, x447000 => if x48 = true then (some false) else (horariumref14_Right.l1 k x0 x5 ([] : List Int) 0 x444000 x444001 x447000)
def horariumref14_Right.l1 : Nat → Int → Int → List Int → Int → ByteArray → List (S63) → List (List Int) → Option (Bool)
  | 0, _, _, _, _, _, _, _ => none
  | k + 1, x0, x5, x7, x8, x444000, x444001, x447000 => if x8 < (x447000.length : Int) then (if 0 ≤ x8 then (if ((rd_L8 x447000 x8).length : Int) < 1 then (horariumref14_Right.j4 k x0 x5 x7 x8 (rd_L8 x447000 x8) true x444000 x444001 x447000) else (if ((rd_L8 x447000 x8).length : Int) > 8 then (horariumref14_Right.j4 k x0 x5 x7 x8 (rd_L8 x447000 x8) true x444000 x444001 x447000) else ((horariumref13_Rising.f k (rd_L8 x447000 x8) x0).bind fun t448 => (horariumref14_Right.j4 k x0 x5 x7 x8 (rd_L8 x447000 x8) (!t448) x444000 x444001 x447000)))) else (none)) else (horariumref14_Right.l0 k x0 (wrap64 (x5 + 1)) x444000 x444001)
def horariumref14_Right.j4 : Nat → Int → Int → List Int → Int → List Int → Bool → ByteArray → List (S63) → List (List Int) → Option (Bool)
  | 0, _, _, _, _, _, _, _, _, _ => none
  | k + 1, x0, x5, x7, x8, x9, x74, x444000, x444001, x447000 => if x74 = true then (some false) else (horariumref14_Right.l2 k x0 x5 x7 x8 x9 0 x444000 x444001 x447000)
def horariumref14_Right.l2 : Nat → Int → Int → List Int → Int → List Int → Int → ByteArray → List (S63) → List (List Int) → Option (Bool)
  | 0, _, _, _, _, _, _, _, _, _ => none
  | k + 1, x0, x5, x7, x8, x9, x10, x444000, x444001, x447000 => if x10 < (x9.length : Int) then (if 0 ≤ x10 then ((horariumref14_Has.f k x7 (rd x9 x10)).bind fun t450 => (if t450 = true then (some false) else (horariumref14_Right.l2 k x0 x5 x7 x8 x9 (wrap64 (x10 + 1)) x444000 x444001 x447000))) else (none)) else (if x7.length + x9.length < 17592186044416 then (horariumref14_Right.l1 k x0 x5 (x7 ++ x9) (wrap64 (x8 + 1)) x444000 x444001 x447000) else (none))
end
def horariumref14_Right.f (k : Nat) (a0 : Int) (a1_0 : ByteArray) (l1_1 : List (S63)) : Option (Bool) := (horariumref11_Name.f a1_0).bind fun t444 => (if t444 = true then (if (l1_1.length : Int) < 1 then (horariumref14_Right.j0 k a0 true a1_0 l1_1) else (horariumref14_Right.j0 k a0 (decide ((l1_1.length : Int) > 4)) a1_0 l1_1)) else (horariumref14_Right.j0 k a0 true a1_0 l1_1))
set_option maxHeartbeats 8000000 in
set_option maxRecDepth 100000 in
theorem horariumref14_Right.calls (k : Nat) (a0 : Int) (a1_0 : ByteArray) (A1_1 : Option Addr) (c1_1 : Nat) (l1_1 : List (S63)) (r : Bool) (w : World) (hr1_1 : Kd.C k63 w A1_1 l1_1.length l1_1) (hc1_1 : l1_1.length ≤ c1_1) (h : horariumref14_Right.f k a0 a1_0 l1_1 = some r) :
    Calls Tryz.prog 135 #[.int .i64 a0, .agg #[.string a1_0, .slice A1_1 l1_1.length c1_1]] w fun e w' => e = .returned (.bool r) ∧ Below w.heap.size w w' := by
  have hu61 := Tryz.underlying61
  have hu63 := Tryz.underlying63
  have HR1_1 := Aside0.mk hr1_1
  have HC1_1 := Aside0.mk hc1_1
  clear hr1_1 hc1_1
  have HB := Aside0.mk (Below.refl w.heap.size w)
  have H : ((horariumref11_Name.f a1_0).bind fun t444 => (if t444 = true then (if (l1_1.length : Int) < 1 then (horariumref14_Right.j0 k a0 true a1_0 l1_1) else (horariumref14_Right.j0 k a0 (decide ((l1_1.length : Int) > 4)) a1_0 l1_1)) else (horariumref14_Right.j0 k a0 true a1_0 l1_1))) = some r := h
  clear h
  have HC3 := Aside0.mk H
  clear H
  go_enter Tryz.func135, Tryz.ntmps135
  go_upto_region 1 with (first | ((with_reducible refine gate_dst (N := 3) rfl ?_); (try (refine gate_guard (by rfl) ?_; dsimp only)); refine box_event ?hg (N := 3) ?hd (cs := #[.string a1_0, .slice A1_1 l1_1.length c1_1]) (t := 61) ?hr ?_; (case hd => rfl); (case hg => rfl); (case hr => first | (go_simp; done) | (go_simp; rfl)); intro gb443 hg w4 hbox hb; have n0_ := Aside0.mk (below_step (by repeat (first | (with_reducible first | exact HB.out | apply below_alloc | apply pw_below_drewN | apply below_drew1) | exact HB.out)) hb); have n1_ := Aside0.mk (hbox); have n2_ := Aside0.mk ((by rw [hg]; exact (below_size (by repeat (first | (with_reducible first | exact HB.out | apply below_alloc | apply pw_below_drewN | apply below_drew1) | exact HB.out))) : w.heap.size ≤ gb443)); have n3_ := Aside0.mk ((by rw [hg]; exact (below_size (by repeat (first | (with_reducible first | exact HB.out | apply below_alloc | apply pw_below_drewN | apply below_drew1) | exact HB.out))) : w.heap.size ≤ gb443)); clear HB; have HB := n0_; have BK443 := n1_; have GW443 := n2_; have GE443 := n3_; clear n0_ n1_ n2_ n3_; clear hb hbox hg))
  (try simp only [Act.put, List.setIfInBounds_toArray, List.set_cons_zero, List.set_cons_succ])
  go_cut [26] (fun v26 wc => ∃ (kq : Nat) (x26_2 : Bool), v26 = .bool x26_2 ∧ Aside0 (horariumref14_Right.j0 kq a0 x26_2 a1_0 l1_1 = some r) ∧ Aside0 (kq ≤ k) ∧ Aside0 (wc.heap[gb443]? = some (.cells #[.string a1_0, (.slice A1_1 l1_1.length c1_1)] 61 (0, 0))) ∧ Aside0 (Below w.heap.size w wc))
  case first =>
    have H := HC3.out
    clear HC3
    replace H := Option.bind_eq_some_iff.mp H
    obtain ⟨t444, A50, H⟩ := H
    replace H : (if t444 = true then (if (l1_1.length : Int) < 1 then (horariumref14_Right.j0 k a0 true a1_0 l1_1) else (horariumref14_Right.j0 k a0 (decide ((l1_1.length : Int) > 4)) a1_0 l1_1)) else (horariumref14_Right.j0 k a0 true a1_0 l1_1)) = some r := H
    have A5 := Aside0.mk A50
    clear A50
    by_cases c6 : t444 = true
    · subst c6
      have H1 : (if (l1_1.length : Int) < 1 then (horariumref14_Right.j0 k a0 true a1_0 l1_1) else (horariumref14_Right.j0 k a0 (decide ((l1_1.length : Int) > 4)) a1_0 l1_1)) = some r := by rw [if_pos rfl] at H; exact H
      clear H
      have H := H1
      clear H1
      by_cases c7 : (l1_1.length : Int) < 1
      · rw [if_pos c7] at H
        have c7b0 : decide ((l1_1.length : Int) < 1) = true := decide_eq_true c7
        have c7b1 : decide (l1_1.length < 1) = true := decide_eq_true (by omega)
        clear c7
        (first | rw [c7b0] | (simp only [i64_w, i32_w]; rw [c7b0]) | skip)
        have H' := Aside0.mk H
        clear H
        have hcz8_0 : w4.cell? ⟨gb443, 0, none⟩ = some (.string a1_0) := (blk_cell BK443.out 0).trans rfl
        have hcz8_1 : w4.cell? ⟨gb443, 1, none⟩ = some (.slice A1_1 l1_1.length c1_1) := (blk_cell BK443.out 1).trans rfl
        have hfz8_0 := blk_frozen BK443.out 0
        have hfz8_1 := blk_frozen BK443.out 1
        go_wp2_with (first | ((with_reducible refine gate_callee (f := 60) rfl ?_); refine goesL_ (some 13) rfl rfl Tryz.func60 (by kernel_rfl) rfl #[.string a1_0] rfl (by (try simp only [List.map_toArray, List.map_cons, List.map_nil]); first | done | rfl | (simp only [List.length_drop, List.length_take]; rfl) | (simp only [hl445_0]; done) | (simp only [← hl445_0]; done) | (simp only [hl447_0]; done) | (simp only [← hl447_0]; done)) ?_; (with_reducible refine (horariumref11_Name.calls a1_0 true _ A5.out).mono ?_); rintro e w' ⟨rfl, ⟨nd, rfl⟩⟩; refine ⟨_, rfl, ?_⟩))
        go_meet
        case rel => exact ⟨_, (true), (by first | rfl | (simp; done) | (simp [*]; done)), H', ⟨by first | omega | exact Nat.le_refl _⟩, ⟨by (with_reducible repeat (first | refine blk_drewN ?_ _ | refine blk_drew ?_ | refine blk_alloc ?_ _)); exact BK443.out⟩, ⟨by repeat (first | (with_reducible first | exact HB.out | apply below_alloc | apply pw_below_drewN | apply below_drew1 | refine below_set ?_ GE443.out) | exact HB.out)⟩⟩
      · rw [if_neg c7] at H
        have c7b0 : decide ((l1_1.length : Int) < 1) = false := decide_eq_false c7
        have c7b1 : decide (l1_1.length < 1) = false := decide_eq_false (by omega)
        clear c7
        (first | rw [c7b0] | (simp only [i64_w, i32_w]; rw [c7b0]) | skip)
        have H' := Aside0.mk H
        clear H
        have hcz9_0 : w4.cell? ⟨gb443, 0, none⟩ = some (.string a1_0) := (blk_cell BK443.out 0).trans rfl
        have hcz9_1 : w4.cell? ⟨gb443, 1, none⟩ = some (.slice A1_1 l1_1.length c1_1) := (blk_cell BK443.out 1).trans rfl
        have hfz9_0 := blk_frozen BK443.out 0
        have hfz9_1 := blk_frozen BK443.out 1
        go_wp2_with (first | ((with_reducible refine gate_callee (f := 60) rfl ?_); refine goesL_ (some 13) rfl rfl Tryz.func60 (by kernel_rfl) rfl #[.string a1_0] rfl (by (try simp only [List.map_toArray, List.map_cons, List.map_nil]); first | done | rfl | (simp only [List.length_drop, List.length_take]; rfl) | (simp only [hl445_0]; done) | (simp only [← hl445_0]; done) | (simp only [hl447_0]; done) | (simp only [← hl447_0]; done)) ?_; (with_reducible refine (horariumref11_Name.calls a1_0 true _ A5.out).mono ?_); rintro e w' ⟨rfl, ⟨nd, rfl⟩⟩; refine ⟨_, rfl, ?_⟩))
        go_meet
        case rel => exact ⟨_, (decide ((l1_1.length : Int) > 4)), (by first | rfl | (simp; done) | (simp [*]; done)), H', ⟨by first | omega | exact Nat.le_refl _⟩, ⟨by (with_reducible repeat (first | refine blk_drewN ?_ _ | refine blk_drew ?_ | refine blk_alloc ?_ _)); exact BK443.out⟩, ⟨by repeat (first | (with_reducible first | exact HB.out | apply below_alloc | apply pw_below_drewN | apply below_drew1 | refine below_set ?_ GE443.out) | exact HB.out)⟩⟩
    · replace c6 := Bool.eq_false_iff.mpr c6
      subst c6
      have H1 : (horariumref14_Right.j0 k a0 true a1_0 l1_1) = some r := by rw [if_neg (show ¬ (false = true) by decide)] at H; exact H
      clear H
      have H := H1
      clear H1
      have H' := Aside0.mk H
      clear H
      have hcz10_0 : w4.cell? ⟨gb443, 0, none⟩ = some (.string a1_0) := (blk_cell BK443.out 0).trans rfl
      have hcz10_1 : w4.cell? ⟨gb443, 1, none⟩ = some (.slice A1_1 l1_1.length c1_1) := (blk_cell BK443.out 1).trans rfl
      have hfz10_0 := blk_frozen BK443.out 0
      have hfz10_1 := blk_frozen BK443.out 1
      go_wp2_with (first | ((with_reducible refine gate_callee (f := 60) rfl ?_); refine goesL_ (some 13) rfl rfl Tryz.func60 (by kernel_rfl) rfl #[.string a1_0] rfl (by (try simp only [List.map_toArray, List.map_cons, List.map_nil]); first | done | rfl | (simp only [List.length_drop, List.length_take]; rfl) | (simp only [hl445_0]; done) | (simp only [← hl445_0]; done) | (simp only [hl447_0]; done) | (simp only [← hl447_0]; done)) ?_; (with_reducible refine (horariumref11_Name.calls a1_0 false _ A5.out).mono ?_); rintro e w' ⟨rfl, ⟨nd, rfl⟩⟩; refine ⟨_, rfl, ?_⟩))
      go_meet
      case rel => exact ⟨_, (true), (by first | rfl | (simp; done) | (simp [*]; done)), H', ⟨by first | omega | exact Nat.le_refl _⟩, ⟨by (with_reducible repeat (first | refine blk_drewN ?_ _ | refine blk_drew ?_ | refine blk_alloc ?_ _)); exact BK443.out⟩, ⟨by repeat (first | (with_reducible first | exact HB.out | apply below_alloc | apply pw_below_drewN | apply below_drew1 | refine below_set ?_ GE443.out) | exact HB.out)⟩⟩
  case rest =>
    clear HC3
    try clear c1
    try clear p2
    try clear c6
    try clear c7
    try clear c7b0
    try clear c7b1
    try clear hcz10_0
    try clear hcz10_1
    try clear hcz8_0
    try clear hcz8_1
    try clear hcz9_0
    try clear hcz9_1
    try clear hfz10_0
    try clear hfz10_1
    try clear hfz8_0
    try clear hfz8_1
    try clear hfz9_0
    try clear hfz9_1
    obtain ⟨kq, x26_2, rfl, HA, HJ2, BK443, HB⟩ := hcut
    cases kq with
    | zero => exact absurd HA.out (by simp [horariumref14_Right.j0])
    | succ kj2 =>
      have H := HA.out
      clear HA
      simp only [horariumref14_Right.j0] at H
      by_cases c11 : x26_2 = true
      · subst c11
        have H1 : (some false) = some r := by rw [if_pos rfl] at H; exact H
        clear H
        have H := H1
        clear H1
        obtain rfl := Option.some.inj H
        go_wp2
        go_ret
        exact ⟨by first | rfl | (simp [errW_none, errW_some] <;> rfl) | (simp [*, errW_none, errW_some] <;> rfl), by repeat (first | (with_reducible first | exact HB.out | apply below_alloc | apply pw_below_drewN | apply below_drew1 | refine below_set ?_ GE443.out) | exact HB.out)⟩
      · replace c11 := Bool.eq_false_iff.mpr c11
        subst c11
        have H1 : (horariumref14_Right.l0 kj2 a0 0 a1_0 l1_1) = some r := by rw [if_neg (show ¬ (false = true) by decide)] at H; exact H
        clear H
        have H := H1
        clear H1
        have H' := Aside0.mk H
        clear H
        go_wp2
        go_loopg [5] kj2 (fun kq v5 w' => ∃ (x5_2 : Int), v5 = .int .i64 x5_2 ∧ Aside0 (horariumref14_Right.l0 kq a0 x5_2 a1_0 l1_1 = some r) ∧ Aside0 (kq ≤ kj2) ∧ Aside0 (w'.heap[gb443]? = some (.cells #[.string a1_0, (.slice A1_1 l1_1.length c1_1)] 61 (0, 0))) ∧ Aside0 (Below w.heap.size w w'))
        case atStart => exact ⟨(0), (by first | rfl | (simp; done) | (simp [*]; done)), H', ⟨Nat.le_refl _⟩, ⟨by (with_reducible repeat (first | refine blk_drewN ?_ _ | refine blk_drew ?_ | refine blk_alloc ?_ _)); exact BK443.out⟩, ⟨by repeat (first | (with_reducible first | exact HB.out | apply below_alloc | apply pw_below_drewN | apply below_drew1 | refine below_set ?_ GE443.out) | exact HB.out)⟩⟩
        case round =>
          clear H'
          try clear c1
          try clear p2
          try clear c6
          try clear c7
          try clear c7b0
          try clear c7b1
          try clear c11
          try clear hcz10_0
          try clear hcz10_1
          try clear hcz8_0
          try clear hcz8_1
          try clear hcz9_0
          try clear hcz9_1
          try clear hfz10_0
          try clear hfz10_1
          try clear hfz8_0
          try clear hfz8_1
          try clear hfz9_0
          try clear hfz9_1
          try clear p2
          obtain ⟨x5_2, rfl, HA, HK2, BK443, HB⟩ := hrel
          cases gk with
          | zero => exact absurd HA.out (by simp [horariumref14_Right.l0])
          | succ k2 =>
            have H := HA.out
            clear HA
            simp only [horariumref14_Right.l0] at H
            by_cases c12 : x5_2 < (l1_1.length : Int)
            · rw [if_pos c12] at H
              have c12b0 : decide (x5_2 < (l1_1.length : Int)) = true := decide_eq_true c12
              clear c12
              by_cases c13 : 0 ≤ x5_2
              · rw [if_pos c13] at H
                have c13b0 : decide (0 ≤ x5_2) = true := decide_eq_true c13
                clear c13
                have HC14 := Aside0.mk H
                clear H
                have hcz15_0 : wr.cell? ⟨gb443, 0, none⟩ = some (.string a1_0) := (blk_cell BK443.out 0).trans rfl
                have hcz15_1 : wr.cell? ⟨gb443, 1, none⟩ = some (.slice A1_1 l1_1.length c1_1) := (blk_cell BK443.out 1).trans rfl
                have hfz15_0 := blk_frozen BK443.out 0
                have hfz15_1 := blk_frozen BK443.out 1
                have p445 : 0 ≤ (x5_2 : Int) := of_decide_eq_true (by first | (with_reducible assumption) | assumption)
                have q445 : x5_2 < (l1_1.length : Int) := of_decide_eq_true (by first | (with_reducible assumption) | assumption)
                obtain ⟨ad445, A445_0, c445_0, e445, hx445_0, hl445_0, hi445_0⟩ := at_T63 HR1_1.out x5_2 p445 q445
                cases e445
                replace hx445_0 := (HB.out.cell (World.block_lt_of_cell? w _ hx445_0)).trans hx445_0
                have HR445_0 := Aside0.mk hi445_0
                have HC445_0 := Aside0.mk hl445_0
                clear hi445_0 hl445_0
                replace p445 := eq_true p445
                replace q445 := eq_true q445
                go_upto_region 7 with (first | ((with_reducible refine gate_dst (N := 6) rfl ?_); (try (refine gate_guard (by rfl) ?_; dsimp only)); refine box_event ?hg (N := 6) ?hd (cs := #[.slice none 0 0]) (t := 63) ?hr ?_; (case hd => rfl); (case hg => rfl); (case hr => first | (go_simp; done) | (go_simp; rfl)); intro gb446 hg w16 hbox hb; have n0_ := Aside0.mk (blk_below (g := gb443) (o := .cells #[.string a1_0, .slice (some ad445) l1_1.length c1_1] 61 (0, 0)) (by (with_reducible repeat (first | refine blk_drewN ?_ _ | refine blk_drew ?_ | refine blk_alloc ?_ _)); exact BK443.out) hb); have n1_ := Aside0.mk (below_step (by repeat (first | (with_reducible first | exact HB.out | apply below_alloc | apply pw_below_drewN | apply below_drew1 | refine below_set ?_ GE443.out) | exact HB.out)) hb); have n2_ := Aside0.mk (hbox); have n3_ := Aside0.mk ((by rw [hg]; exact (below_size (by repeat (first | (with_reducible first | exact HB.out | apply below_alloc | apply pw_below_drewN | apply below_drew1 | refine below_set ?_ GE443.out) | exact HB.out))) : w.heap.size ≤ gb446)); have n4_ := Aside0.mk ((by rw [hg]; exact (below_size (by repeat (first | (with_reducible first | exact HB.out | apply below_alloc | apply pw_below_drewN | apply below_drew1 | refine below_set ?_ GE443.out) | exact HB.out))) : w.heap.size ≤ gb446)); have n5_ := Aside0.mk ((by rw [hg]; exact Nat.ne_of_lt (blk_lt (g := gb443) (o := .cells #[.string a1_0, .slice (some ad445) l1_1.length c1_1] 61 (0, 0)) (by (with_reducible repeat (first | refine blk_drewN ?_ _ | refine blk_drew ?_ | refine blk_alloc ?_ _)); exact BK443.out)) : gb443 ≠ gb446)); have n6_ := Aside0.mk ((by rw [hg]; exact Nat.ne_of_gt (blk_lt (g := gb443) (o := .cells #[.string a1_0, .slice (some ad445) l1_1.length c1_1] 61 (0, 0)) (by (with_reducible repeat (first | refine blk_drewN ?_ _ | refine blk_drew ?_ | refine blk_alloc ?_ _)); exact BK443.out)) : gb446 ≠ gb443)); clear BK443; clear HB; have BK443 := n0_; have HB := n1_; have BK446 := n2_; have GW446 := n3_; have GE446 := n4_; have NB443_446 := n5_; have NB446_443 := n6_; clear n0_ n1_ n2_ n3_ n4_ n5_ n6_; clear hb hbox hg; have hnb17 := NB446_443.out; have hnc17 := NB443_446.out; have hcz18_0 : w16.cell? ⟨gb446, 0, none⟩ = some (.slice none 0 0) := (blk_cell BK446.out 0).trans rfl; have hfz18_0 := blk_frozen BK446.out 0))
                (try simp only [Act.put, List.setIfInBounds_toArray, List.set_cons_zero, List.set_cons_succ])
                go_cut [48] (fun v48 wc => ∃ (kq : Nat) (x48_13 : Bool), v48 = .bool x48_13 ∧ Aside0 (horariumref14_Right.j2 kq a0 x5_2 x48_13 a1_0 l1_1 ((rd_T63 l1_1 x5_2).f0) = some r) ∧ Aside0 (kq ≤ k2) ∧ Aside0 (wc.heap[gb443]? = some (.cells #[.string a1_0, (.slice (some ad445) l1_1.length c1_1)] 61 (0, 0))) ∧ Aside0 (wc.heap[gb446]? = some (.cells #[(.slice A445_0 ((rd_T63 l1_1 x5_2).f0).length c445_0)] 63 (0, 0))) ∧ Aside0 (Below w.heap.size w wc))
                case first =>
                  have H := HC14.out
                  clear HC14
                  by_cases c19 : (((rd_T63 l1_1 x5_2).f0).length : Int) < 1
                  · rw [if_pos c19] at H
                    have c19b0 : decide ((((rd_T63 l1_1 x5_2).f0).length : Int) < 1) = true := decide_eq_true c19
                    have c19b1 : decide (((rd_T63 l1_1 x5_2).f0).length < 1) = true := decide_eq_true (by omega)
                    clear c19
                    (first | rw [c19b0] | (simp only [i64_w, i32_w]; rw [c19b0]) | skip)
                    have H' := Aside0.mk H
                    clear H
                    have hnb20 := NB446_443.out
                    have hnc20 := NB443_446.out
                    have hcz21_0 : w16.cell? ⟨gb446, 0, none⟩ = some (.slice none 0 0) := (blk_cell BK446.out 0).trans rfl
                    have hfz21_0 := blk_frozen BK446.out 0
                    go_wp2
                    go_meet
                    case rel => exact ⟨_, (true), (by first | rfl | (simp; done) | (simp [*]; done)), H', ⟨by have := HJ2.out; have := HK2.out; first | omega | exact Nat.le_refl _⟩, ⟨by (with_reducible repeat (first | refine blk_drewN ?_ _ | refine blk_drew ?_ | refine blk_alloc ?_ _)); refine blk_far ?_ NB443_446.out _; (with_reducible repeat (first | refine blk_drewN ?_ _ | refine blk_drew ?_ | refine blk_alloc ?_ _)); exact BK443.out⟩, ⟨by (with_reducible repeat (first | refine blk_drewN ?_ _ | refine blk_drew ?_ | refine blk_alloc ?_ _)); refine blk_put (cs := #[.slice none 0 0]) ?_ 0 _ rfl; (with_reducible repeat (first | refine blk_drewN ?_ _ | refine blk_drew ?_ | refine blk_alloc ?_ _)); exact BK446.out⟩, ⟨by repeat (first | (with_reducible first | exact HB.out | apply below_alloc | apply pw_below_drewN | apply below_drew1 | refine below_set ?_ GE443.out | refine below_set ?_ GE446.out) | exact HB.out)⟩⟩
                  · rw [if_neg c19] at H
                    have c19b0 : decide ((((rd_T63 l1_1 x5_2).f0).length : Int) < 1) = false := decide_eq_false c19
                    have c19b1 : decide (((rd_T63 l1_1 x5_2).f0).length < 1) = false := decide_eq_false (by omega)
                    clear c19
                    (first | rw [c19b0] | (simp only [i64_w, i32_w]; rw [c19b0]) | skip)
                    have H' := Aside0.mk H
                    clear H
                    have hnb22 := NB446_443.out
                    have hnc22 := NB443_446.out
                    have hcz23_0 : w16.cell? ⟨gb446, 0, none⟩ = some (.slice none 0 0) := (blk_cell BK446.out 0).trans rfl
                    have hfz23_0 := blk_frozen BK446.out 0
                    go_wp2
                    go_meet
                    case rel => exact ⟨_, (decide ((((rd_T63 l1_1 x5_2).f0).length : Int) > 4)), (by first | rfl | (simp; done) | (simp [*]; done)), H', ⟨by have := HJ2.out; have := HK2.out; first | omega | exact Nat.le_refl _⟩, ⟨by (with_reducible repeat (first | refine blk_drewN ?_ _ | refine blk_drew ?_ | refine blk_alloc ?_ _)); refine blk_far ?_ NB443_446.out _; (with_reducible repeat (first | refine blk_drewN ?_ _ | refine blk_drew ?_ | refine blk_alloc ?_ _)); exact BK443.out⟩, ⟨by (with_reducible repeat (first | refine blk_drewN ?_ _ | refine blk_drew ?_ | refine blk_alloc ?_ _)); refine blk_put (cs := #[.slice none 0 0]) ?_ 0 _ rfl; (with_reducible repeat (first | refine blk_drewN ?_ _ | refine blk_drew ?_ | refine blk_alloc ?_ _)); exact BK446.out⟩, ⟨by repeat (first | (with_reducible first | exact HB.out | apply below_alloc | apply pw_below_drewN | apply below_drew1 | refine below_set ?_ GE443.out | refine below_set ?_ GE446.out) | exact HB.out)⟩⟩
                case rest =>
                  clear HC14
                  try clear c1
                  try clear c2
                  try clear p2
                  try clear c4
                  try clear p4
                  try clear q4
                  try clear hx4
                  try clear c6
                  try clear c7
                  try clear c7b0
                  try clear c7b1
                  try clear c11
                  try clear c12
                  try clear c12b0
                  try clear c13
                  try clear c13b0
                  try clear c17
                  try clear c19
                  try clear c19b0
                  try clear c19b1
                  try clear c20
                  try clear c22
                  try clear hcz10_0
                  try clear hcz10_1
                  try clear hcz15_0
                  try clear hcz15_1
                  try clear hcz18_0
                  try clear hcz21_0
                  try clear hcz23_0
                  try clear hcz8_0
                  try clear hcz8_1
                  try clear hcz9_0
                  try clear hcz9_1
                  try clear hfz10_0
                  try clear hfz10_1
                  try clear hfz15_0
                  try clear hfz15_1
                  try clear hfz18_0
                  try clear hfz21_0
                  try clear hfz23_0
                  try clear hfz8_0
                  try clear hfz8_1
                  try clear hfz9_0
                  try clear hfz9_1
                  try clear hx445_0
                  try clear p2
                  try clear p445
                  try clear q445
                  obtain ⟨kq, x48_13, rfl, HA, HJ13, BK443, BK446, HB⟩ := hcut
                  cases kq with
                  | zero => exact absurd HA.out (by simp [horariumref14_Right.j2])
                  | succ kj13 =>
                    have H := HA.out
                    clear HA
                    simp only [horariumref14_Right.j2] at H
                    by_cases c24 : x48_13 = true
                    · subst c24
                      have H1 : (some false) = some r := by rw [if_pos rfl] at H; exact H
                      clear H
                      have H := H1
                      clear H1
                      obtain rfl := Option.some.inj H
                      go_wp2
                      go_ret
                      exact ⟨by first | rfl | (simp [errW_none, errW_some] <;> rfl) | (simp [*, errW_none, errW_some] <;> rfl), by repeat (first | (with_reducible first | exact HB.out | apply below_alloc | apply pw_below_drewN | apply below_drew1 | refine below_set ?_ GE443.out | refine below_set ?_ GE446.out) | exact HB.out)⟩
                    · replace c24 := Bool.eq_false_iff.mpr c24
                      subst c24
                      have H1 : (horariumref14_Right.l1 kj13 a0 x5_2 ([] : List Int) 0 a1_0 l1_1 ((rd_T63 l1_1 x5_2).f0)) = some r := by rw [if_neg (show ¬ (false = true) by decide)] at H; exact H
                      clear H
                      have H := H1
                      clear H1
                      have H' := Aside0.mk H
                      clear H
                      go_wp2
                      go_loopg [7, 8] kj13 (fun kq v7 v8 w' => ∃ (x7_4 : List Int) (x8_4 : Int), v8 = .int .i64 x8_4 ∧ Aside0 (horariumref14_Right.l1 kq a0 x5_2 x7_4 x8_4 a1_0 l1_1 ((rd_T63 l1_1 x5_2).f0) = some r) ∧ Aside0 (kq ≤ kj13) ∧ Aside0 (Kd.R (Kd.int .i64) 3 w' w.heap.size (fun _ => True) v7 x7_4) ∧ Aside0 (w'.heap[gb443]? = some (.cells #[.string a1_0, (.slice (some ad445) l1_1.length c1_1)] 61 (0, 0))) ∧ Aside0 (w'.heap[gb446]? = some (.cells #[(.slice A445_0 ((rd_T63 l1_1 x5_2).f0).length c445_0)] 63 (0, 0))) ∧ Aside0 (Below w.heap.size w w'))
                      case atStart => exact ⟨(([] : List Int)), (0), (by first | rfl | (simp; done) | (simp [*]; done)), H', ⟨Nat.le_refl _⟩, ⟨by first | exact Kd.R_nil _ _ _ _ _ | exact Kd.N_nil _ _ _ _ _ | exact Kd.V_nil _ _ _ _ _ | exact Kd.Q_nil _ _ _ _ _ | exact Kd.S_nil _ _ _ _ _⟩, ⟨by (with_reducible repeat (first | refine blk_drewN ?_ _ | refine blk_drew ?_ | refine blk_alloc ?_ _)); exact BK443.out⟩, ⟨by (with_reducible repeat (first | refine blk_drewN ?_ _ | refine blk_drew ?_ | refine blk_alloc ?_ _)); exact BK446.out⟩, ⟨by repeat (first | (with_reducible first | exact HB.out | apply below_alloc | apply pw_below_drewN | apply below_drew1 | refine below_set ?_ GE443.out | refine below_set ?_ GE446.out) | exact HB.out)⟩⟩
                      case round =>
                        clear H'
                        try clear c1
                        try clear c2
                        try clear p2
                        try clear c4
                        try clear p4
                        try clear q4
                        try clear hx4
                        try clear c6
                        try clear c7
                        try clear c7b0
                        try clear c7b1
                        try clear c11
                        try clear c12
                        try clear c12b0
                        try clear c13
                        try clear c13b0
                        try clear c17
                        try clear c19
                        try clear c19b0
                        try clear c19b1
                        try clear c20
                        try clear c22
                        try clear c24
                        try clear hcz10_0
                        try clear hcz10_1
                        try clear hcz15_0
                        try clear hcz15_1
                        try clear hcz18_0
                        try clear hcz21_0
                        try clear hcz23_0
                        try clear hcz8_0
                        try clear hcz8_1
                        try clear hcz9_0
                        try clear hcz9_1
                        try clear hfz10_0
                        try clear hfz10_1
                        try clear hfz15_0
                        try clear hfz15_1
                        try clear hfz18_0
                        try clear hfz21_0
                        try clear hfz23_0
                        try clear hfz8_0
                        try clear hfz8_1
                        try clear hfz9_0
                        try clear hfz9_1
                        try clear hx445_0
                        try clear p2
                        try clear p4
                        try clear p445
                        try clear q4
                        try clear q445
                        obtain ⟨x7_4, x8_4, rfl, HA, HK4, HO_7, BK443, BK446, HB⟩ := hrel
                        cases gk with
                        | zero => exact absurd HA.out (by simp [horariumref14_Right.l1])
                        | succ k4 =>
                          have H := HA.out
                          clear HA
                          simp only [horariumref14_Right.l1] at H
                          by_cases c25 : x8_4 < (((rd_T63 l1_1 x5_2).f0).length : Int)
                          · rw [if_pos c25] at H
                            have c25b0 : decide (x8_4 < (((rd_T63 l1_1 x5_2).f0).length : Int)) = true := decide_eq_true c25
                            clear c25
                            by_cases c26 : 0 ≤ x8_4
                            · rw [if_pos c26] at H
                              have c26b0 : decide (0 ≤ x8_4) = true := decide_eq_true c26
                              clear c26
                              have HC27 := Aside0.mk H
                              clear H
                              have hnb28 := NB446_443.out
                              have hnc28 := NB443_446.out
                              have hcz29_0 : wr.cell? ⟨gb446, 0, none⟩ = some (.slice A445_0 ((rd_T63 l1_1 x5_2).f0).length c445_0) := (blk_cell BK446.out 0).trans rfl
                              have hfz29_0 := blk_frozen BK446.out 0
                              have p447 : 0 ≤ (x8_4 : Int) := of_decide_eq_true (by first | (with_reducible assumption) | assumption)
                              have q447 : x8_4 < (((rd_T63 l1_1 x5_2).f0).length : Int) := of_decide_eq_true (by first | (with_reducible assumption) | assumption)
                              obtain ⟨ad447, A447_0, c447_0, e447, hx447_0, hl447_0, hi447_0⟩ := at_L8 HR445_0.out x8_4 p447 q447
                              cases e447
                              replace hx447_0 := (HB.out.cell (World.block_lt_of_cell? w _ hx447_0)).trans hx447_0
                              have HR447_0 := Aside0.mk hi447_0
                              have HC447_0 := Aside0.mk hl447_0
                              clear hi447_0 hl447_0
                              replace p447 := eq_true p447
                              replace q447 := eq_true q447
                              go_upto_region 14 with (fail)
                              go_cut [74] (fun v74 wc => ∃ (kq : Nat) (x74_26 : Bool), v74 = .bool x74_26 ∧ Aside0 (horariumref14_Right.j4 kq a0 x5_2 x7_4 x8_4 (rd_L8 ((rd_T63 l1_1 x5_2).f0) x8_4) x74_26 a1_0 l1_1 ((rd_T63 l1_1 x5_2).f0) = some r) ∧ Aside0 (kq ≤ k4) ∧ Aside0 (Kd.R (Kd.int .i64) 3 wc w.heap.size (fun _ => True) u7 x7_4) ∧ Aside0 (wc.heap[gb443]? = some (.cells #[.string a1_0, (.slice (some ad445) l1_1.length c1_1)] 61 (0, 0))) ∧ Aside0 (wc.heap[gb446]? = some (.cells #[(.slice (some ad447) ((rd_T63 l1_1 x5_2).f0).length c445_0)] 63 (0, 0))) ∧ Aside0 (Below w.heap.size w wc))
                              case first =>
                                have H := HC27.out
                                clear HC27
                                by_cases c30 : ((rd_L8 ((rd_T63 l1_1 x5_2).f0) x8_4).length : Int) < 1
                                · rw [if_pos c30] at H
                                  have c30b0 : decide (((rd_L8 ((rd_T63 l1_1 x5_2).f0) x8_4).length : Int) < 1) = true := decide_eq_true c30
                                  have c30b1 : decide ((rd_L8 ((rd_T63 l1_1 x5_2).f0) x8_4).length < 1) = true := decide_eq_true (by omega)
                                  clear c30
                                  (first | rw [c30b0] | (simp only [i64_w, i32_w]; rw [c30b0]) | skip)
                                  have H' := Aside0.mk H
                                  clear H
                                  go_wp2
                                  go_meet
                                  case rel => exact ⟨_, (true), (by first | rfl | (simp; done) | (simp [*]; done)), H', ⟨by have := HJ2.out; have := HK2.out; have := HJ13.out; have := HK4.out; first | omega | exact Nat.le_refl _⟩, ⟨by (with_reducible repeat (first | apply Kd.R_alloc | apply Kd.R_drewN | apply Kd.R_drew)); exact HO_7.out⟩, ⟨by (with_reducible repeat (first | refine blk_drewN ?_ _ | refine blk_drew ?_ | refine blk_alloc ?_ _)); exact BK443.out⟩, ⟨by (with_reducible repeat (first | refine blk_drewN ?_ _ | refine blk_drew ?_ | refine blk_alloc ?_ _)); exact BK446.out⟩, ⟨by repeat (first | (with_reducible first | exact HB.out | apply below_alloc | apply pw_below_drewN | apply below_drew1 | refine below_set ?_ GE443.out | refine below_set ?_ GE446.out) | exact HB.out)⟩⟩
                                · rw [if_neg c30] at H
                                  have c30b0 : decide (((rd_L8 ((rd_T63 l1_1 x5_2).f0) x8_4).length : Int) < 1) = false := decide_eq_false c30
                                  have c30b1 : decide ((rd_L8 ((rd_T63 l1_1 x5_2).f0) x8_4).length < 1) = false := decide_eq_false (by omega)
                                  clear c30
                                  (first | rw [c30b0] | (simp only [i64_w, i32_w]; rw [c30b0]) | skip)
                                  by_cases c31 : ((rd_L8 ((rd_T63 l1_1 x5_2).f0) x8_4).length : Int) > 8
                                  · rw [if_pos c31] at H
                                    have c31b0 : decide (8 < ((rd_L8 ((rd_T63 l1_1 x5_2).f0) x8_4).length : Int)) = true := decide_eq_true c31
                                    have c31b1 : decide (8 < (rd_L8 ((rd_T63 l1_1 x5_2).f0) x8_4).length) = true := decide_eq_true (by omega)
                                    clear c31
                                    have H' := Aside0.mk H
                                    clear H
                                    go_wp2
                                    go_meet
                                    case rel => exact ⟨_, (true), (by first | rfl | (simp; done) | (simp [*]; done)), H', ⟨by have := HJ2.out; have := HK2.out; have := HJ13.out; have := HK4.out; first | omega | exact Nat.le_refl _⟩, ⟨by (with_reducible repeat (first | apply Kd.R_alloc | apply Kd.R_drewN | apply Kd.R_drew)); exact HO_7.out⟩, ⟨by (with_reducible repeat (first | refine blk_drewN ?_ _ | refine blk_drew ?_ | refine blk_alloc ?_ _)); exact BK443.out⟩, ⟨by (with_reducible repeat (first | refine blk_drewN ?_ _ | refine blk_drew ?_ | refine blk_alloc ?_ _)); exact BK446.out⟩, ⟨by repeat (first | (with_reducible first | exact HB.out | apply below_alloc | apply pw_below_drewN | apply below_drew1 | refine below_set ?_ GE443.out | refine below_set ?_ GE446.out) | exact HB.out)⟩⟩
                                  · rw [if_neg c31] at H
                                    have c31b0 : decide (8 < ((rd_L8 ((rd_T63 l1_1 x5_2).f0) x8_4).length : Int)) = false := decide_eq_false c31
                                    have c31b1 : decide (8 < (rd_L8 ((rd_T63 l1_1 x5_2).f0) x8_4).length) = false := decide_eq_false (by omega)
                                    clear c31
                                    replace H := Option.bind_eq_some_iff.mp H
                                    obtain ⟨t448, A320, H⟩ := H
                                    replace H : (horariumref14_Right.j4 k4 a0 x5_2 x7_4 x8_4 (rd_L8 ((rd_T63 l1_1 x5_2).f0) x8_4) (!t448) a1_0 l1_1 ((rd_T63 l1_1 x5_2).f0)) = some r := H
                                    have A32 := Aside0.mk A320
                                    clear A320
                                    have H' := Aside0.mk H
                                    clear H
                                    go_wp2_with (first | (go_at_call 29; (with_reducible refine (horariumref13_Rising.calls k4 _ _ (rd_L8 ((rd_T63 l1_1 x5_2).f0) x8_4) a0 t448 _ ?side1 ?side2 A32.out).mono ?_); (case side1 => repeat (first | exact (Kd.C_below HR447_0.out HB.out) | (with_reducible refine Kd.C_alloc ?_ _) | (with_reducible refine Kd.C_drewN ?_ _) | (with_reducible refine Kd.C_drew ?_))); (case side2 => exact HC447_0.out); rintro e w' ⟨rfl, ⟨nd, rfl⟩⟩))
                                    go_meet
                                    case rel => exact ⟨_, (!t448), (by first | rfl | (simp; done) | (simp [*]; done)), H', ⟨by have := HJ2.out; have := HK2.out; have := HJ13.out; have := HK4.out; first | omega | exact Nat.le_refl _⟩, ⟨by (with_reducible repeat (first | apply Kd.R_alloc | apply Kd.R_drewN | apply Kd.R_drew)); exact HO_7.out⟩, ⟨by (with_reducible repeat (first | refine blk_drewN ?_ _ | refine blk_drew ?_ | refine blk_alloc ?_ _)); exact BK443.out⟩, ⟨by (with_reducible repeat (first | refine blk_drewN ?_ _ | refine blk_drew ?_ | refine blk_alloc ?_ _)); exact BK446.out⟩, ⟨by repeat (first | (with_reducible first | exact HB.out | apply below_alloc | apply pw_below_drewN | apply below_drew1 | refine below_set ?_ GE443.out | refine below_set ?_ GE446.out) | exact HB.out)⟩⟩
                              case rest =>
                                clear HC27
                                try clear c1
                                try clear c2
                                try clear p2
                                try clear c3
                                try clear c4
                                try clear p4
                                try clear q4
                                try clear hx4
                                try clear c6
                                try clear c7
                                try clear c7b0
                                try clear c7b1
                                try clear c11
                                try clear c12
                                try clear c12b0
                                try clear c13
                                try clear c13b0
                                try clear c17
                                try clear c19
                                try clear c19b0
                                try clear c19b1
                                try clear c20
                                try clear c22
                                try clear c24
                                try clear c25
                                try clear c25b0
                                try clear c26
                                try clear c26b0
                                try clear c28
                                try clear c30
                                try clear c30b0
                                try clear c30b1
                                try clear c31
                                try clear c31b0
                                try clear c31b1
                                try clear hcz10_0
                                try clear hcz10_1
                                try clear hcz15_0
                                try clear hcz15_1
                                try clear hcz18_0
                                try clear hcz21_0
                                try clear hcz23_0
                                try clear hcz29_0
                                try clear hcz8_0
                                try clear hcz8_1
                                try clear hcz9_0
                                try clear hcz9_1
                                try clear hfz10_0
                                try clear hfz10_1
                                try clear hfz15_0
                                try clear hfz15_1
                                try clear hfz18_0
                                try clear hfz21_0
                                try clear hfz23_0
                                try clear hfz29_0
                                try clear hfz8_0
                                try clear hfz8_1
                                try clear hfz9_0
                                try clear hfz9_1
                                try clear hx445_0
                                try clear hx447_0
                                try clear p2
                                try clear p4
                                try clear p445
                                try clear p447
                                try clear q4
                                try clear q445
                                try clear q447
                                obtain ⟨kq, x74_26, rfl, HA, HJ26, HO_7, BK443, BK446, HB⟩ := hcut
                                cases kq with
                                | zero => exact absurd HA.out (by simp [horariumref14_Right.j4])
                                | succ kj26 =>
                                  have H := HA.out
                                  clear HA
                                  simp only [horariumref14_Right.j4] at H
                                  by_cases c33 : x74_26 = true
                                  · subst c33
                                    have H1 : (some false) = some r := by rw [if_pos rfl] at H; exact H
                                    clear H
                                    have H := H1
                                    clear H1
                                    obtain rfl := Option.some.inj H
                                    go_wp2
                                    go_ret
                                    exact ⟨by first | rfl | (simp [errW_none, errW_some] <;> rfl) | (simp [*, errW_none, errW_some] <;> rfl), by repeat (first | (with_reducible first | exact HB.out | apply below_alloc | apply pw_below_drewN | apply below_drew1 | refine below_set ?_ GE443.out | refine below_set ?_ GE446.out) | exact HB.out)⟩
                                  · replace c33 := Bool.eq_false_iff.mpr c33
                                    subst c33
                                    have H1 : (horariumref14_Right.l2 kj26 a0 x5_2 x7_4 x8_4 (rd_L8 ((rd_T63 l1_1 x5_2).f0) x8_4) 0 a1_0 l1_1 ((rd_T63 l1_1 x5_2).f0)) = some r := by rw [if_neg (show ¬ (false = true) by decide)] at H; exact H
                                    clear H
                                    have H := H1
                                    clear H1
                                    have H' := Aside0.mk H
                                    clear H
                                    go_wp2
                                    go_loopg [10] kj26 (fun kq v10 w' => ∃ (x10_6 : Int), v10 = .int .i64 x10_6 ∧ Aside0 (horariumref14_Right.l2 kq a0 x5_2 x7_4 x8_4 (rd_L8 ((rd_T63 l1_1 x5_2).f0) x8_4) x10_6 a1_0 l1_1 ((rd_T63 l1_1 x5_2).f0) = some r) ∧ Aside0 (kq ≤ kj26) ∧ Aside0 (Kd.R (Kd.int .i64) 3 w' w.heap.size (fun _ => True) u7 x7_4) ∧ Aside0 (w'.heap[gb443]? = some (.cells #[.string a1_0, (.slice (some ad445) l1_1.length c1_1)] 61 (0, 0))) ∧ Aside0 (w'.heap[gb446]? = some (.cells #[(.slice (some ad447) ((rd_T63 l1_1 x5_2).f0).length c445_0)] 63 (0, 0))) ∧ Aside0 (Below w.heap.size w w'))
                                    case atStart => exact ⟨(0), (by first | rfl | (simp; done) | (simp [*]; done)), H', ⟨Nat.le_refl _⟩, ⟨by (with_reducible repeat (first | apply Kd.R_alloc | apply Kd.R_drewN | apply Kd.R_drew)); exact HO_7.out⟩, ⟨by (with_reducible repeat (first | refine blk_drewN ?_ _ | refine blk_drew ?_ | refine blk_alloc ?_ _)); exact BK443.out⟩, ⟨by (with_reducible repeat (first | refine blk_drewN ?_ _ | refine blk_drew ?_ | refine blk_alloc ?_ _)); exact BK446.out⟩, ⟨by repeat (first | (with_reducible first | exact HB.out | apply below_alloc | apply pw_below_drewN | apply below_drew1 | refine below_set ?_ GE443.out | refine below_set ?_ GE446.out) | exact HB.out)⟩⟩
                                    case round =>
                                      clear H'
                                      try clear c1
                                      try clear c2
                                      try clear p2
                                      try clear c3
                                      try clear c4
                                      try clear p4
                                      try clear q4
                                      try clear hx4
                                      try clear c6
                                      try clear c7
                                      try clear c7b0
                                      try clear c7b1
                                      try clear c11
                                      try clear c12
                                      try clear c12b0
                                      try clear c13
                                      try clear c13b0
                                      try clear c17
                                      try clear c19
                                      try clear c19b0
                                      try clear c19b1
                                      try clear c20
                                      try clear c22
                                      try clear c24
                                      try clear c25
                                      try clear c25b0
                                      try clear c26
                                      try clear c26b0
                                      try clear c28
                                      try clear c30
                                      try clear c30b0
                                      try clear c30b1
                                      try clear c31
                                      try clear c31b0
                                      try clear c31b1
                                      try clear c33
                                      try clear hcz10_0
                                      try clear hcz10_1
                                      try clear hcz15_0
                                      try clear hcz15_1
                                      try clear hcz18_0
                                      try clear hcz21_0
                                      try clear hcz23_0
                                      try clear hcz29_0
                                      try clear hcz8_0
                                      try clear hcz8_1
                                      try clear hcz9_0
                                      try clear hcz9_1
                                      try clear hfz10_0
                                      try clear hfz10_1
                                      try clear hfz15_0
                                      try clear hfz15_1
                                      try clear hfz18_0
                                      try clear hfz21_0
                                      try clear hfz23_0
                                      try clear hfz29_0
                                      try clear hfz8_0
                                      try clear hfz8_1
                                      try clear hfz9_0
                                      try clear hfz9_1
                                      try clear hx445_0
                                      try clear hx447_0
                                      try clear p2
                                      try clear p4
                                      try clear p445
                                      try clear p447
                                      try clear q4
                                      try clear q445
                                      try clear q447
                                      obtain ⟨x10_6, rfl, HA, HK6, HO_7, BK443, BK446, HB⟩ := hrel
                                      cases gk with
                                      | zero => exact absurd HA.out (by simp [horariumref14_Right.l2])
                                      | succ k6 =>
                                        have H := HA.out
                                        clear HA
                                        simp only [horariumref14_Right.l2] at H
                                        by_cases c34 : x10_6 < ((rd_L8 ((rd_T63 l1_1 x5_2).f0) x8_4).length : Int)
                                        · rw [if_pos c34] at H
                                          have c34b0 : decide (x10_6 < ((rd_L8 ((rd_T63 l1_1 x5_2).f0) x8_4).length : Int)) = true := decide_eq_true c34
                                          clear c34
                                          by_cases c35 : 0 ≤ x10_6
                                          · rw [if_pos c35] at H
                                            have c35b0 : decide (0 ≤ x10_6) = true := decide_eq_true c35
                                            clear c35
                                            replace H := Option.bind_eq_some_iff.mp H
                                            obtain ⟨t450, A360, H⟩ := H
                                            replace H : (if t450 = true then (some false) else (horariumref14_Right.l2 k6 a0 x5_2 x7_4 x8_4 (rd_L8 ((rd_T63 l1_1 x5_2).f0) x8_4) (wrap64 (x10_6 + 1)) a1_0 l1_1 ((rd_T63 l1_1 x5_2).f0))) = some r := H
                                            have A36 := Aside0.mk A360
                                            clear A360
                                            by_cases c37 : t450 = true
                                            · subst c37
                                              have H1 : (some false) = some r := by rw [if_pos rfl] at H; exact H
                                              clear H
                                              have H := H1
                                              clear H1
                                              obtain rfl := Option.some.inj H
                                              have p449 : 0 ≤ (x10_6 : Int) := of_decide_eq_true (by first | (with_reducible assumption) | assumption)
                                              have q449 : x10_6 < ((rd_L8 ((rd_T63 l1_1 x5_2).f0) x8_4).length : Int) := of_decide_eq_true (by first | (with_reducible assumption) | assumption)
                                              obtain ⟨ad449, e449, hx449_0⟩ := Kd.at_int HR447_0.out x10_6 p449 q449
                                              cases e449
                                              replace hx449_0 := (HB.out.cell (World.block_lt_of_cell? w _ hx449_0)).trans hx449_0
                                              replace p449 := eq_true p449
                                              replace q449 := eq_true q449
                                              obtain ⟨Ao38, co38, eo38⟩ := Kd.R_slice HO_7.out
                                              subst eo38
                                              go_wp2_with (first | ((with_reducible refine gate_callee (f := 158) rfl ?_); refine goesL_ (some 86) rfl rfl Tryz.func158 (by kernel_rfl) rfl #[.slice Ao38 x7_4.length co38, .int .i64 (rd (rd_L8 ((rd_T63 l1_1 x5_2).f0) x8_4) x10_6)] rfl (by (try simp only [List.map_toArray, List.map_cons, List.map_nil]); first | done | rfl | (simp only [List.length_drop, List.length_take]; rfl) | (simp only [hl445_0]; done) | (simp only [← hl445_0]; done) | (simp only [hl447_0]; done) | (simp only [← hl447_0]; done)) ?_; (with_reducible refine (horariumref14_Has.calls k6 _ _ x7_4 (rd (rd_L8 ((rd_T63 l1_1 x5_2).f0) x8_4) x10_6) true _ ?side1 ?side2 A36.out).mono ?_); (case side1 => repeat (first | exact (Kd.R_reads' HO_7.out).2.2 | (with_reducible refine Kd.C_alloc ?_ _) | (with_reducible refine Kd.C_drewN ?_ _) | (with_reducible refine Kd.C_drew ?_))); (case side2 => exact (Kd.R_reads' HO_7.out).2.1); rintro e w' ⟨rfl, ⟨nd, rfl⟩⟩; refine ⟨_, rfl, ?_⟩))
                                              go_ret
                                              exact ⟨by first | rfl | (simp [errW_none, errW_some] <;> rfl) | (simp [*, errW_none, errW_some] <;> rfl), by repeat (first | (with_reducible first | exact HB.out | apply below_alloc | apply pw_below_drewN | apply below_drew1 | refine below_set ?_ GE443.out | refine below_set ?_ GE446.out) | exact HB.out)⟩
                                            · replace c37 := Bool.eq_false_iff.mpr c37
                                              subst c37
                                              have H1 : (horariumref14_Right.l2 k6 a0 x5_2 x7_4 x8_4 (rd_L8 ((rd_T63 l1_1 x5_2).f0) x8_4) (wrap64 (x10_6 + 1)) a1_0 l1_1 ((rd_T63 l1_1 x5_2).f0)) = some r := by rw [if_neg (show ¬ (false = true) by decide)] at H; exact H
                                              clear H
                                              have H := H1
                                              clear H1
                                              have H' := Aside0.mk H
                                              clear H
                                              have p449 : 0 ≤ (x10_6 : Int) := of_decide_eq_true (by first | (with_reducible assumption) | assumption)
                                              have q449 : x10_6 < ((rd_L8 ((rd_T63 l1_1 x5_2).f0) x8_4).length : Int) := of_decide_eq_true (by first | (with_reducible assumption) | assumption)
                                              obtain ⟨ad449, e449, hx449_0⟩ := Kd.at_int HR447_0.out x10_6 p449 q449
                                              cases e449
                                              replace hx449_0 := (HB.out.cell (World.block_lt_of_cell? w _ hx449_0)).trans hx449_0
                                              replace p449 := eq_true p449
                                              replace q449 := eq_true q449
                                              obtain ⟨Ao39, co39, eo39⟩ := Kd.R_slice HO_7.out
                                              subst eo39
                                              go_wp2_with (first | ((with_reducible refine gate_callee (f := 158) rfl ?_); refine goesL_ (some 86) rfl rfl Tryz.func158 (by kernel_rfl) rfl #[.slice Ao39 x7_4.length co39, .int .i64 (rd (rd_L8 ((rd_T63 l1_1 x5_2).f0) x8_4) x10_6)] rfl (by (try simp only [List.map_toArray, List.map_cons, List.map_nil]); first | done | rfl | (simp only [List.length_drop, List.length_take]; rfl) | (simp only [hl445_0]; done) | (simp only [← hl445_0]; done) | (simp only [hl447_0]; done) | (simp only [← hl447_0]; done)) ?_; (with_reducible refine (horariumref14_Has.calls k6 _ _ x7_4 (rd (rd_L8 ((rd_T63 l1_1 x5_2).f0) x8_4) x10_6) false _ ?side1 ?side2 A36.out).mono ?_); (case side1 => repeat (first | exact (Kd.R_reads' HO_7.out).2.2 | (with_reducible refine Kd.C_alloc ?_ _) | (with_reducible refine Kd.C_drewN ?_ _) | (with_reducible refine Kd.C_drew ?_))); (case side2 => exact (Kd.R_reads' HO_7.out).2.1); rintro e w' ⟨rfl, ⟨nd, rfl⟩⟩; refine ⟨_, rfl, ?_⟩))
                                              go_roundg k6
                                              case measure => have := HJ2.out; have := HK2.out; have := HJ13.out; have := HK4.out; have := HJ26.out; have := HK6.out; omega
                                              case rel => exact ⟨(wrap64 (x10_6 + 1)), (by first | rfl | (simp; done) | (simp [*]; done)), H', ⟨by have := HJ2.out; have := HK2.out; have := HJ13.out; have := HK4.out; have := HJ26.out; have := HK6.out; omega⟩, ⟨by (with_reducible repeat (first | apply Kd.R_alloc | apply Kd.R_drewN | apply Kd.R_drew)); exact HO_7.out⟩, ⟨by (with_reducible repeat (first | refine blk_drewN ?_ _ | refine blk_drew ?_ | refine blk_alloc ?_ _)); exact BK443.out⟩, ⟨by (with_reducible repeat (first | refine blk_drewN ?_ _ | refine blk_drew ?_ | refine blk_alloc ?_ _)); exact BK446.out⟩, ⟨by repeat (first | (with_reducible first | exact HB.out | apply below_alloc | apply pw_below_drewN | apply below_drew1 | refine below_set ?_ GE443.out | refine below_set ?_ GE446.out) | exact HB.out)⟩⟩
                                          · rw [if_neg c35] at H
                                            exact absurd H (by simp)
                                        · rw [if_neg c34] at H
                                          have c34b0 : decide (x10_6 < ((rd_L8 ((rd_T63 l1_1 x5_2).f0) x8_4).length : Int)) = false := decide_eq_false c34
                                          clear c34
                                          by_cases c40 : x7_4.length + (rd_L8 ((rd_T63 l1_1 x5_2).f0) x8_4).length < 17592186044416
                                          · rw [if_pos c40] at H
                                            have LMc40 := Aside0.mk c40
                                            clear c40
                                            obtain ⟨y451, hy451⟩ : ∃ y_ : List Int, y_ = (x7_4 ++ (rd_L8 ((rd_T63 l1_1 x5_2).f0) x8_4)) := ⟨_, rfl⟩
                                            replace H : (horariumref14_Right.l1 k6 a0 x5_2 y451 (wrap64 (x8_4 + 1)) a1_0 l1_1 ((rd_T63 l1_1 x5_2).f0)) = some r := by first | (rw [hy451]; with_reducible exact H) | (have H2_ := (Option.bind_some _ _).symm.trans H; rw [hy451]; with_reducible exact H2_) | (have H2_ := (Option.bind_some _ _).symm.trans H; with_reducible exact H2_) | with_reducible exact H | (rw [hy451]; exact H) | exact H
                                            have Ny451 := Aside0.mk hy451
                                            clear hy451
                                            have H' := Aside0.mk H
                                            clear H
                                            go_wp2_with (first | ((with_reducible refine gate_builtin (b := .append) (xs := #[.tmp 87, .tmp 88]) rfl ?_); (try (refine gate_guard (by rfl) ?_; dsimp only)); at_builtin; refine Kd.R_append_rows (Kd.int .i64) (w0 := w) w.heap.size rfl (.tmp 87) (.tmp 88) 51 3 (.int .i64 0) 8 rfl Tryz.underlying51 info3 rfl (by decide) (by omega) u7 x7_4 (rd_L8 ((rd_T63 l1_1 x5_2).f0) x8_4) _ _ _ (fun _ => True) (fun _ => False) rfl rfl ?aO ?aR (fun _ _ h => h) (fun _ h => h.elim) ?aF ?aB ?aS ?aL ?_; (case aR => repeat (first | exact (Kd.C_below HR447_0.out HB.out) | (with_reducible refine Kd.C_alloc ?_ _) | (with_reducible refine Kd.C_drewN ?_ _) | (with_reducible refine Kd.C_drew ?_))); (case aB => exact (by repeat (first | (with_reducible first | exact HB.out | apply below_alloc | apply pw_below_drewN | apply below_drew1 | refine below_set ?_ GE443.out | refine below_set ?_ GE446.out) | exact HB.out))); (case aF => exact (fun _ _ => trivial)); (case aO => exact (by (with_reducible repeat (first | apply Kd.R_alloc | apply Kd.R_drewN | apply Kd.R_drew)); exact HO_7.out)); (case aS => exact (below_size (by repeat (first | (with_reducible first | exact HB.out | apply below_alloc | apply pw_below_drewN | apply below_drew1 | refine below_set ?_ GE443.out | refine below_set ?_ GE446.out) | exact HB.out)))); (case aL => have := LMc40.out; omega); intro v452 w41 ho hb hg hat; rw [← Ny451.out] at ho; have n0_ := Aside0.mk (blk_grown (g := gb443) (o := .cells #[.string a1_0, .slice (some ad445) l1_1.length c1_1] 61 (0, 0)) (by (with_reducible repeat (first | refine blk_drewN ?_ _ | refine blk_drew ?_ | refine blk_alloc ?_ _)); exact BK443.out) hg (Kd.R_ne HO_7.out BK443.out (by decide))); have n1_ := Aside0.mk (blk_grown (g := gb446) (o := .cells #[.slice (some ad447) ((rd_T63 l1_1 x5_2).f0).length c445_0] 63 (0, 0)) (by (with_reducible repeat (first | refine blk_drewN ?_ _ | refine blk_drew ?_ | refine blk_alloc ?_ _)); exact BK446.out) hg (Kd.R_ne HO_7.out BK446.out (by decide))); have n2_ := Aside0.mk (hb); have n3_ := Aside0.mk (ho); clear BK443; clear BK446; clear HB; clear HO_7; have BK443 := n0_; have BK446 := n1_; have HB := n2_; have HO453 := n3_; clear n0_ n1_ n2_ n3_; clear ho hb hg hat))
                                            go_roundg k6
                                            case measure => have := HJ2.out; have := HK2.out; have := HJ13.out; have := HK4.out; have := HJ26.out; have := HK6.out; omega
                                            case rel => exact ⟨(y451), (wrap64 (x8_4 + 1)), (by first | rfl | (simp; done) | (simp [*]; done)), H', ⟨by have := HJ2.out; have := HK2.out; have := HJ13.out; have := HK4.out; have := HJ26.out; have := HK6.out; omega⟩, ⟨by (with_reducible repeat (first | apply Kd.R_alloc | apply Kd.R_drewN | apply Kd.R_drew)); exact HO453.out⟩, ⟨by (with_reducible repeat (first | refine blk_drewN ?_ _ | refine blk_drew ?_ | refine blk_alloc ?_ _)); exact BK443.out⟩, ⟨by (with_reducible repeat (first | refine blk_drewN ?_ _ | refine blk_drew ?_ | refine blk_alloc ?_ _)); exact BK446.out⟩, ⟨by repeat (first | (with_reducible first | exact HB.out | apply below_alloc | apply pw_below_drewN | apply below_drew1 | refine below_set ?_ GE443.out | refine below_set ?_ GE446.out) | exact HB.out)⟩⟩
                                          · rw [if_neg c40] at H
                                            exact absurd H (by simp)
                            · rw [if_neg c26] at H
                              exact absurd H (by simp)
                          · rw [if_neg c25] at H
                            have c25b0 : decide (x8_4 < (((rd_T63 l1_1 x5_2).f0).length : Int)) = false := decide_eq_false c25
                            clear c25
                            have H' := Aside0.mk H
                            clear H
                            have hnb42 := NB446_443.out
                            have hnc42 := NB443_446.out
                            have hcz43_0 : wr.cell? ⟨gb446, 0, none⟩ = some (.slice A445_0 ((rd_T63 l1_1 x5_2).f0).length c445_0) := (blk_cell BK446.out 0).trans rfl
                            have hfz43_0 := blk_frozen BK446.out 0
                            go_wp2
                            go_roundg k4
                            case measure => have := HJ2.out; have := HK2.out; have := HJ13.out; have := HK4.out; omega
                            case rel => exact ⟨(wrap64 (x5_2 + 1)), (by first | rfl | (simp; done) | (simp [*]; done)), H', ⟨by have := HJ2.out; have := HK2.out; have := HJ13.out; have := HK4.out; omega⟩, ⟨by (with_reducible repeat (first | refine blk_drewN ?_ _ | refine blk_drew ?_ | refine blk_alloc ?_ _)); exact BK443.out⟩, ⟨by repeat (first | (with_reducible first | exact HB.out | apply below_alloc | apply pw_below_drewN | apply below_drew1 | refine below_set ?_ GE443.out | refine below_set ?_ GE446.out) | exact HB.out)⟩⟩
              · rw [if_neg c13] at H
                exact absurd H (by simp)
            · rw [if_neg c12] at H
              have c12b0 : decide (x5_2 < (l1_1.length : Int)) = false := decide_eq_false c12
              clear c12
              obtain rfl := Option.some.inj H
              have hcz44_0 : wr.cell? ⟨gb443, 0, none⟩ = some (.string a1_0) := (blk_cell BK443.out 0).trans rfl
              have hcz44_1 : wr.cell? ⟨gb443, 1, none⟩ = some (.slice A1_1 l1_1.length c1_1) := (blk_cell BK443.out 1).trans rfl
              have hfz44_0 := blk_frozen BK443.out 0
              have hfz44_1 := blk_frozen BK443.out 1
              go_wp2
              go_ret
              exact ⟨by first | rfl | (simp [errW_none, errW_some] <;> rfl) | (simp [*, errW_none, errW_some] <;> rfl), by repeat (first | (with_reducible first | exact HB.out | apply below_alloc | apply pw_below_drewN | apply below_drew1 | refine below_set ?_ GE443.out) | exact HB.out)⟩
end Go.Proofs.YtineikfhfmiidaaGreat.Gp
namespace Go.Proofs.YtineikfhfmiidaaGreat.Gp
open Go.RowKit Go.Proofs.YtineikfhfmiidaaGreatW.PrintWords Go.Proofs.YtineikfhfmiidaaGreatW.PrintLast Go.Proofs.YtineikfhfmiidaaGreatW.PrintMore
set_option linter.unusedVariables false
set_option linter.unusedSimpArgs false
end Go.Proofs.YtineikfhfmiidaaGreat.Gp
namespace Go.Proofs.YtineikfhfmiidaaGreat.Gp
open Go.RowKit Go.Proofs.YtineikfhfmiidaaGreatW.PrintWords Go.Proofs.YtineikfhfmiidaaGreatW.PrintLast Go.Proofs.YtineikfhfmiidaaGreatW.PrintMore
set_option linter.unusedVariables false
set_option linter.unusedSimpArgs false
end Go.Proofs.YtineikfhfmiidaaGreat.Gp
namespace Go.Proofs.YtineikfhfmiidaaGreat.Gp
open Go.RowKit Go.Proofs.YtineikfhfmiidaaGreatW.PrintWords Go.Proofs.YtineikfhfmiidaaGreatW.PrintLast Go.Proofs.YtineikfhfmiidaaGreatW.PrintMore
set_option linter.unusedVariables false
set_option linter.unusedSimpArgs false
end Go.Proofs.YtineikfhfmiidaaGreat.Gp
namespace Go.Proofs.YtineikfhfmiidaaGreat.Pm
open Go Go.RowKit Go.Proofs.YtineikfhfmiidaaGreat.Gp Go.Proofs.YtineikfhfmiidaaGreat.Mw Go.Proofs.YtineikfhfmiidaaGreatW.PrintWords Go.Proofs.YtineikfhfmiidaaGreatW.PrintLast Go.Proofs.YtineikfhfmiidaaGreatW.PrintMore
set_option linter.unusedVariables false
set_option linter.unusedSimpArgs false
theorem rdWhen {l : List S50} {i : Nat} {x : S50} (h : l[i]? = some x) : Gp.rd_T50 l (i : Int) = x := by
  unfold Gp.rd_T50
  rw [Int.toNat_natCast, List.getD_eq_getElem?_getD, h]
  rfl
theorem rdTime {l : List S117} {i : Nat} {x : S117} (h : l[i]? = some x) : Gp.rd_T117 l (i : Int) = x := by
  unfold Gp.rd_T117
  rw [Int.toNat_natCast, List.getD_eq_getElem?_getD, h]
  rfl
theorem rdPlace {l : List S120} {i : Nat} {x : S120} (h : l[i]? = some x) : Gp.rd_T120 l (i : Int) = x := by
  unfold Gp.rd_T120
  rw [Int.toNat_natCast, List.getD_eq_getElem?_getD, h]
  rfl
theorem rdWay {l : List S63} {i : Nat} {x : S63} (h : l[i]? = some x) : Gp.rd_T63 l (i : Int) = x := by
  unfold Gp.rd_T63
  rw [Int.toNat_natCast, List.getD_eq_getElem?_getD, h]
  rfl
theorem get_some {α : Type} {l : List α} {i : Nat} (h : i < l.length) : ∃ x, l[i]? = some x := ⟨_, List.getElem?_eq_getElem h⟩
theorem any_hit {α : Type} {p : α → Bool} {l : List α} {i : Nat} {x : α} (hx : l[i]? = some x) (h : p x = true) : l.any p = true := List.any_eq_true.2 ⟨x, List.mem_of_getElem? hx, h⟩
theorem any_none {α : Type} {p : α → Bool} {l : List α} (h : ∀ (i : Nat) (x : α), l[i]? = some x → p x = false) : l.any p = false := by
  rw [List.any_eq_false]
  intro x hx
  obtain ⟨i, hi⟩ := List.mem_iff_getElem?.1 hx
  rw [h i x hi]
  exact Bool.false_ne_true
theorem Ev.bindk {α β : Type} {g : Nat → Option α} {f : Nat → α → Option β} {a : α} {r : β} (h : Ev g a) (k : Ev (fun n => f n a) r) : Ev (fun n => (g n).bind (f n)) r := Ev.bind h k
/-- Times. -/
theorem rwhens_ev (g0 g1 g2 : Int) (l : List S50) (hl : l.length ≤ 9223372036854775807) (hg : ∀ y, y ∈ l → GoodW y) : ∀ d i : Nat, d + i = l.length → (∀ (j : Nat) y, j < i → l[j]? = some y → whenI g0 g1 g2 y = true) → Ev (fun k => Gp.horariumref11_Whens.l0 k l 16 (i : Int) g0 g1 g2) (whensB g0 g1 g2 l) := by
  intro d
  induction d with
  | zero =>
    intro i hi hj
    unfold whensB
    rw [any_none (fun (j : Nat) y hy => by rw [hj j y (by have := (List.getElem?_eq_some_iff.1 hy).1; omega) hy]; rfl), Bool.not_false, Bool.and_true]
    refine Ev.step (f := fun _ => some (decide (l.length ≤ 16))) (fun k => ?_) (Ev.now _)
    simp only [Gp.horariumref11_Whens.l0]
    rw [if_neg (by omega)]
    congr 1
    exact decide_eq_decide.2 (by omega)
  | succ d ih =>
    intro i hi hj
    obtain ⟨x, hx⟩ := get_some (l := l) (i := i) (by omega)
    have hw := rwhenI g0 g1 g2 x (hg x (List.mem_of_getElem? hx))
    cases hb : whenI g0 g1 g2 x with
    | false =>
      rw [show whensB g0 g1 g2 l = false by unfold whensB; rw [any_hit hx (by rw [hb]; rfl)]; simp]
      rw [hb] at hw
      refine Ev.step (fun k => ?_) (Ev.bindk (f := fun k t => if t = true then Gp.horariumref11_Whens.l0 k l 16 ((i + 1 : Nat) : Int) g0 g1 g2 else some false) hw (Ev.now false))
      simp only [Gp.horariumref11_Whens.l0]
      rw [if_pos (by omega), if_pos (by omega), rdWhen hx, wr1 (by omega)]
    | true =>
      rw [hb] at hw
      refine Ev.step (fun k => ?_) (Ev.bindk (f := fun k t => if t = true then Gp.horariumref11_Whens.l0 k l 16 ((i + 1 : Nat) : Int) g0 g1 g2 else some false) hw (ih (i + 1) (by omega) (fun j y h hy => ?_)))
      · simp only [Gp.horariumref11_Whens.l0]
        rw [if_pos (by omega), if_pos (by omega), rdWhen hx, wr1 (by omega)]
      · by_cases e : j = i
        · subst e
          rw [hx] at hy
          cases hy
          exact hb
        · exact hj j y (by omega) hy
theorem rwhens (g0 g1 g2 : Int) (l : List S50) (hl : l.length ≤ 9223372036854775807) (hg : ∀ y, y ∈ l → GoodW y) : Ev (fun k => Gp.horariumref11_Whens.f k g0 g1 g2 l 16) (whensB g0 g1 g2 l) := rwhens_ev g0 g1 g2 l hl hg l.length 0 rfl (fun j y h => by omega)
theorem rcost (n : Int) : Gp.horariumref13_cost.f n = some (cheapB n) := by
  unfold Gp.horariumref13_cost.f cheapB
  by_cases h : 0 ≤ n <;> simp [h]
theorem mem_take {α κ : Type} {f : α → κ} {l : List α} {i : Nat} {k : κ} : k ∈ (l.take i).map f ↔ ∃ (j : Nat) (y : α), j < i ∧ l[j]? = some y ∧ f y = k := by
  rw [List.mem_map]
  constructor
  · rintro ⟨y, hy, rfl⟩
    obtain ⟨j, hj⟩ := List.mem_iff_getElem?.1 hy
    rw [List.getElem?_take] at hj
    split at hj
    · exact ⟨j, y, ‹_›, hj, rfl⟩
    · cases hj
  · rintro ⟨j, y, hj, hy, rfl⟩
    refine ⟨y, List.mem_iff_getElem?.2 ⟨j, ?_⟩, rfl⟩
    rw [List.getElem?_take, if_pos hj, hy]
theorem eqWhen (a b : S50) : (a.f0 == b.f0 && (a.f1 == b.f1 && (a.f2 == b.f2 && a.f3 == b.f3))) = true ↔ a = b := by
  obtain ⟨a0, a1, a2, a3⟩ := a
  obtain ⟨b0, b1, b2, b3⟩ := b
  simp only [Bool.and_eq_true, beq_iff_eq, S50.mk.injEq]
theorem rtimes_ev (g0 g1 g2 : Int) (l : List S117) (hl : l.length ≤ 9223372036854775807) (hg : ∀ y, y ∈ l → GoodW y.f0) : ∀ d i : Nat, d + i = l.length → OnceTo (timeB g0 g1 g2) (fun x => x.f0) l i → Ev (fun k => Gp.horariumref13_times.l0 k l (i : Int) g0 g1 g2) (timesB g0 g1 g2 l) := by
  intro d
  induction d with
  | zero =>
    intro i hi ho
    obtain rfl : i = l.length := by omega
    unfold timesB
    rw [ho.over, Bool.true_and]
    refine Ev.step (f := fun _ => some (decide (0 < l.length) && decide (l.length ≤ 16))) (fun k => ?_) (Ev.now _)
    simp only [Gp.horariumref13_times.l0]
    rw [if_neg (by omega)]
    by_cases h1 : 0 < l.length
    · rw [if_pos (by omega), decide_eq_true h1, Bool.true_and]
      congr 1
      exact decide_eq_decide.2 (by omega)
    · rw [if_neg (by omega), decide_eq_false h1, Bool.false_and]
  | succ d ih =>
    intro i hi ho
    obtain ⟨x, hx⟩ := get_some (l := l) (i := i) (by omega)
    have hbad : ((timeB g0 g1 g2) x = false ∨ x.f0 ∈ (l.take i).map (fun x => x.f0)) → timesB g0 g1 g2 l = false := fun h => by
      unfold timesB
      rw [once_bad (f := fun x => x.f0) hx h, Bool.false_and]
    have hin : (timeB g0 g1 g2) x = true → ∀ d' j : Nat, d' + j = i → (∀ (j' : Nat) y, j' < j → l[j']? = some y → y.f0 ≠ x.f0) → Ev (fun k => Gp.horariumref13_times.l1 k l (i : Int) (j : Int) g0 g1 g2) (timesB g0 g1 g2 l) := by
      intro ht d'
      induction d' with
      | zero =>
        intro j hj hne
        obtain rfl : j = i := by omega
        refine Ev.step (fun k => ?_) (ih (j + 1) (by omega) (ho.step hx ht (fun h => ?_)))
        · simp only [Gp.horariumref13_times.l1]
          rw [if_neg (by omega), wr1 (by omega)]
        · obtain ⟨j', y, h1, h2, h3⟩ := mem_take.1 h
          exact hne j' y h1 h2 h3
      | succ d' ih' =>
        intro j hj hne
        obtain ⟨y, hy⟩ := get_some (l := l) (i := j) (by omega)
        by_cases he : y.f0 = x.f0
        · rw [hbad (Or.inr (mem_take.2 ⟨j, y, by omega, hy, he⟩))]
          refine Ev.step (f := fun _ => some false) (fun k => ?_) (Ev.now _)
          simp only [Gp.horariumref13_times.l1]
          rw [if_pos (by omega), if_pos (by omega), if_pos (by omega), if_pos (by omega), if_pos (by omega), rdTime hy, rdTime hx, if_pos ((eqWhen _ _).2 he)]
        · refine Ev.step (fun k => ?_) (ih' (j + 1) (by omega) (fun j' z h hz => ?_))
          · simp only [Gp.horariumref13_times.l1]
            rw [if_pos (by omega), if_pos (by omega), if_pos (by omega), if_pos (by omega), if_pos (by omega), rdTime hy, rdTime hx, if_neg (fun h => he ((eqWhen _ _).1 h)), wr1 (by omega)]
          · by_cases e : j' = j
            · subst e
              rw [hy] at hz
              cases hz
              exact he
            · exact hne j' z (by omega) hz
    have hw := rwhenI g0 g1 g2 x.f0 (hg x (List.mem_of_getElem? hx))
    have hstep : ∀ k, Gp.horariumref13_times.l0 (k + 1) l (i : Int) g0 g1 g2 = (Gp.horariumref09_Right.f k g0 g1 g2 x.f0.f0 x.f0.f1 x.f0.f2 x.f0.f3).bind (fun t => if t = true then Gp.horariumref13_times.j1 k l (i : Int) (!cheapB x.f1) g0 g1 g2 else Gp.horariumref13_times.j1 k l (i : Int) true g0 g1 g2) := fun k => by
      simp only [Gp.horariumref13_times.l0]
      rw [if_pos (by omega), if_pos (by omega), rdTime hx]
      simp only [rcost, Option.bind_some]
    refine Ev.step hstep (Ev.bindk (f := fun k t => if t = true then Gp.horariumref13_times.j1 k l (i : Int) (!cheapB x.f1) g0 g1 g2 else Gp.horariumref13_times.j1 k l (i : Int) true g0 g1 g2) hw ?_)
    cases hb : whenI g0 g1 g2 x.f0 with
    | false =>
      rw [hbad (Or.inl (by unfold timeB; rw [hb]; rfl))]
      refine Ev.step (f := fun _ => some false) (fun k => ?_) (Ev.now _)
      simp only [Gp.horariumref13_times.j1]
      rfl
    | true =>
      cases hc : cheapB x.f1 with
      | false =>
        rw [hbad (Or.inl (by unfold timeB; rw [hb, hc]; rfl))]
        refine Ev.step (f := fun _ => some false) (fun k => ?_) (Ev.now _)
        simp only [Gp.horariumref13_times.j1]
        rfl
      | true =>
        refine Ev.step (fun k => ?_) (hin (by unfold timeB; rw [hb, hc]; rfl) i 0 (by omega) (fun j' y h => by omega))
        simp only [Gp.horariumref13_times.j1]
        rfl
theorem rtimes (g0 g1 g2 : Int) (l : List S117) (hl : l.length ≤ 9223372036854775807) (hg : ∀ y, y ∈ l → GoodW y.f0) : Ev (fun k => Gp.horariumref13_times.f k g0 g1 g2 l) (timesB g0 g1 g2 l) := rtimes_ev g0 g1 g2 l hl hg l.length 0 rfl (OnceTo.start _ _ _)
theorem rplaces_ev (n : Int) (l : List S120) (hl : l.length ≤ 9223372036854775807) : ∀ d i : Nat, d + i = l.length → OnceTo (placeB n) (fun x => x.f0) l i → Ev (fun k => Gp.horariumref13_places.l0 k n l (i : Int)) (placesB n l) := by
  intro d
  induction d with
  | zero =>
    intro i hi ho
    obtain rfl : i = l.length := by omega
    unfold placesB
    rw [ho.over, Bool.true_and]
    refine Ev.step (f := fun _ => some (decide (l.length ≤ 12))) (fun k => ?_) (Ev.now _)
    simp only [Gp.horariumref13_places.l0]
    rw [if_neg (by omega)]
    congr 1
    exact decide_eq_decide.2 (by omega)
  | succ d ih =>
    intro i hi ho
    obtain ⟨x, hx⟩ := get_some (l := l) (i := i) (by omega)
    have hbad : ((placeB n) x = false ∨ x.f0 ∈ (l.take i).map (fun x => x.f0)) → placesB n l = false := fun h => by
      unfold placesB
      rw [once_bad (f := fun x => x.f0) hx h, Bool.false_and]
    have hin : (placeB n) x = true → ∀ d' j : Nat, d' + j = i → (∀ (j' : Nat) y, j' < j → l[j']? = some y → y.f0 ≠ x.f0) → Ev (fun k => Gp.horariumref13_places.l1 k n l (i : Int) (j : Int)) (placesB n l) := by
      intro ht d'
      induction d' with
      | zero =>
        intro j hj hne
        obtain rfl : j = i := by omega
        refine Ev.step (fun k => ?_) (ih (j + 1) (by omega) (ho.step hx ht (fun h => ?_)))
        · simp only [Gp.horariumref13_places.l1]
          rw [if_neg (by omega), wr1 (by omega)]
        · obtain ⟨j', y, h1, h2, h3⟩ := mem_take.1 h
          exact hne j' y h1 h2 h3
      | succ d' ih' =>
        intro j hj hne
        obtain ⟨y, hy⟩ := get_some (l := l) (i := j) (by omega)
        by_cases he : y.f0 = x.f0
        · rw [hbad (Or.inr (mem_take.2 ⟨j, y, by omega, hy, he⟩))]
          refine Ev.step (f := fun _ => some false) (fun k => ?_) (Ev.now _)
          simp only [Gp.horariumref13_places.l1]
          rw [if_pos (by omega), if_pos (by omega), if_pos (by omega), if_pos (by omega), if_pos (by omega), rdPlace hy, rdPlace hx, if_pos he]
        · refine Ev.step (fun k => ?_) (ih' (j + 1) (by omega) (fun j' z h hz => ?_))
          · simp only [Gp.horariumref13_places.l1]
            rw [if_pos (by omega), if_pos (by omega), if_pos (by omega), if_pos (by omega), if_pos (by omega), rdPlace hy, rdPlace hx, if_neg he, wr1 (by omega)]
          · by_cases e : j' = j
            · subst e
              rw [hy] at hz
              cases hz
              exact he
            · exact hne j' z (by omega) hz
    by_cases h1 : x.f0 < 0
    · rw [hbad (Or.inl (by unfold placeB; rw [decide_eq_false (show ¬ 0 ≤ x.f0 by omega)]; rfl))]
      refine Ev.step (f := fun k => Gp.horariumref13_places.j1 k n l (i : Int) true) (fun k => ?_) (Ev.step (f := fun _ => some false) (fun k => ?_) (Ev.now _))
      · simp only [Gp.horariumref13_places.l0]
        rw [if_pos (by omega), if_pos (by omega), rdPlace hx, if_pos h1]
      · simp only [Gp.horariumref13_places.j1]
        rfl
    by_cases h2 : x.f0 ≥ n
    · rw [hbad (Or.inl (by unfold placeB; rw [decide_eq_false (show ¬ x.f0 < n by omega)]; simp))]
      refine Ev.step (f := fun k => Gp.horariumref13_places.j1 k n l (i : Int) true) (fun k => ?_) (Ev.step (f := fun _ => some false) (fun k => ?_) (Ev.now _))
      · simp only [Gp.horariumref13_places.l0]
        rw [if_pos (by omega), if_pos (by omega), rdPlace hx, if_neg h1, if_pos h2]
      · simp only [Gp.horariumref13_places.j1]
        rfl
    refine Ev.step (f := fun k => Gp.horariumref13_places.j1 k n l (i : Int) (!cheapB x.f1)) (fun k => ?_) ?_
    · simp only [Gp.horariumref13_places.l0]
      rw [if_pos (by omega), if_pos (by omega), rdPlace hx, if_neg h1, if_neg h2]
      simp only [rcost, Option.bind_some]
    have hp : placeB n x = cheapB x.f1 := by unfold placeB; rw [decide_eq_true (show 0 ≤ x.f0 by omega), decide_eq_true (show x.f0 < n by omega)]; rfl
    cases hc : cheapB x.f1 with
    | false =>
      rw [hbad (Or.inl (by rw [hp, hc]))]
      refine Ev.step (f := fun _ => some false) (fun k => ?_) (Ev.now _)
      simp only [Gp.horariumref13_places.j1]
      rfl
    | true =>
      refine Ev.step (fun k => ?_) (hin (by rw [hp, hc]) i 0 (by omega) (fun j' y h => by omega))
      simp only [Gp.horariumref13_places.j1]
      rfl
theorem rplaces (n : Int) (l : List S120) (hl : l.length ≤ 9223372036854775807) : Ev (fun k => Gp.horariumref13_places.f k n l) (placesB n l) := rplaces_ev n l hl l.length 0 rfl (OnceTo.start _ _ _)
end Go.Proofs.YtineikfhfmiidaaGreat.Pm
namespace Go.Proofs.YtineikfhfmiidaaGreat.Pm
open Go Go.RowKit Go.Proofs.YtineikfhfmiidaaGreat.Gp Go.Proofs.YtineikfhfmiidaaGreat.Mw Go.Proofs.YtineikfhfmiidaaGreatW.PrintWords Go.Proofs.YtineikfhfmiidaaGreatW.PrintLast Go.Proofs.YtineikfhfmiidaaGreatW.PrintMore
set_option linter.unusedVariables false
set_option linter.unusedSimpArgs false
/-- May weights be? -/
def costB (n : Int) : Bool := decide (0 ≤ n) && decide (n ≤ 1000)
def weighB (a b c d : Int) : Bool := costB a && (costB b && (costB c && costB d))
theorem weigh_ev (l : List Int) (hl : l.length ≤ 1000) : ∀ d i : Nat, d + i = l.length → Ev (fun k => Gp.horariumref17_weigh.l0 k l (i : Int)) ((l.drop i).all costB) := by
  intro d
  induction d with
  | zero =>
    intro i hi
    rw [List.drop_of_length_le (by omega)]
    refine Ev.step (f := fun _ => some true) (fun k => ?_) (Ev.now _)
    simp only [Gp.horariumref17_weigh.l0]
    rw [if_neg (by omega)]
  | succ d ih =>
    intro i hi
    rw [List.drop_eq_getElem_cons (show i < l.length by omega), List.all_cons]
    have hx : l.getD i 0 = l[i]'(by omega) := by rw [List.getD_eq_getElem?_getD, List.getElem?_eq_getElem (by omega)]; rfl
    generalize l[i]'(by omega) = x at *
    by_cases h1 : x < 0
    · rw [show costB x = false by unfold costB; rw [decide_eq_false (by omega)]; rfl, Bool.false_and]
      refine Ev.step (f := fun _ => some false) (fun k => ?_) (Ev.now _)
      simp only [Gp.horariumref17_weigh.l0]
      rw [if_pos (by omega), if_pos (by omega), rd_nat, hx, if_pos h1]
    by_cases h2 : x > 1000
    · rw [show costB x = false by unfold costB; rw [decide_eq_false (show ¬ x ≤ 1000 by omega)]; simp, Bool.false_and]
      refine Ev.step (f := fun _ => some false) (fun k => ?_) (Ev.now _)
      simp only [Gp.horariumref17_weigh.l0]
      rw [if_pos (by omega), if_pos (by omega), rd_nat, hx, if_neg h1, if_pos h2]
    · rw [show costB x = true by unfold costB; rw [decide_eq_true (show 0 ≤ x by omega), decide_eq_true (show x ≤ 1000 by omega)]; rfl, Bool.true_and]
      refine Ev.step (fun k => ?_) (ih (i + 1) (by omega))
      simp only [Gp.horariumref17_weigh.l0]
      rw [if_pos (by omega), if_pos (by omega), rd_nat, hx, if_neg h1, if_neg h2, wr1 (by omega)]
theorem rweigh (a b c d : Int) : Ev (fun k => Gp.horariumref17_weigh.f k a b c d) (weighB a b c d) := by
  have h := weigh_ev [a, b, c, d] (by simp) 4 0 rfl
  rw [show ((([a, b, c, d] : List Int).drop 0).all costB) = weighB a b c d by simp [weighB]] at h
  exact h
section
variable (n : Int) (x : S61) (hl : x.f1.length ≤ 9223372036854775807)
/-- The rows of a way. -/
theorem rc2_ev {R : Bool} (ps : List (List Int)) (i p : Nat) (l met : List Int) (hp : ps[p]? = some l) (hlen : l.length ≤ 100000) (hmet : met.length ≤ 100000) (hbad : partAt n ps p = false → R = false) (hm : met = (ps.take p).flatten) (hup : upB n l = true) (hl0 : 0 < l.length) (hl8 : l.length ≤ 8)
    (hn : partAt n ps p = true → Ev (fun k => Gp.horariumref14_Right.l1 k n (i : Int) (met ++ l) ((p + 1 : Nat) : Int) x.f0 x.f1 ps) R) (hps : ps.length ≤ 1000) : ∀ d j : Nat, d + j = l.length → (∀ j', j' < j → l.getD j' 0 ∉ met) → Ev (fun k => Gp.horariumref14_Right.l2 k n (i : Int) met (p : Int) l (j : Int) x.f0 x.f1 ps) R := by
  have hpl : p < ps.length := (List.getElem?_eq_some_iff.1 hp).1
  intro d
  induction d with
  | zero =>
    intro j hj hc
    refine Ev.step (fun k => ?_) (hn ?_)
    · simp only [Gp.horariumref14_Right.l2]
      rw [if_neg (by omega), if_pos (by omega), wr1 (by omega)]
    · rw [partAt_eq hp, ← hm]
      unfold rowB
      rw [decide_eq_true hl0, decide_eq_true hl8, allAt_all (fun q hq => rowAt_yes (allAt_true hup q hq) (hc q (by omega)))]
      rfl
  | succ d ih =>
    intro j hj hc
    have ha := among_f met (l.getD j 0) (by omega)
    cases hb : met.contains (l.getD j 0) with
    | true =>
      rw [hb] at ha
      rw [hbad (by
        rw [partAt_eq hp, ← hm]
        unfold rowB
        rw [allAt_bad (i := j) (by omega) (rowAt_no (Or.inr (List.contains_iff_mem.1 hb))), Bool.false_and])]
      refine Ev.step (fun k => ?_) (Ev.bindk (f := fun k t => if t = true then some false else Gp.horariumref14_Right.l2 k n (i : Int) met (p : Int) l ((j + 1 : Nat) : Int) x.f0 x.f1 ps) ha (Ev.now _))
      simp only [Gp.horariumref14_Right.l2]
      rw [if_pos (by omega), if_pos (by omega), rd_nat, wr1 (by omega)]
    | false =>
      rw [hb] at ha
      refine Ev.step (fun k => ?_) (Ev.bindk (f := fun k t => if t = true then some false else Gp.horariumref14_Right.l2 k n (i : Int) met (p : Int) l ((j + 1 : Nat) : Int) x.f0 x.f1 ps) ha (Ev.congr (fun k => if_neg Bool.false_ne_true) (ih (j + 1) (by omega) (fun j' h => ?_))))
      · simp only [Gp.horariumref14_Right.l2]
        rw [if_pos (by omega), if_pos (by omega), rd_nat, wr1 (by omega)]
      · by_cases e : j' = j
        · subst e
          intro h2
          rw [List.contains_iff_mem.2 h2] at hb
          cases hb
        · exact hc j' (by omega)
theorem rc1_ev {R : Bool} (ps : List (List Int)) (i : Nat) (hps : ps.length ≤ 4) (hbad : allAt ps.length (partAt n ps) = false → R = false) (hlen : ∀ l, l ∈ ps → l.length ≤ 9223372036854775807)
    (hn : allAt ps.length (partAt n ps) = true → Ev (fun k => Gp.horariumref14_Right.l0 k n ((i + 1 : Nat) : Int) x.f0 x.f1) R) (hi1 : i < 9223372036854775807) : ∀ d p : Nat, d + p = ps.length → (∀ q, q < p → partAt n ps q = true) → ((ps.take p).flatten).length ≤ 8 * p → Ev (fun k => Gp.horariumref14_Right.l1 k n (i : Int) (ps.take p).flatten (p : Int) x.f0 x.f1 ps) R := by
  intro d
  induction d with
  | zero =>
    intro p hp hq hsz
    refine Ev.step (fun k => ?_) (hn (allAt_all (fun q h => hq q (by omega))))
    simp only [Gp.horariumref14_Right.l1]
    rw [if_neg (by omega), wr1 hi1]
  | succ d ih =>
    intro p hp hq hsz
    obtain ⟨l, hx⟩ := get_some (l := ps) (i := p) (by omega)
    have hmx := hlen l (List.mem_of_getElem? hx)
    have hrd : Gp.rd_L8 ps (p : Int) = l := by rw [rdl_nat, List.getD_eq_getElem?_getD, hx]; rfl
    have hno : partAt n ps p = false → R = false := fun h => hbad (allAt_bad (i := p) (by omega) h)
    have hj : ∀ k, Gp.horariumref14_Right.j4 (k + 1) n (i : Int) (ps.take p).flatten (p : Int) l true x.f0 x.f1 ps = some false := fun k => by
      simp only [Gp.horariumref14_Right.j4]
      rfl
    by_cases h0 : l.length < 1
    · rw [hno (by rw [partAt_eq hx]; unfold rowB; rw [decide_eq_false (show ¬ 0 < l.length by omega)]; simp)]
      refine Ev.step (f := fun k => Gp.horariumref14_Right.j4 k n (i : Int) (ps.take p).flatten (p : Int) l true x.f0 x.f1 ps) (fun k => ?_) (Ev.step (f := fun _ => some false) hj (Ev.now _))
      simp only [Gp.horariumref14_Right.l1]
      rw [if_pos (by omega), if_pos (by omega), hrd, if_pos (by omega)]
    by_cases h8 : l.length > 8
    · rw [hno (by rw [partAt_eq hx]; unfold rowB; rw [decide_eq_false (show ¬ l.length ≤ 8 by omega)]; simp)]
      refine Ev.step (f := fun k => Gp.horariumref14_Right.j4 k n (i : Int) (ps.take p).flatten (p : Int) l true x.f0 x.f1 ps) (fun k => ?_) (Ev.step (f := fun _ => some false) hj (Ev.now _))
      simp only [Gp.horariumref14_Right.l1]
      rw [if_pos (by omega), if_pos (by omega), hrd, if_neg (by omega), if_pos (by omega)]
    refine Ev.step (fun k => ?_) (Ev.bindk (f := fun k t => Gp.horariumref14_Right.j4 k n (i : Int) (ps.take p).flatten (p : Int) l (!t) x.f0 x.f1 ps) (rris l n hmx) ?_)
    · simp only [Gp.horariumref14_Right.l1]
      rw [if_pos (by omega), if_pos (by omega), hrd, if_neg (by omega), if_neg (by omega)]
    cases hup : upB n l with
    | false =>
      rw [hno (by
        rw [partAt_eq hx]
        unfold rowB
        cases ha : allAt l.length (rowAt n (ps.take p).flatten l) with
        | false => rfl
        | true =>
          rw [show upB n l = true from allAt_all (fun q h => rowAt_ok (allAt_true ha q h))] at hup
          cases hup)]
      exact Ev.step (f := fun _ => some false) hj (Ev.now _)
    | true =>
      refine Ev.step (fun k => ?_) (rc2_ev n x ps i p l _ hx (by omega) (by omega) hno rfl hup (by omega) (by omega) (fun h => ?_) (by omega) l.length 0 (by omega) (fun j h => by omega))
      · simp only [Gp.horariumref14_Right.j4]
        rfl
      · rw [← flat_succ hx]
        exact ih (p + 1) (by omega) (more_all (n := 0) hq h) (by rw [flat_succ hx, List.length_append]; omega)
include hl in
theorem rc0_ev (hx : nameB x.f0 = true ∧ 0 < x.f1.length ∧ x.f1.length ≤ 4) (hlen : ∀ y, y ∈ x.f1 → ∀ l, l ∈ y.f0 → l.length ≤ 9223372036854775807) : ∀ d i : Nat, d + i = x.f1.length → (∀ q, q < i → wayAt n x.f1 q = true) → Ev (fun k => Gp.horariumref14_Right.l0 k n (i : Int) x.f0 x.f1) (courseB n x) := by
  intro d
  induction d with
  | zero =>
    intro i hi hq
    rw [show courseB n x = true by unfold courseB; rw [hx.1, decide_eq_true hx.2.1, decide_eq_true hx.2.2, allAt_all (fun q h => hq q (by omega))]; rfl]
    refine Ev.step (f := fun _ => some true) (fun k => ?_) (Ev.now _)
    simp only [Gp.horariumref14_Right.l0]
    rw [if_neg (by omega)]
  | succ d ih =>
    intro i hi hq
    obtain ⟨y, hy⟩ := get_some (l := x.f1) (i := i) (by omega)
    have hno : wayB n y.f0 = false → courseB n x = false := fun h => by
      unfold courseB
      rw [allAt_bad (i := i) (by omega) ((wayAt_eq hy).trans h)]
      simp
    have hj : ∀ k, Gp.horariumref14_Right.j2 (k + 1) n (i : Int) true x.f0 x.f1 y.f0 = some false := fun k => by
      simp only [Gp.horariumref14_Right.j2]
      rfl
    by_cases h0 : y.f0.length < 1
    · rw [hno (by unfold wayB; rw [decide_eq_false (show ¬ 0 < y.f0.length by omega)]; rfl)]
      refine Ev.step (f := fun k => Gp.horariumref14_Right.j2 k n (i : Int) true x.f0 x.f1 y.f0) (fun k => ?_) (Ev.step (f := fun _ => some false) hj (Ev.now _))
      simp only [Gp.horariumref14_Right.l0]
      rw [if_pos (by omega), if_pos (by omega), rdWay hy, if_pos (by omega)]
    by_cases h4 : y.f0.length > 4
    · rw [hno (by unfold wayB; rw [decide_eq_false (show ¬ y.f0.length ≤ 4 by omega)]; simp)]
      refine Ev.step (f := fun k => Gp.horariumref14_Right.j2 k n (i : Int) true x.f0 x.f1 y.f0) (fun k => ?_) (Ev.step (f := fun _ => some false) hj (Ev.now _))
      simp only [Gp.horariumref14_Right.l0]
      rw [if_pos (by omega), if_pos (by omega), rdWay hy, if_neg (by omega), decide_eq_true (by omega)]
    have hw : allAt y.f0.length (partAt n y.f0) = wayB n y.f0 := by
      unfold wayB
      rw [decide_eq_true (show 0 < y.f0.length by omega), decide_eq_true (show y.f0.length ≤ 4 by omega)]
      rfl
    refine Ev.step (f := fun k => Gp.horariumref14_Right.j2 k n (i : Int) false x.f0 x.f1 y.f0) (fun k => ?_) (Ev.step (fun k => ?_) (rc1_ev n x y.f0 i (by omega) (fun h => hno (hw ▸ h)) (hlen y (List.mem_of_getElem? hy)) (fun h => ih (i + 1) (by omega) (more_all (n := 0) hq ((wayAt_eq hy).trans (hw ▸ h)))) (by omega) y.f0.length 0 (by omega) (fun q h => by omega) (by simp)))
    · simp only [Gp.horariumref14_Right.l0]
      rw [if_pos (by omega), if_pos (by omega), rdWay hy, if_neg (by omega), decide_eq_false (by omega)]
    · simp only [Gp.horariumref14_Right.j2]
      rfl
include hl in
theorem rcourse (hlen : ∀ y, y ∈ x.f1 → ∀ l, l ∈ y.f0 → l.length ≤ 9223372036854775807) : Ev (fun k => Gp.horariumref14_Right.f k n x.f0 x.f1) (courseB n x) := by
  unfold Gp.horariumref14_Right.f
  simp only [rname, Option.bind_some]
  have hj : ∀ k, Gp.horariumref14_Right.j0 (k + 1) n true x.f0 x.f1 = some false := fun k => by
    simp only [Gp.horariumref14_Right.j0]
    rfl
  cases hnm : nameB x.f0 with
  | false =>
    rw [show courseB n x = false by unfold courseB; rw [hnm]; rfl]
    exact Ev.congr (fun k => if_neg Bool.false_ne_true) (Ev.step (f := fun _ => some false) hj (Ev.now _))
  | true =>
  refine Ev.congr (fun k => if_pos rfl) ?_
  by_cases h0 : x.f1.length < 1
  · rw [show courseB n x = false by unfold courseB; rw [decide_eq_false (show ¬ 0 < x.f1.length by omega)]; simp]
    exact Ev.congr (fun k => if_pos (by omega)) (Ev.step (f := fun _ => some false) hj (Ev.now _))
  by_cases h4 : x.f1.length > 4
  · rw [show courseB n x = false by unfold courseB; rw [decide_eq_false (show ¬ x.f1.length ≤ 4 by omega)]; simp]
    exact Ev.congr (fun k => (if_neg (by omega)).trans (congrArg (fun b => Gp.horariumref14_Right.j0 k n b x.f0 x.f1) (decide_eq_true (by omega)))) (Ev.step (f := fun _ => some false) hj (Ev.now _))
  · refine Ev.congr (fun k => (if_neg (by omega)).trans (congrArg (fun b => Gp.horariumref14_Right.j0 k n b x.f0 x.f1) (decide_eq_false (by omega)))) (Ev.step (fun k => ?_) (rc0_ev n x hl ⟨hnm, by omega, by omega⟩ hlen x.f1.length 0 (by omega) (fun q h => by omega)))
    simp only [Gp.horariumref14_Right.j0]
    rfl
end
end Go.Proofs.YtineikfhfmiidaaGreat.Pm
namespace Go.Proofs.YtineikfhfmiidaaGreat.Pm
open Go Go.RowKit Go.Proofs.YtineikfhfmiidaaGreat.Gp Go.Proofs.YtineikfhfmiidaaGreatW.PrintWords Go.Proofs.YtineikfhfmiidaaGreatW.PrintLast Go.Proofs.YtineikfhfmiidaaGreatW.PrintMore
set_option linter.unusedVariables false
set_option linter.unusedSimpArgs false
theorem name_none : room_Name.f { data := #[] } = some false := by
  unfold room_Name.f
  rw [ByteArray.toList_eq]
  rfl
theorem name_p : room_Name.f { data := #[112] } = some true := by
  unfold room_Name.f
  rw [ByteArray.toList_eq]
  rfl
theorem nilC {α : Type} (d : Kd α) (w : World) : d.C w none 0 [] := ⟨rfl, by omega, fun h => absurd h (Nat.lt_irrefl 0)⟩
set_option maxRecDepth 100000 in
set_option maxHeartbeats 1000000 in
theorem Check_none (w : World) :
    Calls Tryz.prog 10 #[.agg #[.string { data := #[] }, .int .i64 0, .int .i64 0, .int .i64 0, .slice none 0 0, .slice none 0 0, .slice none 0 0, .slice none 0 0, .slice none 0 0, .slice none 0 0, .slice none 0 0, .int .i64 0, .int .i64 0, .int .i64 0, .int .i64 0]] w fun e w' => e = .returned (.tuple #[.int .i64 18, .int .i64 0]) ∧ Below w.heap.size w w' := by
  have hu40 := Tryz.underlying34
  have hu29 := Tryz.underlying23
  have hu38 := Tryz.underlying32
  go_enter Tryz.func10, Tryz.ntmps10
  go_wp2_with (first
    | ((with_reducible refine gate_dst (N := 1) rfl ?_); refine box_event ?hg (N := 1) ?hd (cs := #[.string { data := #[] }, .int .i64 0, .int .i64 0, .int .i64 0, .slice none 0 0, .slice none 0 0, .slice none 0 0, .slice none 0 0, .slice none 0 0, .slice none 0 0, .slice none 0 0, .int .i64 0, .int .i64 0, .int .i64 0, .int .i64 0]) (t := 34) ?hr ?_; (case hd => rfl); (case hg => rfl); (case hr => first | (go_simp; done) | (go_simp; rfl)); intro g hg w2 hbox hB; have HP := Aside0.mk (PBox.mk hbox hB (show w.heap.size ≤ g by rw [hg]; exact Nat.le_refl _)); clear hbox hB hg; have hc0 := HP.out.cell 0 rfl; have hc1 := HP.out.cell 1 rfl; have hc2 := HP.out.cell 2 rfl; have hc3 := HP.out.cell 3 rfl; have hc4 := HP.out.cell 4 rfl; have hc5 := HP.out.cell 5 rfl; have hc6 := HP.out.cell 6 rfl; have hc7 := HP.out.cell 7 rfl; have hc8 := HP.out.cell 8 rfl; have hc9 := HP.out.cell 9 rfl; have hc10 := HP.out.cell 10 rfl; have hc11 := HP.out.cell 11 rfl; have hc12 := HP.out.cell 12 rfl; have hc13 := HP.out.cell 13 rfl; have hc14 := HP.out.cell 14 rfl)
    | (go_at_call 34; refine (room_Name.calls _ _ _ name_none).mono ?_; rintro e w3 ⟨rfl, hD⟩; have hB := hD.below; clear hD; have HQ := Aside0.mk (HP.out.below hB); clear HP hB hc0 hc1 hc2 hc3 hc4 hc5 hc6 hc7 hc8 hc9 hc10 hc11 hc12 hc13 hc14; have HP := HQ; clear HQ; have hc0 := HP.out.cell 0 rfl; have hc1 := HP.out.cell 1 rfl; have hc2 := HP.out.cell 2 rfl; have hc3 := HP.out.cell 3 rfl; have hc4 := HP.out.cell 4 rfl; have hc5 := HP.out.cell 5 rfl; have hc6 := HP.out.cell 6 rfl; have hc7 := HP.out.cell 7 rfl; have hc8 := HP.out.cell 8 rfl; have hc9 := HP.out.cell 9 rfl; have hc10 := HP.out.cell 10 rfl; have hc11 := HP.out.cell 11 rfl; have hc12 := HP.out.cell 12 rfl; have hc13 := HP.out.cell 13 rfl; have hc14 := HP.out.cell 14 rfl))
  refine bodyPost_ret (results_tmp2 rfl _ _ _) rfl ?_
  exact ⟨rfl, by repeat (first | exact HP.out.bel | apply pw_below_drewN | apply below_alloc)⟩
set_option maxRecDepth 100000 in
set_option maxHeartbeats 1000000 in
theorem Check_p (w : World) :
    Calls Tryz.prog 10 #[.agg #[.string { data := #[112] }, .int .i64 1, .int .i64 5, .int .i64 10, .slice none 0 0, .slice none 0 0, .slice none 0 0, .slice none 0 0, .slice none 0 0, .slice none 0 0, .slice none 0 0, .int .i64 0, .int .i64 0, .int .i64 0, .int .i64 0]] w fun e w' => e = .returned (.tuple #[.int .i64 0, .int .i64 0]) ∧ Below w.heap.size w w' := by
  have hu40 := Tryz.underlying34
  have hu29 := Tryz.underlying23
  have hu38 := Tryz.underlying32
  go_enter Tryz.func10, Tryz.ntmps10
  go_wp2_with (first
    | ((with_reducible refine gate_dst (N := 1) rfl ?_); refine box_event ?hg (N := 1) ?hd (cs := #[.string { data := #[112] }, .int .i64 1, .int .i64 5, .int .i64 10, .slice none 0 0, .slice none 0 0, .slice none 0 0, .slice none 0 0, .slice none 0 0, .slice none 0 0, .slice none 0 0, .int .i64 0, .int .i64 0, .int .i64 0, .int .i64 0]) (t := 34) ?hr ?_; (case hd => rfl); (case hg => rfl); (case hr => first | (go_simp; done) | (go_simp; rfl)); intro g hg w2 hbox hB; have HP := Aside0.mk (PBox.mk hbox hB (show w.heap.size ≤ g by rw [hg]; exact Nat.le_refl _)); clear hbox hB hg; have hc0 := HP.out.cell 0 rfl; have hc1 := HP.out.cell 1 rfl; have hc2 := HP.out.cell 2 rfl; have hc3 := HP.out.cell 3 rfl; have hc4 := HP.out.cell 4 rfl; have hc5 := HP.out.cell 5 rfl; have hc6 := HP.out.cell 6 rfl; have hc7 := HP.out.cell 7 rfl; have hc8 := HP.out.cell 8 rfl; have hc9 := HP.out.cell 9 rfl; have hc10 := HP.out.cell 10 rfl; have hc11 := HP.out.cell 11 rfl; have hc12 := HP.out.cell 12 rfl; have hc13 := HP.out.cell 13 rfl; have hc14 := HP.out.cell 14 rfl)
    | (go_at_call 34; refine (room_Name.calls _ _ _ name_p).mono ?_; rintro e w3 ⟨rfl, hD⟩; have hB := hD.below; clear hD; have HQ := Aside0.mk (HP.out.below hB); clear HP hB hc0 hc1 hc2 hc3 hc4 hc5 hc6 hc7 hc8 hc9 hc10 hc11 hc12 hc13 hc14; have HP := HQ; clear HQ; have hc0 := HP.out.cell 0 rfl; have hc1 := HP.out.cell 1 rfl; have hc2 := HP.out.cell 2 rfl; have hc3 := HP.out.cell 3 rfl; have hc4 := HP.out.cell 4 rfl; have hc5 := HP.out.cell 5 rfl; have hc6 := HP.out.cell 6 rfl; have hc7 := HP.out.cell 7 rfl; have hc8 := HP.out.cell 8 rfl; have hc9 := HP.out.cell 9 rfl; have hc10 := HP.out.cell 10 rfl; have hc11 := HP.out.cell 11 rfl; have hc12 := HP.out.cell 12 rfl; have hc13 := HP.out.cell 13 rfl; have hc14 := HP.out.cell 14 rfl)
    | (go_at_call 35; refine (when_RightGrid.calls _ _ _ true _ (by rfl)).mono ?_; rintro e w3 ⟨rfl, hB⟩; have HQ := Aside0.mk (HP.out.below hB); clear HP hB hc0 hc1 hc2 hc3 hc4 hc5 hc6 hc7 hc8 hc9 hc10 hc11 hc12 hc13 hc14; have HP := HQ; clear HQ; have hc0 := HP.out.cell 0 rfl; have hc1 := HP.out.cell 1 rfl; have hc2 := HP.out.cell 2 rfl; have hc3 := HP.out.cell 3 rfl; have hc4 := HP.out.cell 4 rfl; have hc5 := HP.out.cell 5 rfl; have hc6 := HP.out.cell 6 rfl; have hc7 := HP.out.cell 7 rfl; have hc8 := HP.out.cell 8 rfl; have hc9 := HP.out.cell 9 rfl; have hc10 := HP.out.cell 10 rfl; have hc11 := HP.out.cell 11 rfl; have hc12 := HP.out.cell 12 rfl; have hc13 := HP.out.cell 13 rfl; have hc14 := HP.out.cell 14 rfl)
    | (go_at_call 36; refine (badRoom_nil _ _ _ _).mono ?_; rintro e w3 ⟨rfl, hB⟩; have HQ := Aside0.mk (HP.out.below hB); clear HP hB hc0 hc1 hc2 hc3 hc4 hc5 hc6 hc7 hc8 hc9 hc10 hc11 hc12 hc13 hc14; have HP := HQ; clear HQ; have hc0 := HP.out.cell 0 rfl; have hc1 := HP.out.cell 1 rfl; have hc2 := HP.out.cell 2 rfl; have hc3 := HP.out.cell 3 rfl; have hc4 := HP.out.cell 4 rfl; have hc5 := HP.out.cell 5 rfl; have hc6 := HP.out.cell 6 rfl; have hc7 := HP.out.cell 7 rfl; have hc8 := HP.out.cell 8 rfl; have hc9 := HP.out.cell 9 rfl; have hc10 := HP.out.cell 10 rfl; have hc11 := HP.out.cell 11 rfl; have hc12 := HP.out.cell 12 rfl; have hc13 := HP.out.cell 13 rfl; have hc14 := HP.out.cell 14 rfl)
    | (go_at_call 41; refine (badPerson_nil _ _ _ _).mono ?_; rintro e w3 ⟨rfl, hB⟩; have HQ := Aside0.mk (HP.out.below hB); clear HP hB hc0 hc1 hc2 hc3 hc4 hc5 hc6 hc7 hc8 hc9 hc10 hc11 hc12 hc13 hc14; have HP := HQ; clear HQ; have hc0 := HP.out.cell 0 rfl; have hc1 := HP.out.cell 1 rfl; have hc2 := HP.out.cell 2 rfl; have hc3 := HP.out.cell 3 rfl; have hc4 := HP.out.cell 4 rfl; have hc5 := HP.out.cell 5 rfl; have hc6 := HP.out.cell 6 rfl; have hc7 := HP.out.cell 7 rfl; have hc8 := HP.out.cell 8 rfl; have hc9 := HP.out.cell 9 rfl; have hc10 := HP.out.cell 10 rfl; have hc11 := HP.out.cell 11 rfl; have hc12 := HP.out.cell 12 rfl; have hc13 := HP.out.cell 13 rfl; have hc14 := HP.out.cell 14 rfl)
    | (go_at_call 45; refine (badClass_nil _ _ _ _).mono ?_; rintro e w3 ⟨rfl, hB⟩; have HQ := Aside0.mk (HP.out.below hB); clear HP hB hc0 hc1 hc2 hc3 hc4 hc5 hc6 hc7 hc8 hc9 hc10 hc11 hc12 hc13 hc14; have HP := HQ; clear HQ; have hc0 := HP.out.cell 0 rfl; have hc1 := HP.out.cell 1 rfl; have hc2 := HP.out.cell 2 rfl; have hc3 := HP.out.cell 3 rfl; have hc4 := HP.out.cell 4 rfl; have hc5 := HP.out.cell 5 rfl; have hc6 := HP.out.cell 6 rfl; have hc7 := HP.out.cell 7 rfl; have hc8 := HP.out.cell 8 rfl; have hc9 := HP.out.cell 9 rfl; have hc10 := HP.out.cell 10 rfl; have hc11 := HP.out.cell 11 rfl; have hc12 := HP.out.cell 12 rfl; have hc13 := HP.out.cell 13 rfl; have hc14 := HP.out.cell 14 rfl)
    | (go_at_call 49; refine (badCourse_nil _ _ _ _).mono ?_; rintro e w3 ⟨rfl, hB⟩; have HQ := Aside0.mk (HP.out.below hB); clear HP hB hc0 hc1 hc2 hc3 hc4 hc5 hc6 hc7 hc8 hc9 hc10 hc11 hc12 hc13 hc14; have HP := HQ; clear HQ; have hc0 := HP.out.cell 0 rfl; have hc1 := HP.out.cell 1 rfl; have hc2 := HP.out.cell 2 rfl; have hc3 := HP.out.cell 3 rfl; have hc4 := HP.out.cell 4 rfl; have hc5 := HP.out.cell 5 rfl; have hc6 := HP.out.cell 6 rfl; have hc7 := HP.out.cell 7 rfl; have hc8 := HP.out.cell 8 rfl; have hc9 := HP.out.cell 9 rfl; have hc10 := HP.out.cell 10 rfl; have hc11 := HP.out.cell 11 rfl; have hc12 := HP.out.cell 12 rfl; have hc13 := HP.out.cell 13 rfl; have hc14 := HP.out.cell 14 rfl)
    | (go_at_call 53; refine (badStudent_nil _ _ _ _).mono ?_; rintro e w3 ⟨rfl, hB⟩; have HQ := Aside0.mk (HP.out.below hB); clear HP hB hc0 hc1 hc2 hc3 hc4 hc5 hc6 hc7 hc8 hc9 hc10 hc11 hc12 hc13 hc14; have HP := HQ; clear HQ; have hc0 := HP.out.cell 0 rfl; have hc1 := HP.out.cell 1 rfl; have hc2 := HP.out.cell 2 rfl; have hc3 := HP.out.cell 3 rfl; have hc4 := HP.out.cell 4 rfl; have hc5 := HP.out.cell 5 rfl; have hc6 := HP.out.cell 6 rfl; have hc7 := HP.out.cell 7 rfl; have hc8 := HP.out.cell 8 rfl; have hc9 := HP.out.cell 9 rfl; have hc10 := HP.out.cell 10 rfl; have hc11 := HP.out.cell 11 rfl; have hc12 := HP.out.cell 12 rfl; have hc13 := HP.out.cell 13 rfl; have hc14 := HP.out.cell 14 rfl)
    | (go_at_call 57; refine (badRule_nil _ _ _ _).mono ?_; rintro e w3 ⟨rfl, hB⟩; have HQ := Aside0.mk (HP.out.below hB); clear HP hB hc0 hc1 hc2 hc3 hc4 hc5 hc6 hc7 hc8 hc9 hc10 hc11 hc12 hc13 hc14; have HP := HQ; clear HQ; have hc0 := HP.out.cell 0 rfl; have hc1 := HP.out.cell 1 rfl; have hc2 := HP.out.cell 2 rfl; have hc3 := HP.out.cell 3 rfl; have hc4 := HP.out.cell 4 rfl; have hc5 := HP.out.cell 5 rfl; have hc6 := HP.out.cell 6 rfl; have hc7 := HP.out.cell 7 rfl; have hc8 := HP.out.cell 8 rfl; have hc9 := HP.out.cell 9 rfl; have hc10 := HP.out.cell 10 rfl; have hc11 := HP.out.cell 11 rfl; have hc12 := HP.out.cell 12 rfl; have hc13 := HP.out.cell 13 rfl; have hc14 := HP.out.cell 14 rfl)
    | (go_at_call 40; refine (room_RightWalk.calls 5 0 none 0 [] true _ (nilC _ _) (Nat.le_refl _) (by rfl)).mono ?_; rintro e w3 ⟨rfl, hD⟩; have hB := hD.below; clear hD; have HQ := Aside0.mk (HP.out.below hB); clear HP hB hc0 hc1 hc2 hc3 hc4 hc5 hc6 hc7 hc8 hc9 hc10 hc11 hc12 hc13 hc14; have HP := HQ; clear HQ; have hc0 := HP.out.cell 0 rfl; have hc1 := HP.out.cell 1 rfl; have hc2 := HP.out.cell 2 rfl; have hc3 := HP.out.cell 3 rfl; have hc4 := HP.out.cell 4 rfl; have hc5 := HP.out.cell 5 rfl; have hc6 := HP.out.cell 6 rfl; have hc7 := HP.out.cell 7 rfl; have hc8 := HP.out.cell 8 rfl; have hc9 := HP.out.cell 9 rfl; have hc10 := HP.out.cell 10 rfl; have hc11 := HP.out.cell 11 rfl; have hc12 := HP.out.cell 12 rfl; have hc13 := HP.out.cell 13 rfl; have hc14 := HP.out.cell 14 rfl)
    | (go_at_call 59; refine (problem_cost.calls 0 true _ (by rfl)).mono ?_; rintro e w3 ⟨rfl, hD⟩; obtain ⟨m, rfl⟩ := hD.out; clear hD))
  refine bodyPost_ret (results_tmp2 rfl _ _ _) rfl ?_
  exact ⟨rfl, by repeat (first | exact HP.out.bel | apply pw_below_drewN | apply below_alloc)⟩
end Go.Proofs.YtineikfhfmiidaaGreat.Pm
namespace Go.Proofs.YtineikfhfmiidaaGreat.Pm
open Go Go.RowKit Go.Proofs.YtineikfhfmiidaaGreat.Gp Go.Proofs.YtineikfhfmiidaaGreat.Mw Go.Proofs.YtineikfhfmiidaaGreatW.PrintWords Go.Proofs.YtineikfhfmiidaaGreatW.PrintLast Go.Proofs.YtineikfhfmiidaaGreatW.PrintMore
set_option linter.unusedVariables false
set_option linter.unusedSimpArgs false
/-- A problem's numbers are of their kinds, as far as it matters. -/
structure GoodP (p : PV) : Prop where
  room : ∀ x, x ∈ p.rooms → ∀ y, y ∈ x.f3 → GoodW y
  person : ∀ x, x ∈ p.persons → ∀ y, y ∈ x.f1 → GoodW y
  cls : ∀ x, x ∈ p.classes → ∀ y, y ∈ x.f4 → GoodV y.f0
theorem qcostp (n : Int) : Gp.problem_cost.f n = some (costB n) := by
  unfold Gp.problem_cost.f costB
  by_cases h : 0 ≤ n <;> simp [h]
theorem pcc7 {w wr : World} {g : Nat} {t : TypeId} {p : PV} {a : PA} (h : PBox w wr g t (pcs p a)) : wr.cell? ⟨g, 7, none⟩ = some (.slice a.A7 p.classes.length a.c7) := h.cell 7 rfl
theorem pcc10 {w wr : World} {g : Nat} {t : TypeId} {p : PV} {a : PA} (h : PBox w wr g t (pcs p a)) : wr.cell? ⟨g, 10, none⟩ = some (.slice a.A10 p.rules.length a.c10) := h.cell 10 rfl
theorem pcx {w wr : World} {g : Nat} {t : TypeId} {p : PV} {a : PA} (h : PBox w wr g t (pcs p a)) : wr.cell? ⟨g, 0, none⟩ = some (.string p.nm) ∧ wr.cell? ⟨g, 1, none⟩ = some (.int .i64 p.g0) ∧ wr.cell? ⟨g, 2, none⟩ = some (.int .i64 p.g1) ∧ wr.cell? ⟨g, 3, none⟩ = some (.int .i64 p.g2) ∧ wr.cell? ⟨g, 4, none⟩ = some (.slice a.A4 p.rooms.length a.c4) ∧ wr.cell? ⟨g, 5, none⟩ = some (.slice a.A5 p.walk.length a.c5) ∧ wr.cell? ⟨g, 6, none⟩ = some (.slice a.A6 p.persons.length a.c6) ∧ wr.cell? ⟨g, 7, none⟩ = some (.slice a.A7 p.classes.length a.c7) ∧ wr.cell? ⟨g, 8, none⟩ = some (.slice a.A8 p.courses.length a.c8) ∧ wr.cell? ⟨g, 9, none⟩ = some (.slice a.A9 p.students.length a.c9) ∧ wr.cell? ⟨g, 10, none⟩ = some (.slice a.A10 p.rules.length a.c10) ∧ wr.cell? ⟨g, 11, none⟩ = some (.int .i64 p.w0) ∧ wr.cell? ⟨g, 12, none⟩ = some (.int .i64 p.w1) ∧ wr.cell? ⟨g, 13, none⟩ = some (.int .i64 p.w2) ∧ wr.cell? ⟨g, 14, none⟩ = some (.int .i64 p.w3) :=
  ⟨h.cell 0 rfl, h.cell 1 rfl, h.cell 2 rfl, h.cell 3 rfl, h.cell 4 rfl, h.cell 5 rfl, h.cell 6 rfl, h.cell 7 rfl, h.cell 8 rfl, h.cell 9 rfl, h.cell 10 rfl, h.cell 11 rfl, h.cell 12 rfl, h.cell 13 rfl, h.cell 14 rfl⟩
/-- What is wrong first, and its number. -/
noncomputable def checkE (p : PV) : Int × Int :=
  match nameB p.nm, gridB p.g0 p.g1 p.g2 with
  | false, _ => (18, 0)
  | true, false => (10, 0)
  | true, true =>
  match badI (roomB p.g0 p.g1 p.g2) (fun x : S47 => x.f0) 24 p.rooms with
  | some i => (11, (i : Int))
  | none =>
  match walkB (p.rooms.length : Int) p.walk with
  | false => (11, (p.rooms.length : Int))
  | true =>
  match badI (personB p.g0 p.g1 p.g2) (fun x : S53 => x.f0) 24 p.persons with
  | some i => (12, (i : Int))
  | none =>
  match badI (classB p.g0 p.g1 p.g2 (p.rooms.length : Int) (p.persons.length : Int) (p.classes.length : Int)) (fun x : S58 => x.f0) 40 p.classes with
  | some i => (13, (i : Int))
  | none =>
  match badI (courseB (p.classes.length : Int)) (fun x : S61 => x.f0) 16 p.courses with
  | some i => (14, (i : Int))
  | none =>
  match badI (studentB (p.courses.length : Int)) (fun x : S66 => x.f0) 200 p.students with
  | some i => (15, (i : Int))
  | none =>
  match badR (ruleB (p.classes.length : Int)) 60 p.rules with
  | some i => (16, (i : Int))
  | none =>
  match weighB p.w0 p.w1 p.w2 p.w3 with
  | false => (17, 0)
  | true => (0, 0)
def chkF (b1 b2 : Bool) (r1 : Option Nat) (n : Int) (b3 : Bool) (r2 r3 r4 r5 r6 : Option Nat) (b4 : Bool) : Int × Int :=
  bif !b1 then (18, 0) else bif !b2 then (10, 0) else bif r1.isSome then (11, badN r1) else bif !b3 then (11, n) else bif r2.isSome then (12, badN r2) else bif r3.isSome then (13, badN r3) else bif r4.isSome then (14, badN r4) else bif r5.isSome then (15, badN r5) else bif r6.isSome then (16, badN r6) else bif !b4 then (17, 0) else (0, 0)
theorem checkE_eq (p : PV) : checkE p = chkF (nameB p.nm) (gridB p.g0 p.g1 p.g2) (badI (roomB p.g0 p.g1 p.g2) (fun x : S47 => x.f0) 24 p.rooms) (p.rooms.length : Int) (walkB (p.rooms.length : Int) p.walk) (badI (personB p.g0 p.g1 p.g2) (fun x : S53 => x.f0) 24 p.persons) (badI (classB p.g0 p.g1 p.g2 (p.rooms.length : Int) (p.persons.length : Int) (p.classes.length : Int)) (fun x : S58 => x.f0) 40 p.classes) (badI (courseB (p.classes.length : Int)) (fun x : S61 => x.f0) 16 p.courses) (badI (studentB (p.courses.length : Int)) (fun x : S66 => x.f0) 200 p.students) (badR (ruleB (p.classes.length : Int)) 60 p.rules) (weighB p.w0 p.w1 p.w2 p.w3) := by
  unfold checkE chkF
  cases nameB p.nm <;> cases gridB p.g0 p.g1 p.g2 <;> try rfl
  cases badI (roomB p.g0 p.g1 p.g2) (fun x : S47 => x.f0) 24 p.rooms <;> try rfl
  cases walkB (p.rooms.length : Int) p.walk <;> try rfl
  cases badI (personB p.g0 p.g1 p.g2) (fun x : S53 => x.f0) 24 p.persons <;> try rfl
  cases badI (classB p.g0 p.g1 p.g2 (p.rooms.length : Int) (p.persons.length : Int) (p.classes.length : Int)) (fun x : S58 => x.f0) 40 p.classes <;> try rfl
  cases badI (courseB (p.classes.length : Int)) (fun x : S61 => x.f0) 16 p.courses <;> try rfl
  cases badI (studentB (p.courses.length : Int)) (fun x : S66 => x.f0) 200 p.students <;> try rfl
  cases badR (ruleB (p.classes.length : Int)) 60 p.rules <;> try rfl
  cases weighB p.w0 p.w1 p.w2 p.w3 <;> rfl
set_option maxRecDepth 100000 in
set_option maxHeartbeats 8000000 in
theorem Check_is (w : World) (p : PV) (a : PA) (hsh : Short p) (hr : PRd w p a) (hg : GoodP p) :
    Calls Tryz.prog 10 #[.agg (pcs p a)] w fun e w' => e = .returned (.tuple #[.int .i64 (checkE p).1, .int .i64 (checkE p).2]) ∧ Below w.heap.size w w' := by
  obtain ⟨kf, hkf⟩ := (qwalk p.walk (by have := hsh.2.1; omega) (p.rooms.length : Int)).rounds
  have HSh := Aside0.mk hsh
  have HR := Aside0.mk hr
  have HG := Aside0.mk hg
  rw [checkE_eq]
  unfold weighB
  generalize hb1 : nameB p.nm = b1
  generalize hb2 : gridB p.g0 p.g1 p.g2 = b2
  generalize hr1 : badI (roomB p.g0 p.g1 p.g2) (fun x : S47 => x.f0) 24 p.rooms = r1
  generalize hb3 : walkB (p.rooms.length : Int) p.walk = b3 at hkf ⊢
  generalize hr2 : badI (personB p.g0 p.g1 p.g2) (fun x : S53 => x.f0) 24 p.persons = r2
  generalize hr3 : badI (classB p.g0 p.g1 p.g2 (p.rooms.length : Int) (p.persons.length : Int) (p.classes.length : Int)) (fun x : S58 => x.f0) 40 p.classes = r3
  generalize hr4 : badI (courseB (p.classes.length : Int)) (fun x : S61 => x.f0) 16 p.courses = r4
  generalize hr5 : badI (studentB (p.courses.length : Int)) (fun x : S66 => x.f0) 200 p.students = r5
  generalize hr6 : badR (ruleB (p.classes.length : Int)) 60 p.rules = r6
  generalize hc0 : costB p.w0 = c0
  generalize hc1 : costB p.w1 = c1
  generalize hc2 : costB p.w2 = c2
  generalize hc3 : costB p.w3 = c3
  have E0 : Aside0 (Gq.room_Name.f p.nm = some b1) := ⟨(qname p.nm).trans (congrArg some hb1)⟩
  have E1 : Aside0 (Gq.when_RightGrid.f p.g0 p.g1 p.g2 = some b2) := ⟨(qgrid _ _ _).trans (congrArg some hb2)⟩
  have E2 := Aside0.mk hkf
  have E3 : Aside0 (Gp.problem_cost.f p.w0 = some c0) := ⟨(qcostp p.w0).trans (congrArg some hc0)⟩
  have E4 : Aside0 (Gp.problem_cost.f p.w1 = some c1) := ⟨(qcostp p.w1).trans (congrArg some hc1)⟩
  have E5 : Aside0 (Gp.problem_cost.f p.w2 = some c2) := ⟨(qcostp p.w2).trans (congrArg some hc2)⟩
  have E6 : Aside0 (Gp.problem_cost.f p.w3 = some c3) := ⟨(qcostp p.w3).trans (congrArg some hc3)⟩
  have Fr1 := Aside0.mk hr1
  have Fr2 := Aside0.mk hr2
  have Fr3 := Aside0.mk hr3
  have Fr4 := Aside0.mk hr4
  have Fr5 := Aside0.mk hr5
  have Fr6 := Aside0.mk hr6
  clear hkf hb1 hb2 hr1 hb3 hr2 hr3 hr4 hr5 hr6 hc0 hc1 hc2 hc3
  clear hsh hr hg
  have hu40 := Tryz.underlying34
  have hu29 := Tryz.underlying23
  have hu38 := Tryz.underlying32
  go_enter Tryz.func10, Tryz.ntmps10
  go_wp2_with (first
  | ((with_reducible refine gate_dst (N := 1) rfl ?_); refine box_event ?hg (N := 1) ?hd (cs := pcs p a) (t := 34) ?hr ?_; (case hd => rfl); (case hg => rfl); (case hr => first | (go_simp; done) | (go_simp; rfl)); intro g hg w2 hbox hB; have HP := Aside0.mk (PBox.mk hbox hB (show w.heap.size ≤ g by rw [hg]; exact Nat.le_refl _)); clear hbox hB hg; obtain ⟨hc0, hc1, hc2, hc3, hc4, hc5, hc6, hc7, hc8, hc9, hc10, hc11, hc12, hc13, hc14⟩ := pcx HP.out)
  | (go_at_call 34; refine (Gq.room_Name.calls p.nm _ _ E0.out).mono ?_; rintro e w3 ⟨rfl, hD⟩; have hB := hD.below; clear hD; have HQ := Aside0.mk (HP.out.below hB); clear HP hB hc0 hc1 hc2 hc3 hc4 hc5 hc6 hc7 hc8 hc9 hc10 hc11 hc12 hc13 hc14; have HP := HQ; clear HQ; obtain ⟨hc0, hc1, hc2, hc3, hc4, hc5, hc6, hc7, hc8, hc9, hc10, hc11, hc12, hc13, hc14⟩ := pcx HP.out)
  | (go_at_call 35; refine (Gq.when_RightGrid.calls p.g0 p.g1 p.g2 _ _ E1.out).mono ?_; rintro e w3 ⟨rfl, hB⟩; have HQ := Aside0.mk (HP.out.below hB); clear HP hB hc0 hc1 hc2 hc3 hc4 hc5 hc6 hc7 hc8 hc9 hc10 hc11 hc12 hc13 hc14; have HP := HQ; clear HQ; obtain ⟨hc0, hc1, hc2, hc3, hc4, hc5, hc6, hc7, hc8, hc9, hc10, hc11, hc12, hc13, hc14⟩ := pcx HP.out)
  | (go_at_call 40; refine (Gp.room_RightWalk.calls kf (p.rooms.length : Int) a.A5 a.c5 p.walk _ _ (HR.out.below HP.out.bel).r5 HR.out.l5 E2.out).mono ?_; rintro e w3 ⟨rfl, hD⟩; have hB := hD.below; clear hD; have HQ := Aside0.mk (HP.out.below hB); clear HP hB hc0 hc1 hc2 hc3 hc4 hc5 hc6 hc7 hc8 hc9 hc10 hc11 hc12 hc13 hc14; have HP := HQ; clear HQ; obtain ⟨hc0, hc1, hc2, hc3, hc4, hc5, hc6, hc7, hc8, hc9, hc10, hc11, hc12, hc13, hc14⟩ := pcx HP.out)
  | (go_at_call 36; refine (badRoom _ p a HSh.out a.A4 p.rooms.length a.c4 p.rooms rfl (HR.out.below HP.out.bel).r4 24 24 rfl (by omega) HG.out.room g HP.out.blk).mono ?_; rintro e w3 ⟨rfl, hB⟩; rw [Fr1.out]; have HQ := Aside0.mk (HP.out.below hB); clear HP hB hc0 hc1 hc2 hc3 hc4 hc5 hc6 hc7 hc8 hc9 hc10 hc11 hc12 hc13 hc14; have HP := HQ; clear HQ; obtain ⟨hc0, hc1, hc2, hc3, hc4, hc5, hc6, hc7, hc8, hc9, hc10, hc11, hc12, hc13, hc14⟩ := pcx HP.out)
  | (go_at_call 41; refine (badPerson _ p a HSh.out a.A6 p.persons.length a.c6 p.persons rfl (HR.out.below HP.out.bel).r6 24 24 rfl (by omega) HG.out.person g HP.out.blk).mono ?_; rintro e w3 ⟨rfl, hB⟩; rw [Fr2.out]; have HQ := Aside0.mk (HP.out.below hB); clear HP hB hc0 hc1 hc2 hc3 hc4 hc5 hc6 hc7 hc8 hc9 hc10 hc11 hc12 hc13 hc14; have HP := HQ; clear HQ; obtain ⟨hc0, hc1, hc2, hc3, hc4, hc5, hc6, hc7, hc8, hc9, hc10, hc11, hc12, hc13, hc14⟩ := pcx HP.out)
  | (go_at_call 45; refine (badClass _ p a HSh.out a.A7 p.classes.length a.c7 p.classes rfl (HR.out.below HP.out.bel).r7 40 40 rfl (by omega) HG.out.cls g HP.out.blk).mono ?_; rintro e w3 ⟨rfl, hB⟩; rw [Fr3.out]; have HQ := Aside0.mk (HP.out.below hB); clear HP hB hc0 hc1 hc2 hc3 hc4 hc5 hc6 hc7 hc8 hc9 hc10 hc11 hc12 hc13 hc14; have HP := HQ; clear HQ; obtain ⟨hc0, hc1, hc2, hc3, hc4, hc5, hc6, hc7, hc8, hc9, hc10, hc11, hc12, hc13, hc14⟩ := pcx HP.out)
  | (go_at_call 49; refine (badCourse _ p a HSh.out a.A8 p.courses.length a.c8 p.courses rfl (HR.out.below HP.out.bel).r8 16 16 rfl (by omega) (fun _ _ => trivial) g HP.out.blk).mono ?_; rintro e w3 ⟨rfl, hB⟩; rw [Fr4.out]; have HQ := Aside0.mk (HP.out.below hB); clear HP hB hc0 hc1 hc2 hc3 hc4 hc5 hc6 hc7 hc8 hc9 hc10 hc11 hc12 hc13 hc14; have HP := HQ; clear HQ; obtain ⟨hc0, hc1, hc2, hc3, hc4, hc5, hc6, hc7, hc8, hc9, hc10, hc11, hc12, hc13, hc14⟩ := pcx HP.out)
  | (go_at_call 53; refine (badStudent _ p a HSh.out a.A9 p.students.length a.c9 p.students rfl (HR.out.below HP.out.bel).r9 200 200 rfl (by omega) (fun _ _ => trivial) g HP.out.blk).mono ?_; rintro e w3 ⟨rfl, hB⟩; rw [Fr5.out]; have HQ := Aside0.mk (HP.out.below hB); clear HP hB hc0 hc1 hc2 hc3 hc4 hc5 hc6 hc7 hc8 hc9 hc10 hc11 hc12 hc13 hc14; have HP := HQ; clear HQ; obtain ⟨hc0, hc1, hc2, hc3, hc4, hc5, hc6, hc7, hc8, hc9, hc10, hc11, hc12, hc13, hc14⟩ := pcx HP.out)
  | (go_at_call 57; refine (badRule _ p a HSh.out a.A10 p.rules.length a.c10 p.rules rfl (HR.out.below HP.out.bel).r10 60 60 rfl (by omega) (fun _ _ => trivial) g HP.out.blk).mono ?_; rintro e w3 ⟨rfl, hB⟩; rw [Fr6.out]; have HQ := Aside0.mk (HP.out.below hB); clear HP hB hc0 hc1 hc2 hc3 hc4 hc5 hc6 hc7 hc8 hc9 hc10 hc11 hc12 hc13 hc14; have HP := HQ; clear HQ; obtain ⟨hc0, hc1, hc2, hc3, hc4, hc5, hc6, hc7, hc8, hc9, hc10, hc11, hc12, hc13, hc14⟩ := pcx HP.out)
  | (go_at_call 59; refine (Gp.problem_cost.calls p.w0 _ _ E3.out).mono ?_; rintro e w3 ⟨rfl, hD⟩; obtain ⟨m, rfl⟩ := hD.out; clear hD)
  | (go_at_call 59; refine (Gp.problem_cost.calls p.w1 _ _ E4.out).mono ?_; rintro e w3 ⟨rfl, hD⟩; obtain ⟨m, rfl⟩ := hD.out; clear hD)
  | (go_at_call 59; refine (Gp.problem_cost.calls p.w2 _ _ E5.out).mono ?_; rintro e w3 ⟨rfl, hD⟩; obtain ⟨m, rfl⟩ := hD.out; clear hD)
  | (go_at_call 59; refine (Gp.problem_cost.calls p.w3 _ _ E6.out).mono ?_; rintro e w3 ⟨rfl, hD⟩; obtain ⟨m, rfl⟩ := hD.out; clear hD))
  all_goals try (go_quiet (fail); go_wp2)
  all_goals
    refine bodyPost_ret (results_tmp2 rfl _ _ _) rfl ⟨?_, by repeat (first | exact HP.out.bel | apply pw_below_drewN | apply below_alloc)⟩
    unfold chkF
    try (first | rw [show (!b1) = true from ‹_›] | rw [show (!b1) = false from ‹_›])
    try (first | rw [show (!b2) = true from ‹_›] | rw [show (!b2) = false from ‹_›])
    try (first | rw [show r1.isSome = true from ‹_›] | rw [show r1.isSome = false from ‹_›])
    try (first | rw [show (!b3) = true from ‹_›] | rw [show (!b3) = false from ‹_›])
    try (first | rw [show r2.isSome = true from ‹_›] | rw [show r2.isSome = false from ‹_›])
    try (first | rw [show r3.isSome = true from ‹_›] | rw [show r3.isSome = false from ‹_›])
    try (first | rw [show r4.isSome = true from ‹_›] | rw [show r4.isSome = false from ‹_›])
    try (first | rw [show r5.isSome = true from ‹_›] | rw [show r5.isSome = false from ‹_›])
    try (first | rw [show r6.isSome = true from ‹_›] | rw [show r6.isSome = false from ‹_›])
    try (first | rw [show c0 = true from ‹_›] | rw [show c0 = false from Bool.eq_false_iff.2 ‹_›])
    try (first | rw [show c1 = true from ‹_›] | rw [show c1 = false from Bool.eq_false_iff.2 ‹_›])
    try (first | rw [show c2 = true from ‹_›] | rw [show c2 = false from Bool.eq_false_iff.2 ‹_›])
    try (first | rw [show c3 = false from notT ‹(!c3) = true›] | rw [show c3 = true from notF ‹(!c3) = false›])
    try rfl
end Go.Proofs.YtineikfhfmiidaaGreat.Pm
namespace Go.Proofs.YtineikfhfmiidaaGreat.Pm
open Go Go.RowKit Go.Proofs.YtineikfhfmiidaaGreat.Gp Go.Proofs.YtineikfhfmiidaaGreat.Mw Go.Proofs.YtineikfhfmiidaaGreatW.PrintWords Go.Proofs.YtineikfhfmiidaaGreatW.PrintLast Go.Proofs.YtineikfhfmiidaaGreatW.PrintMore
set_option linter.unusedVariables false
set_option linter.unusedSimpArgs false
theorem bytes_eq {a b : ByteArray} (h : a.toList = b.toList) : a = b := by
  have h2 : a.data.toList = b.data.toList := by
    rw [ByteArray.toList_eq, ByteArray.toList_eq] at h
    exact h
  obtain ⟨da⟩ := a
  obtain ⟨db⟩ := b
  congr 1
  exact Array.toList_inj.1 h2
/-- The document's number of the first bad place; -1: there is none. -/
def firstN : Option Nat → Int
  | none => -1
  | some i => (i : Int)
theorem more_all' {i : Nat} {q : Nat → Bool} (h : ∀ j, j < i → q j = false) (hi : q i = false) : ∀ j, j < i + 1 → q j = false := fun j hj => by
  by_cases e : j = i
  · rw [e]; exact hi
  · exact h j (by omega)
section
variable {α : Type} (t : α → Bool) (f : α → ByteArray) (most : Nat) (l : List α) (hl : l.length ≤ 1000)
theorem rdOf_map {β : Type} (z : β) (g : α → β) {i : Nat} {x : α} (hx : l[i]? = some x) : rdOf z (l.map g) (i : Int) = g x := by
  unfold rdOf
  rw [Int.toNat_natCast, List.getD_eq_getElem?_getD, List.getElem?_map, hx]
  rfl
include hl in
theorem first1_ev (i : Nat) (x : α) (hx : l[i]? = some x) (hb : ∀ j, j < i → badAt t f most l j = false) (h0 : ¬ i = most) (ht : t x = true)
    (hn : badAt t f most l i = false → Ev (fun k => Gp.horariumref17_first.l0 k (l.map f) (l.map t) (most : Int) ((i + 1 : Nat) : Int)) (firstN (badI t f most l))) : ∀ d j : Nat, d + j = i → (∀ (j' : Nat) y, j' < j → l[j']? = some y → f y ≠ f x) → Ev (fun k => Gp.horariumref17_first.l1 k (l.map f) (l.map t) (most : Int) (i : Int) (j : Int)) (firstN (badI t f most l)) := by
  have hil : i < l.length := (List.getElem?_eq_some_iff.1 hx).1
  have hlm : (l.map f).length = l.length := List.length_map ..
  intro d
  induction d with
  | zero =>
    intro j hj hne
    obtain rfl : j = i := by omega
    refine Ev.step (fun k => ?_) (hn (badAt_no hx h0 ht (fun h => ?_)))
    · simp only [Gp.horariumref17_first.l1]
      rw [if_neg (by omega), wr1 (by omega)]
    · obtain ⟨j', y, h1, h2, h3⟩ := mem_take.1 h
      exact hne j' y h1 h2 h3
  | succ d ih =>
    intro j hj hne
    obtain ⟨y, hy⟩ := get_some (l := l) (i := j) (by omega)
    by_cases he : f y = f x
    · rw [badI_some hil (badAt_mem hx (mem_take.2 ⟨j, y, by omega, hy, he⟩)) hb]
      refine Ev.step (f := fun _ => some (i : Int)) (fun k => ?_) (Ev.now _)
      simp only [Gp.horariumref17_first.l1]
      rw [if_pos (by omega), if_pos (by omega), if_pos (by omega), if_pos (by omega), if_pos (by omega), rdOf_map _ _ _ hy, rdOf_map _ _ _ hx, if_pos (by rw [he])]
    · refine Ev.step (fun k => ?_) (ih (j + 1) (by omega) (fun j' z h hz => ?_))
      · simp only [Gp.horariumref17_first.l1]
        rw [if_pos (by omega), if_pos (by omega), if_pos (by omega), if_pos (by omega), if_pos (by omega), rdOf_map _ _ _ hy, rdOf_map _ _ _ hx, if_neg (fun h => he (bytes_eq h)), wr1 (by omega)]
      · by_cases e : j' = j
        · subst e
          rw [hy] at hz
          cases hz
          exact he
        · exact hne j' z (by omega) hz
include hl in
theorem first0_ev : ∀ d i : Nat, d + i = l.length → (∀ j, j < i → badAt t f most l j = false) → Ev (fun k => Gp.horariumref17_first.l0 k (l.map f) (l.map t) (most : Int) (i : Int)) (firstN (badI t f most l)) := by
  have hlm : (l.map f).length = l.length := List.length_map ..
  have hlt : (l.map t).length = l.length := List.length_map ..
  intro d
  induction d with
  | zero =>
    intro i hi hb
    rw [badI_none (fun j h => hb j (by omega))]
    refine Ev.step (f := fun _ => some (-1)) (fun k => ?_) (Ev.now _)
    simp only [Gp.horariumref17_first.l0]
    rw [if_neg (by omega)]
  | succ d ih =>
    intro i hi hb
    obtain ⟨x, hx⟩ := get_some (l := l) (i := i) (by omega)
    have hj : ∀ k, Gp.horariumref17_first.j1 (k + 1) (l.map f) (l.map t) (most : Int) (i : Int) true = some (i : Int) := fun k => by
      simp only [Gp.horariumref17_first.j1]
      rfl
    by_cases h0 : i = most
    · rw [badI_some (by omega) (badAt_max hx h0) hb]
      refine Ev.step (f := fun k => Gp.horariumref17_first.j1 k (l.map f) (l.map t) (most : Int) (i : Int) true) (fun k => ?_) (Ev.step (f := fun _ => some (i : Int)) hj (Ev.now _))
      simp only [Gp.horariumref17_first.l0]
      rw [if_pos (by omega), if_pos (by omega)]
    have hs : ∀ k, Gp.horariumref17_first.l0 (k + 1) (l.map f) (l.map t) (most : Int) (i : Int) = Gp.horariumref17_first.j1 k (l.map f) (l.map t) (most : Int) (i : Int) (!t x) := fun k => by
      simp only [Gp.horariumref17_first.l0]
      rw [if_pos (by omega), if_neg (by omega), if_pos (by omega), if_pos (by omega), rdOf_map _ _ _ hx]
    refine Ev.step hs ?_
    cases ht : t x with
    | false =>
      rw [badI_some (by omega) (badAt_not hx ht) hb]
      exact Ev.step (f := fun _ => some (i : Int)) hj (Ev.now _)
    | true =>
      refine Ev.step (fun k => ?_) (first1_ev t f most l hl i x hx hb h0 ht (fun h => ih (i + 1) (by omega) (more_all' hb h)) i 0 (by omega) (fun j' y h => by omega))
      simp only [Gp.horariumref17_first.j1]
      rfl
include hl in
theorem rfirst : Ev (fun k => Gp.horariumref17_first.f k (l.map f) (l.map t) (most : Int)) (firstN (badI t f most l)) := first0_ev t f most l hl l.length 0 (by omega) (fun j h => by omega)
end
end Go.Proofs.YtineikfhfmiidaaGreat.Pm
