/- What the law rests on, part 3: words over the model, contracts of functions, plain facts. -/
import Derived.Test.YtineikfhfmiidaaGreatProg
import Derived.Below
import Derived.Deep.Draws
import Derived.Deep.AppendLies
import Derived.Maps.AppendAt
import Derived.OwnWalk
import Derived.Laws.BytesArg
import Derived.Laws.MakeOwn
import Derived.Laws.OwnMore
import Derived.Deep.OwnRows
import Derived.Tactics
import Derived.Lib.ConvBytes
import Derived.Laws.Slices
import Derived.WalkKit
import Derived.KernelRfl
import Derived.RowKit3
import Derived.Deep.LoopGhost
import Derived.Deep.QuietTactic
import Derived.BigQuiet
import Derived.WideLaws
import Derived.Deep.DeepCutAuto
import Derived.Deep.CutBlock
import Derived.Deep.RegionHeld3
import Derived.Laws.Rows
import Derived.Lib.AppendStr
import Derived.ArgAppend
import Derived.Laws.IdiomCopy
import Derived.OrdersHeld
import Derived.Laws.BitsLemmas
import Derived.RowKit
import Derived.Outline
import Derived.Lib.Hide
import Derived.WalkSpells
import Derived.Maps.OwnSet
import Derived.Maps.OwnOps
import Derived.Deep.Slices
import Derived.DeepKeys4
import Derived.Test.YtineikfhfmiidaaGreatQC2
namespace Go.Proofs.YtineikfhfmiidaaGreat.Gq
open Go.RowKit Go.Proofs.YtineikfhfmiidaaGreatW.PrintWords Go.Proofs.YtineikfhfmiidaaGreatW.PrintLast Go.Proofs.YtineikfhfmiidaaGreatW.PrintMore
set_option linter.unusedVariables false
set_option linter.unusedSimpArgs false
end Go.Proofs.YtineikfhfmiidaaGreat.Gq
namespace Go.Proofs.YtineikfhfmiidaaGreat.Gq
open Go.RowKit Go.Proofs.YtineikfhfmiidaaGreatW.PrintWords Go.Proofs.YtineikfhfmiidaaGreatW.PrintLast Go.Proofs.YtineikfhfmiidaaGreatW.PrintMore
set_option linter.unusedVariables false
set_option linter.unusedSimpArgs false
def when_within.f (a0 : Int) (a1 : Int) (a2 : Int) : Option (Bool) := if a1 ≤ a0 then (some (decide (a0 ≤ a2))) else (some false)
set_option maxHeartbeats 8000000 in
set_option maxRecDepth 100000 in
theorem when_within.calls (a0 : Int) (a1 : Int) (a2 : Int) (r : Bool) (w : World) (h : when_within.f a0 a1 a2 = some r) :
    Calls Tryz.prog 121 #[.int .i64 a0, .int .i64 a1, .int .i64 a2] w fun e w' => e = .returned (.bool r) ∧ Drawn0 w w' := by
  have H : (if a1 ≤ a0 then (some (decide (a0 ≤ a2))) else (some false)) = some r := h
  clear h
  by_cases c4 : a1 ≤ a0
  · rw [if_pos c4] at H
    have c4b0 : decide (a1 ≤ a0) = true := decide_eq_true c4
    clear c4
    obtain rfl := Option.some.inj H
    go_enter Tryz.func121, Tryz.ntmps121
    go_wp2
    go_ret
    exact ⟨by first | rfl | (simp; done) | (simp [*]; done), by repeat (first | exact Drawn0.refl _ | apply Drawn0.step)⟩
  · rw [if_neg c4] at H
    have c4b0 : decide (a1 ≤ a0) = false := decide_eq_false c4
    clear c4
    obtain rfl := Option.some.inj H
    go_enter Tryz.func121, Tryz.ntmps121
    go_wp2
    go_ret
    exact ⟨by first | rfl | (simp; done) | (simp [*]; done), by repeat (first | exact Drawn0.refl _ | apply Drawn0.step)⟩
end Go.Proofs.YtineikfhfmiidaaGreat.Gq
namespace Go.Proofs.YtineikfhfmiidaaGreat.Gq
open Go.RowKit Go.Proofs.YtineikfhfmiidaaGreatW.PrintWords Go.Proofs.YtineikfhfmiidaaGreatW.PrintLast Go.Proofs.YtineikfhfmiidaaGreatW.PrintMore
set_option linter.unusedVariables false
set_option linter.unusedSimpArgs false
def when_RightGrid.f (a0_0 : Int) (a0_1 : Int) (a0_2 : Int) : Option (Bool) := (when_within.f a0_0 1 20).bind fun t102 => (if t102 = true then ((when_within.f a0_1 1 7).bind fun t103 => (if t103 = true then ((when_within.f a0_2 1 96).bind fun t104 => (some t104)) else (some false))) else (some false))
set_option maxHeartbeats 8000000 in
set_option maxRecDepth 100000 in
theorem when_RightGrid.calls (a0_0 : Int) (a0_1 : Int) (a0_2 : Int) (r : Bool) (w : World) (h : when_RightGrid.f a0_0 a0_1 a0_2 = some r) :
    Calls Tryz.prog 35 #[.agg #[.int .i64 a0_0, .int .i64 a0_1, .int .i64 a0_2]] w fun e w' => e = .returned (.bool r) ∧ Below w.heap.size w w' := by
  have hu23 := Tryz.underlying23
  have HB := Aside0.mk (Below.refl w.heap.size w)
  have H : ((when_within.f a0_0 1 20).bind fun t102 => (if t102 = true then ((when_within.f a0_1 1 7).bind fun t103 => (if t103 = true then ((when_within.f a0_2 1 96).bind fun t104 => (some t104)) else (some false))) else (some false))) = some r := h
  clear h
  replace H := Option.bind_eq_some_iff.mp H
  obtain ⟨t102, A20, H⟩ := H
  replace H : (if t102 = true then ((when_within.f a0_1 1 7).bind fun t103 => (if t103 = true then ((when_within.f a0_2 1 96).bind fun t104 => (some t104)) else (some false))) else (some false)) = some r := H
  have A2 := Aside0.mk A20
  clear A20
  by_cases c3 : t102 = true
  · subst c3
    have H1 : ((when_within.f a0_1 1 7).bind fun t103 => (if t103 = true then ((when_within.f a0_2 1 96).bind fun t104 => (some t104)) else (some false))) = some r := by rw [if_pos rfl] at H; exact H
    clear H
    have H := H1
    clear H1
    replace H := Option.bind_eq_some_iff.mp H
    obtain ⟨t103, A40, H⟩ := H
    replace H : (if t103 = true then ((when_within.f a0_2 1 96).bind fun t104 => (some t104)) else (some false)) = some r := H
    have A4 := Aside0.mk A40
    clear A40
    by_cases c5 : t103 = true
    · subst c5
      have H1 : ((when_within.f a0_2 1 96).bind fun t104 => (some t104)) = some r := by rw [if_pos rfl] at H; exact H
      clear H
      have H := H1
      clear H1
      replace H := Option.bind_eq_some_iff.mp H
      obtain ⟨t104, A60, H⟩ := H
      replace H : (some t104) = some r := H
      have A6 := Aside0.mk A60
      clear A60
      obtain rfl := Option.some.inj H
      go_enter Tryz.func35, Tryz.ntmps35
      go_wp2_with (first | ((with_reducible refine gate_dst (N := 1) rfl ?_); refine box_event ?hg (N := 1) ?hd (cs := #[.int .i64 a0_0, .int .i64 a0_1, .int .i64 a0_2]) (t := 23) ?hr ?_; (case hd => rfl); (case hg => rfl); (case hr => first | (go_simp; done) | (go_simp; rfl)); intro gb101 hg w7 hbox hb; have n0_ := Aside0.mk (below_step (by repeat (first | (with_reducible first | exact HB.out | apply below_alloc | apply pw_below_drewN | apply below_drew1) | exact HB.out)) hb); have n1_ := Aside0.mk (hbox); have n2_ := Aside0.mk ((by rw [hg]; exact (below_size (by repeat (first | (with_reducible first | exact HB.out | apply below_alloc | apply pw_below_drewN | apply below_drew1) | exact HB.out))) : w.heap.size ≤ gb101)); have n3_ := Aside0.mk ((by rw [hg]; exact (below_size (by repeat (first | (with_reducible first | exact HB.out | apply below_alloc | apply pw_below_drewN | apply below_drew1) | exact HB.out))) : w.heap.size ≤ gb101)); clear HB; have HB := n0_; have BK101 := n1_; have GW101 := n2_; have GE101 := n3_; clear n0_ n1_ n2_ n3_; clear hb hbox hg; have hcz8_0 : w7.cell? ⟨gb101, 0, none⟩ = some (.int .i64 a0_0) := (blk_cell BK101.out 0).trans rfl; have hcz8_1 : w7.cell? ⟨gb101, 1, none⟩ = some (.int .i64 a0_1) := (blk_cell BK101.out 1).trans rfl; have hcz8_2 : w7.cell? ⟨gb101, 2, none⟩ = some (.int .i64 a0_2) := (blk_cell BK101.out 2).trans rfl; have hfz8_0 := blk_frozen BK101.out 0; have hfz8_1 := blk_frozen BK101.out 1; have hfz8_2 := blk_frozen BK101.out 2) | ((with_reducible refine gate_callee (f := 121) rfl ?_); refine goesL_ (some 5) rfl rfl Tryz.func121 (by kernel_rfl) rfl #[.int .i64 a0_0, .int .i64 1, .int .i64 20] rfl (by (try simp only [List.map_toArray, List.map_cons, List.map_nil]); first | done | rfl | (simp only [List.length_drop, List.length_take]; rfl)) ?_; (with_reducible refine (when_within.calls a0_0 1 20 true _ A2.out).mono ?_); rintro e w' ⟨rfl, ⟨nd, rfl⟩⟩; refine ⟨_, rfl, ?_⟩) | (go_at_call 121; (with_reducible refine (when_within.calls a0_1 1 7 true _ A4.out).mono ?_); rintro e w' ⟨rfl, ⟨nd, rfl⟩⟩) | (go_at_call 121; (with_reducible refine (when_within.calls a0_2 1 96 t104 _ A6.out).mono ?_); rintro e w' ⟨rfl, ⟨nd, rfl⟩⟩))
      go_ret
      exact ⟨by first | rfl | (simp [errW_none, errW_some] <;> rfl) | (simp [*, errW_none, errW_some] <;> rfl), by repeat (first | (with_reducible first | exact HB.out | apply below_alloc | apply pw_below_drewN | apply below_drew1 | refine below_set ?_ GE101.out) | exact HB.out)⟩
    · replace c5 := Bool.eq_false_iff.mpr c5
      subst c5
      have H1 : (some false) = some r := by rw [if_neg (show ¬ (false = true) by decide)] at H; exact H
      clear H
      have H := H1
      clear H1
      obtain rfl := Option.some.inj H
      go_enter Tryz.func35, Tryz.ntmps35
      go_wp2_with (first | ((with_reducible refine gate_dst (N := 1) rfl ?_); refine box_event ?hg (N := 1) ?hd (cs := #[.int .i64 a0_0, .int .i64 a0_1, .int .i64 a0_2]) (t := 23) ?hr ?_; (case hd => rfl); (case hg => rfl); (case hr => first | (go_simp; done) | (go_simp; rfl)); intro gb101 hg w9 hbox hb; have n0_ := Aside0.mk (below_step (by repeat (first | (with_reducible first | exact HB.out | apply below_alloc | apply pw_below_drewN | apply below_drew1) | exact HB.out)) hb); have n1_ := Aside0.mk (hbox); have n2_ := Aside0.mk ((by rw [hg]; exact (below_size (by repeat (first | (with_reducible first | exact HB.out | apply below_alloc | apply pw_below_drewN | apply below_drew1) | exact HB.out))) : w.heap.size ≤ gb101)); have n3_ := Aside0.mk ((by rw [hg]; exact (below_size (by repeat (first | (with_reducible first | exact HB.out | apply below_alloc | apply pw_below_drewN | apply below_drew1) | exact HB.out))) : w.heap.size ≤ gb101)); clear HB; have HB := n0_; have BK101 := n1_; have GW101 := n2_; have GE101 := n3_; clear n0_ n1_ n2_ n3_; clear hb hbox hg; have hcz10_0 : w9.cell? ⟨gb101, 0, none⟩ = some (.int .i64 a0_0) := (blk_cell BK101.out 0).trans rfl; have hcz10_1 : w9.cell? ⟨gb101, 1, none⟩ = some (.int .i64 a0_1) := (blk_cell BK101.out 1).trans rfl; have hcz10_2 : w9.cell? ⟨gb101, 2, none⟩ = some (.int .i64 a0_2) := (blk_cell BK101.out 2).trans rfl; have hfz10_0 := blk_frozen BK101.out 0; have hfz10_1 := blk_frozen BK101.out 1; have hfz10_2 := blk_frozen BK101.out 2) | ((with_reducible refine gate_callee (f := 121) rfl ?_); refine goesL_ (some 5) rfl rfl Tryz.func121 (by kernel_rfl) rfl #[.int .i64 a0_0, .int .i64 1, .int .i64 20] rfl (by (try simp only [List.map_toArray, List.map_cons, List.map_nil]); first | done | rfl | (simp only [List.length_drop, List.length_take]; rfl)) ?_; (with_reducible refine (when_within.calls a0_0 1 20 true _ A2.out).mono ?_); rintro e w' ⟨rfl, ⟨nd, rfl⟩⟩; refine ⟨_, rfl, ?_⟩) | (go_at_call 121; (with_reducible refine (when_within.calls a0_1 1 7 false _ A4.out).mono ?_); rintro e w' ⟨rfl, ⟨nd, rfl⟩⟩))
      go_ret
      exact ⟨by first | rfl | (simp [errW_none, errW_some] <;> rfl) | (simp [*, errW_none, errW_some] <;> rfl), by repeat (first | (with_reducible first | exact HB.out | apply below_alloc | apply pw_below_drewN | apply below_drew1 | refine below_set ?_ GE101.out) | exact HB.out)⟩
  · replace c3 := Bool.eq_false_iff.mpr c3
    subst c3
    have H1 : (some false) = some r := by rw [if_neg (show ¬ (false = true) by decide)] at H; exact H
    clear H
    have H := H1
    clear H1
    obtain rfl := Option.some.inj H
    go_enter Tryz.func35, Tryz.ntmps35
    go_wp2_with (first | ((with_reducible refine gate_dst (N := 1) rfl ?_); refine box_event ?hg (N := 1) ?hd (cs := #[.int .i64 a0_0, .int .i64 a0_1, .int .i64 a0_2]) (t := 23) ?hr ?_; (case hd => rfl); (case hg => rfl); (case hr => first | (go_simp; done) | (go_simp; rfl)); intro gb101 hg w11 hbox hb; have n0_ := Aside0.mk (below_step (by repeat (first | (with_reducible first | exact HB.out | apply below_alloc | apply pw_below_drewN | apply below_drew1) | exact HB.out)) hb); have n1_ := Aside0.mk (hbox); have n2_ := Aside0.mk ((by rw [hg]; exact (below_size (by repeat (first | (with_reducible first | exact HB.out | apply below_alloc | apply pw_below_drewN | apply below_drew1) | exact HB.out))) : w.heap.size ≤ gb101)); have n3_ := Aside0.mk ((by rw [hg]; exact (below_size (by repeat (first | (with_reducible first | exact HB.out | apply below_alloc | apply pw_below_drewN | apply below_drew1) | exact HB.out))) : w.heap.size ≤ gb101)); clear HB; have HB := n0_; have BK101 := n1_; have GW101 := n2_; have GE101 := n3_; clear n0_ n1_ n2_ n3_; clear hb hbox hg; have hcz12_0 : w11.cell? ⟨gb101, 0, none⟩ = some (.int .i64 a0_0) := (blk_cell BK101.out 0).trans rfl; have hcz12_1 : w11.cell? ⟨gb101, 1, none⟩ = some (.int .i64 a0_1) := (blk_cell BK101.out 1).trans rfl; have hcz12_2 : w11.cell? ⟨gb101, 2, none⟩ = some (.int .i64 a0_2) := (blk_cell BK101.out 2).trans rfl; have hfz12_0 := blk_frozen BK101.out 0; have hfz12_1 := blk_frozen BK101.out 1; have hfz12_2 := blk_frozen BK101.out 2) | ((with_reducible refine gate_callee (f := 121) rfl ?_); refine goesL_ (some 5) rfl rfl Tryz.func121 (by kernel_rfl) rfl #[.int .i64 a0_0, .int .i64 1, .int .i64 20] rfl (by (try simp only [List.map_toArray, List.map_cons, List.map_nil]); first | done | rfl | (simp only [List.length_drop, List.length_take]; rfl)) ?_; (with_reducible refine (when_within.calls a0_0 1 20 false _ A2.out).mono ?_); rintro e w' ⟨rfl, ⟨nd, rfl⟩⟩; refine ⟨_, rfl, ?_⟩))
    go_ret
    exact ⟨by first | rfl | (simp [errW_none, errW_some] <;> rfl) | (simp [*, errW_none, errW_some] <;> rfl), by repeat (first | (with_reducible first | exact HB.out | apply below_alloc | apply pw_below_drewN | apply below_drew1 | refine below_set ?_ GE101.out) | exact HB.out)⟩
end Go.Proofs.YtineikfhfmiidaaGreat.Gq
namespace Go.Proofs.YtineikfhfmiidaaGreat.Gq
open Go.RowKit Go.Proofs.YtineikfhfmiidaaGreatW.PrintWords Go.Proofs.YtineikfhfmiidaaGreatW.PrintLast Go.Proofs.YtineikfhfmiidaaGreatW.PrintMore
set_option linter.unusedVariables false
set_option linter.unusedSimpArgs false
def when_tame.f (a0_0 : Int) (a0_1 : Int) (a0_2 : Int) (a0_3 : Int) : Option (Bool) := (when_within.f a0_2 0 96).bind fun t106 => (if t106 = true then ((when_within.f a0_3 1 96).bind fun t107 => (some t107)) else (some false))
set_option maxHeartbeats 8000000 in
set_option maxRecDepth 100000 in
theorem when_tame.calls (a0_0 : Int) (a0_1 : Int) (a0_2 : Int) (a0_3 : Int) (r : Bool) (w : World) (h : when_tame.f a0_0 a0_1 a0_2 a0_3 = some r) :
    Calls Tryz.prog 160 #[.agg #[.int .u32 a0_0, .int .u8 a0_1, .int .i64 a0_2, .int .i64 a0_3]] w fun e w' => e = .returned (.bool r) ∧ Below w.heap.size w w' := by
  have hu50 := Tryz.underlying50
  have HB := Aside0.mk (Below.refl w.heap.size w)
  have H : ((when_within.f a0_2 0 96).bind fun t106 => (if t106 = true then ((when_within.f a0_3 1 96).bind fun t107 => (some t107)) else (some false))) = some r := h
  clear h
  replace H := Option.bind_eq_some_iff.mp H
  obtain ⟨t106, A20, H⟩ := H
  replace H : (if t106 = true then ((when_within.f a0_3 1 96).bind fun t107 => (some t107)) else (some false)) = some r := H
  have A2 := Aside0.mk A20
  clear A20
  by_cases c3 : t106 = true
  · subst c3
    have H1 : ((when_within.f a0_3 1 96).bind fun t107 => (some t107)) = some r := by rw [if_pos rfl] at H; exact H
    clear H
    have H := H1
    clear H1
    replace H := Option.bind_eq_some_iff.mp H
    obtain ⟨t107, A40, H⟩ := H
    replace H : (some t107) = some r := H
    have A4 := Aside0.mk A40
    clear A40
    obtain rfl := Option.some.inj H
    go_enter Tryz.func160, Tryz.ntmps160
    go_wp2_with (first | ((with_reducible refine gate_dst (N := 1) rfl ?_); refine box_event ?hg (N := 1) ?hd (cs := #[.int .u32 a0_0, .int .u8 a0_1, .int .i64 a0_2, .int .i64 a0_3]) (t := 50) ?hr ?_; (case hd => rfl); (case hg => rfl); (case hr => first | (go_simp; done) | (go_simp; rfl)); intro gb105 hg w5 hbox hb; have n0_ := Aside0.mk (below_step (by repeat (first | (with_reducible first | exact HB.out | apply below_alloc | apply pw_below_drewN | apply below_drew1) | exact HB.out)) hb); have n1_ := Aside0.mk (hbox); have n2_ := Aside0.mk ((by rw [hg]; exact (below_size (by repeat (first | (with_reducible first | exact HB.out | apply below_alloc | apply pw_below_drewN | apply below_drew1) | exact HB.out))) : w.heap.size ≤ gb105)); have n3_ := Aside0.mk ((by rw [hg]; exact (below_size (by repeat (first | (with_reducible first | exact HB.out | apply below_alloc | apply pw_below_drewN | apply below_drew1) | exact HB.out))) : w.heap.size ≤ gb105)); clear HB; have HB := n0_; have BK105 := n1_; have GW105 := n2_; have GE105 := n3_; clear n0_ n1_ n2_ n3_; clear hb hbox hg; have hcz6_0 : w5.cell? ⟨gb105, 0, none⟩ = some (.int .u32 a0_0) := (blk_cell BK105.out 0).trans rfl; have hcz6_1 : w5.cell? ⟨gb105, 1, none⟩ = some (.int .u8 a0_1) := (blk_cell BK105.out 1).trans rfl; have hcz6_2 : w5.cell? ⟨gb105, 2, none⟩ = some (.int .i64 a0_2) := (blk_cell BK105.out 2).trans rfl; have hcz6_3 : w5.cell? ⟨gb105, 3, none⟩ = some (.int .i64 a0_3) := (blk_cell BK105.out 3).trans rfl; have hfz6_0 := blk_frozen BK105.out 0; have hfz6_1 := blk_frozen BK105.out 1; have hfz6_2 := blk_frozen BK105.out 2; have hfz6_3 := blk_frozen BK105.out 3) | ((with_reducible refine gate_callee (f := 121) rfl ?_); refine goesL_ (some 5) rfl rfl Tryz.func121 (by kernel_rfl) rfl #[.int .i64 a0_2, .int .i64 0, .int .i64 96] rfl (by (try simp only [List.map_toArray, List.map_cons, List.map_nil]); first | done | rfl | (simp only [List.length_drop, List.length_take]; rfl)) ?_; (with_reducible refine (when_within.calls a0_2 0 96 true _ A2.out).mono ?_); rintro e w' ⟨rfl, ⟨nd, rfl⟩⟩; refine ⟨_, rfl, ?_⟩) | (go_at_call 121; (with_reducible refine (when_within.calls a0_3 1 96 t107 _ A4.out).mono ?_); rintro e w' ⟨rfl, ⟨nd, rfl⟩⟩))
    go_ret
    exact ⟨by first | rfl | (simp [errW_none, errW_some] <;> rfl) | (simp [*, errW_none, errW_some] <;> rfl), by repeat (first | (with_reducible first | exact HB.out | apply below_alloc | apply pw_below_drewN | apply below_drew1 | refine below_set ?_ GE105.out) | exact HB.out)⟩
  · replace c3 := Bool.eq_false_iff.mpr c3
    subst c3
    have H1 : (some false) = some r := by rw [if_neg (show ¬ (false = true) by decide)] at H; exact H
    clear H
    have H := H1
    clear H1
    obtain rfl := Option.some.inj H
    go_enter Tryz.func160, Tryz.ntmps160
    go_wp2_with (first | ((with_reducible refine gate_dst (N := 1) rfl ?_); refine box_event ?hg (N := 1) ?hd (cs := #[.int .u32 a0_0, .int .u8 a0_1, .int .i64 a0_2, .int .i64 a0_3]) (t := 50) ?hr ?_; (case hd => rfl); (case hg => rfl); (case hr => first | (go_simp; done) | (go_simp; rfl)); intro gb105 hg w7 hbox hb; have n0_ := Aside0.mk (below_step (by repeat (first | (with_reducible first | exact HB.out | apply below_alloc | apply pw_below_drewN | apply below_drew1) | exact HB.out)) hb); have n1_ := Aside0.mk (hbox); have n2_ := Aside0.mk ((by rw [hg]; exact (below_size (by repeat (first | (with_reducible first | exact HB.out | apply below_alloc | apply pw_below_drewN | apply below_drew1) | exact HB.out))) : w.heap.size ≤ gb105)); have n3_ := Aside0.mk ((by rw [hg]; exact (below_size (by repeat (first | (with_reducible first | exact HB.out | apply below_alloc | apply pw_below_drewN | apply below_drew1) | exact HB.out))) : w.heap.size ≤ gb105)); clear HB; have HB := n0_; have BK105 := n1_; have GW105 := n2_; have GE105 := n3_; clear n0_ n1_ n2_ n3_; clear hb hbox hg; have hcz8_0 : w7.cell? ⟨gb105, 0, none⟩ = some (.int .u32 a0_0) := (blk_cell BK105.out 0).trans rfl; have hcz8_1 : w7.cell? ⟨gb105, 1, none⟩ = some (.int .u8 a0_1) := (blk_cell BK105.out 1).trans rfl; have hcz8_2 : w7.cell? ⟨gb105, 2, none⟩ = some (.int .i64 a0_2) := (blk_cell BK105.out 2).trans rfl; have hcz8_3 : w7.cell? ⟨gb105, 3, none⟩ = some (.int .i64 a0_3) := (blk_cell BK105.out 3).trans rfl; have hfz8_0 := blk_frozen BK105.out 0; have hfz8_1 := blk_frozen BK105.out 1; have hfz8_2 := blk_frozen BK105.out 2; have hfz8_3 := blk_frozen BK105.out 3) | ((with_reducible refine gate_callee (f := 121) rfl ?_); refine goesL_ (some 5) rfl rfl Tryz.func121 (by kernel_rfl) rfl #[.int .i64 a0_2, .int .i64 0, .int .i64 96] rfl (by (try simp only [List.map_toArray, List.map_cons, List.map_nil]); first | done | rfl | (simp only [List.length_drop, List.length_take]; rfl)) ?_; (with_reducible refine (when_within.calls a0_2 0 96 false _ A2.out).mono ?_); rintro e w' ⟨rfl, ⟨nd, rfl⟩⟩; refine ⟨_, rfl, ?_⟩))
    go_ret
    exact ⟨by first | rfl | (simp [errW_none, errW_some] <;> rfl) | (simp [*, errW_none, errW_some] <;> rfl), by repeat (first | (with_reducible first | exact HB.out | apply below_alloc | apply pw_below_drewN | apply below_drew1 | refine below_set ?_ GE105.out) | exact HB.out)⟩
end Go.Proofs.YtineikfhfmiidaaGreat.Gq
namespace Go.Proofs.YtineikfhfmiidaaGreat.Gq
open Go.RowKit Go.Proofs.YtineikfhfmiidaaGreatW.PrintWords Go.Proofs.YtineikfhfmiidaaGreatW.PrintLast Go.Proofs.YtineikfhfmiidaaGreatW.PrintMore
set_option linter.unusedVariables false
set_option linter.unusedSimpArgs false
def when_Right.f (a0_0 : Int) (a0_1 : Int) (a0_2 : Int) (a1_0 : Int) (a1_1 : Int) (a1_2 : Int) (a1_3 : Int) : Option (Bool) := (when_RightGrid.f a0_0 a0_1 a0_2).bind fun t110 => (if t110 = true then ((when_tame.f a1_0 a1_1 a1_2 a1_3).bind fun t111 => (if t111 = true then (if (wrap64 (a1_2 + a1_3)) > a0_2 then (some false) else (if a1_0 = 0 then (some false) else (if 0 ≤ a0_0 then (if (shr .u32 a1_0 a0_0) = 0 then (if a1_1 = 0 then (some false) else (if 0 ≤ a0_1 then (some ((shr .i64 (wrap64 (a1_1)) a0_1) == 0)) else (none))) else (some false)) else (none)))) else (some false))) else (some false))
set_option maxHeartbeats 8000000 in
set_option maxRecDepth 100000 in
theorem when_Right.calls (a0_0 : Int) (a0_1 : Int) (a0_2 : Int) (a1_0 : Int) (a1_1 : Int) (a1_2 : Int) (a1_3 : Int) (r : Bool) (w : World) (h : when_Right.f a0_0 a0_1 a0_2 a1_0 a1_1 a1_2 a1_3 = some r) :
    Calls Tryz.prog 123 #[.agg #[.int .i64 a0_0, .int .i64 a0_1, .int .i64 a0_2], .agg #[.int .u32 a1_0, .int .u8 a1_1, .int .i64 a1_2, .int .i64 a1_3]] w fun e w' => e = .returned (.bool r) ∧ Below w.heap.size w w' := by
  have hu23 := Tryz.underlying23
  have hu50 := Tryz.underlying50
  have HB := Aside0.mk (Below.refl w.heap.size w)
  have H : ((when_RightGrid.f a0_0 a0_1 a0_2).bind fun t110 => (if t110 = true then ((when_tame.f a1_0 a1_1 a1_2 a1_3).bind fun t111 => (if t111 = true then (if (wrap64 (a1_2 + a1_3)) > a0_2 then (some false) else (if a1_0 = 0 then (some false) else (if 0 ≤ a0_0 then (if (shr .u32 a1_0 a0_0) = 0 then (if a1_1 = 0 then (some false) else (if 0 ≤ a0_1 then (some ((shr .i64 (wrap64 (a1_1)) a0_1) == 0)) else (none))) else (some false)) else (none)))) else (some false))) else (some false))) = some r := h
  clear h
  replace H := Option.bind_eq_some_iff.mp H
  obtain ⟨t110, A30, H⟩ := H
  replace H : (if t110 = true then ((when_tame.f a1_0 a1_1 a1_2 a1_3).bind fun t111 => (if t111 = true then (if (wrap64 (a1_2 + a1_3)) > a0_2 then (some false) else (if a1_0 = 0 then (some false) else (if 0 ≤ a0_0 then (if (shr .u32 a1_0 a0_0) = 0 then (if a1_1 = 0 then (some false) else (if 0 ≤ a0_1 then (some ((shr .i64 (wrap64 (a1_1)) a0_1) == 0)) else (none))) else (some false)) else (none)))) else (some false))) else (some false)) = some r := H
  have A3 := Aside0.mk A30
  clear A30
  by_cases c4 : t110 = true
  · subst c4
    have H1 : ((when_tame.f a1_0 a1_1 a1_2 a1_3).bind fun t111 => (if t111 = true then (if (wrap64 (a1_2 + a1_3)) > a0_2 then (some false) else (if a1_0 = 0 then (some false) else (if 0 ≤ a0_0 then (if (shr .u32 a1_0 a0_0) = 0 then (if a1_1 = 0 then (some false) else (if 0 ≤ a0_1 then (some ((shr .i64 (wrap64 (a1_1)) a0_1) == 0)) else (none))) else (some false)) else (none)))) else (some false))) = some r := by rw [if_pos rfl] at H; exact H
    clear H
    have H := H1
    clear H1
    replace H := Option.bind_eq_some_iff.mp H
    obtain ⟨t111, A50, H⟩ := H
    replace H : (if t111 = true then (if (wrap64 (a1_2 + a1_3)) > a0_2 then (some false) else (if a1_0 = 0 then (some false) else (if 0 ≤ a0_0 then (if (shr .u32 a1_0 a0_0) = 0 then (if a1_1 = 0 then (some false) else (if 0 ≤ a0_1 then (some ((shr .i64 (wrap64 (a1_1)) a0_1) == 0)) else (none))) else (some false)) else (none)))) else (some false)) = some r := H
    have A5 := Aside0.mk A50
    clear A50
    by_cases c6 : t111 = true
    · subst c6
      have H1 : (if (wrap64 (a1_2 + a1_3)) > a0_2 then (some false) else (if a1_0 = 0 then (some false) else (if 0 ≤ a0_0 then (if (shr .u32 a1_0 a0_0) = 0 then (if a1_1 = 0 then (some false) else (if 0 ≤ a0_1 then (some ((shr .i64 (wrap64 (a1_1)) a0_1) == 0)) else (none))) else (some false)) else (none)))) = some r := by rw [if_pos rfl] at H; exact H
      clear H
      have H := H1
      clear H1
      by_cases c7 : (wrap64 (a1_2 + a1_3)) > a0_2
      · rw [if_pos c7] at H
        have c7b0 : decide (a0_2 < (wrap64 (a1_2 + a1_3))) = true := decide_eq_true c7
        clear c7
        obtain rfl := Option.some.inj H
        go_enter Tryz.func123, Tryz.ntmps123
        go_wp2_with (first | ((with_reducible refine gate_dst (N := 2) rfl ?_); refine box_event ?hg (N := 2) ?hd (cs := #[.int .i64 a0_0, .int .i64 a0_1, .int .i64 a0_2]) (t := 23) ?hr ?_; (case hd => rfl); (case hg => rfl); (case hr => first | (go_simp; done) | (go_simp; rfl)); intro gb108 hg w8 hbox hb; have n0_ := Aside0.mk (below_step (by repeat (first | (with_reducible first | exact HB.out | apply below_alloc | apply pw_below_drewN | apply below_drew1) | exact HB.out)) hb); have n1_ := Aside0.mk (hbox); have n2_ := Aside0.mk ((by rw [hg]; exact (below_size (by repeat (first | (with_reducible first | exact HB.out | apply below_alloc | apply pw_below_drewN | apply below_drew1) | exact HB.out))) : w.heap.size ≤ gb108)); have n3_ := Aside0.mk ((by rw [hg]; exact (below_size (by repeat (first | (with_reducible first | exact HB.out | apply below_alloc | apply pw_below_drewN | apply below_drew1) | exact HB.out))) : w.heap.size ≤ gb108)); clear HB; have HB := n0_; have BK108 := n1_; have GW108 := n2_; have GE108 := n3_; clear n0_ n1_ n2_ n3_; clear hb hbox hg) | ((with_reducible refine gate_dst (N := 3) rfl ?_); refine box_event ?hg (N := 3) ?hd (cs := #[.int .u32 a1_0, .int .u8 a1_1, .int .i64 a1_2, .int .i64 a1_3]) (t := 50) ?hr ?_; (case hd => rfl); (case hg => rfl); (case hr => first | (go_simp; done) | (go_simp; rfl)); intro gb109 hg w9 hbox hb; have n0_ := Aside0.mk (blk_below (g := gb108) (o := .cells #[.int .i64 a0_0, .int .i64 a0_1, .int .i64 a0_2] 23 (0, 0)) (by (with_reducible repeat (first | refine blk_drewN ?_ _ | refine blk_drew ?_ | refine blk_alloc ?_ _)); exact BK108.out) hb); have n1_ := Aside0.mk (below_step (by repeat (first | (with_reducible first | exact HB.out | apply below_alloc | apply pw_below_drewN | apply below_drew1 | refine below_set ?_ GE108.out) | exact HB.out)) hb); have n2_ := Aside0.mk (hbox); have n3_ := Aside0.mk ((by rw [hg]; exact (below_size (by repeat (first | (with_reducible first | exact HB.out | apply below_alloc | apply pw_below_drewN | apply below_drew1 | refine below_set ?_ GE108.out) | exact HB.out))) : w.heap.size ≤ gb109)); have n4_ := Aside0.mk ((by rw [hg]; exact (below_size (by repeat (first | (with_reducible first | exact HB.out | apply below_alloc | apply pw_below_drewN | apply below_drew1 | refine below_set ?_ GE108.out) | exact HB.out))) : w.heap.size ≤ gb109)); have n5_ := Aside0.mk ((by rw [hg]; exact Nat.ne_of_lt (blk_lt (g := gb108) (o := .cells #[.int .i64 a0_0, .int .i64 a0_1, .int .i64 a0_2] 23 (0, 0)) (by (with_reducible repeat (first | refine blk_drewN ?_ _ | refine blk_drew ?_ | refine blk_alloc ?_ _)); exact BK108.out)) : gb108 ≠ gb109)); have n6_ := Aside0.mk ((by rw [hg]; exact Nat.ne_of_gt (blk_lt (g := gb108) (o := .cells #[.int .i64 a0_0, .int .i64 a0_1, .int .i64 a0_2] 23 (0, 0)) (by (with_reducible repeat (first | refine blk_drewN ?_ _ | refine blk_drew ?_ | refine blk_alloc ?_ _)); exact BK108.out)) : gb109 ≠ gb108)); clear BK108; clear HB; have BK108 := n0_; have HB := n1_; have BK109 := n2_; have GW109 := n3_; have GE109 := n4_; have NB108_109 := n5_; have NB109_108 := n6_; clear n0_ n1_ n2_ n3_ n4_ n5_ n6_; clear hb hbox hg; have hnb10 := NB108_109.out; have hnc10 := NB109_108.out; have hcz11_0 : w9.cell? ⟨gb108, 0, none⟩ = some (.int .i64 a0_0) := (blk_cell BK108.out 0).trans rfl; have hcz11_1 : w9.cell? ⟨gb108, 1, none⟩ = some (.int .i64 a0_1) := (blk_cell BK108.out 1).trans rfl; have hcz11_2 : w9.cell? ⟨gb108, 2, none⟩ = some (.int .i64 a0_2) := (blk_cell BK108.out 2).trans rfl; have hfz11_0 := blk_frozen BK108.out 0; have hfz11_1 := blk_frozen BK108.out 1; have hfz11_2 := blk_frozen BK108.out 2) | ((with_reducible refine gate_callee (f := 35) rfl ?_); refine goesL_ (some 6) rfl rfl Tryz.func35 (by kernel_rfl) rfl #[.agg #[.int .i64 a0_0, .int .i64 a0_1, .int .i64 a0_2]] rfl (by (try simp only [List.map_toArray, List.map_cons, List.map_nil]); first | done | rfl | (simp only [List.length_drop, List.length_take]; rfl)) ?_; (with_reducible refine (when_RightGrid.calls a0_0 a0_1 a0_2 true _ A3.out).mono ?_); rintro e w12 ⟨rfl, hb⟩; refine ⟨_, rfl, ?_⟩; have n0_ := Aside0.mk (blk_below (g := gb108) (o := .cells #[.int .i64 a0_0, .int .i64 a0_1, .int .i64 a0_2] 23 (0, 0)) (by (with_reducible repeat (first | refine blk_drewN ?_ _ | refine blk_drew ?_ | refine blk_alloc ?_ _)); exact BK108.out) hb); have n1_ := Aside0.mk (blk_below (g := gb109) (o := .cells #[.int .u32 a1_0, .int .u8 a1_1, .int .i64 a1_2, .int .i64 a1_3] 50 (0, 0)) (by (with_reducible repeat (first | refine blk_drewN ?_ _ | refine blk_drew ?_ | refine blk_alloc ?_ _)); exact BK109.out) hb); have n2_ := Aside0.mk (below_step (by repeat (first | (with_reducible first | exact HB.out | apply below_alloc | apply pw_below_drewN | apply below_drew1 | refine below_set ?_ GE108.out | refine below_set ?_ GE109.out) | exact HB.out)) hb); clear BK108; clear BK109; clear HB; have BK108 := n0_; have BK109 := n1_; have HB := n2_; clear n0_ n1_ n2_; (try clear hb); (try clear hb2); (try clear hk); (try clear hi); have hcz13_0 : w12.cell? ⟨gb109, 0, none⟩ = some (.int .u32 a1_0) := (blk_cell BK109.out 0).trans rfl; have hcz13_1 : w12.cell? ⟨gb109, 1, none⟩ = some (.int .u8 a1_1) := (blk_cell BK109.out 1).trans rfl; have hcz13_2 : w12.cell? ⟨gb109, 2, none⟩ = some (.int .i64 a1_2) := (blk_cell BK109.out 2).trans rfl; have hcz13_3 : w12.cell? ⟨gb109, 3, none⟩ = some (.int .i64 a1_3) := (blk_cell BK109.out 3).trans rfl; have hfz13_0 := blk_frozen BK109.out 0; have hfz13_1 := blk_frozen BK109.out 1; have hfz13_2 := blk_frozen BK109.out 2; have hfz13_3 := blk_frozen BK109.out 3) | (go_at_call 160; (with_reducible refine (when_tame.calls a1_0 a1_1 a1_2 a1_3 true _ A5.out).mono ?_); rintro e w14 ⟨rfl, hb⟩; have n0_ := Aside0.mk (blk_below (g := gb108) (o := .cells #[.int .i64 a0_0, .int .i64 a0_1, .int .i64 a0_2] 23 (0, 0)) (by (with_reducible repeat (first | refine blk_drewN ?_ _ | refine blk_drew ?_ | refine blk_alloc ?_ _)); exact BK108.out) hb); have n1_ := Aside0.mk (blk_below (g := gb109) (o := .cells #[.int .u32 a1_0, .int .u8 a1_1, .int .i64 a1_2, .int .i64 a1_3] 50 (0, 0)) (by (with_reducible repeat (first | refine blk_drewN ?_ _ | refine blk_drew ?_ | refine blk_alloc ?_ _)); exact BK109.out) hb); have n2_ := Aside0.mk (below_step (by repeat (first | (with_reducible first | exact HB.out | apply below_alloc | apply pw_below_drewN | apply below_drew1 | refine below_set ?_ GE108.out | refine below_set ?_ GE109.out) | exact HB.out)) hb); clear BK108; clear BK109; clear HB; have BK108 := n0_; have BK109 := n1_; have HB := n2_; clear n0_ n1_ n2_; (try clear hb); (try clear hb2); (try clear hk); (try clear hi); have hcz15_0 : w14.cell? ⟨gb109, 0, none⟩ = some (.int .u32 a1_0) := (blk_cell BK109.out 0).trans rfl; have hcz15_1 : w14.cell? ⟨gb109, 1, none⟩ = some (.int .u8 a1_1) := (blk_cell BK109.out 1).trans rfl; have hcz15_2 : w14.cell? ⟨gb109, 2, none⟩ = some (.int .i64 a1_2) := (blk_cell BK109.out 2).trans rfl; have hcz15_3 : w14.cell? ⟨gb109, 3, none⟩ = some (.int .i64 a1_3) := (blk_cell BK109.out 3).trans rfl; have hfz15_0 := blk_frozen BK109.out 0; have hfz15_1 := blk_frozen BK109.out 1; have hfz15_2 := blk_frozen BK109.out 2; have hfz15_3 := blk_frozen BK109.out 3; have hcz16_0 : w14.cell? ⟨gb108, 0, none⟩ = some (.int .i64 a0_0) := (blk_cell BK108.out 0).trans rfl; have hcz16_1 : w14.cell? ⟨gb108, 1, none⟩ = some (.int .i64 a0_1) := (blk_cell BK108.out 1).trans rfl; have hcz16_2 : w14.cell? ⟨gb108, 2, none⟩ = some (.int .i64 a0_2) := (blk_cell BK108.out 2).trans rfl; have hfz16_0 := blk_frozen BK108.out 0; have hfz16_1 := blk_frozen BK108.out 1; have hfz16_2 := blk_frozen BK108.out 2))
        go_ret
        exact ⟨by first | rfl | (simp [errW_none, errW_some] <;> rfl) | (simp [*, errW_none, errW_some] <;> rfl), by repeat (first | (with_reducible first | exact HB.out | apply below_alloc | apply pw_below_drewN | apply below_drew1 | refine below_set ?_ GE108.out | refine below_set ?_ GE109.out) | exact HB.out)⟩
      · rw [if_neg c7] at H
        have c7b0 : decide (a0_2 < (wrap64 (a1_2 + a1_3))) = false := decide_eq_false c7
        clear c7
        by_cases c17 : a1_0 = 0
        · rw [if_pos c17] at H
          have c17b0 : (a1_0 == 0) = true := beq_iff_eq.mpr c17
          have c17b1 : (a1_0 != 0) = false := bne_eq_false_iff_eq.mpr c17
          clear c17
          obtain rfl := Option.some.inj H
          go_enter Tryz.func123, Tryz.ntmps123
          go_wp2_with (first | ((with_reducible refine gate_dst (N := 2) rfl ?_); refine box_event ?hg (N := 2) ?hd (cs := #[.int .i64 a0_0, .int .i64 a0_1, .int .i64 a0_2]) (t := 23) ?hr ?_; (case hd => rfl); (case hg => rfl); (case hr => first | (go_simp; done) | (go_simp; rfl)); intro gb108 hg w18 hbox hb; have n0_ := Aside0.mk (below_step (by repeat (first | (with_reducible first | exact HB.out | apply below_alloc | apply pw_below_drewN | apply below_drew1) | exact HB.out)) hb); have n1_ := Aside0.mk (hbox); have n2_ := Aside0.mk ((by rw [hg]; exact (below_size (by repeat (first | (with_reducible first | exact HB.out | apply below_alloc | apply pw_below_drewN | apply below_drew1) | exact HB.out))) : w.heap.size ≤ gb108)); have n3_ := Aside0.mk ((by rw [hg]; exact (below_size (by repeat (first | (with_reducible first | exact HB.out | apply below_alloc | apply pw_below_drewN | apply below_drew1) | exact HB.out))) : w.heap.size ≤ gb108)); clear HB; have HB := n0_; have BK108 := n1_; have GW108 := n2_; have GE108 := n3_; clear n0_ n1_ n2_ n3_; clear hb hbox hg) | ((with_reducible refine gate_dst (N := 3) rfl ?_); refine box_event ?hg (N := 3) ?hd (cs := #[.int .u32 a1_0, .int .u8 a1_1, .int .i64 a1_2, .int .i64 a1_3]) (t := 50) ?hr ?_; (case hd => rfl); (case hg => rfl); (case hr => first | (go_simp; done) | (go_simp; rfl)); intro gb109 hg w19 hbox hb; have n0_ := Aside0.mk (blk_below (g := gb108) (o := .cells #[.int .i64 a0_0, .int .i64 a0_1, .int .i64 a0_2] 23 (0, 0)) (by (with_reducible repeat (first | refine blk_drewN ?_ _ | refine blk_drew ?_ | refine blk_alloc ?_ _)); exact BK108.out) hb); have n1_ := Aside0.mk (below_step (by repeat (first | (with_reducible first | exact HB.out | apply below_alloc | apply pw_below_drewN | apply below_drew1 | refine below_set ?_ GE108.out) | exact HB.out)) hb); have n2_ := Aside0.mk (hbox); have n3_ := Aside0.mk ((by rw [hg]; exact (below_size (by repeat (first | (with_reducible first | exact HB.out | apply below_alloc | apply pw_below_drewN | apply below_drew1 | refine below_set ?_ GE108.out) | exact HB.out))) : w.heap.size ≤ gb109)); have n4_ := Aside0.mk ((by rw [hg]; exact (below_size (by repeat (first | (with_reducible first | exact HB.out | apply below_alloc | apply pw_below_drewN | apply below_drew1 | refine below_set ?_ GE108.out) | exact HB.out))) : w.heap.size ≤ gb109)); have n5_ := Aside0.mk ((by rw [hg]; exact Nat.ne_of_lt (blk_lt (g := gb108) (o := .cells #[.int .i64 a0_0, .int .i64 a0_1, .int .i64 a0_2] 23 (0, 0)) (by (with_reducible repeat (first | refine blk_drewN ?_ _ | refine blk_drew ?_ | refine blk_alloc ?_ _)); exact BK108.out)) : gb108 ≠ gb109)); have n6_ := Aside0.mk ((by rw [hg]; exact Nat.ne_of_gt (blk_lt (g := gb108) (o := .cells #[.int .i64 a0_0, .int .i64 a0_1, .int .i64 a0_2] 23 (0, 0)) (by (with_reducible repeat (first | refine blk_drewN ?_ _ | refine blk_drew ?_ | refine blk_alloc ?_ _)); exact BK108.out)) : gb109 ≠ gb108)); clear BK108; clear HB; have BK108 := n0_; have HB := n1_; have BK109 := n2_; have GW109 := n3_; have GE109 := n4_; have NB108_109 := n5_; have NB109_108 := n6_; clear n0_ n1_ n2_ n3_ n4_ n5_ n6_; clear hb hbox hg; have hnb20 := NB108_109.out; have hnc20 := NB109_108.out; have hcz21_0 : w19.cell? ⟨gb108, 0, none⟩ = some (.int .i64 a0_0) := (blk_cell BK108.out 0).trans rfl; have hcz21_1 : w19.cell? ⟨gb108, 1, none⟩ = some (.int .i64 a0_1) := (blk_cell BK108.out 1).trans rfl; have hcz21_2 : w19.cell? ⟨gb108, 2, none⟩ = some (.int .i64 a0_2) := (blk_cell BK108.out 2).trans rfl; have hfz21_0 := blk_frozen BK108.out 0; have hfz21_1 := blk_frozen BK108.out 1; have hfz21_2 := blk_frozen BK108.out 2) | ((with_reducible refine gate_callee (f := 35) rfl ?_); refine goesL_ (some 6) rfl rfl Tryz.func35 (by kernel_rfl) rfl #[.agg #[.int .i64 a0_0, .int .i64 a0_1, .int .i64 a0_2]] rfl (by (try simp only [List.map_toArray, List.map_cons, List.map_nil]); first | done | rfl | (simp only [List.length_drop, List.length_take]; rfl)) ?_; (with_reducible refine (when_RightGrid.calls a0_0 a0_1 a0_2 true _ A3.out).mono ?_); rintro e w22 ⟨rfl, hb⟩; refine ⟨_, rfl, ?_⟩; have n0_ := Aside0.mk (blk_below (g := gb108) (o := .cells #[.int .i64 a0_0, .int .i64 a0_1, .int .i64 a0_2] 23 (0, 0)) (by (with_reducible repeat (first | refine blk_drewN ?_ _ | refine blk_drew ?_ | refine blk_alloc ?_ _)); exact BK108.out) hb); have n1_ := Aside0.mk (blk_below (g := gb109) (o := .cells #[.int .u32 a1_0, .int .u8 a1_1, .int .i64 a1_2, .int .i64 a1_3] 50 (0, 0)) (by (with_reducible repeat (first | refine blk_drewN ?_ _ | refine blk_drew ?_ | refine blk_alloc ?_ _)); exact BK109.out) hb); have n2_ := Aside0.mk (below_step (by repeat (first | (with_reducible first | exact HB.out | apply below_alloc | apply pw_below_drewN | apply below_drew1 | refine below_set ?_ GE108.out | refine below_set ?_ GE109.out) | exact HB.out)) hb); clear BK108; clear BK109; clear HB; have BK108 := n0_; have BK109 := n1_; have HB := n2_; clear n0_ n1_ n2_; (try clear hb); (try clear hb2); (try clear hk); (try clear hi); have hcz23_0 : w22.cell? ⟨gb109, 0, none⟩ = some (.int .u32 a1_0) := (blk_cell BK109.out 0).trans rfl; have hcz23_1 : w22.cell? ⟨gb109, 1, none⟩ = some (.int .u8 a1_1) := (blk_cell BK109.out 1).trans rfl; have hcz23_2 : w22.cell? ⟨gb109, 2, none⟩ = some (.int .i64 a1_2) := (blk_cell BK109.out 2).trans rfl; have hcz23_3 : w22.cell? ⟨gb109, 3, none⟩ = some (.int .i64 a1_3) := (blk_cell BK109.out 3).trans rfl; have hfz23_0 := blk_frozen BK109.out 0; have hfz23_1 := blk_frozen BK109.out 1; have hfz23_2 := blk_frozen BK109.out 2; have hfz23_3 := blk_frozen BK109.out 3) | (go_at_call 160; (with_reducible refine (when_tame.calls a1_0 a1_1 a1_2 a1_3 true _ A5.out).mono ?_); rintro e w24 ⟨rfl, hb⟩; have n0_ := Aside0.mk (blk_below (g := gb108) (o := .cells #[.int .i64 a0_0, .int .i64 a0_1, .int .i64 a0_2] 23 (0, 0)) (by (with_reducible repeat (first | refine blk_drewN ?_ _ | refine blk_drew ?_ | refine blk_alloc ?_ _)); exact BK108.out) hb); have n1_ := Aside0.mk (blk_below (g := gb109) (o := .cells #[.int .u32 a1_0, .int .u8 a1_1, .int .i64 a1_2, .int .i64 a1_3] 50 (0, 0)) (by (with_reducible repeat (first | refine blk_drewN ?_ _ | refine blk_drew ?_ | refine blk_alloc ?_ _)); exact BK109.out) hb); have n2_ := Aside0.mk (below_step (by repeat (first | (with_reducible first | exact HB.out | apply below_alloc | apply pw_below_drewN | apply below_drew1 | refine below_set ?_ GE108.out | refine below_set ?_ GE109.out) | exact HB.out)) hb); clear BK108; clear BK109; clear HB; have BK108 := n0_; have BK109 := n1_; have HB := n2_; clear n0_ n1_ n2_; (try clear hb); (try clear hb2); (try clear hk); (try clear hi); have hcz25_0 : w24.cell? ⟨gb109, 0, none⟩ = some (.int .u32 a1_0) := (blk_cell BK109.out 0).trans rfl; have hcz25_1 : w24.cell? ⟨gb109, 1, none⟩ = some (.int .u8 a1_1) := (blk_cell BK109.out 1).trans rfl; have hcz25_2 : w24.cell? ⟨gb109, 2, none⟩ = some (.int .i64 a1_2) := (blk_cell BK109.out 2).trans rfl; have hcz25_3 : w24.cell? ⟨gb109, 3, none⟩ = some (.int .i64 a1_3) := (blk_cell BK109.out 3).trans rfl; have hfz25_0 := blk_frozen BK109.out 0; have hfz25_1 := blk_frozen BK109.out 1; have hfz25_2 := blk_frozen BK109.out 2; have hfz25_3 := blk_frozen BK109.out 3; have hcz26_0 : w24.cell? ⟨gb108, 0, none⟩ = some (.int .i64 a0_0) := (blk_cell BK108.out 0).trans rfl; have hcz26_1 : w24.cell? ⟨gb108, 1, none⟩ = some (.int .i64 a0_1) := (blk_cell BK108.out 1).trans rfl; have hcz26_2 : w24.cell? ⟨gb108, 2, none⟩ = some (.int .i64 a0_2) := (blk_cell BK108.out 2).trans rfl; have hfz26_0 := blk_frozen BK108.out 0; have hfz26_1 := blk_frozen BK108.out 1; have hfz26_2 := blk_frozen BK108.out 2))
          go_ret
          exact ⟨by first | rfl | (simp [errW_none, errW_some] <;> rfl) | (simp [*, errW_none, errW_some] <;> rfl), by repeat (first | (with_reducible first | exact HB.out | apply below_alloc | apply pw_below_drewN | apply below_drew1 | refine below_set ?_ GE108.out | refine below_set ?_ GE109.out) | exact HB.out)⟩
        · rw [if_neg c17] at H
          have c17b0 : (a1_0 == 0) = false := beq_eq_false_iff_ne.mpr c17
          have c17b1 : (a1_0 != 0) = true := bne_iff_ne.mpr c17
          by_cases c27 : 0 ≤ a0_0
          · rw [if_pos c27] at H
            have c27b0 := eq_true c27
            have c27b1 : decide (0 ≤ a0_0) = true := decide_eq_true c27
            clear c27
            obtain ⟨ji28, hji28⟩ : ∃ j_ : Int, (shr .u32 a1_0 a0_0) = j_ := ⟨_, rfl⟩
            replace H : (if (ji28) = 0 then (if a1_1 = 0 then (some false) else (if 0 ≤ a0_1 then (some ((shr .i64 (wrap64 (a1_1)) a0_1) == 0)) else (none))) else (some false)) = some r := by first | (rw [hji28] at H; exact H) | (simp only [hji28] at H ⊢; exact H)
            (try rw [hji28] at A3)
            (try rw [hji28] at A5)
            have hji28_ : (a1_0 / 2 ^ min a0_0.toNat 32) = ji28 := hji28
            have hji28z : a0_0 ≤ 32 → (a1_0 / 2 ^ a0_0.toNat) = ji28 := shr_small hji28
            by_cases c29 : (ji28) = 0
            · rw [if_pos c29] at H
              have c29b0 : ((ji28) == 0) = true := beq_iff_eq.mpr c29
              have c29b1 : ((ji28) != 0) = false := bne_eq_false_iff_eq.mpr c29
              clear c29
              by_cases c30 : a1_1 = 0
              · rw [if_pos c30] at H
                have c30b0 : (a1_1 == 0) = true := beq_iff_eq.mpr c30
                have c30b1 : (a1_1 != 0) = false := bne_eq_false_iff_eq.mpr c30
                clear c30
                obtain rfl := Option.some.inj H
                go_enter Tryz.func123, Tryz.ntmps123
                go_wp2_with (first | ((with_reducible refine gate_dst (N := 2) rfl ?_); refine box_event ?hg (N := 2) ?hd (cs := #[.int .i64 a0_0, .int .i64 a0_1, .int .i64 a0_2]) (t := 23) ?hr ?_; (case hd => rfl); (case hg => rfl); (case hr => first | (go_simp; done) | (go_simp; rfl)); intro gb108 hg w31 hbox hb; have n0_ := Aside0.mk (below_step (by repeat (first | (with_reducible first | exact HB.out | apply below_alloc | apply pw_below_drewN | apply below_drew1) | exact HB.out)) hb); have n1_ := Aside0.mk (hbox); have n2_ := Aside0.mk ((by rw [hg]; exact (below_size (by repeat (first | (with_reducible first | exact HB.out | apply below_alloc | apply pw_below_drewN | apply below_drew1) | exact HB.out))) : w.heap.size ≤ gb108)); have n3_ := Aside0.mk ((by rw [hg]; exact (below_size (by repeat (first | (with_reducible first | exact HB.out | apply below_alloc | apply pw_below_drewN | apply below_drew1) | exact HB.out))) : w.heap.size ≤ gb108)); clear HB; have HB := n0_; have BK108 := n1_; have GW108 := n2_; have GE108 := n3_; clear n0_ n1_ n2_ n3_; clear hb hbox hg) | ((with_reducible refine gate_dst (N := 3) rfl ?_); refine box_event ?hg (N := 3) ?hd (cs := #[.int .u32 a1_0, .int .u8 a1_1, .int .i64 a1_2, .int .i64 a1_3]) (t := 50) ?hr ?_; (case hd => rfl); (case hg => rfl); (case hr => first | (go_simp; done) | (go_simp; rfl)); intro gb109 hg w32 hbox hb; have n0_ := Aside0.mk (blk_below (g := gb108) (o := .cells #[.int .i64 a0_0, .int .i64 a0_1, .int .i64 a0_2] 23 (0, 0)) (by (with_reducible repeat (first | refine blk_drewN ?_ _ | refine blk_drew ?_ | refine blk_alloc ?_ _)); exact BK108.out) hb); have n1_ := Aside0.mk (below_step (by repeat (first | (with_reducible first | exact HB.out | apply below_alloc | apply pw_below_drewN | apply below_drew1 | refine below_set ?_ GE108.out) | exact HB.out)) hb); have n2_ := Aside0.mk (hbox); have n3_ := Aside0.mk ((by rw [hg]; exact (below_size (by repeat (first | (with_reducible first | exact HB.out | apply below_alloc | apply pw_below_drewN | apply below_drew1 | refine below_set ?_ GE108.out) | exact HB.out))) : w.heap.size ≤ gb109)); have n4_ := Aside0.mk ((by rw [hg]; exact (below_size (by repeat (first | (with_reducible first | exact HB.out | apply below_alloc | apply pw_below_drewN | apply below_drew1 | refine below_set ?_ GE108.out) | exact HB.out))) : w.heap.size ≤ gb109)); have n5_ := Aside0.mk ((by rw [hg]; exact Nat.ne_of_lt (blk_lt (g := gb108) (o := .cells #[.int .i64 a0_0, .int .i64 a0_1, .int .i64 a0_2] 23 (0, 0)) (by (with_reducible repeat (first | refine blk_drewN ?_ _ | refine blk_drew ?_ | refine blk_alloc ?_ _)); exact BK108.out)) : gb108 ≠ gb109)); have n6_ := Aside0.mk ((by rw [hg]; exact Nat.ne_of_gt (blk_lt (g := gb108) (o := .cells #[.int .i64 a0_0, .int .i64 a0_1, .int .i64 a0_2] 23 (0, 0)) (by (with_reducible repeat (first | refine blk_drewN ?_ _ | refine blk_drew ?_ | refine blk_alloc ?_ _)); exact BK108.out)) : gb109 ≠ gb108)); clear BK108; clear HB; have BK108 := n0_; have HB := n1_; have BK109 := n2_; have GW109 := n3_; have GE109 := n4_; have NB108_109 := n5_; have NB109_108 := n6_; clear n0_ n1_ n2_ n3_ n4_ n5_ n6_; clear hb hbox hg; have hnb33 := NB108_109.out; have hnc33 := NB109_108.out; have hcz34_0 : w32.cell? ⟨gb108, 0, none⟩ = some (.int .i64 a0_0) := (blk_cell BK108.out 0).trans rfl; have hcz34_1 : w32.cell? ⟨gb108, 1, none⟩ = some (.int .i64 a0_1) := (blk_cell BK108.out 1).trans rfl; have hcz34_2 : w32.cell? ⟨gb108, 2, none⟩ = some (.int .i64 a0_2) := (blk_cell BK108.out 2).trans rfl; have hfz34_0 := blk_frozen BK108.out 0; have hfz34_1 := blk_frozen BK108.out 1; have hfz34_2 := blk_frozen BK108.out 2) | ((with_reducible refine gate_callee (f := 35) rfl ?_); refine goesL_ (some 6) rfl rfl Tryz.func35 (by kernel_rfl) rfl #[.agg #[.int .i64 a0_0, .int .i64 a0_1, .int .i64 a0_2]] rfl (by (try simp only [List.map_toArray, List.map_cons, List.map_nil]); first | done | rfl | (simp only [List.length_drop, List.length_take]; rfl)) ?_; (with_reducible refine (when_RightGrid.calls a0_0 a0_1 a0_2 true _ A3.out).mono ?_); rintro e w35 ⟨rfl, hb⟩; refine ⟨_, rfl, ?_⟩; have n0_ := Aside0.mk (blk_below (g := gb108) (o := .cells #[.int .i64 a0_0, .int .i64 a0_1, .int .i64 a0_2] 23 (0, 0)) (by (with_reducible repeat (first | refine blk_drewN ?_ _ | refine blk_drew ?_ | refine blk_alloc ?_ _)); exact BK108.out) hb); have n1_ := Aside0.mk (blk_below (g := gb109) (o := .cells #[.int .u32 a1_0, .int .u8 a1_1, .int .i64 a1_2, .int .i64 a1_3] 50 (0, 0)) (by (with_reducible repeat (first | refine blk_drewN ?_ _ | refine blk_drew ?_ | refine blk_alloc ?_ _)); exact BK109.out) hb); have n2_ := Aside0.mk (below_step (by repeat (first | (with_reducible first | exact HB.out | apply below_alloc | apply pw_below_drewN | apply below_drew1 | refine below_set ?_ GE108.out | refine below_set ?_ GE109.out) | exact HB.out)) hb); clear BK108; clear BK109; clear HB; have BK108 := n0_; have BK109 := n1_; have HB := n2_; clear n0_ n1_ n2_; (try clear hb); (try clear hb2); (try clear hk); (try clear hi); have hcz36_0 : w35.cell? ⟨gb109, 0, none⟩ = some (.int .u32 a1_0) := (blk_cell BK109.out 0).trans rfl; have hcz36_1 : w35.cell? ⟨gb109, 1, none⟩ = some (.int .u8 a1_1) := (blk_cell BK109.out 1).trans rfl; have hcz36_2 : w35.cell? ⟨gb109, 2, none⟩ = some (.int .i64 a1_2) := (blk_cell BK109.out 2).trans rfl; have hcz36_3 : w35.cell? ⟨gb109, 3, none⟩ = some (.int .i64 a1_3) := (blk_cell BK109.out 3).trans rfl; have hfz36_0 := blk_frozen BK109.out 0; have hfz36_1 := blk_frozen BK109.out 1; have hfz36_2 := blk_frozen BK109.out 2; have hfz36_3 := blk_frozen BK109.out 3) | (go_at_call 160; (with_reducible refine (when_tame.calls a1_0 a1_1 a1_2 a1_3 true _ A5.out).mono ?_); rintro e w37 ⟨rfl, hb⟩; have n0_ := Aside0.mk (blk_below (g := gb108) (o := .cells #[.int .i64 a0_0, .int .i64 a0_1, .int .i64 a0_2] 23 (0, 0)) (by (with_reducible repeat (first | refine blk_drewN ?_ _ | refine blk_drew ?_ | refine blk_alloc ?_ _)); exact BK108.out) hb); have n1_ := Aside0.mk (blk_below (g := gb109) (o := .cells #[.int .u32 a1_0, .int .u8 a1_1, .int .i64 a1_2, .int .i64 a1_3] 50 (0, 0)) (by (with_reducible repeat (first | refine blk_drewN ?_ _ | refine blk_drew ?_ | refine blk_alloc ?_ _)); exact BK109.out) hb); have n2_ := Aside0.mk (below_step (by repeat (first | (with_reducible first | exact HB.out | apply below_alloc | apply pw_below_drewN | apply below_drew1 | refine below_set ?_ GE108.out | refine below_set ?_ GE109.out) | exact HB.out)) hb); clear BK108; clear BK109; clear HB; have BK108 := n0_; have BK109 := n1_; have HB := n2_; clear n0_ n1_ n2_; (try clear hb); (try clear hb2); (try clear hk); (try clear hi); have hcz38_0 : w37.cell? ⟨gb109, 0, none⟩ = some (.int .u32 a1_0) := (blk_cell BK109.out 0).trans rfl; have hcz38_1 : w37.cell? ⟨gb109, 1, none⟩ = some (.int .u8 a1_1) := (blk_cell BK109.out 1).trans rfl; have hcz38_2 : w37.cell? ⟨gb109, 2, none⟩ = some (.int .i64 a1_2) := (blk_cell BK109.out 2).trans rfl; have hcz38_3 : w37.cell? ⟨gb109, 3, none⟩ = some (.int .i64 a1_3) := (blk_cell BK109.out 3).trans rfl; have hfz38_0 := blk_frozen BK109.out 0; have hfz38_1 := blk_frozen BK109.out 1; have hfz38_2 := blk_frozen BK109.out 2; have hfz38_3 := blk_frozen BK109.out 3; have hcz39_0 : w37.cell? ⟨gb108, 0, none⟩ = some (.int .i64 a0_0) := (blk_cell BK108.out 0).trans rfl; have hcz39_1 : w37.cell? ⟨gb108, 1, none⟩ = some (.int .i64 a0_1) := (blk_cell BK108.out 1).trans rfl; have hcz39_2 : w37.cell? ⟨gb108, 2, none⟩ = some (.int .i64 a0_2) := (blk_cell BK108.out 2).trans rfl; have hfz39_0 := blk_frozen BK108.out 0; have hfz39_1 := blk_frozen BK108.out 1; have hfz39_2 := blk_frozen BK108.out 2))
                go_ret
                exact ⟨by first | rfl | (simp [errW_none, errW_some] <;> rfl) | (simp only [← hji28]; first | rfl | (simp [errW_none, errW_some] <;> rfl)) | (simp [*, errW_none, errW_some] <;> rfl), by repeat (first | (with_reducible first | exact HB.out | apply below_alloc | apply pw_below_drewN | apply below_drew1 | refine below_set ?_ GE108.out | refine below_set ?_ GE109.out) | exact HB.out)⟩
              · rw [if_neg c30] at H
                have c30b0 : (a1_1 == 0) = false := beq_eq_false_iff_ne.mpr c30
                have c30b1 : (a1_1 != 0) = true := bne_iff_ne.mpr c30
                by_cases c40 : 0 ≤ a0_1
                · rw [if_pos c40] at H
                  have c40b0 := eq_true c40
                  have c40b1 : decide (0 ≤ a0_1) = true := decide_eq_true c40
                  clear c40
                  obtain ⟨ji41, hji41⟩ : ∃ j_ : Int, (shr .i64 (wrap64 (a1_1)) a0_1) = j_ := ⟨_, rfl⟩
                  replace H : (some ((ji41) == 0)) = some r := by first | (rw [hji41] at H; exact H) | (simp only [hji41] at H ⊢; exact H)
                  (try rw [hji41] at A3)
                  (try rw [hji41] at A5)
                  have hji41_ : ((wrap64 (a1_1)) / 2 ^ min a0_1.toNat 64) = ji41 := hji41
                  have hji41z : a0_1 ≤ 64 → ((wrap64 (a1_1)) / 2 ^ a0_1.toNat) = ji41 := shr_small hji41
                  obtain rfl := Option.some.inj H
                  go_enter Tryz.func123, Tryz.ntmps123
                  go_wp2_with (first | ((with_reducible refine gate_dst (N := 2) rfl ?_); refine box_event ?hg (N := 2) ?hd (cs := #[.int .i64 a0_0, .int .i64 a0_1, .int .i64 a0_2]) (t := 23) ?hr ?_; (case hd => rfl); (case hg => rfl); (case hr => first | (go_simp; done) | (go_simp; rfl)); intro gb108 hg w42 hbox hb; have n0_ := Aside0.mk (below_step (by repeat (first | (with_reducible first | exact HB.out | apply below_alloc | apply pw_below_drewN | apply below_drew1) | exact HB.out)) hb); have n1_ := Aside0.mk (hbox); have n2_ := Aside0.mk ((by rw [hg]; exact (below_size (by repeat (first | (with_reducible first | exact HB.out | apply below_alloc | apply pw_below_drewN | apply below_drew1) | exact HB.out))) : w.heap.size ≤ gb108)); have n3_ := Aside0.mk ((by rw [hg]; exact (below_size (by repeat (first | (with_reducible first | exact HB.out | apply below_alloc | apply pw_below_drewN | apply below_drew1) | exact HB.out))) : w.heap.size ≤ gb108)); clear HB; have HB := n0_; have BK108 := n1_; have GW108 := n2_; have GE108 := n3_; clear n0_ n1_ n2_ n3_; clear hb hbox hg) | ((with_reducible refine gate_dst (N := 3) rfl ?_); refine box_event ?hg (N := 3) ?hd (cs := #[.int .u32 a1_0, .int .u8 a1_1, .int .i64 a1_2, .int .i64 a1_3]) (t := 50) ?hr ?_; (case hd => rfl); (case hg => rfl); (case hr => first | (go_simp; done) | (go_simp; rfl)); intro gb109 hg w43 hbox hb; have n0_ := Aside0.mk (blk_below (g := gb108) (o := .cells #[.int .i64 a0_0, .int .i64 a0_1, .int .i64 a0_2] 23 (0, 0)) (by (with_reducible repeat (first | refine blk_drewN ?_ _ | refine blk_drew ?_ | refine blk_alloc ?_ _)); exact BK108.out) hb); have n1_ := Aside0.mk (below_step (by repeat (first | (with_reducible first | exact HB.out | apply below_alloc | apply pw_below_drewN | apply below_drew1 | refine below_set ?_ GE108.out) | exact HB.out)) hb); have n2_ := Aside0.mk (hbox); have n3_ := Aside0.mk ((by rw [hg]; exact (below_size (by repeat (first | (with_reducible first | exact HB.out | apply below_alloc | apply pw_below_drewN | apply below_drew1 | refine below_set ?_ GE108.out) | exact HB.out))) : w.heap.size ≤ gb109)); have n4_ := Aside0.mk ((by rw [hg]; exact (below_size (by repeat (first | (with_reducible first | exact HB.out | apply below_alloc | apply pw_below_drewN | apply below_drew1 | refine below_set ?_ GE108.out) | exact HB.out))) : w.heap.size ≤ gb109)); have n5_ := Aside0.mk ((by rw [hg]; exact Nat.ne_of_lt (blk_lt (g := gb108) (o := .cells #[.int .i64 a0_0, .int .i64 a0_1, .int .i64 a0_2] 23 (0, 0)) (by (with_reducible repeat (first | refine blk_drewN ?_ _ | refine blk_drew ?_ | refine blk_alloc ?_ _)); exact BK108.out)) : gb108 ≠ gb109)); have n6_ := Aside0.mk ((by rw [hg]; exact Nat.ne_of_gt (blk_lt (g := gb108) (o := .cells #[.int .i64 a0_0, .int .i64 a0_1, .int .i64 a0_2] 23 (0, 0)) (by (with_reducible repeat (first | refine blk_drewN ?_ _ | refine blk_drew ?_ | refine blk_alloc ?_ _)); exact BK108.out)) : gb109 ≠ gb108)); clear BK108; clear HB; have BK108 := n0_; have HB := n1_; have BK109 := n2_; have GW109 := n3_; have GE109 := n4_; have NB108_109 := n5_; have NB109_108 := n6_; clear n0_ n1_ n2_ n3_ n4_ n5_ n6_; clear hb hbox hg; have hnb44 := NB108_109.out; have hnc44 := NB109_108.out; have hcz45_0 : w43.cell? ⟨gb108, 0, none⟩ = some (.int .i64 a0_0) := (blk_cell BK108.out 0).trans rfl; have hcz45_1 : w43.cell? ⟨gb108, 1, none⟩ = some (.int .i64 a0_1) := (blk_cell BK108.out 1).trans rfl; have hcz45_2 : w43.cell? ⟨gb108, 2, none⟩ = some (.int .i64 a0_2) := (blk_cell BK108.out 2).trans rfl; have hfz45_0 := blk_frozen BK108.out 0; have hfz45_1 := blk_frozen BK108.out 1; have hfz45_2 := blk_frozen BK108.out 2) | ((with_reducible refine gate_callee (f := 35) rfl ?_); refine goesL_ (some 6) rfl rfl Tryz.func35 (by kernel_rfl) rfl #[.agg #[.int .i64 a0_0, .int .i64 a0_1, .int .i64 a0_2]] rfl (by (try simp only [List.map_toArray, List.map_cons, List.map_nil]); first | done | rfl | (simp only [List.length_drop, List.length_take]; rfl)) ?_; (with_reducible refine (when_RightGrid.calls a0_0 a0_1 a0_2 true _ A3.out).mono ?_); rintro e w46 ⟨rfl, hb⟩; refine ⟨_, rfl, ?_⟩; have n0_ := Aside0.mk (blk_below (g := gb108) (o := .cells #[.int .i64 a0_0, .int .i64 a0_1, .int .i64 a0_2] 23 (0, 0)) (by (with_reducible repeat (first | refine blk_drewN ?_ _ | refine blk_drew ?_ | refine blk_alloc ?_ _)); exact BK108.out) hb); have n1_ := Aside0.mk (blk_below (g := gb109) (o := .cells #[.int .u32 a1_0, .int .u8 a1_1, .int .i64 a1_2, .int .i64 a1_3] 50 (0, 0)) (by (with_reducible repeat (first | refine blk_drewN ?_ _ | refine blk_drew ?_ | refine blk_alloc ?_ _)); exact BK109.out) hb); have n2_ := Aside0.mk (below_step (by repeat (first | (with_reducible first | exact HB.out | apply below_alloc | apply pw_below_drewN | apply below_drew1 | refine below_set ?_ GE108.out | refine below_set ?_ GE109.out) | exact HB.out)) hb); clear BK108; clear BK109; clear HB; have BK108 := n0_; have BK109 := n1_; have HB := n2_; clear n0_ n1_ n2_; (try clear hb); (try clear hb2); (try clear hk); (try clear hi); have hcz47_0 : w46.cell? ⟨gb109, 0, none⟩ = some (.int .u32 a1_0) := (blk_cell BK109.out 0).trans rfl; have hcz47_1 : w46.cell? ⟨gb109, 1, none⟩ = some (.int .u8 a1_1) := (blk_cell BK109.out 1).trans rfl; have hcz47_2 : w46.cell? ⟨gb109, 2, none⟩ = some (.int .i64 a1_2) := (blk_cell BK109.out 2).trans rfl; have hcz47_3 : w46.cell? ⟨gb109, 3, none⟩ = some (.int .i64 a1_3) := (blk_cell BK109.out 3).trans rfl; have hfz47_0 := blk_frozen BK109.out 0; have hfz47_1 := blk_frozen BK109.out 1; have hfz47_2 := blk_frozen BK109.out 2; have hfz47_3 := blk_frozen BK109.out 3) | (go_at_call 160; (with_reducible refine (when_tame.calls a1_0 a1_1 a1_2 a1_3 true _ A5.out).mono ?_); rintro e w48 ⟨rfl, hb⟩; have n0_ := Aside0.mk (blk_below (g := gb108) (o := .cells #[.int .i64 a0_0, .int .i64 a0_1, .int .i64 a0_2] 23 (0, 0)) (by (with_reducible repeat (first | refine blk_drewN ?_ _ | refine blk_drew ?_ | refine blk_alloc ?_ _)); exact BK108.out) hb); have n1_ := Aside0.mk (blk_below (g := gb109) (o := .cells #[.int .u32 a1_0, .int .u8 a1_1, .int .i64 a1_2, .int .i64 a1_3] 50 (0, 0)) (by (with_reducible repeat (first | refine blk_drewN ?_ _ | refine blk_drew ?_ | refine blk_alloc ?_ _)); exact BK109.out) hb); have n2_ := Aside0.mk (below_step (by repeat (first | (with_reducible first | exact HB.out | apply below_alloc | apply pw_below_drewN | apply below_drew1 | refine below_set ?_ GE108.out | refine below_set ?_ GE109.out) | exact HB.out)) hb); clear BK108; clear BK109; clear HB; have BK108 := n0_; have BK109 := n1_; have HB := n2_; clear n0_ n1_ n2_; (try clear hb); (try clear hb2); (try clear hk); (try clear hi); have hcz49_0 : w48.cell? ⟨gb109, 0, none⟩ = some (.int .u32 a1_0) := (blk_cell BK109.out 0).trans rfl; have hcz49_1 : w48.cell? ⟨gb109, 1, none⟩ = some (.int .u8 a1_1) := (blk_cell BK109.out 1).trans rfl; have hcz49_2 : w48.cell? ⟨gb109, 2, none⟩ = some (.int .i64 a1_2) := (blk_cell BK109.out 2).trans rfl; have hcz49_3 : w48.cell? ⟨gb109, 3, none⟩ = some (.int .i64 a1_3) := (blk_cell BK109.out 3).trans rfl; have hfz49_0 := blk_frozen BK109.out 0; have hfz49_1 := blk_frozen BK109.out 1; have hfz49_2 := blk_frozen BK109.out 2; have hfz49_3 := blk_frozen BK109.out 3; have hcz50_0 : w48.cell? ⟨gb108, 0, none⟩ = some (.int .i64 a0_0) := (blk_cell BK108.out 0).trans rfl; have hcz50_1 : w48.cell? ⟨gb108, 1, none⟩ = some (.int .i64 a0_1) := (blk_cell BK108.out 1).trans rfl; have hcz50_2 : w48.cell? ⟨gb108, 2, none⟩ = some (.int .i64 a0_2) := (blk_cell BK108.out 2).trans rfl; have hfz50_0 := blk_frozen BK108.out 0; have hfz50_1 := blk_frozen BK108.out 1; have hfz50_2 := blk_frozen BK108.out 2))
                  go_ret
                  exact ⟨by first | rfl | (simp [errW_none, errW_some] <;> rfl) | (simp only [← hji28, ← hji41]; first | rfl | (simp [errW_none, errW_some] <;> rfl)) | (simp [*, errW_none, errW_some] <;> rfl), by repeat (first | (with_reducible first | exact HB.out | apply below_alloc | apply pw_below_drewN | apply below_drew1 | refine below_set ?_ GE108.out | refine below_set ?_ GE109.out) | exact HB.out)⟩
                · rw [if_neg c40] at H
                  exact absurd H (by simp)
            · rw [if_neg c29] at H
              have c29b0 : ((ji28) == 0) = false := beq_eq_false_iff_ne.mpr c29
              have c29b1 : ((ji28) != 0) = true := bne_iff_ne.mpr c29
              obtain rfl := Option.some.inj H
              go_enter Tryz.func123, Tryz.ntmps123
              go_wp2_with (first | ((with_reducible refine gate_dst (N := 2) rfl ?_); refine box_event ?hg (N := 2) ?hd (cs := #[.int .i64 a0_0, .int .i64 a0_1, .int .i64 a0_2]) (t := 23) ?hr ?_; (case hd => rfl); (case hg => rfl); (case hr => first | (go_simp; done) | (go_simp; rfl)); intro gb108 hg w51 hbox hb; have n0_ := Aside0.mk (below_step (by repeat (first | (with_reducible first | exact HB.out | apply below_alloc | apply pw_below_drewN | apply below_drew1) | exact HB.out)) hb); have n1_ := Aside0.mk (hbox); have n2_ := Aside0.mk ((by rw [hg]; exact (below_size (by repeat (first | (with_reducible first | exact HB.out | apply below_alloc | apply pw_below_drewN | apply below_drew1) | exact HB.out))) : w.heap.size ≤ gb108)); have n3_ := Aside0.mk ((by rw [hg]; exact (below_size (by repeat (first | (with_reducible first | exact HB.out | apply below_alloc | apply pw_below_drewN | apply below_drew1) | exact HB.out))) : w.heap.size ≤ gb108)); clear HB; have HB := n0_; have BK108 := n1_; have GW108 := n2_; have GE108 := n3_; clear n0_ n1_ n2_ n3_; clear hb hbox hg) | ((with_reducible refine gate_dst (N := 3) rfl ?_); refine box_event ?hg (N := 3) ?hd (cs := #[.int .u32 a1_0, .int .u8 a1_1, .int .i64 a1_2, .int .i64 a1_3]) (t := 50) ?hr ?_; (case hd => rfl); (case hg => rfl); (case hr => first | (go_simp; done) | (go_simp; rfl)); intro gb109 hg w52 hbox hb; have n0_ := Aside0.mk (blk_below (g := gb108) (o := .cells #[.int .i64 a0_0, .int .i64 a0_1, .int .i64 a0_2] 23 (0, 0)) (by (with_reducible repeat (first | refine blk_drewN ?_ _ | refine blk_drew ?_ | refine blk_alloc ?_ _)); exact BK108.out) hb); have n1_ := Aside0.mk (below_step (by repeat (first | (with_reducible first | exact HB.out | apply below_alloc | apply pw_below_drewN | apply below_drew1 | refine below_set ?_ GE108.out) | exact HB.out)) hb); have n2_ := Aside0.mk (hbox); have n3_ := Aside0.mk ((by rw [hg]; exact (below_size (by repeat (first | (with_reducible first | exact HB.out | apply below_alloc | apply pw_below_drewN | apply below_drew1 | refine below_set ?_ GE108.out) | exact HB.out))) : w.heap.size ≤ gb109)); have n4_ := Aside0.mk ((by rw [hg]; exact (below_size (by repeat (first | (with_reducible first | exact HB.out | apply below_alloc | apply pw_below_drewN | apply below_drew1 | refine below_set ?_ GE108.out) | exact HB.out))) : w.heap.size ≤ gb109)); have n5_ := Aside0.mk ((by rw [hg]; exact Nat.ne_of_lt (blk_lt (g := gb108) (o := .cells #[.int .i64 a0_0, .int .i64 a0_1, .int .i64 a0_2] 23 (0, 0)) (by (with_reducible repeat (first | refine blk_drewN ?_ _ | refine blk_drew ?_ | refine blk_alloc ?_ _)); exact BK108.out)) : gb108 ≠ gb109)); have n6_ := Aside0.mk ((by rw [hg]; exact Nat.ne_of_gt (blk_lt (g := gb108) (o := .cells #[.int .i64 a0_0, .int .i64 a0_1, .int .i64 a0_2] 23 (0, 0)) (by (with_reducible repeat (first | refine blk_drewN ?_ _ | refine blk_drew ?_ | refine blk_alloc ?_ _)); exact BK108.out)) : gb109 ≠ gb108)); clear BK108; clear HB; have BK108 := n0_; have HB := n1_; have BK109 := n2_; have GW109 := n3_; have GE109 := n4_; have NB108_109 := n5_; have NB109_108 := n6_; clear n0_ n1_ n2_ n3_ n4_ n5_ n6_; clear hb hbox hg; have hnb53 := NB108_109.out; have hnc53 := NB109_108.out; have hcz54_0 : w52.cell? ⟨gb108, 0, none⟩ = some (.int .i64 a0_0) := (blk_cell BK108.out 0).trans rfl; have hcz54_1 : w52.cell? ⟨gb108, 1, none⟩ = some (.int .i64 a0_1) := (blk_cell BK108.out 1).trans rfl; have hcz54_2 : w52.cell? ⟨gb108, 2, none⟩ = some (.int .i64 a0_2) := (blk_cell BK108.out 2).trans rfl; have hfz54_0 := blk_frozen BK108.out 0; have hfz54_1 := blk_frozen BK108.out 1; have hfz54_2 := blk_frozen BK108.out 2) | ((with_reducible refine gate_callee (f := 35) rfl ?_); refine goesL_ (some 6) rfl rfl Tryz.func35 (by kernel_rfl) rfl #[.agg #[.int .i64 a0_0, .int .i64 a0_1, .int .i64 a0_2]] rfl (by (try simp only [List.map_toArray, List.map_cons, List.map_nil]); first | done | rfl | (simp only [List.length_drop, List.length_take]; rfl)) ?_; (with_reducible refine (when_RightGrid.calls a0_0 a0_1 a0_2 true _ A3.out).mono ?_); rintro e w55 ⟨rfl, hb⟩; refine ⟨_, rfl, ?_⟩; have n0_ := Aside0.mk (blk_below (g := gb108) (o := .cells #[.int .i64 a0_0, .int .i64 a0_1, .int .i64 a0_2] 23 (0, 0)) (by (with_reducible repeat (first | refine blk_drewN ?_ _ | refine blk_drew ?_ | refine blk_alloc ?_ _)); exact BK108.out) hb); have n1_ := Aside0.mk (blk_below (g := gb109) (o := .cells #[.int .u32 a1_0, .int .u8 a1_1, .int .i64 a1_2, .int .i64 a1_3] 50 (0, 0)) (by (with_reducible repeat (first | refine blk_drewN ?_ _ | refine blk_drew ?_ | refine blk_alloc ?_ _)); exact BK109.out) hb); have n2_ := Aside0.mk (below_step (by repeat (first | (with_reducible first | exact HB.out | apply below_alloc | apply pw_below_drewN | apply below_drew1 | refine below_set ?_ GE108.out | refine below_set ?_ GE109.out) | exact HB.out)) hb); clear BK108; clear BK109; clear HB; have BK108 := n0_; have BK109 := n1_; have HB := n2_; clear n0_ n1_ n2_; (try clear hb); (try clear hb2); (try clear hk); (try clear hi); have hcz56_0 : w55.cell? ⟨gb109, 0, none⟩ = some (.int .u32 a1_0) := (blk_cell BK109.out 0).trans rfl; have hcz56_1 : w55.cell? ⟨gb109, 1, none⟩ = some (.int .u8 a1_1) := (blk_cell BK109.out 1).trans rfl; have hcz56_2 : w55.cell? ⟨gb109, 2, none⟩ = some (.int .i64 a1_2) := (blk_cell BK109.out 2).trans rfl; have hcz56_3 : w55.cell? ⟨gb109, 3, none⟩ = some (.int .i64 a1_3) := (blk_cell BK109.out 3).trans rfl; have hfz56_0 := blk_frozen BK109.out 0; have hfz56_1 := blk_frozen BK109.out 1; have hfz56_2 := blk_frozen BK109.out 2; have hfz56_3 := blk_frozen BK109.out 3) | (go_at_call 160; (with_reducible refine (when_tame.calls a1_0 a1_1 a1_2 a1_3 true _ A5.out).mono ?_); rintro e w57 ⟨rfl, hb⟩; have n0_ := Aside0.mk (blk_below (g := gb108) (o := .cells #[.int .i64 a0_0, .int .i64 a0_1, .int .i64 a0_2] 23 (0, 0)) (by (with_reducible repeat (first | refine blk_drewN ?_ _ | refine blk_drew ?_ | refine blk_alloc ?_ _)); exact BK108.out) hb); have n1_ := Aside0.mk (blk_below (g := gb109) (o := .cells #[.int .u32 a1_0, .int .u8 a1_1, .int .i64 a1_2, .int .i64 a1_3] 50 (0, 0)) (by (with_reducible repeat (first | refine blk_drewN ?_ _ | refine blk_drew ?_ | refine blk_alloc ?_ _)); exact BK109.out) hb); have n2_ := Aside0.mk (below_step (by repeat (first | (with_reducible first | exact HB.out | apply below_alloc | apply pw_below_drewN | apply below_drew1 | refine below_set ?_ GE108.out | refine below_set ?_ GE109.out) | exact HB.out)) hb); clear BK108; clear BK109; clear HB; have BK108 := n0_; have BK109 := n1_; have HB := n2_; clear n0_ n1_ n2_; (try clear hb); (try clear hb2); (try clear hk); (try clear hi); have hcz58_0 : w57.cell? ⟨gb109, 0, none⟩ = some (.int .u32 a1_0) := (blk_cell BK109.out 0).trans rfl; have hcz58_1 : w57.cell? ⟨gb109, 1, none⟩ = some (.int .u8 a1_1) := (blk_cell BK109.out 1).trans rfl; have hcz58_2 : w57.cell? ⟨gb109, 2, none⟩ = some (.int .i64 a1_2) := (blk_cell BK109.out 2).trans rfl; have hcz58_3 : w57.cell? ⟨gb109, 3, none⟩ = some (.int .i64 a1_3) := (blk_cell BK109.out 3).trans rfl; have hfz58_0 := blk_frozen BK109.out 0; have hfz58_1 := blk_frozen BK109.out 1; have hfz58_2 := blk_frozen BK109.out 2; have hfz58_3 := blk_frozen BK109.out 3; have hcz59_0 : w57.cell? ⟨gb108, 0, none⟩ = some (.int .i64 a0_0) := (blk_cell BK108.out 0).trans rfl; have hcz59_1 : w57.cell? ⟨gb108, 1, none⟩ = some (.int .i64 a0_1) := (blk_cell BK108.out 1).trans rfl; have hcz59_2 : w57.cell? ⟨gb108, 2, none⟩ = some (.int .i64 a0_2) := (blk_cell BK108.out 2).trans rfl; have hfz59_0 := blk_frozen BK108.out 0; have hfz59_1 := blk_frozen BK108.out 1; have hfz59_2 := blk_frozen BK108.out 2))
              go_ret
              exact ⟨by first | rfl | (simp [errW_none, errW_some] <;> rfl) | (simp only [← hji28]; first | rfl | (simp [errW_none, errW_some] <;> rfl)) | (simp [*, errW_none, errW_some] <;> rfl), by repeat (first | (with_reducible first | exact HB.out | apply below_alloc | apply pw_below_drewN | apply below_drew1 | refine below_set ?_ GE108.out | refine below_set ?_ GE109.out) | exact HB.out)⟩
          · rw [if_neg c27] at H
            exact absurd H (by simp)
    · replace c6 := Bool.eq_false_iff.mpr c6
      subst c6
      have H1 : (some false) = some r := by rw [if_neg (show ¬ (false = true) by decide)] at H; exact H
      clear H
      have H := H1
      clear H1
      obtain rfl := Option.some.inj H
      go_enter Tryz.func123, Tryz.ntmps123
      go_wp2_with (first | ((with_reducible refine gate_dst (N := 2) rfl ?_); refine box_event ?hg (N := 2) ?hd (cs := #[.int .i64 a0_0, .int .i64 a0_1, .int .i64 a0_2]) (t := 23) ?hr ?_; (case hd => rfl); (case hg => rfl); (case hr => first | (go_simp; done) | (go_simp; rfl)); intro gb108 hg w60 hbox hb; have n0_ := Aside0.mk (below_step (by repeat (first | (with_reducible first | exact HB.out | apply below_alloc | apply pw_below_drewN | apply below_drew1) | exact HB.out)) hb); have n1_ := Aside0.mk (hbox); have n2_ := Aside0.mk ((by rw [hg]; exact (below_size (by repeat (first | (with_reducible first | exact HB.out | apply below_alloc | apply pw_below_drewN | apply below_drew1) | exact HB.out))) : w.heap.size ≤ gb108)); have n3_ := Aside0.mk ((by rw [hg]; exact (below_size (by repeat (first | (with_reducible first | exact HB.out | apply below_alloc | apply pw_below_drewN | apply below_drew1) | exact HB.out))) : w.heap.size ≤ gb108)); clear HB; have HB := n0_; have BK108 := n1_; have GW108 := n2_; have GE108 := n3_; clear n0_ n1_ n2_ n3_; clear hb hbox hg) | ((with_reducible refine gate_dst (N := 3) rfl ?_); refine box_event ?hg (N := 3) ?hd (cs := #[.int .u32 a1_0, .int .u8 a1_1, .int .i64 a1_2, .int .i64 a1_3]) (t := 50) ?hr ?_; (case hd => rfl); (case hg => rfl); (case hr => first | (go_simp; done) | (go_simp; rfl)); intro gb109 hg w61 hbox hb; have n0_ := Aside0.mk (blk_below (g := gb108) (o := .cells #[.int .i64 a0_0, .int .i64 a0_1, .int .i64 a0_2] 23 (0, 0)) (by (with_reducible repeat (first | refine blk_drewN ?_ _ | refine blk_drew ?_ | refine blk_alloc ?_ _)); exact BK108.out) hb); have n1_ := Aside0.mk (below_step (by repeat (first | (with_reducible first | exact HB.out | apply below_alloc | apply pw_below_drewN | apply below_drew1 | refine below_set ?_ GE108.out) | exact HB.out)) hb); have n2_ := Aside0.mk (hbox); have n3_ := Aside0.mk ((by rw [hg]; exact (below_size (by repeat (first | (with_reducible first | exact HB.out | apply below_alloc | apply pw_below_drewN | apply below_drew1 | refine below_set ?_ GE108.out) | exact HB.out))) : w.heap.size ≤ gb109)); have n4_ := Aside0.mk ((by rw [hg]; exact (below_size (by repeat (first | (with_reducible first | exact HB.out | apply below_alloc | apply pw_below_drewN | apply below_drew1 | refine below_set ?_ GE108.out) | exact HB.out))) : w.heap.size ≤ gb109)); have n5_ := Aside0.mk ((by rw [hg]; exact Nat.ne_of_lt (blk_lt (g := gb108) (o := .cells #[.int .i64 a0_0, .int .i64 a0_1, .int .i64 a0_2] 23 (0, 0)) (by (with_reducible repeat (first | refine blk_drewN ?_ _ | refine blk_drew ?_ | refine blk_alloc ?_ _)); exact BK108.out)) : gb108 ≠ gb109)); have n6_ := Aside0.mk ((by rw [hg]; exact Nat.ne_of_gt (blk_lt (g := gb108) (o := .cells #[.int .i64 a0_0, .int .i64 a0_1, .int .i64 a0_2] 23 (0, 0)) (by (with_reducible repeat (first | refine blk_drewN ?_ _ | refine blk_drew ?_ | refine blk_alloc ?_ _)); exact BK108.out)) : gb109 ≠ gb108)); clear BK108; clear HB; have BK108 := n0_; have HB := n1_; have BK109 := n2_; have GW109 := n3_; have GE109 := n4_; have NB108_109 := n5_; have NB109_108 := n6_; clear n0_ n1_ n2_ n3_ n4_ n5_ n6_; clear hb hbox hg; have hnb62 := NB108_109.out; have hnc62 := NB109_108.out; have hcz63_0 : w61.cell? ⟨gb108, 0, none⟩ = some (.int .i64 a0_0) := (blk_cell BK108.out 0).trans rfl; have hcz63_1 : w61.cell? ⟨gb108, 1, none⟩ = some (.int .i64 a0_1) := (blk_cell BK108.out 1).trans rfl; have hcz63_2 : w61.cell? ⟨gb108, 2, none⟩ = some (.int .i64 a0_2) := (blk_cell BK108.out 2).trans rfl; have hfz63_0 := blk_frozen BK108.out 0; have hfz63_1 := blk_frozen BK108.out 1; have hfz63_2 := blk_frozen BK108.out 2) | ((with_reducible refine gate_callee (f := 35) rfl ?_); refine goesL_ (some 6) rfl rfl Tryz.func35 (by kernel_rfl) rfl #[.agg #[.int .i64 a0_0, .int .i64 a0_1, .int .i64 a0_2]] rfl (by (try simp only [List.map_toArray, List.map_cons, List.map_nil]); first | done | rfl | (simp only [List.length_drop, List.length_take]; rfl)) ?_; (with_reducible refine (when_RightGrid.calls a0_0 a0_1 a0_2 true _ A3.out).mono ?_); rintro e w64 ⟨rfl, hb⟩; refine ⟨_, rfl, ?_⟩; have n0_ := Aside0.mk (blk_below (g := gb108) (o := .cells #[.int .i64 a0_0, .int .i64 a0_1, .int .i64 a0_2] 23 (0, 0)) (by (with_reducible repeat (first | refine blk_drewN ?_ _ | refine blk_drew ?_ | refine blk_alloc ?_ _)); exact BK108.out) hb); have n1_ := Aside0.mk (blk_below (g := gb109) (o := .cells #[.int .u32 a1_0, .int .u8 a1_1, .int .i64 a1_2, .int .i64 a1_3] 50 (0, 0)) (by (with_reducible repeat (first | refine blk_drewN ?_ _ | refine blk_drew ?_ | refine blk_alloc ?_ _)); exact BK109.out) hb); have n2_ := Aside0.mk (below_step (by repeat (first | (with_reducible first | exact HB.out | apply below_alloc | apply pw_below_drewN | apply below_drew1 | refine below_set ?_ GE108.out | refine below_set ?_ GE109.out) | exact HB.out)) hb); clear BK108; clear BK109; clear HB; have BK108 := n0_; have BK109 := n1_; have HB := n2_; clear n0_ n1_ n2_; (try clear hb); (try clear hb2); (try clear hk); (try clear hi); have hcz65_0 : w64.cell? ⟨gb109, 0, none⟩ = some (.int .u32 a1_0) := (blk_cell BK109.out 0).trans rfl; have hcz65_1 : w64.cell? ⟨gb109, 1, none⟩ = some (.int .u8 a1_1) := (blk_cell BK109.out 1).trans rfl; have hcz65_2 : w64.cell? ⟨gb109, 2, none⟩ = some (.int .i64 a1_2) := (blk_cell BK109.out 2).trans rfl; have hcz65_3 : w64.cell? ⟨gb109, 3, none⟩ = some (.int .i64 a1_3) := (blk_cell BK109.out 3).trans rfl; have hfz65_0 := blk_frozen BK109.out 0; have hfz65_1 := blk_frozen BK109.out 1; have hfz65_2 := blk_frozen BK109.out 2; have hfz65_3 := blk_frozen BK109.out 3) | (go_at_call 160; (with_reducible refine (when_tame.calls a1_0 a1_1 a1_2 a1_3 false _ A5.out).mono ?_); rintro e w66 ⟨rfl, hb⟩; have n0_ := Aside0.mk (blk_below (g := gb108) (o := .cells #[.int .i64 a0_0, .int .i64 a0_1, .int .i64 a0_2] 23 (0, 0)) (by (with_reducible repeat (first | refine blk_drewN ?_ _ | refine blk_drew ?_ | refine blk_alloc ?_ _)); exact BK108.out) hb); have n1_ := Aside0.mk (blk_below (g := gb109) (o := .cells #[.int .u32 a1_0, .int .u8 a1_1, .int .i64 a1_2, .int .i64 a1_3] 50 (0, 0)) (by (with_reducible repeat (first | refine blk_drewN ?_ _ | refine blk_drew ?_ | refine blk_alloc ?_ _)); exact BK109.out) hb); have n2_ := Aside0.mk (below_step (by repeat (first | (with_reducible first | exact HB.out | apply below_alloc | apply pw_below_drewN | apply below_drew1 | refine below_set ?_ GE108.out | refine below_set ?_ GE109.out) | exact HB.out)) hb); clear BK108; clear BK109; clear HB; have BK108 := n0_; have BK109 := n1_; have HB := n2_; clear n0_ n1_ n2_; (try clear hb); (try clear hb2); (try clear hk); (try clear hi)))
      go_ret
      exact ⟨by first | rfl | (simp [errW_none, errW_some] <;> rfl) | (simp [*, errW_none, errW_some] <;> rfl), by repeat (first | (with_reducible first | exact HB.out | apply below_alloc | apply pw_below_drewN | apply below_drew1 | refine below_set ?_ GE108.out | refine below_set ?_ GE109.out) | exact HB.out)⟩
  · replace c4 := Bool.eq_false_iff.mpr c4
    subst c4
    have H1 : (some false) = some r := by rw [if_neg (show ¬ (false = true) by decide)] at H; exact H
    clear H
    have H := H1
    clear H1
    obtain rfl := Option.some.inj H
    go_enter Tryz.func123, Tryz.ntmps123
    go_wp2_with (first | ((with_reducible refine gate_dst (N := 2) rfl ?_); refine box_event ?hg (N := 2) ?hd (cs := #[.int .i64 a0_0, .int .i64 a0_1, .int .i64 a0_2]) (t := 23) ?hr ?_; (case hd => rfl); (case hg => rfl); (case hr => first | (go_simp; done) | (go_simp; rfl)); intro gb108 hg w67 hbox hb; have n0_ := Aside0.mk (below_step (by repeat (first | (with_reducible first | exact HB.out | apply below_alloc | apply pw_below_drewN | apply below_drew1) | exact HB.out)) hb); have n1_ := Aside0.mk (hbox); have n2_ := Aside0.mk ((by rw [hg]; exact (below_size (by repeat (first | (with_reducible first | exact HB.out | apply below_alloc | apply pw_below_drewN | apply below_drew1) | exact HB.out))) : w.heap.size ≤ gb108)); have n3_ := Aside0.mk ((by rw [hg]; exact (below_size (by repeat (first | (with_reducible first | exact HB.out | apply below_alloc | apply pw_below_drewN | apply below_drew1) | exact HB.out))) : w.heap.size ≤ gb108)); clear HB; have HB := n0_; have BK108 := n1_; have GW108 := n2_; have GE108 := n3_; clear n0_ n1_ n2_ n3_; clear hb hbox hg) | ((with_reducible refine gate_dst (N := 3) rfl ?_); refine box_event ?hg (N := 3) ?hd (cs := #[.int .u32 a1_0, .int .u8 a1_1, .int .i64 a1_2, .int .i64 a1_3]) (t := 50) ?hr ?_; (case hd => rfl); (case hg => rfl); (case hr => first | (go_simp; done) | (go_simp; rfl)); intro gb109 hg w68 hbox hb; have n0_ := Aside0.mk (blk_below (g := gb108) (o := .cells #[.int .i64 a0_0, .int .i64 a0_1, .int .i64 a0_2] 23 (0, 0)) (by (with_reducible repeat (first | refine blk_drewN ?_ _ | refine blk_drew ?_ | refine blk_alloc ?_ _)); exact BK108.out) hb); have n1_ := Aside0.mk (below_step (by repeat (first | (with_reducible first | exact HB.out | apply below_alloc | apply pw_below_drewN | apply below_drew1 | refine below_set ?_ GE108.out) | exact HB.out)) hb); have n2_ := Aside0.mk (hbox); have n3_ := Aside0.mk ((by rw [hg]; exact (below_size (by repeat (first | (with_reducible first | exact HB.out | apply below_alloc | apply pw_below_drewN | apply below_drew1 | refine below_set ?_ GE108.out) | exact HB.out))) : w.heap.size ≤ gb109)); have n4_ := Aside0.mk ((by rw [hg]; exact (below_size (by repeat (first | (with_reducible first | exact HB.out | apply below_alloc | apply pw_below_drewN | apply below_drew1 | refine below_set ?_ GE108.out) | exact HB.out))) : w.heap.size ≤ gb109)); have n5_ := Aside0.mk ((by rw [hg]; exact Nat.ne_of_lt (blk_lt (g := gb108) (o := .cells #[.int .i64 a0_0, .int .i64 a0_1, .int .i64 a0_2] 23 (0, 0)) (by (with_reducible repeat (first | refine blk_drewN ?_ _ | refine blk_drew ?_ | refine blk_alloc ?_ _)); exact BK108.out)) : gb108 ≠ gb109)); have n6_ := Aside0.mk ((by rw [hg]; exact Nat.ne_of_gt (blk_lt (g := gb108) (o := .cells #[.int .i64 a0_0, .int .i64 a0_1, .int .i64 a0_2] 23 (0, 0)) (by (with_reducible repeat (first | refine blk_drewN ?_ _ | refine blk_drew ?_ | refine blk_alloc ?_ _)); exact BK108.out)) : gb109 ≠ gb108)); clear BK108; clear HB; have BK108 := n0_; have HB := n1_; have BK109 := n2_; have GW109 := n3_; have GE109 := n4_; have NB108_109 := n5_; have NB109_108 := n6_; clear n0_ n1_ n2_ n3_ n4_ n5_ n6_; clear hb hbox hg; have hnb69 := NB108_109.out; have hnc69 := NB109_108.out; have hcz70_0 : w68.cell? ⟨gb108, 0, none⟩ = some (.int .i64 a0_0) := (blk_cell BK108.out 0).trans rfl; have hcz70_1 : w68.cell? ⟨gb108, 1, none⟩ = some (.int .i64 a0_1) := (blk_cell BK108.out 1).trans rfl; have hcz70_2 : w68.cell? ⟨gb108, 2, none⟩ = some (.int .i64 a0_2) := (blk_cell BK108.out 2).trans rfl; have hfz70_0 := blk_frozen BK108.out 0; have hfz70_1 := blk_frozen BK108.out 1; have hfz70_2 := blk_frozen BK108.out 2) | ((with_reducible refine gate_callee (f := 35) rfl ?_); refine goesL_ (some 6) rfl rfl Tryz.func35 (by kernel_rfl) rfl #[.agg #[.int .i64 a0_0, .int .i64 a0_1, .int .i64 a0_2]] rfl (by (try simp only [List.map_toArray, List.map_cons, List.map_nil]); first | done | rfl | (simp only [List.length_drop, List.length_take]; rfl)) ?_; (with_reducible refine (when_RightGrid.calls a0_0 a0_1 a0_2 false _ A3.out).mono ?_); rintro e w71 ⟨rfl, hb⟩; refine ⟨_, rfl, ?_⟩; have n0_ := Aside0.mk (blk_below (g := gb108) (o := .cells #[.int .i64 a0_0, .int .i64 a0_1, .int .i64 a0_2] 23 (0, 0)) (by (with_reducible repeat (first | refine blk_drewN ?_ _ | refine blk_drew ?_ | refine blk_alloc ?_ _)); exact BK108.out) hb); have n1_ := Aside0.mk (blk_below (g := gb109) (o := .cells #[.int .u32 a1_0, .int .u8 a1_1, .int .i64 a1_2, .int .i64 a1_3] 50 (0, 0)) (by (with_reducible repeat (first | refine blk_drewN ?_ _ | refine blk_drew ?_ | refine blk_alloc ?_ _)); exact BK109.out) hb); have n2_ := Aside0.mk (below_step (by repeat (first | (with_reducible first | exact HB.out | apply below_alloc | apply pw_below_drewN | apply below_drew1 | refine below_set ?_ GE108.out | refine below_set ?_ GE109.out) | exact HB.out)) hb); clear BK108; clear BK109; clear HB; have BK108 := n0_; have BK109 := n1_; have HB := n2_; clear n0_ n1_ n2_; (try clear hb); (try clear hb2); (try clear hk); (try clear hi)))
    go_ret
    exact ⟨by first | rfl | (simp [errW_none, errW_some] <;> rfl) | (simp [*, errW_none, errW_some] <;> rfl), by repeat (first | (with_reducible first | exact HB.out | apply below_alloc | apply pw_below_drewN | apply below_drew1 | refine below_set ?_ GE108.out | refine below_set ?_ GE109.out) | exact HB.out)⟩
end Go.Proofs.YtineikfhfmiidaaGreat.Gq
namespace Go.Proofs.YtineikfhfmiidaaGreat.Gq
open Go.RowKit Go.Proofs.YtineikfhfmiidaaGreatW.PrintWords Go.Proofs.YtineikfhfmiidaaGreatW.PrintLast Go.Proofs.YtineikfhfmiidaaGreatW.PrintMore
set_option linter.unusedVariables false
set_option linter.unusedSimpArgs false
def class_folk.l0 : Nat → List Int → Int → Int → List Int → Int → Int → Option (Bool)
  | 0, _, _, _, _, _, _ => none
  | k + 1, x0, x1, x5, x8, x9, x10 => if x10 < x9 then (if 0 ≤ x10 then (if x10 < (x8.length : Int) then (if (rd x8 x10) ≤ x5 then (some false) else (if (rd x8 x10) ≥ x1 then (some false) else (class_folk.l0 k x0 x1 (rd x8 x10) x8 x9 (wrap64 (x10 + 1))))) else (none)) else (none)) else (some (decide ((x0.length : Int) ≤ 4)))
def class_folk.f (k : Nat) (l0 : List Int) (a1 : Int) : Option (Bool) := class_folk.l0 k l0 a1 (-1) l0 (l0.length : Int) 0
set_option maxHeartbeats 8000000 in
set_option maxRecDepth 100000 in
theorem class_folk.calls (k : Nat) (A0 : Option Addr) (c0 : Nat) (l0 : List Int) (a1 : Int) (r : Bool) (w : World) (hr0 : Kd.C (Kd.int .i64) w A0 l0.length l0) (hc0 : l0.length ≤ c0) (h : class_folk.f k l0 a1 = some r) :
    Calls Tryz.prog 126 #[.slice A0 l0.length c0, .int .i64 a1] w fun e w' => e = .returned (.bool r) ∧ Drawn0 w w' := by
  have HR0 := Aside0.mk hr0
  have HC0 := Aside0.mk hc0
  clear hr0 hc0
  have H : (class_folk.l0 k l0 a1 (-1) l0 (l0.length : Int) 0) = some r := h
  clear h
  have H' := Aside0.mk H
  clear H
  go_enter Tryz.func126, Tryz.ntmps126
  go_wp2
  go_loopg [5, 10] k (fun kq v5 v10 w' => ∃ (x5_1 : Int) (x10_1 : Int), v5 = .int .i64 x5_1 ∧ v10 = .int .i64 x10_1 ∧ Aside0 (class_folk.l0 kq l0 a1 x5_1 l0 (l0.length : Int) x10_1 = some r) ∧ Aside0 (kq ≤ k) ∧ Drawn0 w w')
  case atStart => exact ⟨((-1)), (0), (by first | rfl | (simp; done) | (simp [*]; done)), (by first | rfl | (simp; done) | (simp [*]; done)), H', ⟨Nat.le_refl _⟩, by repeat (first | exact Drawn0.refl _ | apply Drawn0.step)⟩
  case round =>
    clear H'
    try clear c1
    try clear p2
    obtain ⟨x5_1, x10_1, rfl, rfl, HA, HK1, ⟨m1, rfl⟩⟩ := hrel
    cases gk with
    | zero => exact absurd HA.out (by simp [class_folk.l0])
    | succ k1 =>
      have H := HA.out
      clear HA
      simp only [class_folk.l0] at H
      by_cases c3 : x10_1 < (l0.length : Int)
      · rw [if_pos c3] at H
        have c3b0 : decide (x10_1 < (l0.length : Int)) = true := decide_eq_true c3
        clear c3
        by_cases c4 : 0 ≤ x10_1
        · rw [if_pos c4] at H
          have c4b0 : decide (0 ≤ x10_1) = true := decide_eq_true c4
          clear c4
          by_cases c5 : x10_1 < (l0.length : Int)
          · rw [if_pos c5] at H
            have c5b0 : decide (x10_1 < (l0.length : Int)) = true := decide_eq_true c5
            clear c5
            by_cases c6 : (rd l0 x10_1) ≤ x5_1
            · rw [if_pos c6] at H
              have c6b0 : decide ((rd l0 x10_1) ≤ x5_1) = true := decide_eq_true c6
              clear c6
              obtain rfl := Option.some.inj H
              have p112 : 0 ≤ (x10_1 : Int) := of_decide_eq_true (by first | (with_reducible assumption) | assumption)
              have q112 : x10_1 < (l0.length : Int) := of_decide_eq_true (by first | (with_reducible assumption) | assumption)
              obtain ⟨ad112, e112, hx112_0⟩ := Kd.at_int HR0.out x10_1 p112 q112
              cases e112
              replace p112 := eq_true p112
              replace q112 := eq_true q112
              go_wp2
              go_ret
              exact ⟨by first | rfl | (simp; done) | (simp [*]; done), by repeat (first | exact Drawn0.refl _ | apply Drawn0.step)⟩
            · rw [if_neg c6] at H
              have c6b0 : decide ((rd l0 x10_1) ≤ x5_1) = false := decide_eq_false c6
              clear c6
              by_cases c7 : (rd l0 x10_1) ≥ a1
              · rw [if_pos c7] at H
                have c7b0 : decide (a1 ≤ (rd l0 x10_1)) = true := decide_eq_true c7
                clear c7
                obtain rfl := Option.some.inj H
                have p112 : 0 ≤ (x10_1 : Int) := of_decide_eq_true (by first | (with_reducible assumption) | assumption)
                have q112 : x10_1 < (l0.length : Int) := of_decide_eq_true (by first | (with_reducible assumption) | assumption)
                obtain ⟨ad112, e112, hx112_0⟩ := Kd.at_int HR0.out x10_1 p112 q112
                cases e112
                replace p112 := eq_true p112
                replace q112 := eq_true q112
                go_wp2
                go_ret
                exact ⟨by first | rfl | (simp; done) | (simp [*]; done), by repeat (first | exact Drawn0.refl _ | apply Drawn0.step)⟩
              · rw [if_neg c7] at H
                have c7b0 : decide (a1 ≤ (rd l0 x10_1)) = false := decide_eq_false c7
                clear c7
                have H' := Aside0.mk H
                clear H
                have p112 : 0 ≤ (x10_1 : Int) := of_decide_eq_true (by first | (with_reducible assumption) | assumption)
                have q112 : x10_1 < (l0.length : Int) := of_decide_eq_true (by first | (with_reducible assumption) | assumption)
                obtain ⟨ad112, e112, hx112_0⟩ := Kd.at_int HR0.out x10_1 p112 q112
                cases e112
                replace p112 := eq_true p112
                replace q112 := eq_true q112
                go_wp2
                go_roundg k1
                case measure => have := HK1.out; omega
                case rel => exact ⟨(rd l0 x10_1), (wrap64 (x10_1 + 1)), (by first | rfl | (simp; done) | (simp [*]; done)), (by first | rfl | (simp; done) | (simp [*]; done)), H', ⟨by have := HK1.out; omega⟩, by repeat (first | exact Drawn0.refl _ | apply Drawn0.step)⟩
          · rw [if_neg c5] at H
            exact absurd H (by simp)
        · rw [if_neg c4] at H
          exact absurd H (by simp)
      · rw [if_neg c3] at H
        have c3b0 : decide (x10_1 < (l0.length : Int)) = false := decide_eq_false c3
        clear c3
        obtain rfl := Option.some.inj H
        go_wp2
        go_ret
        exact ⟨by first | rfl | (simp; done) | (simp [*]; done), by repeat (first | exact Drawn0.refl _ | apply Drawn0.step)⟩
end Go.Proofs.YtineikfhfmiidaaGreat.Gq
namespace Go.Proofs.YtineikfhfmiidaaGreat.Gq
open Go.RowKit Go.Proofs.YtineikfhfmiidaaGreatW.PrintWords Go.Proofs.YtineikfhfmiidaaGreatW.PrintLast Go.Proofs.YtineikfhfmiidaaGreatW.PrintMore
set_option linter.unusedVariables false
set_option linter.unusedSimpArgs false
def class_cheap.f (a0 : Int) : Option (Bool) := if a0 ≥ 0 then (some (decide (a0 ≤ 1000))) else (some false)
set_option maxHeartbeats 8000000 in
set_option maxRecDepth 100000 in
theorem class_cheap.calls (a0 : Int) (r : Bool) (w : World) (h : class_cheap.f a0 = some r) :
    Calls Tryz.prog 162 #[.int .i64 a0] w fun e w' => e = .returned (.bool r) ∧ Drawn0 w w' := by
  have H : (if a0 ≥ 0 then (some (decide (a0 ≤ 1000))) else (some false)) = some r := h
  clear h
  by_cases c2 : a0 ≥ 0
  · rw [if_pos c2] at H
    have c2b0 : decide (0 ≤ a0) = true := decide_eq_true c2
    clear c2
    obtain rfl := Option.some.inj H
    go_enter Tryz.func162, Tryz.ntmps162
    go_wp2
    go_ret
    exact ⟨by first | rfl | (simp; done) | (simp [*]; done), by repeat (first | exact Drawn0.refl _ | apply Drawn0.step)⟩
  · rw [if_neg c2] at H
    have c2b0 : decide (0 ≤ a0) = false := decide_eq_false c2
    clear c2
    obtain rfl := Option.some.inj H
    go_enter Tryz.func162, Tryz.ntmps162
    go_wp2
    go_ret
    exact ⟨by first | rfl | (simp; done) | (simp [*]; done), by repeat (first | exact Drawn0.refl _ | apply Drawn0.step)⟩
end Go.Proofs.YtineikfhfmiidaaGreat.Gq
namespace Go.Proofs.YtineikfhfmiidaaGreat.Gq
open Go.RowKit Go.Proofs.YtineikfhfmiidaaGreatW.PrintWords Go.Proofs.YtineikfhfmiidaaGreatW.PrintLast Go.Proofs.YtineikfhfmiidaaGreatW.PrintMore
set_option linter.unusedVariables false
set_option linter.unusedSimpArgs false
def problem_rising.l0 : Nat → List Int → Int → Option (Bool)
  | 0, _, _ => none
  | k + 1, x0, x3 => if x3 < (x0.length : Int) then (if 0 ≤ (wrap64 (x3 - 1)) then (if (wrap64 (x3 - 1)) < (x0.length : Int) then (if 0 ≤ x3 then (if (rd x0 (wrap64 (x3 - 1))) ≥ (rd x0 x3) then (some false) else (problem_rising.l0 k x0 (wrap64 (x3 + 1)))) else (none)) else (none)) else (none)) else (some true)
def problem_rising.f (k : Nat) (l0 : List Int) : Option (Bool) := problem_rising.l0 k l0 1
set_option maxHeartbeats 8000000 in
set_option maxRecDepth 100000 in
theorem problem_rising.calls (k : Nat) (A0 : Option Addr) (c0 : Nat) (l0 : List Int) (r : Bool) (w : World) (hr0 : Kd.C (Kd.int .i64) w A0 l0.length l0) (hc0 : l0.length ≤ c0) (h : problem_rising.f k l0 = some r) :
    Calls Tryz.prog 130 #[.slice A0 l0.length c0] w fun e w' => e = .returned (.bool r) ∧ Drawn0 w w' := by
  have HR0 := Aside0.mk hr0
  have HC0 := Aside0.mk hc0
  clear hr0 hc0
  have H : (problem_rising.l0 k l0 1) = some r := h
  clear h
  have H' := Aside0.mk H
  clear H
  go_enter Tryz.func130, Tryz.ntmps130
  go_wp2
  repeat (go_quiet (fail); try go_wp2)
  go_loopg [3] k (fun kq v3 w' => ∃ (x3_1 : Int), v3 = .int .i64 x3_1 ∧ Aside0 (problem_rising.l0 kq l0 x3_1 = some r) ∧ Aside0 (kq ≤ k) ∧ Drawn0 w w')
  case atStart => exact ⟨(1), (by first | rfl | (simp; done) | (simp [*]; done)), H', ⟨Nat.le_refl _⟩, by repeat (first | exact Drawn0.refl _ | apply Drawn0.step)⟩
  case round =>
    clear H'
    try clear c1
    obtain ⟨x3_1, rfl, HA, HK1, ⟨m1, rfl⟩⟩ := hrel
    cases gk with
    | zero => exact absurd HA.out (by simp [problem_rising.l0])
    | succ k1 =>
      have H := HA.out
      clear HA
      simp only [problem_rising.l0] at H
      by_cases c2 : x3_1 < (l0.length : Int)
      · rw [if_pos c2] at H
        have c2b0 : decide (x3_1 < (l0.length : Int)) = true := decide_eq_true c2
        clear c2
        obtain ⟨ji3, hji3⟩ : ∃ j_ : Int, (wrap64 (x3_1 - 1)) = j_ := ⟨_, rfl⟩
        replace H : (if 0 ≤ (ji3) then (if (ji3) < (l0.length : Int) then (if 0 ≤ x3_1 then (if (rd l0 (ji3)) ≥ (rd l0 x3_1) then (some false) else (problem_rising.l0 k1 l0 (wrap64 (x3_1 + 1)))) else (none)) else (none)) else (none)) = some r := by first | (rw [hji3] at H; exact H) | (simp only [hji3] at H ⊢; exact H)
        have hji3w : (IntKind.i64.wrap (x3_1 - 1)) = ji3 := (i64_w _).trans hji3
        by_cases c4 : 0 ≤ (ji3)
        · rw [if_pos c4] at H
          have c4b0 : decide (0 ≤ (ji3)) = true := decide_eq_true c4
          clear c4
          by_cases c5 : (ji3) < (l0.length : Int)
          · rw [if_pos c5] at H
            have c5b0 : decide ((ji3) < (l0.length : Int)) = true := decide_eq_true c5
            clear c5
            by_cases c6 : 0 ≤ x3_1
            · rw [if_pos c6] at H
              have c6b0 : decide (0 ≤ x3_1) = true := decide_eq_true c6
              clear c6
              by_cases c7 : (rd l0 (ji3)) ≥ (rd l0 x3_1)
              · rw [if_pos c7] at H
                have c7b0 : decide ((rd l0 x3_1) ≤ (rd l0 (ji3))) = true := decide_eq_true c7
                clear c7
                obtain rfl := Option.some.inj H
                have p113 : 0 ≤ ((ji3) : Int) := of_decide_eq_true (by first | (with_reducible assumption) | assumption)
                have q113 : (ji3) < (l0.length : Int) := of_decide_eq_true (by first | (with_reducible assumption) | assumption)
                obtain ⟨ad113, e113, hx113_0⟩ := Kd.at_int HR0.out (ji3) p113 q113
                cases e113
                replace p113 := eq_true p113
                replace q113 := eq_true q113
                have p114 : 0 ≤ (x3_1 : Int) := of_decide_eq_true (by first | (with_reducible assumption) | assumption)
                have q114 : x3_1 < (l0.length : Int) := of_decide_eq_true (by first | (with_reducible assumption) | assumption)
                obtain ⟨ad114, e114, hx114_0⟩ := Kd.at_int HR0.out x3_1 p114 q114
                obtain rfl : ad113 = ad114 := (by injection e114)
                replace p114 := eq_true p114
                replace q114 := eq_true q114
                go_wp2
                repeat (go_quiet (fail); try go_wp2)
                go_ret
                exact ⟨by first | rfl | (simp; done) | (simp only [← hji3] <;> (first | rfl | simp)) | (simp [*]; done), by repeat (first | exact Drawn0.refl _ | apply Drawn0.step)⟩
              · rw [if_neg c7] at H
                have c7b0 : decide ((rd l0 x3_1) ≤ (rd l0 (ji3))) = false := decide_eq_false c7
                clear c7
                have H' := Aside0.mk H
                clear H
                have p113 : 0 ≤ ((ji3) : Int) := of_decide_eq_true (by first | (with_reducible assumption) | assumption)
                have q113 : (ji3) < (l0.length : Int) := of_decide_eq_true (by first | (with_reducible assumption) | assumption)
                obtain ⟨ad113, e113, hx113_0⟩ := Kd.at_int HR0.out (ji3) p113 q113
                cases e113
                replace p113 := eq_true p113
                replace q113 := eq_true q113
                have p114 : 0 ≤ (x3_1 : Int) := of_decide_eq_true (by first | (with_reducible assumption) | assumption)
                have q114 : x3_1 < (l0.length : Int) := of_decide_eq_true (by first | (with_reducible assumption) | assumption)
                obtain ⟨ad114, e114, hx114_0⟩ := Kd.at_int HR0.out x3_1 p114 q114
                obtain rfl : ad113 = ad114 := (by injection e114)
                replace p114 := eq_true p114
                replace q114 := eq_true q114
                go_wp2
                repeat (go_quiet (fail); try go_wp2)
                go_roundg k1
                case measure => have := HK1.out; omega
                case rel => exact ⟨(wrap64 (x3_1 + 1)), (by first | rfl | (simp; done) | (simp [*]; done)), H', ⟨by have := HK1.out; omega⟩, by repeat (first | exact Drawn0.refl _ | apply Drawn0.step)⟩
            · rw [if_neg c6] at H
              exact absurd H (by simp)
          · rw [if_neg c5] at H
            exact absurd H (by simp)
        · rw [if_neg c4] at H
          exact absurd H (by simp)
      · rw [if_neg c2] at H
        have c2b0 : decide (x3_1 < (l0.length : Int)) = false := decide_eq_false c2
        clear c2
        obtain rfl := Option.some.inj H
        go_wp2
        repeat (go_quiet (fail); try go_wp2)
        go_ret
        exact ⟨by first | rfl | (simp; done) | (simp [*]; done), by repeat (first | exact Drawn0.refl _ | apply Drawn0.step)⟩
end Go.Proofs.YtineikfhfmiidaaGreat.Gq
namespace Go.Proofs.YtineikfhfmiidaaGreat.Gq
open Go.RowKit Go.Proofs.YtineikfhfmiidaaGreatW.PrintWords Go.Proofs.YtineikfhfmiidaaGreatW.PrintLast Go.Proofs.YtineikfhfmiidaaGreatW.PrintMore
set_option linter.unusedVariables false
set_option linter.unusedSimpArgs false
def room_Name.f (a0 : ByteArray) : Option (Bool) := if a0.toList = ([] : List UInt8) then (some false) else (some (decide ((a0.size : Int) ≤ 24)))
set_option maxHeartbeats 8000000 in
set_option maxRecDepth 100000 in
theorem room_Name.calls (a0 : ByteArray) (r : Bool) (w : World) (h : room_Name.f a0 = some r) :
    Calls Tryz.prog 34 #[.string a0] w fun e w' => e = .returned (.bool r) ∧ Drawn0 w w' := by
  have H : (if a0.toList = ([] : List UInt8) then (some false) else (some (decide ((a0.size : Int) ≤ 24)))) = some r := h
  clear h
  by_cases c2 : a0.toList = ([] : List UInt8)
  · rw [if_pos c2] at H
    have c2b0 : (a0.toList == ([] : List UInt8)) = true := beq_iff_eq.mpr c2
    have c2b1 : (a0.toList != ([] : List UInt8)) = false := bne_eq_false_iff_eq.mpr c2
    clear c2
    obtain rfl := Option.some.inj H
    go_enter Tryz.func34, Tryz.ntmps34
    go_wp2
    go_ret
    exact ⟨by first | rfl | (simp; done) | (simp [*]; done), by repeat (first | exact Drawn0.refl _ | apply Drawn0.step)⟩
  · rw [if_neg c2] at H
    have c2b0 : (a0.toList == ([] : List UInt8)) = false := beq_eq_false_iff_ne.mpr c2
    have c2b1 : (a0.toList != ([] : List UInt8)) = true := bne_iff_ne.mpr c2
    obtain rfl := Option.some.inj H
    go_enter Tryz.func34, Tryz.ntmps34
    go_wp2
    go_ret
    exact ⟨by first | rfl | (simp; done) | (simp [*]; done), by repeat (first | exact Drawn0.refl _ | apply Drawn0.step)⟩
end Go.Proofs.YtineikfhfmiidaaGreat.Gq
namespace Go.Proofs.YtineikfhfmiidaaGreat.Pm
open Go Go.RowKit Go.Proofs.YtineikfhfmiidaaGreat.Gp Go.Proofs.YtineikfhfmiidaaGreatW.PrintWords Go.Proofs.YtineikfhfmiidaaGreatW.PrintLast Go.Proofs.YtineikfhfmiidaaGreatW.PrintMore
set_option linter.unusedVariables false
set_option linter.unusedSimpArgs false
set_option maxRecDepth 100000 in
theorem badRoom_nil (w : World) (m : Int) (f g : Value) :
    Calls Tryz.prog 36 #[.slice none 0 0, .int .i64 m, f, g] w fun e w' => e = .returned (.tuple #[.int .i64 0, .bool false]) ∧ Below w.heap.size w w' := by
  have hmm := @run_makeMap Tryz.prog
  go_enter Tryz.func36, Tryz.ntmps36
  go_wp2
  go_loopw [16] (fun v16 wr => v16 = .int .i64 0 ∧ Aside0 (Below w.heap.size w wr)) (fun _ _ => 0)
  case atStart => exact ⟨rfl, ⟨below_alloc (Below.refl _ _) _⟩⟩
  case round =>
    obtain ⟨rfl, HB⟩ := hrel
    go_wp2
    refine bodyPost_ret (results_tmp2 rfl _ _ _) rfl ?_
    exact ⟨rfl, HB.out⟩
set_option maxRecDepth 100000 in
theorem badPerson_nil (w : World) (m : Int) (f g : Value) :
    Calls Tryz.prog 41 #[.slice none 0 0, .int .i64 m, f, g] w fun e w' => e = .returned (.tuple #[.int .i64 0, .bool false]) ∧ Below w.heap.size w w' := by
  have hmm := @run_makeMap Tryz.prog
  go_enter Tryz.func41, Tryz.ntmps41
  go_wp2
  go_loopw [16] (fun v16 wr => v16 = .int .i64 0 ∧ Aside0 (Below w.heap.size w wr)) (fun _ _ => 0)
  case atStart => exact ⟨rfl, ⟨below_alloc (Below.refl _ _) _⟩⟩
  case round =>
    obtain ⟨rfl, HB⟩ := hrel
    go_wp2
    refine bodyPost_ret (results_tmp2 rfl _ _ _) rfl ?_
    exact ⟨rfl, HB.out⟩
set_option maxRecDepth 100000 in
theorem badClass_nil (w : World) (m : Int) (f g : Value) :
    Calls Tryz.prog 45 #[.slice none 0 0, .int .i64 m, f, g] w fun e w' => e = .returned (.tuple #[.int .i64 0, .bool false]) ∧ Below w.heap.size w w' := by
  have hmm := @run_makeMap Tryz.prog
  go_enter Tryz.func45, Tryz.ntmps45
  go_wp2
  go_loopw [16] (fun v16 wr => v16 = .int .i64 0 ∧ Aside0 (Below w.heap.size w wr)) (fun _ _ => 0)
  case atStart => exact ⟨rfl, ⟨below_alloc (Below.refl _ _) _⟩⟩
  case round =>
    obtain ⟨rfl, HB⟩ := hrel
    go_wp2
    refine bodyPost_ret (results_tmp2 rfl _ _ _) rfl ?_
    exact ⟨rfl, HB.out⟩
set_option maxRecDepth 100000 in
theorem badCourse_nil (w : World) (m : Int) (f g : Value) :
    Calls Tryz.prog 49 #[.slice none 0 0, .int .i64 m, f, g] w fun e w' => e = .returned (.tuple #[.int .i64 0, .bool false]) ∧ Below w.heap.size w w' := by
  have hmm := @run_makeMap Tryz.prog
  go_enter Tryz.func49, Tryz.ntmps49
  go_wp2
  go_loopw [16] (fun v16 wr => v16 = .int .i64 0 ∧ Aside0 (Below w.heap.size w wr)) (fun _ _ => 0)
  case atStart => exact ⟨rfl, ⟨below_alloc (Below.refl _ _) _⟩⟩
  case round =>
    obtain ⟨rfl, HB⟩ := hrel
    go_wp2
    refine bodyPost_ret (results_tmp2 rfl _ _ _) rfl ?_
    exact ⟨rfl, HB.out⟩
set_option maxRecDepth 100000 in
theorem badStudent_nil (w : World) (m : Int) (f g : Value) :
    Calls Tryz.prog 53 #[.slice none 0 0, .int .i64 m, f, g] w fun e w' => e = .returned (.tuple #[.int .i64 0, .bool false]) ∧ Below w.heap.size w w' := by
  have hmm := @run_makeMap Tryz.prog
  go_enter Tryz.func53, Tryz.ntmps53
  go_wp2
  go_loopw [16] (fun v16 wr => v16 = .int .i64 0 ∧ Aside0 (Below w.heap.size w wr)) (fun _ _ => 0)
  case atStart => exact ⟨rfl, ⟨below_alloc (Below.refl _ _) _⟩⟩
  case round =>
    obtain ⟨rfl, HB⟩ := hrel
    go_wp2
    refine bodyPost_ret (results_tmp2 rfl _ _ _) rfl ?_
    exact ⟨rfl, HB.out⟩
set_option maxRecDepth 100000 in
theorem badRule_nil (w : World) (m : Int) (f g : Value) :
    Calls Tryz.prog 57 #[.slice none 0 0, .int .i64 m, f, g] w fun e w' => e = .returned (.tuple #[.int .i64 0, .bool false]) ∧ Below w.heap.size w w' := by
  have hmm := @run_makeMap Tryz.prog
  go_enter Tryz.func57, Tryz.ntmps57
  go_wp2
  go_loopw [16] (fun v16 wr => v16 = .int .i64 0 ∧ Aside0 (Below w.heap.size w wr)) (fun _ _ => 0)
  case atStart => exact ⟨rfl, ⟨below_alloc (Below.refl _ _) _⟩⟩
  case round =>
    obtain ⟨rfl, HB⟩ := hrel
    go_wp2
    refine bodyPost_ret (results_tmp2 rfl _ _ _) rfl ?_
    exact ⟨rfl, HB.out⟩
set_option maxRecDepth 100000 in
theorem eqRoom_nil (w : World) (f : Value) :
    Calls Tryz.prog 85 #[.slice none 0 0, .slice none 0 0, f] w fun e w' => e = .returned (.bool true) ∧ Below w.heap.size w w' := by
  go_enter Tryz.func85, Tryz.ntmps85
  go_wp2
  go_loopw [17] (fun v17 wr => v17 = .int .i64 0 ∧ Aside0 (Below w.heap.size w wr)) (fun _ _ => 0)
  case atStart => exact ⟨rfl, ⟨Below.refl _ _⟩⟩
  case round =>
    obtain ⟨rfl, HB⟩ := hrel
    go_wp2
    go_ret
    exact ⟨rfl, HB.out⟩
set_option maxRecDepth 100000 in
theorem cloneRoom_nil (w : World) :
    Calls Tryz.prog 73 #[.slice none 0 0] w fun e w' => e = .returned (.slice none 0 0) ∧ Below w.heap.size w w' := by
  have he := fun W => Lib.run_eql_slice_nil (P := Tryz.prog) W _ _ none 0 0 0 0 Tryz.underlying24
  go_enter Tryz.func73, Tryz.ntmps73
  go_wp2
  go_ret
  exact ⟨rfl, Below.refl _ _⟩
set_option maxRecDepth 100000 in
theorem eqRow_nil (w : World) (f : Value) :
    Calls Tryz.prog 87 #[.slice none 0 0, .slice none 0 0, f] w fun e w' => e = .returned (.bool true) ∧ Below w.heap.size w w' := by
  go_enter Tryz.func87, Tryz.ntmps87
  go_wp2
  go_loopw [17] (fun v17 wr => v17 = .int .i64 0 ∧ Aside0 (Below w.heap.size w wr)) (fun _ _ => 0)
  case atStart => exact ⟨rfl, ⟨Below.refl _ _⟩⟩
  case round =>
    obtain ⟨rfl, HB⟩ := hrel
    go_wp2
    go_ret
    exact ⟨rfl, HB.out⟩
set_option maxRecDepth 100000 in
theorem cloneRow_nil (w : World) :
    Calls Tryz.prog 138 #[.slice none 0 0] w fun e w' => e = .returned (.slice none 0 0) ∧ Below w.heap.size w w' := by
  have he := fun W => Lib.run_eql_slice_nil (P := Tryz.prog) W _ _ none 0 0 0 0 Tryz.underlying25
  go_enter Tryz.func138, Tryz.ntmps138
  go_wp2
  go_ret
  exact ⟨rfl, Below.refl _ _⟩
set_option maxRecDepth 100000 in
theorem eqPerson_nil (w : World) (f : Value) :
    Calls Tryz.prog 89 #[.slice none 0 0, .slice none 0 0, f] w fun e w' => e = .returned (.bool true) ∧ Below w.heap.size w w' := by
  go_enter Tryz.func89, Tryz.ntmps89
  go_wp2
  go_loopw [17] (fun v17 wr => v17 = .int .i64 0 ∧ Aside0 (Below w.heap.size w wr)) (fun _ _ => 0)
  case atStart => exact ⟨rfl, ⟨Below.refl _ _⟩⟩
  case round =>
    obtain ⟨rfl, HB⟩ := hrel
    go_wp2
    go_ret
    exact ⟨rfl, HB.out⟩
set_option maxRecDepth 100000 in
theorem clonePerson_nil (w : World) :
    Calls Tryz.prog 76 #[.slice none 0 0] w fun e w' => e = .returned (.slice none 0 0) ∧ Below w.heap.size w w' := by
  have he := fun W => Lib.run_eql_slice_nil (P := Tryz.prog) W _ _ none 0 0 0 0 Tryz.underlying26
  go_enter Tryz.func76, Tryz.ntmps76
  go_wp2
  go_ret
  exact ⟨rfl, Below.refl _ _⟩
set_option maxRecDepth 100000 in
theorem eqClass_nil (w : World) (f : Value) :
    Calls Tryz.prog 91 #[.slice none 0 0, .slice none 0 0, f] w fun e w' => e = .returned (.bool true) ∧ Below w.heap.size w w' := by
  go_enter Tryz.func91, Tryz.ntmps91
  go_wp2
  go_loopw [17] (fun v17 wr => v17 = .int .i64 0 ∧ Aside0 (Below w.heap.size w wr)) (fun _ _ => 0)
  case atStart => exact ⟨rfl, ⟨Below.refl _ _⟩⟩
  case round =>
    obtain ⟨rfl, HB⟩ := hrel
    go_wp2
    go_ret
    exact ⟨rfl, HB.out⟩
set_option maxRecDepth 100000 in
theorem cloneClass_nil (w : World) :
    Calls Tryz.prog 77 #[.slice none 0 0] w fun e w' => e = .returned (.slice none 0 0) ∧ Below w.heap.size w w' := by
  have he := fun W => Lib.run_eql_slice_nil (P := Tryz.prog) W _ _ none 0 0 0 0 Tryz.underlying27
  go_enter Tryz.func77, Tryz.ntmps77
  go_wp2
  go_ret
  exact ⟨rfl, Below.refl _ _⟩
set_option maxRecDepth 100000 in
theorem eqCourse_nil (w : World) (f : Value) :
    Calls Tryz.prog 93 #[.slice none 0 0, .slice none 0 0, f] w fun e w' => e = .returned (.bool true) ∧ Below w.heap.size w w' := by
  go_enter Tryz.func93, Tryz.ntmps93
  go_wp2
  go_loopw [17] (fun v17 wr => v17 = .int .i64 0 ∧ Aside0 (Below w.heap.size w wr)) (fun _ _ => 0)
  case atStart => exact ⟨rfl, ⟨Below.refl _ _⟩⟩
  case round =>
    obtain ⟨rfl, HB⟩ := hrel
    go_wp2
    go_ret
    exact ⟨rfl, HB.out⟩
set_option maxRecDepth 100000 in
theorem cloneCourse_nil (w : World) :
    Calls Tryz.prog 81 #[.slice none 0 0] w fun e w' => e = .returned (.slice none 0 0) ∧ Below w.heap.size w w' := by
  have he := fun W => Lib.run_eql_slice_nil (P := Tryz.prog) W _ _ none 0 0 0 0 Tryz.underlying28
  go_enter Tryz.func81, Tryz.ntmps81
  go_wp2
  go_ret
  exact ⟨rfl, Below.refl _ _⟩
set_option maxRecDepth 100000 in
theorem eqStudent_nil (w : World) (f : Value) :
    Calls Tryz.prog 95 #[.slice none 0 0, .slice none 0 0, f] w fun e w' => e = .returned (.bool true) ∧ Below w.heap.size w w' := by
  go_enter Tryz.func95, Tryz.ntmps95
  go_wp2
  go_loopw [17] (fun v17 wr => v17 = .int .i64 0 ∧ Aside0 (Below w.heap.size w wr)) (fun _ _ => 0)
  case atStart => exact ⟨rfl, ⟨Below.refl _ _⟩⟩
  case round =>
    obtain ⟨rfl, HB⟩ := hrel
    go_wp2
    go_ret
    exact ⟨rfl, HB.out⟩
set_option maxRecDepth 100000 in
theorem cloneStudent_nil (w : World) :
    Calls Tryz.prog 83 #[.slice none 0 0] w fun e w' => e = .returned (.slice none 0 0) ∧ Below w.heap.size w w' := by
  have he := fun W => Lib.run_eql_slice_nil (P := Tryz.prog) W _ _ none 0 0 0 0 Tryz.underlying29
  go_enter Tryz.func83, Tryz.ntmps83
  go_wp2
  go_ret
  exact ⟨rfl, Below.refl _ _⟩
set_option maxRecDepth 100000 in
theorem eqRule_nil (w : World) (f : Value) :
    Calls Tryz.prog 97 #[.slice none 0 0, .slice none 0 0, f] w fun e w' => e = .returned (.bool true) ∧ Below w.heap.size w w' := by
  go_enter Tryz.func97, Tryz.ntmps97
  go_wp2
  go_loopw [17] (fun v17 wr => v17 = .int .i64 0 ∧ Aside0 (Below w.heap.size w wr)) (fun _ _ => 0)
  case atStart => exact ⟨rfl, ⟨Below.refl _ _⟩⟩
  case round =>
    obtain ⟨rfl, HB⟩ := hrel
    go_wp2
    go_ret
    exact ⟨rfl, HB.out⟩
set_option maxRecDepth 100000 in
theorem cloneRule_nil (w : World) :
    Calls Tryz.prog 84 #[.slice none 0 0] w fun e w' => e = .returned (.slice none 0 0) ∧ Below w.heap.size w w' := by
  have he := fun W => Lib.run_eql_slice_nil (P := Tryz.prog) W _ _ none 0 0 0 0 Tryz.underlying30
  go_enter Tryz.func84, Tryz.ntmps84
  go_wp2
  go_ret
  exact ⟨rfl, Below.refl _ _⟩
set_option maxRecDepth 100000 in
theorem indexClass_nil (w : World) (f : Value) :
    Calls Tryz.prog 151 #[.slice none 0 0, f] w fun e w' => e = .returned (.int .i64 (-1)) ∧ Below w.heap.size w w' := by
  go_enter Tryz.func151, Tryz.ntmps151
  go_wp2
  go_loopw [8] (fun v8 wr => v8 = .int .i64 0 ∧ Aside0 (Below w.heap.size w wr)) (fun _ _ => 0)
  case atStart => exact ⟨rfl, ⟨Below.refl _ _⟩⟩
  case round =>
    obtain ⟨rfl, HB⟩ := hrel
    go_wp2
    go_ret
    exact ⟨rfl, HB.out⟩
set_option maxRecDepth 100000 in
theorem rows_nil (w : World) :
    Calls Tryz.prog 75 #[.slice none 0 0] w fun e w' => e = .returned (.slice none 0 0) ∧ Below w.heap.size w w' := by
  go_enter Tryz.func75, Tryz.ntmps75
  go_wp2_with (first | (go_at_call 138; refine (cloneRow_nil _).mono ?_; rintro e w1 ⟨rfl, hB⟩; have HB := Aside0.mk hB; clear hB))
  go_loopw [9] (fun v9 wr => v9 = .int .i64 0 ∧ Aside0 (Below w.heap.size w wr)) (fun _ _ => 0)
  case atStart => exact ⟨rfl, HB⟩
  case round =>
    clear HB
    obtain ⟨rfl, HB⟩ := hrel
    go_wp2
    go_ret
    exact ⟨rfl, HB.out⟩
end Go.Proofs.YtineikfhfmiidaaGreat.Pm
namespace Go.Proofs.YtineikfhfmiidaaGreat.Mw
open Go Go.RowKit Go.Maps
/-- A kind of maps: the types' numbers, how keys and elements are written, and what they read as. -/
structure MK (P : Program) (κ ε : Type) where
  k : TypeId
  e : TypeId
  t : TypeId
  ek : κ → Value
  lk : κ → Lit
  ok : κ → Prop
  ev : ε → Value
  le : ε → DataW Unit
  oke : ε → Prop
  z : ε
  R : Value → Option (DataW Unit × List MemPlace)
  K : Keyed P k
  ht : P.underlying t = some (.map k e)
  hkey : ∀ a, ok a → keyOf P k (ek a) = some (lk a)
  hinj : ∀ a b, ok a → ok b → lk a = lk b → a = b
  hz : ∀ w, (zeroValue e).run P w = .ok (ev z) w
  hzo : oke z
  hR : ∀ x, oke x → R (ev x) = some (le x, [])
  hRi : ∀ v d ps x, R v = some (d, ps) → d = le x → v = ev x
/-- A function with one place turned. -/
def upd {κ ε : Type} [DecidableEq κ] (f : κ → Option ε) (a : κ) (x : Option ε) : κ → Option ε := fun b => if b = a then x else f b
section
variable {P : Program} {κ ε : Type}
theorem ownsMap_tight {P : Program} {k : TypeId} {R : Value → Option (DataW Unit × List MemPlace)} {w : World} {b n : Nat} {D : DataW Unit} (h : w.ownsMap P k R b n D) : w.ownsMap P k R b (Maps.size D) D := by
  obtain ⟨es, clock, hb, F, _, hD⟩ := h
  refine ⟨es, clock, hb, F, ?_, hD⟩
  rw [hD]
  simp [Maps.size, length_sorted]
/-- Block b is a map with m entries; at key a it holds f a. -/
def MIs (M : MK P κ ε) (w : World) (b m : Nat) (f : κ → Option ε) : Prop :=
  ∃ D : DataW Unit, w.ownsMap P M.k M.R b m D ∧ Maps.size D = m ∧ ∀ a, M.ok a → Maps.has D (M.lk a) = (f a).isSome ∧ D.atKey (M.lk a) (M.le M.z) = M.le ((f a).getD M.z)
variable {M : MK P κ ε} {w w' : World} {b m : Nat} {f : κ → Option ε}
theorem MIs.made (M : MK P κ ε) (w : World) : MIs M (w.alloc (.map #[] 0)) w.heap.size 0 (fun _ => none) :=
  ⟨.map [], World.ownsMap_made w P M.k M.R, rfl, fun _ _ => ⟨rfl, rfl⟩⟩
theorem MIs.kept (h : MIs M w b m f) {row : Option Nat} (hg : w.grownBy w' row) (hne : some b ≠ row) : MIs M w' b m f := by
  obtain ⟨D, ho, hs, hf⟩ := h
  exact ⟨D, ho.kept hg hne, hs, hf⟩
theorem MIs.alloc (h : MIs M w b m f) (o : Obj) : MIs M (w.alloc o) b m f := h.kept (World.grownBy_alloc w o none) (by simp)
theorem MIs.lt (h : MIs M w b m f) : b < w.heap.size := by
  obtain ⟨D, ho, _⟩ := h
  exact ho.lt
theorem MIs.below {B : Nat} (h : MIs M w b m f) (hb : Below B w w') (hB : b < B) : MIs M w' b m f := by
  obtain ⟨D, ⟨es, clock, hbk, F, hsz, hD⟩, hs, hf⟩ := h
  exact ⟨D, ⟨es, clock, (hb.block b hB).trans hbk, F, hsz, hD⟩, hs, hf⟩
/-- A look-up. -/
theorem MIs.run_look (h : MIs M w b m f) (a : κ) (ha : M.ok a) : (Instr.lookup M.t (.map (some b)) (M.ek a) false).run P w = .ok (M.ev ((f a).getD M.z)) w := by
  obtain ⟨D, ho, hs, hf⟩ := h
  obtain ⟨v, ps, hrun, hv⟩ := ho.lookup M.K M.ht (M.hz w) (M.hR _ M.hzo) (M.hkey a ha)
  rw [(hf a ha).2] at hv
  rw [hrun, M.hRi _ _ _ _ hv rfl]
/-- A store. -/
theorem MIs.run_put [DecidableEq κ] (h : MIs M w b m f) (hn : m < maxLen) (a : κ) (ha : M.ok a) (x : ε) (hx : M.oke x) :
    ∃ w', (Instr.mapUpdate M.t (.map (some b)) (M.ek a) (M.ev x)).run P w = .ok () w' ∧ MIs M w' b (if (f a).isSome then m else m + 1) (upd f a (some x)) ∧ w.grownBy w' (some b) := by
  obtain ⟨D, ho, hs, hf⟩ := h
  obtain ⟨w', hrun, ho', ht⟩ := ho.store M.K M.ht hn (M.hkey a ha) (M.hR x hx)
  have hk := M.K.key (M.hkey a ha)
  have hsz : Maps.size (D.put (M.lk a) (M.le x)) = if (f a).isSome then m else m + 1 := by rw [size_put (ho.tidy M.K), (hf a ha).1, hs]
  refine ⟨w', hrun, ⟨_, hsz ▸ ownsMap_tight ho', hsz, fun c hc => ?_⟩, ht.grown⟩
  · unfold upd
    by_cases hca : c = a
    · subst hca
      rw [if_pos rfl, has_put_same ho.isMap hk, atKey_put_same ho.isMap hk]
      exact ⟨rfl, rfl⟩
    · rw [if_neg hca]
      have hne : M.lk c ≠ M.lk a := fun e => hca (M.hinj c a hc ha e)
      rw [has_put_other hne, atKey_put_other hne]
      exact hf c hc
end
section
variable {P : Program} {κ ε : Type} {M : MK P κ ε} {w : World} {b m : Nat} {f : κ → Option ε} {ops : Array Oper} {rest : List Oper} {o : Oper} {a : Act} {Q : Exit → Act → World → Prop}
theorem wl_put [DecidableEq κ] (h : MIs M w b m f) (hg : o.guard = none) (mo x v : Operand) (hop : o.op = Op.mapUpdate M.t mo x v) (hm : a.eval mo = .map (some b)) (hn : m < maxLen) (c : κ) (hc : M.ok c) (hx : a.eval x = M.ek c) (y : ε) (hy : M.oke y) (hv : a.eval v = M.ev y)
    (hK : ∀ w', MIs M w' b (if (f c).isSome then m else m + 1) (upd f c (some y)) → w.grownBy w' (some b) → wpList P ops Q rest (a.put o.dst undef) w') : wpList P ops Q (o :: rest) a w := by
  refine wpList_plain hg fun K' hK' => ?_
  obtain ⟨w', hrun, r1, r2⟩ := h.run_put hn c hc y hy
  unfold Oper.wp
  simp [execOp, hop, hm, hx, hv, hrun, Result.andThen]
  exact hK' _ _ (hK w' r1 r2)
end
/-- Maps from numbers (int) to bools. -/
def intBool (P : Program) (k e t : TypeId) (hk : P.underlying k = some (.int .i64)) (he : P.underlying e = some .bool) (ht : P.underlying t = some (.map k e)) (hz : ∀ w, (zeroValue e).run P w = .ok (.bool false) w) : MK P Int Bool where
  k := k
  e := e
  t := t
  ek := .int .i64
  lk := .int .i64
  ok := fun a => (Lit.int .i64 a).wf = true
  ev := .bool
  le := fun x => .lit (.bool x)
  oke := fun _ => True
  z := false
  R := plainElem P e
  K := int_keyed hk
  ht := ht
  hkey := fun a ha => keyOf_int_mk hk ha
  hinj := fun a b _ _ h => by injection h
  hz := hz
  hzo := trivial
  hR := fun x _ => plainElem_bool he x
  hRi := fun v d ps x h hd => by
    subst hd
    unfold plainElem at h
    rw [he] at h
    cases v <;> simp at h
    rw [h.1]
/-- Maps from strings to bools. -/
def strBool (P : Program) (k e t : TypeId) (hk : P.underlying k = some .string) (he : P.underlying e = some .bool) (ht : P.underlying t = some (.map k e)) (hz : ∀ w, (zeroValue e).run P w = .ok (.bool false) w) : MK P ByteArray Bool where
  k := k
  e := e
  t := t
  ek := .string
  lk := fun s => .string s.data.toList
  ok := fun s => s.size ≤ maxLen
  ev := .bool
  le := fun x => .lit (.bool x)
  oke := fun _ => True
  z := false
  R := plainElem P e
  K := string_keyed hk
  ht := ht
  hkey := fun a ha => Go.WideMaps.keyOf_string_mk hk ha
  hinj := fun a b _ _ h => by
    injection h with h
    cases a; cases b
    congr 1
    exact Array.toList_inj.1 h
  hz := hz
  hzo := trivial
  hR := fun x _ => plainElem_bool he x
  hRi := fun v d ps x h hd => by
    subst hd
    unfold plainElem at h
    rw [he] at h
    cases v <;> simp at h
    rw [h.1]
theorem wf64 {a : Int} (h0 : -9223372036854775808 ≤ a) (h1 : a ≤ 9223372036854775807) : (Lit.int .i64 a).wf = true := Go.WalkArith.wf_i64 ⟨h0, h1⟩
end Go.Proofs.YtineikfhfmiidaaGreat.Mw
namespace Go.Proofs.YtineikfhfmiidaaGreat.Pm
open Go Go.RowKit Go.Proofs.YtineikfhfmiidaaGreat.Gp Go.Proofs.YtineikfhfmiidaaGreat.Mw Go.Proofs.YtineikfhfmiidaaGreatW.PrintWords Go.Proofs.YtineikfhfmiidaaGreatW.PrintLast Go.Proofs.YtineikfhfmiidaaGreatW.PrintMore
set_option linter.unusedVariables false
set_option linter.unusedSimpArgs false
theorem within_eq (a b c : Int) : many_within.f a b c = some (decide (b ≤ a) && decide (a ≤ c)) := by
  unfold many_within.f
  by_cases h : b ≤ a <;> simp [h]
theorem from_eq (a b c : Int) : horariumref16_from.f a b c = some (decide (b ≤ a) && decide (a ≤ c)) := by
  unfold horariumref16_from.f
  by_cases h : b ≤ a <;> simp [h]
def kp (k : Int) : Bool := decide (1 ≤ k) && decide (k ≤ 14)
def km (k : Int) : Bool := decide (21 ≤ k) && decide (k ≤ 24)
theorem kp15 (k : Int) : horariumref15_Known.f k = some (kp k) := by
  unfold horariumref15_Known.f kp
  by_cases h : 1 ≤ k <;> simp [h]
theorem kp_pair (k : Int) : pair_Known.f k = some (kp k) := by
  unfold pair_Known.f kp
  by_cases h : 1 ≤ k <;> simp [h]
theorem km16 (k : Int) : horariumref16_Known.f k = some (km k) := by
  unfold horariumref16_Known.f km
  by_cases h : 21 ≤ k <;> simp [h]
theorem km_many (k : Int) : many_Known.f k = some (km k) := by
  unfold many_Known.f km
  by_cases h : 21 ≤ k <;> simp [h]
theorem nums_some (k a b : Int) : ∃ r, many_Right.f 5 k a b = some r := by
  unfold many_Right.f
  simp only [many_Right.j0, within_eq, Option.bind_some]
  repeat' split
  all_goals exact ⟨_, rfl⟩
/-- May these be a rule's numbers? -/
def numsOk (k a b : Int) : Bool := (many_Right.f 5 k a b).getD false
theorem nums_many (k a b : Int) : many_Right.f 5 k a b = some (numsOk k a b) := by
  obtain ⟨r, hr⟩ := nums_some k a b
  unfold numsOk
  rw [hr]
  rfl
theorem nums16 (k a b : Int) : horariumref16_Right.f 5 k a b = some (numsOk k a b) := by
  rw [← nums_many]
  unfold many_Right.f horariumref16_Right.f
  simp only [many_Right.j0, horariumref16_Right.j0, within_eq, from_eq, kp15, kp, Option.bind_some]
/-- Are numbers from 0 below n, each once? -/
def dstB (n : Int) (cs : List Int) : Bool := cs.all (fun x => decide (0 ≤ x) && decide (x < n)) && decide cs.Nodup
structure DstTo (n : Int) (cs : List Int) (i : Nat) : Prop where
  inn : ∀ x ∈ cs.take i, 0 ≤ x ∧ x < n
  one : (cs.take i).Nodup
theorem take1 (l : List Int) (i : Nat) (hi : i < l.length) : l.take (i + 1) = l.take i ++ [l.getD i 0] := by
  rw [List.take_add_one, List.getD_eq_getElem?_getD, List.getElem?_eq_getElem hi]
  rfl
theorem memD (l : List Int) (i : Nat) (hi : i < l.length) : l.getD i 0 ∈ l := by
  rw [List.getD_eq_getElem?_getD, List.getElem?_eq_getElem hi]
  exact List.getElem_mem hi
theorem DstTo.start (n : Int) (cs : List Int) : DstTo n cs 0 := ⟨by simp, by simp⟩
theorem DstTo.step {n : Int} {cs : List Int} {i : Nat} (h : DstTo n cs i) (hi : i < cs.length) (h0 : 0 ≤ cs.getD i 0) (h1 : cs.getD i 0 < n) (h2 : cs.getD i 0 ∉ cs.take i) : DstTo n cs (i + 1) := by
  refine ⟨fun x hx => ?_, ?_⟩
  · rw [take1 cs i hi] at hx
    rcases List.mem_append.1 hx with h3 | h3
    · exact h.inn x h3
    · rw [List.mem_singleton.1 h3]; exact ⟨h0, h1⟩
  · rw [take1 cs i hi, List.nodup_append]
    refine ⟨h.one, by simp, fun y hy z hz => ?_⟩
    rw [List.mem_singleton] at hz
    rintro rfl
    exact h2 (hz ▸ hy)
theorem DstTo.over {n : Int} {cs : List Int} (h : DstTo n cs cs.length) : dstB n cs = true := by
  have h1 := h.inn
  have h2 := h.one
  rw [List.take_length] at h1 h2
  unfold dstB
  rw [Bool.and_eq_true, List.all_eq_true]
  exact ⟨fun x hx => by rw [Bool.and_eq_true]; exact ⟨decide_eq_true (h1 x hx).1, decide_eq_true (h1 x hx).2⟩, decide_eq_true h2⟩
theorem dst_bad {n : Int} {cs : List Int} {i : Nat} (hi : i < cs.length) (h : cs.getD i 0 < 0 ∨ n ≤ cs.getD i 0 ∨ cs.getD i 0 ∈ cs.take i) : dstB n cs = false := by
  cases hd : dstB n cs with
  | false => rfl
  | true =>
    unfold dstB at hd
    rw [Bool.and_eq_true, List.all_eq_true, decide_eq_true_iff] at hd
    obtain ⟨h1, h2⟩ := hd
    have h3 := h1 _ (memD cs i hi)
    rw [Bool.and_eq_true, decide_eq_true_iff, decide_eq_true_iff] at h3
    rcases h with h | h | h
    · omega
    · omega
    · exfalso
      have h4 : (cs.take (i + 1)).Nodup := h2.sublist (List.take_sublist _ _)
      rw [take1 cs i hi, List.nodup_append] at h4
      exact h4.2.2 _ h _ (List.mem_singleton.2 rfl) rfl
/-- What the map of the numbers seen holds. -/
def SeenI (cs : List Int) (i : Nat) (f : Int → Option Bool) : Prop := ∀ x, f x = if x ∈ cs.take i then some true else none
theorem SeenI.start (cs : List Int) : SeenI cs 0 (fun _ => none) := fun x => by simp
theorem SeenI.step {cs : List Int} {i : Nat} {f : Int → Option Bool} (h : SeenI cs i f) (hi : i < cs.length) : SeenI cs (i + 1) (upd f (cs.getD i 0) (some true)) := by
  intro x
  unfold upd
  rw [take1 cs i hi]
  by_cases e : x = cs.getD i 0
  · rw [if_pos e, if_pos (List.mem_append_right _ (List.mem_singleton.2 e))]
  · rw [if_neg e, h x]
    by_cases hm : x ∈ cs.take i
    · rw [if_pos hm, if_pos (List.mem_append_left _ hm)]
    · rw [if_neg hm, if_neg (fun h2 => ?_)]
      rcases List.mem_append.1 h2 with h3 | h3
      · exact hm h3
      · exact e (List.mem_singleton.1 h3)
theorem zeroB (w : World) : (zeroValue 4).run Tryz.prog w = .ok (.bool false) w := by kernel_rfl
noncomputable def MIB : MK Tryz.prog Int Bool := intBool Tryz.prog 3 4 157 Tryz.underlying3 Tryz.underlying4 Tryz.underlying157 zeroB
theorem int_cell {w : World} {A : Option Addr} {l : List Int} (hC : (Kd.int .i64).C w A l.length l) {i : Nat} {x : Int} (hi : i < l.length) (hx : x = l.getD i 0) : ∃ ad, A = some ad ∧ w.cell? (ad.add i) = some (.int .i64 x) := by
  obtain ⟨ad', e, hcell⟩ := Kd.at_int hC (i : Int) (by omega) (by omega)
  refine ⟨ad', e, ?_⟩
  rw [Int.toNat_natCast] at hcell
  rw [hcell, hx]
  unfold rd
  rw [Int.toNat_natCast]
set_option maxRecDepth 100000 in
set_option maxHeartbeats 1000000 in
theorem distinct_is (w : World) (A : Option Addr) (m c : Nat) (cs : List Int) (n : Int) (hm : cs.length = m) (hC : (Kd.int .i64).C w A cs.length cs) (hc : m ≤ c) (hl : m ≤ 400) (hn : n ≤ 9223372036854775807) :
    Calls Tryz.prog 120 #[.slice A m c, .int .i64 n] w fun e w' => e = .returned (.bool (dstB n cs)) ∧ Below w.heap.size w w' := by
  have HC := Aside0.mk hC
  have HM := Aside0.mk hm
  clear hC hm
  have hmm := @run_makeMap Tryz.prog
  go_enter Tryz.func120, Tryz.ntmps120
  go_wp2
  go_loopw [11] (fun v11 wr => ∃ (i : Nat) (f : Int → Option Bool) (s : Nat), i ≤ m ∧ v11 = .int .i64 i ∧ Aside0 (DstTo n cs i) ∧ Aside0 (SeenI cs i f) ∧ Aside0 (s ≤ i) ∧ Aside0 (MIs MIB wr w.heap.size s f) ∧ Aside0 (Below w.heap.size w wr)) (fun v11 _ => m - (intOf v11).toNat)
  case atStart => exact ⟨0, fun _ => none, 0, Nat.zero_le _, rfl, ⟨DstTo.start _ _⟩, ⟨SeenI.start _⟩, ⟨Nat.le_refl _⟩, ⟨MIs.made MIB w⟩, ⟨below_alloc (Below.refl _ _) _⟩⟩
  case round =>
    clear hmm
    obtain ⟨i, f, s, hi, rfl, HD, HF, HS, HMp, HB⟩ := hrel
    by_cases him : i < m
    · have hic : i < cs.length := by have := HM.out; omega
      obtain ⟨x, hx⟩ : ∃ x, x = cs.getD i 0 := ⟨_, rfl⟩
      obtain ⟨ad, rfl, hcell⟩ := int_cell (Kd.C_below HC.out HB.out) hic hx
      have him2 : (i : Int) < (m : Int) := by omega
      have HX := Aside0.mk (And.intro hx hic)
      clear hx hic
      by_cases h0 : x < 0
      · have HR := Aside0.mk (dst_bad (n := n) HX.out.2 (Or.inl (by rw [← HX.out.1]; exact h0)))
        go_wp2
        go_ret
        rw [HR.out]
        exact ⟨rfl, HB.out⟩
      · have h0' : decide (x < 0) = false := decide_eq_false h0
        by_cases h1 : n ≤ x
        · have HR := Aside0.mk (dst_bad (n := n) HX.out.2 (Or.inr (Or.inl (by rw [← HX.out.1]; exact h1))))
          go_wp2
          go_ret
          rw [HR.out]
          exact ⟨rfl, HB.out⟩
        · have h1' : decide (n ≤ x) = false := decide_eq_false h1
          have hok : MIB.ok x := wf64 (by omega) (by omega)
          have HOK := Aside0.mk hok
          clear hok
          by_cases h2 : x ∈ cs.take i
          · have HR := Aside0.mk (dst_bad (n := n) HX.out.2 (Or.inr (Or.inr (by rw [← HX.out.1]; exact h2))))
            have hfx : f x = some true := by rw [HF.out x, if_pos h2]
            have hlook : (Instr.lookup 157 (.map (some w.heap.size)) (.int .i64 x) false).run Tryz.prog wr = .ok (.bool true) wr := by
              have := HMp.out.run_look x HOK.out
              rw [hfx] at this
              exact this
            clear hfx h2
            go_wp2
            go_ret
            rw [HR.out]
            exact ⟨rfl, HB.out⟩
          · have hfx : f x = none := by rw [HF.out x, if_neg h2]
            have hlook : (Instr.lookup 157 (.map (some w.heap.size)) (.int .i64 x) false).run Tryz.prog wr = .ok (.bool false) wr := by
              have := HMp.out.run_look x HOK.out
              rw [hfx] at this
              exact this
            have HD2 := Aside0.mk (HD.out.step HX.out.2 (by rw [← HX.out.1]; omega) (by rw [← HX.out.1]; omega) (by rw [← HX.out.1]; exact h2))
            have HF2 := Aside0.mk (HF.out.step HX.out.2)
            rw [← HX.out.1] at HF2
            have HFx := Aside0.mk hfx
            clear hfx h2
            go_wp2_with (first
              | (at_mapUpdate; refine wl_put HMp.out rfl _ _ _ rfl rfl (by have := HS.out; unfold maxLen; omega) x HOK.out rfl true trivial rfl ?_; intro w2 hM2 hg2))
            rw [HFx.out] at hM2
            exact ⟨⟨i + 1, _, s + 1, by omega, by go_num, HD2, HF2, ⟨by have := HS.out; omega⟩, ⟨hM2⟩, ⟨HB.out.grown hg2 HB.out.size (fun q e => by cases e; exact Nat.le_refl _)⟩⟩, by simp [intOf]; omega⟩
    · obtain rfl : i = m := by omega
      have HR := Aside0.mk (show dstB n cs = true from DstTo.over (by rw [HM.out]; exact HD.out))
      go_wp2
      go_ret
      rw [HR.out]
      exact ⟨rfl, HB.out⟩
/-- May a rule be, among n classes? -/
def ruleOk (n k : Int) (cs : List Int) (a b : Int) (hard : Bool) (cost : Int) : Bool :=
  (kp k || km k) && numsOk k a b && decide (2 ≤ cs.length) && decide (cs.length ≤ 12) && dstB n cs && (if hard then decide (cost = 0) else decide (1 ≤ cost) && decide (cost ≤ 1000))
theorem cost_eq (x : Int) : problem_cost.f x = some (decide (0 ≤ x) && decide (x ≤ 1000)) := by
  unfold problem_cost.f
  by_cases h : 0 ≤ x <;> simp [h]
/-- A block of the call's own with these cells. -/
structure PBox (w wr : World) (g : Nat) (t : TypeId) (cs : Array Value) : Prop where
  blk : wr.heap[g]? = some (.cells cs t (0, 0))
  bel : Below w.heap.size w wr
  ge : w.heap.size ≤ g
theorem PBox.below {w wr w1 : World} {g : Nat} {t : TypeId} {cs : Array Value} (h : PBox w wr g t cs) (hB : Below wr.heap.size wr w1) : PBox w w1 g t cs :=
  ⟨(hB.block g (Array.getElem?_eq_some_iff.1 h.blk).1).trans h.blk, below_then h.bel h.bel.size hB, h.ge⟩
theorem PBox.cell {w wr : World} {g : Nat} {t : TypeId} {cs : Array Value} (h : PBox w wr g t cs) (i : Nat) {v : Value} (hv : cs[i]? = some v) : wr.cell? ⟨g, i, none⟩ = some v := (blk_cell h.blk i).trans hv
end Go.Proofs.YtineikfhfmiidaaGreat.Pm
namespace Go.Proofs.YtineikfhfmiidaaGreat.Pm
open Go Go.RowKit Go.Proofs.YtineikfhfmiidaaGreat.Gp Go.Proofs.YtineikfhfmiidaaGreatW.PrintWords Go.Proofs.YtineikfhfmiidaaGreatW.PrintLast Go.Proofs.YtineikfhfmiidaaGreatW.PrintMore
set_option linter.unusedVariables false
set_option linter.unusedSimpArgs false
theorem rd_nat (l : List Int) (n : Nat) : rd l (n : Int) = l.getD n 0 := by unfold rd; rw [Int.toNat_natCast]
theorem wr1 {i : Nat} (h : i < 9223372036854775807) : wrap64 ((i : Int) + 1) = ((i + 1 : Nat) : Int) := by unfold wrap64; omega
theorem among_ev (l : List Int) (x : Int) (hl : l.length ≤ 9223372036854775807) : ∀ d i : Nat, d + i = l.length → (∀ j, j < i → l.getD j 0 ≠ x) → Ev (fun k => horariumref14_Has.l0 k l x (i : Int)) (l.contains x) := by
  intro d
  induction d with
  | zero =>
    intro i hi hj
    have : l.contains x = false := by
      rw [List.contains_eq_mem]
      refine decide_eq_false (fun hm => ?_)
      obtain ⟨j, h1, h2⟩ := List.getElem_of_mem hm
      refine hj j (by omega) ?_
      rw [List.getD_eq_getElem?_getD, List.getElem?_eq_getElem h1]
      exact h2
    rw [this]
    refine Ev.step (f := fun _ => some false) (fun k => ?_) (Ev.now false)
    simp only [horariumref14_Has.l0]
    rw [if_neg (by omega)]
  | succ d ih =>
    intro i hi hj
    by_cases he : l.getD i 0 = x
    · have : l.contains x = true := by
        rw [List.contains_eq_mem]
        refine decide_eq_true ?_
        rw [← he, List.getD_eq_getElem?_getD, List.getElem?_eq_getElem (by omega : i < l.length)]
        exact List.getElem_mem _
      rw [this]
      refine Ev.step (f := fun _ => some true) (fun k => ?_) (Ev.now true)
      simp only [horariumref14_Has.l0]
      rw [if_pos (by omega), if_pos (by omega), rd_nat, if_pos he]
    · refine Ev.step (fun k => ?_) (ih (i + 1) (by omega) (fun j h => ?_))
      · simp only [horariumref14_Has.l0]
        rw [if_pos (by omega), if_pos (by omega), rd_nat, if_neg he, wr1 (by omega)]
      · by_cases e : j = i
        · rw [e]; exact he
        · exact hj j (by omega)
theorem among_f (l : List Int) (x : Int) (hl : l.length ≤ 9223372036854775807) : Ev (fun k => horariumref14_Has.f k l x) (l.contains x) := among_ev l x hl l.length 0 rfl (fun j hj => by omega)
theorem HasL_is (w : World) (A : Option Addr) (m c : Nat) (l : List Int) (x : Int) (hm : l.length = m) (hC : (Kd.int .i64).C w A l.length l) (hc : m ≤ c) :
    Calls Tryz.prog 158 #[.slice A m c, .int .i64 x] w fun e w' => e = .returned (.bool (l.contains x)) ∧ Drawn0 w w' := by
  subst hm
  obtain ⟨k, hk⟩ := (among_f l x (Kd.C_max hC)).rounds
  exact horariumref14_Has.calls k A c l x _ w hC hc hk
theorem HasL_q (w : World) (A : Option Addr) (m c : Nat) (l : List Int) (x : Int) (r : Bool) (hm : l.length = m) (hC : (Kd.int .i64).C w A l.length l) (hc : m ≤ c) (hr : l.contains x = r) (k : Nat) :
    Calls Tryz.prog 158 #[.slice A m c, .int .i64 x] (w.drewN k) fun e w' => e = .returned (.bool r) ∧ ∃ q, w' = (w.drewN k).drewN q := by
  subst hr
  refine (HasL_is (w.drewN k) A m c l x hm (Kd.C_drewN hC k) hc).mono ?_
  rintro e w' ⟨he, hD⟩
  exact ⟨he, hD.out⟩
theorem infoI : (Tryz.prog.info? 3).map (fun i => (i.zero, i.size, i.bytes)) = some (some (.int .i64 0), 1, 8) := by kernel_rfl
theorem cutT (A : Option Addr) (n c i : Nat) (hi : i ≤ n) (hc : n ≤ c) (W : World) : (Instr.slice 51 (.slice A n c) none (some (.int .i64 (i : Int))) none).run Tryz.prog W = .ok (.slice A i c) W := by
  obtain ⟨i0, hi0, hz0, hz1, hz2⟩ := info_parts infoI
  exact cut_to 51 3 .i64 Tryz.underlying51 hi0 A n c (i : Int) (by omega) (by omega) hc W
end Go.Proofs.YtineikfhfmiidaaGreat.Pm
namespace Go.Proofs.YtineikfhfmiidaaGreat.Pm
open Go Go.RowKit Go.Proofs.YtineikfhfmiidaaGreatW.PrintWords Go.Proofs.YtineikfhfmiidaaGreatW.PrintLast Go.Proofs.YtineikfhfmiidaaGreatW.PrintMore
set_option linter.unusedVariables false
set_option linter.unusedSimpArgs false
def gridB (g0 g1 g2 : Int) : Bool := decide (1 ≤ g0 ∧ g0 ≤ 20 ∧ 1 ≤ g1 ∧ g1 ≤ 7 ∧ 1 ≤ g2 ∧ g2 ≤ 96)
/-- May a time be in a grid? -/
def whenB (g0 g1 g2 : Int) (W D : Nat) (st ln : Int) : Bool :=
  gridB g0 g1 g2 && decide (0 ≤ st ∧ st ≤ 96 ∧ 1 ≤ ln ∧ ln ≤ 96 ∧ st + ln ≤ g2 ∧ W ≠ 0 ∧ W < 2 ^ g0.toNat ∧ D ≠ 0 ∧ D < 2 ^ g1.toNat)
theorem qwithin (a b c : Int) : Gq.when_within.f a b c = some (decide (b ≤ a) && decide (a ≤ c)) := by
  unfold Gq.when_within.f
  by_cases h : b ≤ a <;> simp [h]
theorem qgrid (g0 g1 g2 : Int) : Gq.when_RightGrid.f g0 g1 g2 = some (gridB g0 g1 g2) := by
  have e : gridB g0 g1 g2 = ((decide (1 ≤ g0) && decide (g0 ≤ 20)) && ((decide (1 ≤ g1) && decide (g1 ≤ 7)) && (decide (1 ≤ g2) && decide (g2 ≤ 96)))) := by
    unfold gridB
    simp only [Bool.decide_and, Bool.and_assoc]
  rw [e]
  unfold Gq.when_RightGrid.f
  simp only [qwithin, Option.bind_some]
  cases (decide (1 ≤ g0) && decide (g0 ≤ 20)) <;> cases (decide (1 ≤ g1) && decide (g1 ≤ 7)) <;> rfl
theorem rgrid (g0 g1 g2 : Int) : Gp.horariumref09_RightGrid.f g0 g1 g2 = some (gridB g0 g1 g2) := by
  unfold Gp.horariumref09_RightGrid.f gridB
  by_cases h0 : g0 ≥ 1
  · rw [if_pos h0]
    by_cases h1 : g0 ≤ 20
    · rw [if_pos h1]
      by_cases h2 : g1 ≥ 1
      · rw [if_pos h2]
        by_cases h3 : g1 ≤ 7
        · rw [if_pos h3]
          by_cases h4 : g2 ≥ 1
          · rw [if_pos h4]
            congr 1
            exact decide_eq_decide.2 (by omega)
          · rw [if_neg h4, decide_eq_false (by omega)]
        · rw [if_neg h3, decide_eq_false (by omega)]
      · rw [if_neg h2, decide_eq_false (by omega)]
    · rw [if_neg h1, decide_eq_false (by omega)]
  · rw [if_neg h0, decide_eq_false (by omega)]
theorem qtame (a b st ln : Int) : Gq.when_tame.f a b st ln = some (decide (0 ≤ st ∧ st ≤ 96 ∧ 1 ≤ ln ∧ ln ≤ 96)) := by
  have e : decide (0 ≤ st ∧ st ≤ 96 ∧ 1 ≤ ln ∧ ln ≤ 96) = ((decide (0 ≤ st) && decide (st ≤ 96)) && (decide (1 ≤ ln) && decide (ln ≤ 96))) := by
    simp only [Bool.decide_and, Bool.and_assoc]
  rw [e]
  unfold Gq.when_tame.f
  simp only [qwithin, Option.bind_some]
  cases (decide (0 ≤ st) && decide (st ≤ 96)) <;> rfl
theorem u64w {i : Nat} (h : i < 64) : IntKind.u64.wrap (i : Int) = (i : Int) := by
  unfold IntKind.wrap
  simp [IntKind.bits, IntKind.signed]
  omega
theorem div_pow (N i : Nat) : ((N : Int) / 2 ^ i) = ((N / 2 ^ i : Nat) : Int) := by
  rw [Int.natCast_ediv, Int.natCast_pow]
  rfl
theorem bit_nat (N i : Nat) (hi : i < 32) : Gp.horariumref09_bit.f (N : Int) (i : Int) = some (N.testBit i) := by
  unfold Gp.horariumref09_bit.f
  rw [u64w (by omega), if_pos (by omega)]
  unfold shr
  rw [Int.toNat_natCast, Nat.min_eq_left (show i ≤ IntKind.u32.bits by show i ≤ 32; omega), div_pow, Nat.testBit_eq_decide_div_mod_eq]
  have h : Int.tmod ((N / 2 ^ i : Nat) : Int) 2 = ((N / 2 ^ i % 2 : Nat) : Int) := (Int.ofNat_tmod _ _).symm
  rw [h]
  congr 1
  by_cases h2 : N / 2 ^ i % 2 = 1
  · rw [h2]; rfl
  · rw [decide_eq_false h2]
    have h3 : N / 2 ^ i % 2 = 0 := by omega
    rw [h3]
    rfl
theorem lt_pow_iff (N g n : Nat) (hN : N < 2 ^ n) : N < 2 ^ g ↔ ∀ j, j < n → g ≤ j → N.testBit j = false := by
  constructor
  · intro h j _ hj
    exact Nat.testBit_lt_two_pow (Nat.lt_of_lt_of_le h (Nat.pow_le_pow_right (by omega) hj))
  · intro h
    refine Nat.lt_pow_two_of_testBit N (fun j hj => ?_)
    by_cases hjn : j < n
    · exact h j hjn hj
    · exact Nat.testBit_lt_two_pow (Nat.lt_of_lt_of_le hN (Nat.pow_le_pow_right (by omega) (by omega)))
/-- No bit from place i on, of n places, is one. -/
def noBit (N i n : Nat) : Bool := (List.range n).all (fun j => decide (j < i) || !N.testBit j)
theorem noBit_iff (N i n : Nat) : noBit N i n = true ↔ ∀ j, j < n → i ≤ j → N.testBit j = false := by
  unfold noBit
  rw [List.all_eq_true]
  constructor
  · intro h j hj hij
    have := h j (List.mem_range.2 hj)
    rw [decide_eq_false (show ¬ j < i by omega), Bool.false_or] at this
    simpa using this
  · intro h j hj
    by_cases hij : j < i
    · rw [decide_eq_true hij, Bool.true_or]
    · rw [h j (List.mem_range.1 hj) (by omega)]
      simp
theorem noBit_end (N n : Nat) : noBit N n n = true := (noBit_iff N n n).2 (fun j h1 h2 => by omega)
theorem noBit_hit {N i n : Nat} (hi : i < n) (hb : N.testBit i = true) : noBit N i n = false := by
  cases h : noBit N i n with
  | false => rfl
  | true =>
    have := (noBit_iff N i n).1 h i hi (Nat.le_refl _)
    rw [hb] at this
    cases this
theorem noBit_skip {N i n : Nat} (hb : N.testBit i = false) : noBit N i n = noBit N (i + 1) n := by
  rw [Bool.eq_iff_iff, noBit_iff, noBit_iff]
  refine ⟨fun h j h1 h2 => h j h1 (by omega), fun h j h1 h2 => ?_⟩
  by_cases e : j = i
  · rw [e]; exact hb
  · exact h j h1 (by omega)
theorem l1_ev (a b c : Int) (D : Nat) (hD : D < 4294967296) : ∀ d i : Nat, d + i = 8 → Ev (fun k => Gp.horariumref09_Right.l1 k (i : Int) a (D : Int) b c) (noBit D i 8) := by
  intro d
  induction d with
  | zero =>
    intro i hi
    obtain rfl : i = 8 := by omega
    rw [noBit_end]
    refine Ev.step (f := fun _ => some true) (fun k => ?_) (Ev.now _)
    simp only [Gp.horariumref09_Right.l1]
    rw [if_neg (by omega)]
  | succ d ih =>
    intro i hi
    have hm : (D : Int) % 4294967296 = (D : Int) := by omega
    cases hb : D.testBit i with
    | true =>
      rw [noBit_hit (by omega) hb]
      refine Ev.step (f := fun _ => some false) (fun k => ?_) (Ev.now _)
      simp only [Gp.horariumref09_Right.l1]
      rw [if_pos (by omega), hm, bit_nat D i (by omega), hb]
      rfl
    | false =>
      rw [noBit_skip hb]
      refine Ev.step (fun k => ?_) (ih (i + 1) (by omega))
      simp only [Gp.horariumref09_Right.l1]
      rw [if_pos (by omega), hm, bit_nat D i (by omega), hb, wr1 (by omega)]
      rfl
theorem l0_ev (g0 g1 g2 b c : Int) (W D n1 : Nat) (hg1 : g1 = (n1 : Int)) (h8 : n1 ≤ 8) (hD : D < 4294967296) : ∀ d i : Nat, d + i = 32 → Ev (fun k => Gp.horariumref09_Right.l0 k (i : Int) g0 g1 g2 (W : Int) (D : Int) b c) (noBit W i 32 && noBit D n1 8) := by
  intro d
  induction d with
  | zero =>
    intro i hi
    obtain rfl : i = 32 := by omega
    rw [noBit_end, Bool.true_and]
    refine Ev.step (fun k => ?_) (l1_ev (W : Int) b c D hD (8 - n1) n1 (by omega))
    simp only [Gp.horariumref09_Right.l0]
    rw [if_neg (by omega), hg1]
  | succ d ih =>
    intro i hi
    cases hb : W.testBit i with
    | true =>
      rw [noBit_hit (by omega) hb, Bool.false_and]
      refine Ev.step (f := fun _ => some false) (fun k => ?_) (Ev.now _)
      simp only [Gp.horariumref09_Right.l0]
      rw [if_pos (by omega), bit_nat W i (by omega), hb]
      rfl
    | false =>
      rw [noBit_skip hb]
      refine Ev.step (fun k => ?_) (ih (i + 1) (by omega))
      simp only [Gp.horariumref09_Right.l0]
      rw [if_pos (by omega), bit_nat W i (by omega), hb, wr1 (by omega)]
      rfl
/-- The program's answer. -/
theorem qwhen (g0 g1 g2 st ln : Int) (W D : Nat) (hD : D < 256) : Gq.when_Right.f g0 g1 g2 (W : Int) (D : Int) st ln = some (whenB g0 g1 g2 W D st ln) := by
  unfold Gq.when_Right.f whenB
  rw [qgrid, qtame]
  simp only [Option.bind_some]
  cases hg : gridB g0 g1 g2 with
  | false => simp
  | true =>
    have hg' := hg
    unfold gridB at hg'
    rw [decide_eq_true_iff] at hg'
    obtain ⟨n0, rfl⟩ := Int.eq_ofNat_of_zero_le (show 0 ≤ g0 by omega)
    obtain ⟨n1, rfl⟩ := Int.eq_ofNat_of_zero_le (show 0 ≤ g1 by omega)
    by_cases ht : 0 ≤ st ∧ st ≤ 96 ∧ 1 ≤ ln ∧ ln ≤ 96
    · have hw : wrap64 (st + ln) = st + ln := by unfold wrap64; omega
      have hwd : wrap64 (D : Int) = (D : Int) := by unfold wrap64; omega
      rw [decide_eq_true ht, if_pos rfl, if_pos rfl, hw, hwd]
      unfold shr
      rw [Int.toNat_natCast, Int.toNat_natCast, Nat.min_eq_left (show n0 ≤ IntKind.u32.bits by show n0 ≤ 32; omega), Nat.min_eq_left (show n1 ≤ IntKind.i64.bits by show n1 ≤ 64; omega), div_pow, div_pow, Bool.true_and]
      have hW : ((W / 2 ^ n0 : Nat) : Int) = 0 ↔ W < 2 ^ n0 := by
        rw [Int.natCast_eq_zero, Nat.div_eq_zero_iff]
        have : 0 < 2 ^ n0 := Nat.pos_of_ne_zero (by simp)
        omega
      have hDd : ((D / 2 ^ n1 : Nat) : Int) = 0 ↔ D < 2 ^ n1 := by
        rw [Int.natCast_eq_zero, Nat.div_eq_zero_iff]
        have : 0 < 2 ^ n1 := Nat.pos_of_ne_zero (by simp)
        omega
      by_cases h1 : st + ln > g2
      · rw [if_pos h1, decide_eq_false (by omega)]
      · rw [if_neg h1]
        by_cases h2 : (W : Int) = 0
        · rw [if_pos h2, decide_eq_false (by omega)]
        · rw [if_neg h2, if_pos (by omega)]
          by_cases h3 : W < 2 ^ n0
          · rw [if_pos (hW.2 h3)]
            by_cases h4 : (D : Int) = 0
            · rw [if_pos h4, decide_eq_false (by omega)]
            · rw [if_neg h4, if_pos (by omega)]
              congr 1
              by_cases h5 : D < 2 ^ n1
              · rw [hDd.2 h5, decide_eq_true (by omega)]
                rfl
              · rw [decide_eq_false (by omega)]
                have : ¬ ((D / 2 ^ n1 : Nat) : Int) = 0 := fun h => h5 (hDd.1 h)
                simpa using this
          · rw [if_neg (fun h => h3 (hW.1 h)), decide_eq_false (by omega)]
    · rw [decide_eq_false ht, if_pos rfl, if_neg (by decide), decide_eq_false (by omega)]
      rfl
/-- The document's answer. -/
theorem rwhen (g0 g1 g2 st ln : Int) (W D : Nat) (hW : W < 4294967296) (hD : D < 256) (hst : -9223372036854775808 ≤ st ∧ st ≤ 9223372036854775807) (hln : ln ≤ 9223372036854775807) : Ev (fun k => Gp.horariumref09_Right.f k g0 g1 g2 (W : Int) (D : Int) st ln) (whenB g0 g1 g2 W D st ln) := by
  have hj : ∀ b : Bool, b = true → Ev (fun k => Gp.horariumref09_Right.j0 k b g0 g1 g2 (W : Int) (D : Int) st ln) false := by
    rintro b rfl
    refine Ev.step (f := fun _ => some false) (fun k => ?_) (Ev.now _)
    simp only [Gp.horariumref09_Right.j0]
    rfl
  cases hg : gridB g0 g1 g2 with
  | false =>
    have e : whenB g0 g1 g2 W D st ln = false := by unfold whenB; rw [hg, Bool.false_and]
    rw [e]
    refine Ev.congr (fun k => ?_) (hj true rfl)
    unfold Gp.horariumref09_Right.f
    rw [rgrid, hg]
    rfl
  | true =>
    have hg' := hg
    unfold gridB at hg'
    rw [decide_eq_true_iff] at hg'
    obtain ⟨n0, rfl⟩ := Int.eq_ofNat_of_zero_le (show 0 ≤ g0 by omega)
    obtain ⟨n1, rfl⟩ := Int.eq_ofNat_of_zero_le (show 0 ≤ g1 by omega)
    have hf : ∀ k, Gp.horariumref09_Right.f k (n0 : Int) (n1 : Int) g2 (W : Int) (D : Int) st ln = Gp.horariumref09_Right.j0 k (decide ((W : Int) = 0 ∨ (D : Int) = 0 ∨ st < 0 ∨ ln < 1 ∨ st > g2 ∨ ln > g2 - st)) (n0 : Int) (n1 : Int) g2 (W : Int) (D : Int) st ln := by
      intro k
      unfold Gp.horariumref09_Right.f
      rw [rgrid, hg]
      simp only [Option.bind_some, if_true]
      by_cases h1 : (W : Int) = 0
      · rw [if_pos h1, decide_eq_true (Or.inl h1)]
      · rw [if_neg h1]
        by_cases h2 : (D : Int) = 0
        · rw [if_pos h2, decide_eq_true (by omega)]
        · rw [if_neg h2]
          by_cases h3 : st < 0
          · rw [if_pos h3, decide_eq_true (by omega)]
          · rw [if_neg h3]
            by_cases h4 : ln < 1
            · rw [if_pos h4, decide_eq_true (by omega)]
            · rw [if_neg h4]
              by_cases h5 : st > g2
              · rw [if_pos h5, decide_eq_true (by omega)]
              · rw [if_neg h5, show wrap64 (g2 - st) = g2 - st by unfold wrap64; omega]
                congr 1
                refine decide_eq_decide.2 ?_
                omega
    by_cases hbad : (W : Int) = 0 ∨ (D : Int) = 0 ∨ st < 0 ∨ ln < 1 ∨ st > g2 ∨ ln > g2 - st
    · have e : whenB (n0 : Int) (n1 : Int) g2 W D st ln = false := by
        unfold whenB
        rw [hg, Bool.true_and]
        exact decide_eq_false (by omega)
      rw [e]
      exact Ev.congr hf (hj _ (decide_eq_true hbad))
    · have e : whenB (n0 : Int) (n1 : Int) g2 W D st ln = (noBit W n0 32 && noBit D n1 8) := by
        unfold whenB
        rw [hg, Bool.true_and, Int.toNat_natCast, Int.toNat_natCast, Bool.eq_iff_iff, Bool.and_eq_true, noBit_iff, noBit_iff, decide_eq_true_iff]
        rw [← lt_pow_iff W n0 32 (by omega), ← lt_pow_iff D n1 8 (by omega)]
        constructor
        · rintro ⟨_, _, _, _, _, _, h1, _, h2⟩
          exact ⟨h1, h2⟩
        · rintro ⟨h1, h2⟩
          exact ⟨by omega, by omega, by omega, by omega, by omega, by omega, h1, by omega, h2⟩
      rw [e]
      refine Ev.congr hf ?_
      rw [decide_eq_false hbad]
      refine Ev.step (fun k => ?_) (l0_ev (n0 : Int) (n1 : Int) g2 st ln W D n1 rfl (by omega) (by omega) (32 - n0) n0 (by omega))
      simp only [Gp.horariumref09_Right.j0]
      rfl
end Go.Proofs.YtineikfhfmiidaaGreat.Pm
namespace Go.Proofs.YtineikfhfmiidaaGreat.Gp
open Go.RowKit Go.Proofs.YtineikfhfmiidaaGreatW.PrintWords Go.Proofs.YtineikfhfmiidaaGreatW.PrintLast Go.Proofs.YtineikfhfmiidaaGreatW.PrintMore
set_option linter.unusedVariables false
set_option linter.unusedSimpArgs false
def problem_roomName.f (a0_0 : ByteArray) (a0_1 : Int) (a0_2 : Int) (l0_3 : List (S50)) : Option (ByteArray) := some a0_0
set_option maxHeartbeats 8000000 in
set_option maxRecDepth 100000 in
theorem problem_roomName.calls (a0_0 : ByteArray) (a0_1 : Int) (a0_2 : Int) (A0_3 : Option Addr) (c0_3 : Nat) (l0_3 : List (S50)) (r : ByteArray) (w : World) (hr0_3 : Kd.C k50 w A0_3 l0_3.length l0_3) (hc0_3 : l0_3.length ≤ c0_3) (h : problem_roomName.f a0_0 a0_1 a0_2 l0_3 = some r) :
    Calls Tryz.prog 37 #[.agg #[.string a0_0, .int .i64 a0_1, .int .u16 a0_2, .slice A0_3 l0_3.length c0_3]] w fun e w' => e = .returned (.string r) ∧ Below w.heap.size w w' := by
  have hu47 := Tryz.underlying47
  have HR0_3 := Aside0.mk hr0_3
  have HC0_3 := Aside0.mk hc0_3
  clear hr0_3 hc0_3
  have HB := Aside0.mk (Below.refl w.heap.size w)
  have H : (some a0_0) = some r := h
  clear h
  obtain rfl := Option.some.inj H
  go_enter Tryz.func37, Tryz.ntmps37
  go_wp2_with (first | ((with_reducible refine gate_dst (N := 1) rfl ?_); refine box_event ?hg (N := 1) ?hd (cs := #[.string a0_0, .int .i64 a0_1, .int .u16 a0_2, .slice A0_3 l0_3.length c0_3]) (t := 47) ?hr ?_; (case hd => rfl); (case hg => rfl); (case hr => first | (go_simp; done) | (go_simp; rfl)); intro gb123 hg w2 hbox hb; have n0_ := Aside0.mk (below_step (by repeat (first | (with_reducible first | exact HB.out | apply below_alloc | apply pw_below_drewN | apply below_drew1) | exact HB.out)) hb); have n1_ := Aside0.mk (hbox); have n2_ := Aside0.mk ((by rw [hg]; exact (below_size (by repeat (first | (with_reducible first | exact HB.out | apply below_alloc | apply pw_below_drewN | apply below_drew1) | exact HB.out))) : w.heap.size ≤ gb123)); have n3_ := Aside0.mk ((by rw [hg]; exact (below_size (by repeat (first | (with_reducible first | exact HB.out | apply below_alloc | apply pw_below_drewN | apply below_drew1) | exact HB.out))) : w.heap.size ≤ gb123)); clear HB; have HB := n0_; have BK123 := n1_; have GW123 := n2_; have GE123 := n3_; clear n0_ n1_ n2_ n3_; clear hb hbox hg; have hcz3_0 : w2.cell? ⟨gb123, 0, none⟩ = some (.string a0_0) := (blk_cell BK123.out 0).trans rfl; have hcz3_1 : w2.cell? ⟨gb123, 1, none⟩ = some (.int .i64 a0_1) := (blk_cell BK123.out 1).trans rfl; have hcz3_2 : w2.cell? ⟨gb123, 2, none⟩ = some (.int .u16 a0_2) := (blk_cell BK123.out 2).trans rfl; have hcz3_3 : w2.cell? ⟨gb123, 3, none⟩ = some (.slice A0_3 l0_3.length c0_3) := (blk_cell BK123.out 3).trans rfl; have hfz3_0 := blk_frozen BK123.out 0; have hfz3_1 := blk_frozen BK123.out 1; have hfz3_2 := blk_frozen BK123.out 2; have hfz3_3 := blk_frozen BK123.out 3))
  go_ret
  exact ⟨by first | rfl | (simp [errW_none, errW_some] <;> rfl) | (simp [*, errW_none, errW_some] <;> rfl), by repeat (first | (with_reducible first | exact HB.out | apply below_alloc | apply pw_below_drewN | apply below_drew1 | refine below_set ?_ GE123.out) | exact HB.out)⟩
end Go.Proofs.YtineikfhfmiidaaGreat.Gp
namespace Go.Proofs.YtineikfhfmiidaaGreat.Gp
open Go.RowKit Go.Proofs.YtineikfhfmiidaaGreatW.PrintWords Go.Proofs.YtineikfhfmiidaaGreatW.PrintLast Go.Proofs.YtineikfhfmiidaaGreatW.PrintMore
set_option linter.unusedVariables false
set_option linter.unusedSimpArgs false
def problem_personName.f (a0_0 : ByteArray) (l0_1 : List (S50)) : Option (ByteArray) := some a0_0
set_option maxHeartbeats 8000000 in
set_option maxRecDepth 100000 in
theorem problem_personName.calls (a0_0 : ByteArray) (A0_1 : Option Addr) (c0_1 : Nat) (l0_1 : List (S50)) (r : ByteArray) (w : World) (hr0_1 : Kd.C k50 w A0_1 l0_1.length l0_1) (hc0_1 : l0_1.length ≤ c0_1) (h : problem_personName.f a0_0 l0_1 = some r) :
    Calls Tryz.prog 42 #[.agg #[.string a0_0, .slice A0_1 l0_1.length c0_1]] w fun e w' => e = .returned (.string r) ∧ Below w.heap.size w w' := by
  have hu53 := Tryz.underlying53
  have HR0_1 := Aside0.mk hr0_1
  have HC0_1 := Aside0.mk hc0_1
  clear hr0_1 hc0_1
  have HB := Aside0.mk (Below.refl w.heap.size w)
  have H : (some a0_0) = some r := h
  clear h
  obtain rfl := Option.some.inj H
  go_enter Tryz.func42, Tryz.ntmps42
  go_wp2_with (first | ((with_reducible refine gate_dst (N := 1) rfl ?_); refine box_event ?hg (N := 1) ?hd (cs := #[.string a0_0, .slice A0_1 l0_1.length c0_1]) (t := 53) ?hr ?_; (case hd => rfl); (case hg => rfl); (case hr => first | (go_simp; done) | (go_simp; rfl)); intro gb129 hg w2 hbox hb; have n0_ := Aside0.mk (below_step (by repeat (first | (with_reducible first | exact HB.out | apply below_alloc | apply pw_below_drewN | apply below_drew1) | exact HB.out)) hb); have n1_ := Aside0.mk (hbox); have n2_ := Aside0.mk ((by rw [hg]; exact (below_size (by repeat (first | (with_reducible first | exact HB.out | apply below_alloc | apply pw_below_drewN | apply below_drew1) | exact HB.out))) : w.heap.size ≤ gb129)); have n3_ := Aside0.mk ((by rw [hg]; exact (below_size (by repeat (first | (with_reducible first | exact HB.out | apply below_alloc | apply pw_below_drewN | apply below_drew1) | exact HB.out))) : w.heap.size ≤ gb129)); clear HB; have HB := n0_; have BK129 := n1_; have GW129 := n2_; have GE129 := n3_; clear n0_ n1_ n2_ n3_; clear hb hbox hg; have hcz3_0 : w2.cell? ⟨gb129, 0, none⟩ = some (.string a0_0) := (blk_cell BK129.out 0).trans rfl; have hcz3_1 : w2.cell? ⟨gb129, 1, none⟩ = some (.slice A0_1 l0_1.length c0_1) := (blk_cell BK129.out 1).trans rfl; have hfz3_0 := blk_frozen BK129.out 0; have hfz3_1 := blk_frozen BK129.out 1))
  go_ret
  exact ⟨by first | rfl | (simp [errW_none, errW_some] <;> rfl) | (simp [*, errW_none, errW_some] <;> rfl), by repeat (first | (with_reducible first | exact HB.out | apply below_alloc | apply pw_below_drewN | apply below_drew1 | refine below_set ?_ GE129.out) | exact HB.out)⟩
end Go.Proofs.YtineikfhfmiidaaGreat.Gp
namespace Go.Proofs.YtineikfhfmiidaaGreat.Gp
open Go.RowKit Go.Proofs.YtineikfhfmiidaaGreatW.PrintWords Go.Proofs.YtineikfhfmiidaaGreatW.PrintLast Go.Proofs.YtineikfhfmiidaaGreatW.PrintMore
set_option linter.unusedVariables false
set_option linter.unusedSimpArgs false
def problem_className.f (a0_0 : ByteArray) (a0_1 : Int) (a0_2 : Int) (l0_3 : List Int) (l0_4 : List (S117)) (l0_5 : List (S120)) (a0_6 : Int) : Option (ByteArray) := some a0_0
set_option maxHeartbeats 8000000 in
set_option maxRecDepth 100000 in
theorem problem_className.calls (a0_0 : ByteArray) (a0_1 : Int) (a0_2 : Int) (A0_3 : Option Addr) (c0_3 : Nat) (l0_3 : List Int) (A0_4 : Option Addr) (c0_4 : Nat) (l0_4 : List (S117)) (A0_5 : Option Addr) (c0_5 : Nat) (l0_5 : List (S120)) (a0_6 : Int) (r : ByteArray) (w : World) (hr0_3 : Kd.C (Kd.int .i64) w A0_3 l0_3.length l0_3) (hc0_3 : l0_3.length ≤ c0_3) (hr0_4 : Kd.C k117 w A0_4 l0_4.length l0_4) (hc0_4 : l0_4.length ≤ c0_4) (hr0_5 : Kd.C k120 w A0_5 l0_5.length l0_5) (hc0_5 : l0_5.length ≤ c0_5) (h : problem_className.f a0_0 a0_1 a0_2 l0_3 l0_4 l0_5 a0_6 = some r) :
    Calls Tryz.prog 46 #[.agg #[.string a0_0, .int .i64 a0_1, .int .u16 a0_2, .slice A0_3 l0_3.length c0_3, .slice A0_4 l0_4.length c0_4, .slice A0_5 l0_5.length c0_5, .int .i64 a0_6]] w fun e w' => e = .returned (.string r) ∧ Below w.heap.size w w' := by
  have hu58 := Tryz.underlying58
  have HR0_3 := Aside0.mk hr0_3
  have HC0_3 := Aside0.mk hc0_3
  clear hr0_3 hc0_3
  have HR0_4 := Aside0.mk hr0_4
  have HC0_4 := Aside0.mk hc0_4
  clear hr0_4 hc0_4
  have HR0_5 := Aside0.mk hr0_5
  have HC0_5 := Aside0.mk hc0_5
  clear hr0_5 hc0_5
  have HB := Aside0.mk (Below.refl w.heap.size w)
  have H : (some a0_0) = some r := h
  clear h
  obtain rfl := Option.some.inj H
  go_enter Tryz.func46, Tryz.ntmps46
  go_wp2_with (first | ((with_reducible refine gate_dst (N := 1) rfl ?_); refine box_event ?hg (N := 1) ?hd (cs := #[.string a0_0, .int .i64 a0_1, .int .u16 a0_2, .slice A0_3 l0_3.length c0_3, .slice A0_4 l0_4.length c0_4, .slice A0_5 l0_5.length c0_5, .int .i64 a0_6]) (t := 58) ?hr ?_; (case hd => rfl); (case hg => rfl); (case hr => first | (go_simp; done) | (go_simp; rfl)); intro gb130 hg w2 hbox hb; have n0_ := Aside0.mk (below_step (by repeat (first | (with_reducible first | exact HB.out | apply below_alloc | apply pw_below_drewN | apply below_drew1) | exact HB.out)) hb); have n1_ := Aside0.mk (hbox); have n2_ := Aside0.mk ((by rw [hg]; exact (below_size (by repeat (first | (with_reducible first | exact HB.out | apply below_alloc | apply pw_below_drewN | apply below_drew1) | exact HB.out))) : w.heap.size ≤ gb130)); have n3_ := Aside0.mk ((by rw [hg]; exact (below_size (by repeat (first | (with_reducible first | exact HB.out | apply below_alloc | apply pw_below_drewN | apply below_drew1) | exact HB.out))) : w.heap.size ≤ gb130)); clear HB; have HB := n0_; have BK130 := n1_; have GW130 := n2_; have GE130 := n3_; clear n0_ n1_ n2_ n3_; clear hb hbox hg; have hcz3_0 : w2.cell? ⟨gb130, 0, none⟩ = some (.string a0_0) := (blk_cell BK130.out 0).trans rfl; have hcz3_1 : w2.cell? ⟨gb130, 1, none⟩ = some (.int .i64 a0_1) := (blk_cell BK130.out 1).trans rfl; have hcz3_2 : w2.cell? ⟨gb130, 2, none⟩ = some (.int .u16 a0_2) := (blk_cell BK130.out 2).trans rfl; have hcz3_3 : w2.cell? ⟨gb130, 3, none⟩ = some (.slice A0_3 l0_3.length c0_3) := (blk_cell BK130.out 3).trans rfl; have hcz3_4 : w2.cell? ⟨gb130, 4, none⟩ = some (.slice A0_4 l0_4.length c0_4) := (blk_cell BK130.out 4).trans rfl; have hcz3_5 : w2.cell? ⟨gb130, 5, none⟩ = some (.slice A0_5 l0_5.length c0_5) := (blk_cell BK130.out 5).trans rfl; have hcz3_6 : w2.cell? ⟨gb130, 6, none⟩ = some (.int .i64 a0_6) := (blk_cell BK130.out 6).trans rfl; have hfz3_0 := blk_frozen BK130.out 0; have hfz3_1 := blk_frozen BK130.out 1; have hfz3_2 := blk_frozen BK130.out 2; have hfz3_3 := blk_frozen BK130.out 3; have hfz3_4 := blk_frozen BK130.out 4; have hfz3_5 := blk_frozen BK130.out 5; have hfz3_6 := blk_frozen BK130.out 6))
  go_ret
  exact ⟨by first | rfl | (simp [errW_none, errW_some] <;> rfl) | (simp [*, errW_none, errW_some] <;> rfl), by repeat (first | (with_reducible first | exact HB.out | apply below_alloc | apply pw_below_drewN | apply below_drew1 | refine below_set ?_ GE130.out) | exact HB.out)⟩
end Go.Proofs.YtineikfhfmiidaaGreat.Gp
namespace Go.Proofs.YtineikfhfmiidaaGreat.Gp
open Go.RowKit Go.Proofs.YtineikfhfmiidaaGreatW.PrintWords Go.Proofs.YtineikfhfmiidaaGreatW.PrintLast Go.Proofs.YtineikfhfmiidaaGreatW.PrintMore
set_option linter.unusedVariables false
set_option linter.unusedSimpArgs false
def problem_courseName.f (a0_0 : ByteArray) (l0_1 : List (S63)) : Option (ByteArray) := some a0_0
set_option maxHeartbeats 8000000 in
set_option maxRecDepth 100000 in
theorem problem_courseName.calls (a0_0 : ByteArray) (A0_1 : Option Addr) (c0_1 : Nat) (l0_1 : List (S63)) (r : ByteArray) (w : World) (hr0_1 : Kd.C k63 w A0_1 l0_1.length l0_1) (hc0_1 : l0_1.length ≤ c0_1) (h : problem_courseName.f a0_0 l0_1 = some r) :
    Calls Tryz.prog 50 #[.agg #[.string a0_0, .slice A0_1 l0_1.length c0_1]] w fun e w' => e = .returned (.string r) ∧ Below w.heap.size w w' := by
  have hu61 := Tryz.underlying61
  have HR0_1 := Aside0.mk hr0_1
  have HC0_1 := Aside0.mk hc0_1
  clear hr0_1 hc0_1
  have HB := Aside0.mk (Below.refl w.heap.size w)
  have H : (some a0_0) = some r := h
  clear h
  obtain rfl := Option.some.inj H
  go_enter Tryz.func50, Tryz.ntmps50
  go_wp2_with (first | ((with_reducible refine gate_dst (N := 1) rfl ?_); refine box_event ?hg (N := 1) ?hd (cs := #[.string a0_0, .slice A0_1 l0_1.length c0_1]) (t := 61) ?hr ?_; (case hd => rfl); (case hg => rfl); (case hr => first | (go_simp; done) | (go_simp; rfl)); intro gb131 hg w2 hbox hb; have n0_ := Aside0.mk (below_step (by repeat (first | (with_reducible first | exact HB.out | apply below_alloc | apply pw_below_drewN | apply below_drew1) | exact HB.out)) hb); have n1_ := Aside0.mk (hbox); have n2_ := Aside0.mk ((by rw [hg]; exact (below_size (by repeat (first | (with_reducible first | exact HB.out | apply below_alloc | apply pw_below_drewN | apply below_drew1) | exact HB.out))) : w.heap.size ≤ gb131)); have n3_ := Aside0.mk ((by rw [hg]; exact (below_size (by repeat (first | (with_reducible first | exact HB.out | apply below_alloc | apply pw_below_drewN | apply below_drew1) | exact HB.out))) : w.heap.size ≤ gb131)); clear HB; have HB := n0_; have BK131 := n1_; have GW131 := n2_; have GE131 := n3_; clear n0_ n1_ n2_ n3_; clear hb hbox hg; have hcz3_0 : w2.cell? ⟨gb131, 0, none⟩ = some (.string a0_0) := (blk_cell BK131.out 0).trans rfl; have hcz3_1 : w2.cell? ⟨gb131, 1, none⟩ = some (.slice A0_1 l0_1.length c0_1) := (blk_cell BK131.out 1).trans rfl; have hfz3_0 := blk_frozen BK131.out 0; have hfz3_1 := blk_frozen BK131.out 1))
  go_ret
  exact ⟨by first | rfl | (simp [errW_none, errW_some] <;> rfl) | (simp [*, errW_none, errW_some] <;> rfl), by repeat (first | (with_reducible first | exact HB.out | apply below_alloc | apply pw_below_drewN | apply below_drew1 | refine below_set ?_ GE131.out) | exact HB.out)⟩
end Go.Proofs.YtineikfhfmiidaaGreat.Gp
namespace Go.Proofs.YtineikfhfmiidaaGreat.Gp
open Go.RowKit Go.Proofs.YtineikfhfmiidaaGreatW.PrintWords Go.Proofs.YtineikfhfmiidaaGreatW.PrintLast Go.Proofs.YtineikfhfmiidaaGreatW.PrintMore
set_option linter.unusedVariables false
set_option linter.unusedSimpArgs false
end Go.Proofs.YtineikfhfmiidaaGreat.Gp
namespace Go.Proofs.YtineikfhfmiidaaGreat.Gp
open Go.RowKit Go.Proofs.YtineikfhfmiidaaGreatW.PrintWords Go.Proofs.YtineikfhfmiidaaGreatW.PrintLast Go.Proofs.YtineikfhfmiidaaGreatW.PrintMore
set_option linter.unusedVariables false
set_option linter.unusedSimpArgs false
end Go.Proofs.YtineikfhfmiidaaGreat.Gp
namespace Go.Proofs.YtineikfhfmiidaaGreat.Gp
open Go.RowKit Go.Proofs.YtineikfhfmiidaaGreatW.PrintWords Go.Proofs.YtineikfhfmiidaaGreatW.PrintLast Go.Proofs.YtineikfhfmiidaaGreatW.PrintMore
set_option linter.unusedVariables false
set_option linter.unusedSimpArgs false
end Go.Proofs.YtineikfhfmiidaaGreat.Gp
namespace Go.Proofs.YtineikfhfmiidaaGreat.Gp
open Go.RowKit Go.Proofs.YtineikfhfmiidaaGreatW.PrintWords Go.Proofs.YtineikfhfmiidaaGreatW.PrintLast Go.Proofs.YtineikfhfmiidaaGreatW.PrintMore
set_option linter.unusedVariables false
set_option linter.unusedSimpArgs false
end Go.Proofs.YtineikfhfmiidaaGreat.Gp
namespace Go.Proofs.YtineikfhfmiidaaGreat.Pm
open Go Go.RowKit Go.Proofs.YtineikfhfmiidaaGreat.Gp Go.Proofs.YtineikfhfmiidaaGreatW.PrintWords Go.Proofs.YtineikfhfmiidaaGreatW.PrintLast Go.Proofs.YtineikfhfmiidaaGreatW.PrintMore
set_option linter.unusedVariables false
set_option linter.unusedSimpArgs false
/-- A problem, read. -/
structure PV where
  nm : ByteArray
  g0 : Int
  g1 : Int
  g2 : Int
  rooms : List S47
  walk : List (List Int)
  persons : List S53
  classes : List S58
  courses : List S61
  students : List S66
  rules : List S69
  w0 : Int
  w1 : Int
  w2 : Int
  w3 : Int
/-- Where its rows lie. -/
structure PA where
  A4 : Option Addr
  c4 : Nat
  A5 : Option Addr
  c5 : Nat
  A6 : Option Addr
  c6 : Nat
  A7 : Option Addr
  c7 : Nat
  A8 : Option Addr
  c8 : Nat
  A9 : Option Addr
  c9 : Nat
  A10 : Option Addr
  c10 : Nat
/-- Its cells. -/
def pcs (p : PV) (a : PA) : Array Value := #[.string p.nm, .int .i64 p.g0, .int .i64 p.g1, .int .i64 p.g2, .slice a.A4 p.rooms.length a.c4, .slice a.A5 p.walk.length a.c5, .slice a.A6 p.persons.length a.c6, .slice a.A7 p.classes.length a.c7, .slice a.A8 p.courses.length a.c8, .slice a.A9 p.students.length a.c9, .slice a.A10 p.rules.length a.c10, .int .i64 p.w0, .int .i64 p.w1, .int .i64 p.w2, .int .i64 p.w3]
structure PRd (w : World) (p : PV) (a : PA) : Prop where
  r4 : Kd.C k47 w a.A4 p.rooms.length p.rooms
  l4 : p.rooms.length ≤ a.c4
  r5 : Kd.C (Kd.slice 3 (Kd.int .i64)) w a.A5 p.walk.length p.walk
  l5 : p.walk.length ≤ a.c5
  r6 : Kd.C k53 w a.A6 p.persons.length p.persons
  l6 : p.persons.length ≤ a.c6
  r7 : Kd.C k58 w a.A7 p.classes.length p.classes
  l7 : p.classes.length ≤ a.c7
  r8 : Kd.C k61 w a.A8 p.courses.length p.courses
  l8 : p.courses.length ≤ a.c8
  r9 : Kd.C k66 w a.A9 p.students.length p.students
  l9 : p.students.length ≤ a.c9
  r10 : Kd.C k69 w a.A10 p.rules.length p.rules
  l10 : p.rules.length ≤ a.c10
theorem PRd.below {w w' : World} {p : PV} {a : PA} (h : PRd w p a) (hB : Below w.heap.size w w') : PRd w' p a :=
  ⟨Kd.C_below h.r4 hB, h.l4, Kd.C_below h.r5 hB, h.l5, Kd.C_below h.r6 hB, h.l6, Kd.C_below h.r7 hB, h.l7, Kd.C_below h.r8 hB, h.l8, Kd.C_below h.r9 hB, h.l9, Kd.C_below h.r10 hB, h.l10⟩
end Go.Proofs.YtineikfhfmiidaaGreat.Pm
namespace Go.Proofs.YtineikfhfmiidaaGreat.Pm
open Go Go.RowKit Go.Proofs.YtineikfhfmiidaaGreat.Gp Go.Proofs.YtineikfhfmiidaaGreatW.PrintWords Go.Proofs.YtineikfhfmiidaaGreatW.PrintLast Go.Proofs.YtineikfhfmiidaaGreatW.PrintMore
set_option linter.unusedVariables false
set_option linter.unusedSimpArgs false
theorem cl_get {α : Type} {d : Kd α} {w : World} {A : Option Addr} {n : Nat} {xs : List α} (h : d.C w A n xs) {i : Nat} {x : α} (hx : xs[i]? = some x) : ∃ ad cs, A = some ad ∧ d.K w x cs ∧ ∀ j u, cs[j]? = some u → w.cell? (ad.add (i * d.sz + j)) = some u := by
  have hi : i < xs.length := (List.getElem?_eq_some_iff.1 hx).1
  obtain ⟨ad, e, hc⟩ := h.2.2 (by have := h.1; omega)
  obtain ⟨c, _, hK, hcell⟩ := hc i x hx
  exact ⟨ad, c, e, hK, hcell⟩
theorem elRoom {w : World} {A : Option Addr} {n : Nat} {xs : List S47} (h : Kd.C k47 w A n xs) {i : Nat} {x : S47} (hx : xs[i]? = some x) :
    ∃ (ad : Addr) (B3 : Option Addr) (d3 : Nat), A = some ad ∧ w.cell? (ad.add (i * 4)) = some (.string x.f0) ∧ w.cell? ⟨(ad.add (i * 4)).block, (ad.add (i * 4)).off + 1, none⟩ = some (.int .i64 x.f1) ∧ w.cell? ⟨(ad.add (i * 4)).block, (ad.add (i * 4)).off + 2, none⟩ = some (.int .u16 x.f2) ∧ w.cell? ⟨(ad.add (i * 4)).block, (ad.add (i * 4)).off + 3, none⟩ = some (.slice B3 x.f3.length d3) ∧ (Kd.C k50 w B3 x.f3.length x.f3 ∧ x.f3.length ≤ d3) := by
  obtain ⟨ad, cs, e, hK, hc⟩ := cl_get h hx
  obtain ⟨B3, d3, rfl, l3, g3⟩ := k47_open hK
  exact ⟨ad, B3, d3, e, hc 0 _ rfl, show w.cell? ((ad.add (i * 4)).add 1) = _ by rw [Deep.add_add]; exact hc 1 _ rfl, show w.cell? ((ad.add (i * 4)).add 2) = _ by rw [Deep.add_add]; exact hc 2 _ rfl, show w.cell? ((ad.add (i * 4)).add 3) = _ by rw [Deep.add_add]; exact hc 3 _ rfl, ⟨g3, l3⟩⟩
theorem blk_then {w wr : World} {b : Nat} {o : Obj} (h : w.heap[b]? = some o) (hB : Below w.heap.size w wr) : wr.heap[b]? = some o := (hB.block b (Array.getElem?_eq_some_iff.1 h).1).trans h
theorem elPerson {w : World} {A : Option Addr} {n : Nat} {xs : List S53} (h : Kd.C k53 w A n xs) {i : Nat} {x : S53} (hx : xs[i]? = some x) :
    ∃ (ad : Addr) (B1 : Option Addr) (d1 : Nat), A = some ad ∧ w.cell? (ad.add (i * 2)) = some (.string x.f0) ∧ w.cell? ⟨(ad.add (i * 2)).block, (ad.add (i * 2)).off + 1, none⟩ = some (.slice B1 x.f1.length d1) ∧ (Kd.C k50 w B1 x.f1.length x.f1 ∧ x.f1.length ≤ d1) := by
  obtain ⟨ad, cs, e, hK, hc⟩ := cl_get h hx
  obtain ⟨B1, d1, rfl, l1, g1⟩ := k53_open hK
  exact ⟨ad, B1, d1, e, hc 0 _ rfl, show w.cell? ((ad.add (i * 2)).add 1) = _ by rw [Deep.add_add]; exact hc 1 _ rfl, ⟨g1, l1⟩⟩
theorem elClass {w : World} {A : Option Addr} {n : Nat} {xs : List S58} (h : Kd.C k58 w A n xs) {i : Nat} {x : S58} (hx : xs[i]? = some x) :
    ∃ (ad : Addr) (B3 : Option Addr) (d3 : Nat) (B4 : Option Addr) (d4 : Nat) (B5 : Option Addr) (d5 : Nat), A = some ad ∧ w.cell? (ad.add (i * 7)) = some (.string x.f0) ∧ w.cell? ⟨(ad.add (i * 7)).block, (ad.add (i * 7)).off + 1, none⟩ = some (.int .i64 x.f1) ∧ w.cell? ⟨(ad.add (i * 7)).block, (ad.add (i * 7)).off + 2, none⟩ = some (.int .u16 x.f2) ∧ w.cell? ⟨(ad.add (i * 7)).block, (ad.add (i * 7)).off + 3, none⟩ = some (.slice B3 x.f3.length d3) ∧ w.cell? ⟨(ad.add (i * 7)).block, (ad.add (i * 7)).off + 4, none⟩ = some (.slice B4 x.f4.length d4) ∧ w.cell? ⟨(ad.add (i * 7)).block, (ad.add (i * 7)).off + 5, none⟩ = some (.slice B5 x.f5.length d5) ∧ w.cell? ⟨(ad.add (i * 7)).block, (ad.add (i * 7)).off + 6, none⟩ = some (.int .i64 x.f6) ∧ (Kd.C (Kd.int .i64) w B3 x.f3.length x.f3 ∧ x.f3.length ≤ d3) ∧ (Kd.C k117 w B4 x.f4.length x.f4 ∧ x.f4.length ≤ d4) ∧ (Kd.C k120 w B5 x.f5.length x.f5 ∧ x.f5.length ≤ d5) := by
  obtain ⟨ad, cs, e, hK, hc⟩ := cl_get h hx
  obtain ⟨B3, d3, B4, d4, B5, d5, rfl, l3, g3, l4, g4, l5, g5⟩ := k58_open hK
  exact ⟨ad, B3, d3, B4, d4, B5, d5, e, hc 0 _ rfl, show w.cell? ((ad.add (i * 7)).add 1) = _ by rw [Deep.add_add]; exact hc 1 _ rfl, show w.cell? ((ad.add (i * 7)).add 2) = _ by rw [Deep.add_add]; exact hc 2 _ rfl, show w.cell? ((ad.add (i * 7)).add 3) = _ by rw [Deep.add_add]; exact hc 3 _ rfl, show w.cell? ((ad.add (i * 7)).add 4) = _ by rw [Deep.add_add]; exact hc 4 _ rfl, show w.cell? ((ad.add (i * 7)).add 5) = _ by rw [Deep.add_add]; exact hc 5 _ rfl, show w.cell? ((ad.add (i * 7)).add 6) = _ by rw [Deep.add_add]; exact hc 6 _ rfl, ⟨g3, l3⟩, ⟨g4, l4⟩, ⟨g5, l5⟩⟩
theorem elCourse {w : World} {A : Option Addr} {n : Nat} {xs : List S61} (h : Kd.C k61 w A n xs) {i : Nat} {x : S61} (hx : xs[i]? = some x) :
    ∃ (ad : Addr) (B1 : Option Addr) (d1 : Nat), A = some ad ∧ w.cell? (ad.add (i * 2)) = some (.string x.f0) ∧ w.cell? ⟨(ad.add (i * 2)).block, (ad.add (i * 2)).off + 1, none⟩ = some (.slice B1 x.f1.length d1) ∧ (Kd.C k63 w B1 x.f1.length x.f1 ∧ x.f1.length ≤ d1) := by
  obtain ⟨ad, cs, e, hK, hc⟩ := cl_get h hx
  obtain ⟨B1, d1, rfl, l1, g1⟩ := k61_open hK
  exact ⟨ad, B1, d1, e, hc 0 _ rfl, show w.cell? ((ad.add (i * 2)).add 1) = _ by rw [Deep.add_add]; exact hc 1 _ rfl, ⟨g1, l1⟩⟩
end Go.Proofs.YtineikfhfmiidaaGreat.Pm
namespace Go.Proofs.YtineikfhfmiidaaGreat.Pm
open Go Go.RowKit Go.Proofs.YtineikfhfmiidaaGreat.Gp Go.Proofs.YtineikfhfmiidaaGreatW.PrintWords Go.Proofs.YtineikfhfmiidaaGreatW.PrintLast Go.Proofs.YtineikfhfmiidaaGreatW.PrintMore
set_option linter.unusedVariables false
set_option linter.unusedSimpArgs false
def whenI (g0 g1 g2 : Int) (x : S50) : Bool := whenB g0 g1 g2 x.f0.toNat x.f1.toNat x.f2 x.f3
/-- Its numbers are of their kinds. -/
structure GoodW (x : S50) : Prop where
  w0 : 0 ≤ x.f0
  w1 : x.f0 < 4294967296
  d0 : 0 ≤ x.f1
  d1 : x.f1 < 256
  s0 : -9223372036854775808 ≤ x.f2
  s1 : x.f2 ≤ 9223372036854775807
  l1 : x.f3 ≤ 9223372036854775807
theorem qwhenI (g0 g1 g2 : Int) (x : S50) (h : GoodW x) : Gq.when_Right.f g0 g1 g2 x.f0 x.f1 x.f2 x.f3 = some (whenI g0 g1 g2 x) := by
  have := qwhen g0 g1 g2 x.f2 x.f3 x.f0.toNat x.f1.toNat (by have := h.d1; have := h.d0; omega)
  rw [Int.toNat_of_nonneg h.w0, Int.toNat_of_nonneg h.d0] at this
  exact this
theorem rwhenI (g0 g1 g2 : Int) (x : S50) (h : GoodW x) : Ev (fun k => Gp.horariumref09_Right.f k g0 g1 g2 x.f0 x.f1 x.f2 x.f3) (whenI g0 g1 g2 x) := by
  have := rwhen g0 g1 g2 x.f2 x.f3 x.f0.toNat x.f1.toNat (by have := h.w1; have := h.w0; omega) (by have := h.d1; have := h.d0; omega) ⟨h.s0, h.s1⟩ h.l1
  rw [Int.toNat_of_nonneg h.w0, Int.toNat_of_nonneg h.d0] at this
  exact this
/-- The place of the first thing of which t holds; -1: there is none. -/
def idxP {α : Type} (t : α → Bool) : List α → Int → Int
  | [], _ => -1
  | x :: l, n => if t x = true then n else idxP t l (n + 1)
theorem idxP_no {α : Type} (t : α → Bool) : ∀ (l : List α) (n : Int), (∀ x, x ∈ l → t x = false) → idxP t l n = -1
  | [], _, _ => rfl
  | x :: l, n, h => by
    unfold idxP
    rw [h x List.mem_cons_self, if_neg (by decide)]
    exact idxP_no t l (n + 1) (fun y hy => h y (List.mem_cons_of_mem _ hy))
theorem idxP_at {α : Type} (t : α → Bool) : ∀ (l : List α) (n : Int) (i : Nat) (x : α), l[i]? = some x → t x = true → (∀ j y, j < i → l[j]? = some y → t y = false) → idxP t l n = n + i
  | [], _, i, x, hx, _, _ => by simp at hx
  | y :: l, n, 0, x, hx, he, _ => by
    simp at hx
    subst hx
    unfold idxP
    rw [if_pos he]
    simp
  | y :: l, n, i + 1, x, hx, he, hn => by
    unfold idxP
    rw [hn 0 y (by omega) (by simp), if_neg (by decide)]
    rw [idxP_at t l (n + 1) i x (by simpa using hx) he (fun j z hj hz => hn (j + 1) z (by omega) (by simpa using hz))]
    omega
theorem idxP_ge {α : Type} (t : α → Bool) : ∀ (l : List α) (n : Int), 0 ≤ n → decide (0 ≤ idxP t l n) = l.any t
  | [], _, _ => rfl
  | x :: l, n, h => by
    unfold idxP
    rw [List.any_cons]
    cases ht : t x with
    | true => rw [if_pos rfl, decide_eq_true h, Bool.true_or]
    | false => rw [if_neg (by decide), idxP_ge t l (n + 1) (by omega), Bool.false_or]
theorem elWhen {w : World} {A : Option Addr} {n : Nat} {xs : List S50} (h : Kd.C k50 w A n xs) {i : Nat} {x : S50} (hx : xs[i]? = some x) :
    ∃ ad : Addr, A = some ad ∧ w.cell? (ad.add (i * 4)) = some (.int .u32 x.f0) ∧ w.cell? ⟨(ad.add (i * 4)).block, (ad.add (i * 4)).off + 1, none⟩ = some (.int .u8 x.f1) ∧ w.cell? ⟨(ad.add (i * 4)).block, (ad.add (i * 4)).off + 2, none⟩ = some (.int .i64 x.f2) ∧ w.cell? ⟨(ad.add (i * 4)).block, (ad.add (i * 4)).off + 3, none⟩ = some (.int .i64 x.f3) := by
  obtain ⟨ad, cs, e, hK, hc⟩ := cl_get h hx
  have hcs : cs = [.int .u32 x.f0, .int .u8 x.f1, .int .i64 x.f2, .int .i64 x.f3] := by
    obtain ⟨c0, r0, rfl, h0, ⟨c1, r1, rfl, h1, ⟨c2, r2, rfl, h2, h3⟩⟩⟩ := hK
    have h0' : c0 = [.int .u32 x.f0] := h0
    have h1' : c1 = [.int .u8 x.f1] := h1
    have h2' : c2 = [.int .i64 x.f2] := h2
    have h3' : r2 = [.int .i64 x.f3] := h3
    subst h0' h1' h2' h3'
    rfl
  subst hcs
  exact ⟨ad, e, hc 0 _ rfl, show w.cell? ((ad.add (i * 4)).add 1) = _ by rw [Deep.add_add]; exact hc 1 _ rfl, show w.cell? ((ad.add (i * 4)).add 2) = _ by rw [Deep.add_add]; exact hc 2 _ rfl, show w.cell? ((ad.add (i * 4)).add 3) = _ by rw [Deep.add_add]; exact hc 3 _ rfl⟩
theorem blk_lt2 {w : World} {b : Nat} {o : Obj} (h : w.heap[b]? = some o) : b < w.heap.size := (Array.getElem?_eq_some_iff.1 h).1
set_option maxRecDepth 100000 in
theorem oddRoom (w : World) (x : S50) (hx : GoodW x) (g0 g1 g2 : Int) (gb : Nat) (tg : TypeId) (hg : w.heap[gb]? = some (.cells #[.int .i64 g0, .int .i64 g1, .int .i64 g2] tg (0, 0))) :
    Calls Tryz.prog 122 #[.agg #[.int .u32 x.f0, .int .u8 x.f1, .int .i64 x.f2, .int .i64 x.f3], .pointer (some ⟨gb, 0, none⟩)] w fun e w' => e = .returned (.bool (!whenI g0 g1 g2 x)) ∧ Below w.heap.size w w' := by
  have HG := Aside0.mk hg
  have HX := Aside0.mk hx
  clear hg hx
  have hu := Tryz.underlying50
  have hu2 := Tryz.underlying23
  go_enter Tryz.func122, Tryz.ntmps122
  go_wp2_with (first
    | ((with_reducible refine gate_dst (N := 2) rfl ?_); refine box_event ?hg (N := 2) ?hd (cs := #[.int .u32 x.f0, .int .u8 x.f1, .int .i64 x.f2, .int .i64 x.f3]) (t := 50) ?hr ?_; (case hd => rfl); (case hg => rfl); (case hr => first | (go_simp; done) | (go_simp; rfl)); intro gx hgx w2 hbox hB; have HB := Aside0.mk hB; have hk0 := pw_cell_below hB ((blk_cell HG.out 0).trans rfl); have hk1 := pw_cell_below hB ((blk_cell HG.out 1).trans rfl); have hk2 := pw_cell_below hB ((blk_cell HG.out 2).trans rfl); have hx0 := (blk_cell hbox 0).trans rfl; have hx1 := (blk_cell hbox 1).trans rfl; have hx2 := (blk_cell hbox 2).trans rfl; have hx3 := (blk_cell hbox 3).trans rfl; clear hbox hgx hB)
    | (go_at_call 123; refine (Gq.when_Right.calls g0 g1 g2 x.f0 x.f1 x.f2 x.f3 _ _ (qwhenI g0 g1 g2 x HX.out)).mono ?_; rintro e w3 ⟨rfl, hB⟩; have HB2 := Aside0.mk (below_then HB.out HB.out.size hB); clear hB))
  go_ret
  exact ⟨rfl, HB2.out⟩
set_option maxRecDepth 100000 in
set_option maxHeartbeats 1000000 in
theorem ixwRoom (w : World) (A : Option Addr) (m c : Nat) (xs : List S50) (hm : xs.length = m) (hC : Kd.C k50 w A xs.length xs) (hgood : ∀ x, x ∈ xs → GoodW x) (g0 g1 g2 : Int) (gb : Nat) (tg : TypeId) (hg : w.heap[gb]? = some (.cells #[.int .i64 g0, .int .i64 g1, .int .i64 g2] tg (0, 0))) :
    Calls Tryz.prog 161 #[.slice A m c, .func (.func 122) #[] #[.pointer (some ⟨gb, 0, none⟩)]] w fun e w' => e = .returned (.int .i64 (idxP (fun x => !whenI g0 g1 g2 x) xs 0)) ∧ Below w.heap.size w w' := by
  have HG := Aside0.mk hg
  have HC := Aside0.mk hC
  have HM := Aside0.mk hm
  have HGo := Aside0.mk hgood
  have hmx := Kd.C_max hC
  rw [hm] at hmx
  clear hg hC hm hgood
  go_enter Tryz.func161, Tryz.ntmps161
  go_wp2
  go_loopw [8] (fun v8 wr => ∃ i : Nat, i ≤ m ∧ v8 = .int .i64 i ∧ Aside0 (∀ j y, j < i → xs[j]? = some y → (!whenI g0 g1 g2 y) = false) ∧ Aside0 (Below w.heap.size w wr)) (fun v8 _ => m - (intOf v8).toNat)
  case atStart => exact ⟨0, Nat.zero_le _, rfl, ⟨fun j y hj => by omega⟩, ⟨Below.refl _ _⟩⟩
  case round =>
    obtain ⟨i, hi, rfl, HN, HB⟩ := hrel
    by_cases him : i < m
    · have him2 : (i : Int) < (m : Int) := by omega
      obtain ⟨x, hx⟩ : ∃ x, xs[i]? = some x := ⟨_, List.getElem?_eq_getElem (by have := HM.out; omega)⟩
      obtain ⟨ad, rfl, hk0, hk1, hk2, hk3⟩ := elWhen (Kd.C_below HC.out HB.out) hx
      have HX := Aside0.mk hx
      have HGx := Aside0.mk (HGo.out x (List.mem_of_getElem? hx))
      clear hx
      cases heq : (!whenI g0 g1 g2 x) with
      | true =>
        have HE := Aside0.mk heq
        clear heq
        go_wp2_with (first
          | (go_at_call 122; refine (oddRoom _ x HGx.out g0 g1 g2 gb tg (blk_then HG.out HB.out)).mono ?_; rintro e w3 ⟨rfl, hB⟩; rw [HE.out]; have HB2 := Aside0.mk (below_then HB.out HB.out.size hB); clear hB))
        go_ret
        rw [idxP_at (fun x => !whenI g0 g1 g2 x) xs 0 i x HX.out HE.out HN.out, Int.zero_add]
        exact ⟨rfl, HB2.out⟩
      | false =>
        have HE := Aside0.mk heq
        clear heq
        go_wp2_with (first
          | (go_at_call 122; refine (oddRoom _ x HGx.out g0 g1 g2 gb tg (blk_then HG.out HB.out)).mono ?_; rintro e w3 ⟨rfl, hB⟩; rw [HE.out]; have HB2 := Aside0.mk (below_then HB.out HB.out.size hB); clear hB))
        exact ⟨⟨i + 1, by omega, by go_num, ⟨fun j y hj hy => by
          by_cases e : j = i
          · subst e
            rw [HX.out] at hy
            cases hy
            exact HE.out
          · exact HN.out j y (by omega) hy⟩, HB2⟩, by simp [intOf]; omega⟩
    · obtain rfl : i = m := by omega
      go_wp2
      go_ret
      rw [idxP_no (fun x => !whenI g0 g1 g2 x) xs 0 (fun x hx => by
        obtain ⟨j, hj, rfl⟩ := List.getElem_of_mem hx
        exact HN.out j _ (by have := HM.out; omega) (List.getElem?_eq_getElem hj))]
      exact ⟨rfl, HB.out⟩
set_option maxRecDepth 100000 in
theorem contRoom (w : World) (A : Option Addr) (m c : Nat) (xs : List S50) (hm : xs.length = m) (hC : Kd.C k50 w A xs.length xs) (hgood : ∀ x, x ∈ xs → GoodW x) (g0 g1 g2 : Int) (gb : Nat) (tg : TypeId) (hg : w.heap[gb]? = some (.cells #[.int .i64 g0, .int .i64 g1, .int .i64 g2] tg (0, 0))) :
    Calls Tryz.prog 124 #[.slice A m c, .func (.func 122) #[] #[.pointer (some ⟨gb, 0, none⟩)]] w fun e w' => e = .returned (.bool (xs.any (fun x => !whenI g0 g1 g2 x))) ∧ Below w.heap.size w w' := by
  have hi := ixwRoom w A m c xs hm hC hgood g0 g1 g2 gb tg hg
  have he := idxP_ge (fun x => !whenI g0 g1 g2 x) xs 0 (Int.le_refl 0)
  rw [← he]
  generalize idxP (fun x => !whenI g0 g1 g2 x) xs 0 = r at hi
  have HI := Aside0.mk hi
  clear hi he hg hC hm hgood
  go_enter Tryz.func124, Tryz.ntmps124
  go_wp2_with (first
    | (go_at_call 161; refine HI.out.mono ?_; rintro e w3 ⟨rfl, hB⟩; have HB := Aside0.mk hB; clear hB))
  go_ret
  exact ⟨rfl, HB.out⟩
set_option maxRecDepth 100000 in
theorem oddPerson (w : World) (x : S50) (hx : GoodW x) (g0 g1 g2 : Int) (gb : Nat) (tg : TypeId) (hg : w.heap[gb]? = some (.cells #[.int .i64 g0, .int .i64 g1, .int .i64 g2] tg (0, 0))) :
    Calls Tryz.prog 125 #[.agg #[.int .u32 x.f0, .int .u8 x.f1, .int .i64 x.f2, .int .i64 x.f3], .pointer (some ⟨gb, 0, none⟩)] w fun e w' => e = .returned (.bool (!whenI g0 g1 g2 x)) ∧ Below w.heap.size w w' := by
  have HG := Aside0.mk hg
  have HX := Aside0.mk hx
  clear hg hx
  have hu := Tryz.underlying50
  have hu2 := Tryz.underlying23
  go_enter Tryz.func125, Tryz.ntmps125
  go_wp2_with (first
    | ((with_reducible refine gate_dst (N := 2) rfl ?_); refine box_event ?hg (N := 2) ?hd (cs := #[.int .u32 x.f0, .int .u8 x.f1, .int .i64 x.f2, .int .i64 x.f3]) (t := 50) ?hr ?_; (case hd => rfl); (case hg => rfl); (case hr => first | (go_simp; done) | (go_simp; rfl)); intro gx hgx w2 hbox hB; have HB := Aside0.mk hB; have hk0 := pw_cell_below hB ((blk_cell HG.out 0).trans rfl); have hk1 := pw_cell_below hB ((blk_cell HG.out 1).trans rfl); have hk2 := pw_cell_below hB ((blk_cell HG.out 2).trans rfl); have hx0 := (blk_cell hbox 0).trans rfl; have hx1 := (blk_cell hbox 1).trans rfl; have hx2 := (blk_cell hbox 2).trans rfl; have hx3 := (blk_cell hbox 3).trans rfl; clear hbox hgx hB)
    | (go_at_call 123; refine (Gq.when_Right.calls g0 g1 g2 x.f0 x.f1 x.f2 x.f3 _ _ (qwhenI g0 g1 g2 x HX.out)).mono ?_; rintro e w3 ⟨rfl, hB⟩; have HB2 := Aside0.mk (below_then HB.out HB.out.size hB); clear hB))
  go_ret
  exact ⟨rfl, HB2.out⟩
set_option maxRecDepth 100000 in
set_option maxHeartbeats 1000000 in
theorem ixwPerson (w : World) (A : Option Addr) (m c : Nat) (xs : List S50) (hm : xs.length = m) (hC : Kd.C k50 w A xs.length xs) (hgood : ∀ x, x ∈ xs → GoodW x) (g0 g1 g2 : Int) (gb : Nat) (tg : TypeId) (hg : w.heap[gb]? = some (.cells #[.int .i64 g0, .int .i64 g1, .int .i64 g2] tg (0, 0))) :
    Calls Tryz.prog 161 #[.slice A m c, .func (.func 125) #[] #[.pointer (some ⟨gb, 0, none⟩)]] w fun e w' => e = .returned (.int .i64 (idxP (fun x => !whenI g0 g1 g2 x) xs 0)) ∧ Below w.heap.size w w' := by
  have HG := Aside0.mk hg
  have HC := Aside0.mk hC
  have HM := Aside0.mk hm
  have HGo := Aside0.mk hgood
  have hmx := Kd.C_max hC
  rw [hm] at hmx
  clear hg hC hm hgood
  go_enter Tryz.func161, Tryz.ntmps161
  go_wp2
  go_loopw [8] (fun v8 wr => ∃ i : Nat, i ≤ m ∧ v8 = .int .i64 i ∧ Aside0 (∀ j y, j < i → xs[j]? = some y → (!whenI g0 g1 g2 y) = false) ∧ Aside0 (Below w.heap.size w wr)) (fun v8 _ => m - (intOf v8).toNat)
  case atStart => exact ⟨0, Nat.zero_le _, rfl, ⟨fun j y hj => by omega⟩, ⟨Below.refl _ _⟩⟩
  case round =>
    obtain ⟨i, hi, rfl, HN, HB⟩ := hrel
    by_cases him : i < m
    · have him2 : (i : Int) < (m : Int) := by omega
      obtain ⟨x, hx⟩ : ∃ x, xs[i]? = some x := ⟨_, List.getElem?_eq_getElem (by have := HM.out; omega)⟩
      obtain ⟨ad, rfl, hk0, hk1, hk2, hk3⟩ := elWhen (Kd.C_below HC.out HB.out) hx
      have HX := Aside0.mk hx
      have HGx := Aside0.mk (HGo.out x (List.mem_of_getElem? hx))
      clear hx
      cases heq : (!whenI g0 g1 g2 x) with
      | true =>
        have HE := Aside0.mk heq
        clear heq
        go_wp2_with (first
          | (go_at_call 125; refine (oddPerson _ x HGx.out g0 g1 g2 gb tg (blk_then HG.out HB.out)).mono ?_; rintro e w3 ⟨rfl, hB⟩; rw [HE.out]; have HB2 := Aside0.mk (below_then HB.out HB.out.size hB); clear hB))
        go_ret
        rw [idxP_at (fun x => !whenI g0 g1 g2 x) xs 0 i x HX.out HE.out HN.out, Int.zero_add]
        exact ⟨rfl, HB2.out⟩
      | false =>
        have HE := Aside0.mk heq
        clear heq
        go_wp2_with (first
          | (go_at_call 125; refine (oddPerson _ x HGx.out g0 g1 g2 gb tg (blk_then HG.out HB.out)).mono ?_; rintro e w3 ⟨rfl, hB⟩; rw [HE.out]; have HB2 := Aside0.mk (below_then HB.out HB.out.size hB); clear hB))
        exact ⟨⟨i + 1, by omega, by go_num, ⟨fun j y hj hy => by
          by_cases e : j = i
          · subst e
            rw [HX.out] at hy
            cases hy
            exact HE.out
          · exact HN.out j y (by omega) hy⟩, HB2⟩, by simp [intOf]; omega⟩
    · obtain rfl : i = m := by omega
      go_wp2
      go_ret
      rw [idxP_no (fun x => !whenI g0 g1 g2 x) xs 0 (fun x hx => by
        obtain ⟨j, hj, rfl⟩ := List.getElem_of_mem hx
        exact HN.out j _ (by have := HM.out; omega) (List.getElem?_eq_getElem hj))]
      exact ⟨rfl, HB.out⟩
set_option maxRecDepth 100000 in
theorem contPerson (w : World) (A : Option Addr) (m c : Nat) (xs : List S50) (hm : xs.length = m) (hC : Kd.C k50 w A xs.length xs) (hgood : ∀ x, x ∈ xs → GoodW x) (g0 g1 g2 : Int) (gb : Nat) (tg : TypeId) (hg : w.heap[gb]? = some (.cells #[.int .i64 g0, .int .i64 g1, .int .i64 g2] tg (0, 0))) :
    Calls Tryz.prog 124 #[.slice A m c, .func (.func 125) #[] #[.pointer (some ⟨gb, 0, none⟩)]] w fun e w' => e = .returned (.bool (xs.any (fun x => !whenI g0 g1 g2 x))) ∧ Below w.heap.size w w' := by
  have hi := ixwPerson w A m c xs hm hC hgood g0 g1 g2 gb tg hg
  have he := idxP_ge (fun x => !whenI g0 g1 g2 x) xs 0 (Int.le_refl 0)
  rw [← he]
  generalize idxP (fun x => !whenI g0 g1 g2 x) xs 0 = r at hi
  have HI := Aside0.mk hi
  clear hi he hg hC hm hgood
  go_enter Tryz.func124, Tryz.ntmps124
  go_wp2_with (first
    | (go_at_call 161; refine HI.out.mono ?_; rintro e w3 ⟨rfl, hB⟩; have HB := Aside0.mk hB; clear hB))
  go_ret
  exact ⟨rfl, HB.out⟩
end Go.Proofs.YtineikfhfmiidaaGreat.Pm
namespace Go.Proofs.YtineikfhfmiidaaGreat.Pm
open Go Go.RowKit Go.Proofs.YtineikfhfmiidaaGreat.Gp Go.Proofs.YtineikfhfmiidaaGreatW.PrintWords Go.Proofs.YtineikfhfmiidaaGreatW.PrintLast Go.Proofs.YtineikfhfmiidaaGreatW.PrintMore
set_option linter.unusedVariables false
set_option linter.unusedSimpArgs false
/-- May a name be? -/
def nameB (s : ByteArray) : Bool := decide (1 ≤ s.size) && decide (s.size ≤ 24)
theorem size_list (s : ByteArray) : s.toList.length = s.size := by
  rw [ByteArray.toList_eq]
  rfl
theorem qname (s : ByteArray) : Gq.room_Name.f s = some (nameB s) := by
  unfold Gq.room_Name.f nameB
  have hs := size_list s
  by_cases h : s.toList = ([] : List UInt8)
  · rw [if_pos h]
    rw [h] at hs
    rw [show s.size = 0 from hs.symm]
    rfl
  · rw [if_neg h]
    have : s.size ≠ 0 := fun e => h (List.length_eq_zero_iff.1 (hs.trans e))
    rw [decide_eq_true (show 1 ≤ s.size by omega), Bool.true_and]
    congr 1
    exact decide_eq_decide.2 (by omega)
theorem rname (s : ByteArray) : Gp.horariumref11_Name.f s = some (nameB s) := by
  unfold Gp.horariumref11_Name.f nameB
  by_cases h : (s.size : Int) ≥ 1
  · rw [if_pos h, decide_eq_true (show 1 ≤ s.size by omega), Bool.true_and]
    congr 1
    exact decide_eq_decide.2 (by omega)
  · rw [if_neg h, decide_eq_false (show ¬ 1 ≤ s.size by omega), Bool.false_and]
/-- May times be? -/
def whensB (g0 g1 g2 : Int) (l : List S50) : Bool := decide (l.length ≤ 16) && !(l.any (fun y => !whenI g0 g1 g2 y))
/-- May a room be? -/
def roomB (g0 g1 g2 : Int) (x : S47) : Bool := gridB g0 g1 g2 && (nameB x.f0 && (decide (0 ≤ x.f1) && (decide (x.f1 ≤ 10000) && whensB g0 g1 g2 x.f3)))
/-- May a person be? -/
def personB (g0 g1 g2 : Int) (x : S53) : Bool := gridB g0 g1 g2 && (nameB x.f0 && whensB g0 g1 g2 x.f1)
theorem notT {b : Bool} (h : (!b) = true) : b = false := by cases b <;> simp_all
theorem notF {b : Bool} (h : (!b) = false) : b = true := by cases b <;> simp_all
set_option maxRecDepth 100000 in
set_option maxHeartbeats 4000000 in
theorem RightRoom_is (w : World) (g0 g1 g2 : Int) (x : S47) (B3 : Option Addr) (d3 : Nat) (h3 : Kd.C k50 w B3 x.f3.length x.f3) (l3 : x.f3.length ≤ d3) (hg : ∀ y, y ∈ x.f3 → GoodW y) :
    Calls Tryz.prog 39 #[.agg #[.int .i64 g0, .int .i64 g1, .int .i64 g2], .agg #[.string x.f0, .int .i64 x.f1, .int .u16 x.f2, .slice B3 x.f3.length d3]] w fun e w' => e = .returned (.bool (roomB g0 g1 g2 x)) ∧ Below w.heap.size w w' := by
  have HC3 := Aside0.mk h3
  have HL3 := Aside0.mk l3
  clear h3 l3
  have HG := Aside0.mk hg
  clear hg
  have hut := Tryz.underlying47
  have hug := Tryz.underlying23
  unfold roomB whensB
  generalize hqb1 : gridB g0 g1 g2 = b1
  have Fb1 := Aside0.mk hqb1
  clear hqb1
  generalize hqb2 : nameB x.f0 = b2
  have Fb2 := Aside0.mk hqb2
  clear hqb2
  generalize hqb3 : x.f3.any (fun y => !whenI g0 g1 g2 y) = b3
  have Fb3 := Aside0.mk hqb3
  clear hqb3
  go_enter Tryz.func39, Tryz.ntmps39
  go_wp2_with (first
    | ((with_reducible refine gate_dst (N := 2) rfl ?_); refine box_event ?hg (N := 2) ?hd (cs := #[.int .i64 g0, .int .i64 g1, .int .i64 g2]) (t := 23) ?hr ?_; (case hd => rfl); (case hg => rfl); (case hr => first | (go_simp; done) | (go_simp; rfl)); intro gx hgx w2 hbox hB; have HP := Aside0.mk (PBox.mk hbox hB (show w.heap.size ≤ gx by rw [hgx]; exact Nat.le_refl _)); clear hbox hB hgx)
    | ((with_reducible refine gate_dst (N := 3) rfl ?_); refine box_event ?hg (N := 3) ?hd (cs := #[.string x.f0, .int .i64 x.f1, .int .u16 x.f2, .slice B3 x.f3.length d3]) (t := 47) ?hr ?_; (case hd => rfl); (case hg => rfl); (case hr => first | (go_simp; done) | (go_simp; rfl)); intro gx hgx w2 hbox hB; have C2 := Aside0.mk (And.intro (HP.out.below hB) (PBox.mk hbox (below_then HP.out.bel HP.out.bel.size hB) (show w.heap.size ≤ gx by rw [hgx]; exact HP.out.bel.size))); clear HP; have hc0 := C2.out.1.cell 0 rfl; have hc1 := C2.out.1.cell 1 rfl; have hc2 := C2.out.1.cell 2 rfl; have hd0 := C2.out.2.cell 0 rfl; have hd1 := C2.out.2.cell 1 rfl; have hd2 := C2.out.2.cell 2 rfl; have hd3 := C2.out.2.cell 3 rfl; clear hbox hB hgx)
    | (go_at_call 35; refine (Gq.when_RightGrid.calls g0 g1 g2 _ _ (qgrid g0 g1 g2)).mono ?_; rintro e w4 ⟨rfl, hB⟩; rw [Fb1.out]; have CQ := Aside0.mk (And.intro (C2.out.1.below hB) (C2.out.2.below hB)); clear C2 hB hc0 hc1 hc2 hd0 hd1 hd2 hd3; have C2 := CQ; clear CQ; have hc0 := C2.out.1.cell 0 rfl; have hc1 := C2.out.1.cell 1 rfl; have hc2 := C2.out.1.cell 2 rfl; have hd0 := C2.out.2.cell 0 rfl; have hd1 := C2.out.2.cell 1 rfl; have hd2 := C2.out.2.cell 2 rfl; have hd3 := C2.out.2.cell 3 rfl)
    | (go_at_call 34; refine (Gq.room_Name.calls x.f0 _ _ (qname x.f0)).mono ?_; rintro e w4 ⟨rfl, hD⟩; have hB := hD.below; clear hD; rw [Fb2.out]; have CQ := Aside0.mk (And.intro (C2.out.1.below hB) (C2.out.2.below hB)); clear C2 hB hc0 hc1 hc2 hd0 hd1 hd2 hd3; have C2 := CQ; clear CQ; have hc0 := C2.out.1.cell 0 rfl; have hc1 := C2.out.1.cell 1 rfl; have hc2 := C2.out.1.cell 2 rfl; have hd0 := C2.out.2.cell 0 rfl; have hd1 := C2.out.2.cell 1 rfl; have hd2 := C2.out.2.cell 2 rfl; have hd3 := C2.out.2.cell 3 rfl)
    | (go_at_call 124; refine (contRoom _ B3 x.f3.length d3 x.f3 rfl (Kd.C_below HC3.out C2.out.1.bel) HG.out g0 g1 g2 _ _ C2.out.1.blk).mono ?_; rintro e w4 ⟨rfl, hB⟩; rw [Fb3.out]; have CQ := Aside0.mk (And.intro (C2.out.1.below hB) (C2.out.2.below hB)); clear C2 hB hc0 hc1 hc2 hd0 hd1 hd2 hd3; have C2 := CQ; clear CQ; have hc0 := C2.out.1.cell 0 rfl; have hc1 := C2.out.1.cell 1 rfl; have hc2 := C2.out.1.cell 2 rfl; have hd0 := C2.out.2.cell 0 rfl; have hd1 := C2.out.2.cell 1 rfl; have hd2 := C2.out.2.cell 2 rfl; have hd3 := C2.out.2.cell 3 rfl))
  all_goals
    go_ret
    refine ⟨?_, C2.out.1.bel⟩
    try (first | rw [show b1 = true from ‹b1 = true›] | rw [show b1 = false from Bool.eq_false_iff.2 ‹¬b1 = true›] | rw [notT ‹(!b1) = true›] | rw [notF ‹(!b1) = false›])
    try (first | rw [show b2 = true from ‹b2 = true›] | rw [show b2 = false from Bool.eq_false_iff.2 ‹¬b2 = true›] | rw [notT ‹(!b2) = true›] | rw [notF ‹(!b2) = false›])
    try (first | rw [show b3 = true from ‹b3 = true›] | rw [show b3 = false from Bool.eq_false_iff.2 ‹¬b3 = true›] | rw [notT ‹(!b3) = true›] | rw [notF ‹(!b3) = false›])
    try (first | rw [decide_eq_true (show 0 ≤ x.f1 by omega)] | rw [decide_eq_false (show ¬ (0 ≤ x.f1) by omega)])
    try (first | rw [decide_eq_true (show x.f1 ≤ 10000 by omega)] | rw [decide_eq_false (show ¬ (x.f1 ≤ 10000) by omega)])
    try (first | rw [decide_eq_true (show x.f3.length ≤ 16 by omega)] | rw [decide_eq_false (show ¬ (x.f3.length ≤ 16) by omega)])
    first | rfl | exact congrArg _ (congrArg _ (decide_eq_decide.2 (by omega)))
set_option maxRecDepth 100000 in
set_option maxHeartbeats 4000000 in
theorem RightPerson_is (w : World) (g0 g1 g2 : Int) (x : S53) (B1 : Option Addr) (d1 : Nat) (h1 : Kd.C k50 w B1 x.f1.length x.f1) (l1 : x.f1.length ≤ d1) (hg : ∀ y, y ∈ x.f1 → GoodW y) :
    Calls Tryz.prog 44 #[.agg #[.int .i64 g0, .int .i64 g1, .int .i64 g2], .agg #[.string x.f0, .slice B1 x.f1.length d1]] w fun e w' => e = .returned (.bool (personB g0 g1 g2 x)) ∧ Below w.heap.size w w' := by
  have HC1 := Aside0.mk h1
  have HL1 := Aside0.mk l1
  clear h1 l1
  have HG := Aside0.mk hg
  clear hg
  have hut := Tryz.underlying53
  have hug := Tryz.underlying23
  unfold personB whensB
  generalize hqb1 : gridB g0 g1 g2 = b1
  have Fb1 := Aside0.mk hqb1
  clear hqb1
  generalize hqb2 : nameB x.f0 = b2
  have Fb2 := Aside0.mk hqb2
  clear hqb2
  generalize hqb3 : x.f1.any (fun y => !whenI g0 g1 g2 y) = b3
  have Fb3 := Aside0.mk hqb3
  clear hqb3
  go_enter Tryz.func44, Tryz.ntmps44
  go_wp2_with (first
    | ((with_reducible refine gate_dst (N := 2) rfl ?_); refine box_event ?hg (N := 2) ?hd (cs := #[.int .i64 g0, .int .i64 g1, .int .i64 g2]) (t := 23) ?hr ?_; (case hd => rfl); (case hg => rfl); (case hr => first | (go_simp; done) | (go_simp; rfl)); intro gx hgx w2 hbox hB; have HP := Aside0.mk (PBox.mk hbox hB (show w.heap.size ≤ gx by rw [hgx]; exact Nat.le_refl _)); clear hbox hB hgx)
    | ((with_reducible refine gate_dst (N := 3) rfl ?_); refine box_event ?hg (N := 3) ?hd (cs := #[.string x.f0, .slice B1 x.f1.length d1]) (t := 53) ?hr ?_; (case hd => rfl); (case hg => rfl); (case hr => first | (go_simp; done) | (go_simp; rfl)); intro gx hgx w2 hbox hB; have C2 := Aside0.mk (And.intro (HP.out.below hB) (PBox.mk hbox (below_then HP.out.bel HP.out.bel.size hB) (show w.heap.size ≤ gx by rw [hgx]; exact HP.out.bel.size))); clear HP; have hc0 := C2.out.1.cell 0 rfl; have hc1 := C2.out.1.cell 1 rfl; have hc2 := C2.out.1.cell 2 rfl; have hd0 := C2.out.2.cell 0 rfl; have hd1 := C2.out.2.cell 1 rfl; clear hbox hB hgx)
    | (go_at_call 35; refine (Gq.when_RightGrid.calls g0 g1 g2 _ _ (qgrid g0 g1 g2)).mono ?_; rintro e w4 ⟨rfl, hB⟩; rw [Fb1.out]; have CQ := Aside0.mk (And.intro (C2.out.1.below hB) (C2.out.2.below hB)); clear C2 hB hc0 hc1 hc2 hd0 hd1; have C2 := CQ; clear CQ; have hc0 := C2.out.1.cell 0 rfl; have hc1 := C2.out.1.cell 1 rfl; have hc2 := C2.out.1.cell 2 rfl; have hd0 := C2.out.2.cell 0 rfl; have hd1 := C2.out.2.cell 1 rfl)
    | (go_at_call 34; refine (Gq.room_Name.calls x.f0 _ _ (qname x.f0)).mono ?_; rintro e w4 ⟨rfl, hD⟩; have hB := hD.below; clear hD; rw [Fb2.out]; have CQ := Aside0.mk (And.intro (C2.out.1.below hB) (C2.out.2.below hB)); clear C2 hB hc0 hc1 hc2 hd0 hd1; have C2 := CQ; clear CQ; have hc0 := C2.out.1.cell 0 rfl; have hc1 := C2.out.1.cell 1 rfl; have hc2 := C2.out.1.cell 2 rfl; have hd0 := C2.out.2.cell 0 rfl; have hd1 := C2.out.2.cell 1 rfl)
    | (go_at_call 124; refine (contPerson _ B1 x.f1.length d1 x.f1 rfl (Kd.C_below HC1.out C2.out.1.bel) HG.out g0 g1 g2 _ _ C2.out.1.blk).mono ?_; rintro e w4 ⟨rfl, hB⟩; rw [Fb3.out]; have CQ := Aside0.mk (And.intro (C2.out.1.below hB) (C2.out.2.below hB)); clear C2 hB hc0 hc1 hc2 hd0 hd1; have C2 := CQ; clear CQ; have hc0 := C2.out.1.cell 0 rfl; have hc1 := C2.out.1.cell 1 rfl; have hc2 := C2.out.1.cell 2 rfl; have hd0 := C2.out.2.cell 0 rfl; have hd1 := C2.out.2.cell 1 rfl))
  all_goals
    go_ret
    refine ⟨?_, C2.out.1.bel⟩
    try (first | rw [show b1 = true from ‹b1 = true›] | rw [show b1 = false from Bool.eq_false_iff.2 ‹¬b1 = true›] | rw [notT ‹(!b1) = true›] | rw [notF ‹(!b1) = false›])
    try (first | rw [show b2 = true from ‹b2 = true›] | rw [show b2 = false from Bool.eq_false_iff.2 ‹¬b2 = true›] | rw [notT ‹(!b2) = true›] | rw [notF ‹(!b2) = false›])
    try (first | rw [show b3 = true from ‹b3 = true›] | rw [show b3 = false from Bool.eq_false_iff.2 ‹¬b3 = true›] | rw [notT ‹(!b3) = true›] | rw [notF ‹(!b3) = false›])
    try (first | rw [decide_eq_true (show x.f1.length ≤ 16 by omega)] | rw [decide_eq_false (show ¬ (x.f1.length ≤ 16) by omega)])
    first | rfl | exact congrArg _ (congrArg _ (decide_eq_decide.2 (by omega)))
end Go.Proofs.YtineikfhfmiidaaGreat.Pm
namespace Go.Proofs.YtineikfhfmiidaaGreat.Pm
open Go Go.RowKit Go.Proofs.YtineikfhfmiidaaGreat.Gp Go.Proofs.YtineikfhfmiidaaGreat.Mw Go.Proofs.YtineikfhfmiidaaGreatW.PrintWords Go.Proofs.YtineikfhfmiidaaGreatW.PrintLast Go.Proofs.YtineikfhfmiidaaGreatW.PrintMore
set_option linter.unusedVariables false
set_option linter.unusedSimpArgs false
set_option linter.unusedSectionVars false
section
variable {α κ : Type} [DecidableEq κ] {t : α → Bool} {f : α → κ} {l : List α} {i : Nat} {x : α}
/-- Each may be, and no key stands twice. -/
def onceB (t : α → Bool) (f : α → κ) (l : List α) : Bool := l.all t && decide (l.map f).Nodup
structure OnceTo (t : α → Bool) (f : α → κ) (l : List α) (i : Nat) : Prop where
  inn : ∀ x ∈ l.take i, t x = true
  one : ((l.take i).map f).Nodup
theorem takeS (hx : l[i]? = some x) : l.take (i + 1) = l.take i ++ [x] := by
  rw [List.take_add_one, hx]
  rfl
theorem OnceTo.start (t : α → Bool) (f : α → κ) (l : List α) : OnceTo t f l 0 := ⟨by simp, by simp⟩
theorem OnceTo.step (h : OnceTo t f l i) (hx : l[i]? = some x) (ht : t x = true) (hf : f x ∉ (l.take i).map f) : OnceTo t f l (i + 1) := by
  refine ⟨fun y hy => ?_, ?_⟩
  · rw [takeS hx] at hy
    rcases List.mem_append.1 hy with h1 | h1
    · exact h.inn y h1
    · rw [List.mem_singleton.1 h1]; exact ht
  · rw [takeS hx, List.map_append, List.nodup_append]
    refine ⟨h.one, by simp, fun a ha b hb => ?_⟩
    rw [List.map_cons, List.map_nil, List.mem_singleton] at hb
    rintro rfl
    exact hf (hb ▸ ha)
theorem OnceTo.over (h : OnceTo t f l l.length) : onceB t f l = true := by
  have h1 := h.inn
  have h2 := h.one
  rw [List.take_length] at h1 h2
  unfold onceB
  rw [Bool.and_eq_true, List.all_eq_true]
  exact ⟨h1, decide_eq_true h2⟩
theorem once_bad (hx : l[i]? = some x) (h : t x = false ∨ f x ∈ (l.take i).map f) : onceB t f l = false := by
  cases hd : onceB t f l with
  | false => rfl
  | true =>
    unfold onceB at hd
    rw [Bool.and_eq_true, List.all_eq_true, decide_eq_true_iff] at hd
    obtain ⟨h1, h2⟩ := hd
    rcases h with h | h
    · rw [h1 x (List.mem_of_getElem? hx)] at h
      cases h
    · exfalso
      have h4 : ((l.take (i + 1)).map f).Nodup := h2.sublist ((List.take_sublist _ _).map f)
      rw [takeS hx, List.map_append, List.nodup_append] at h4
      exact h4.2.2 _ h _ (List.mem_singleton.2 rfl) rfl
/-- What the map of the keys seen holds. -/
def Seen (f : α → κ) (l : List α) (i : Nat) (g : κ → Option Bool) : Prop := ∀ k, g k = if k ∈ (l.take i).map f then some true else none
theorem Seen.start (f : α → κ) (l : List α) : Seen f l 0 (fun _ => none) := fun k => by simp
theorem Seen.step {g : κ → Option Bool} (h : Seen f l i g) (hx : l[i]? = some x) : Seen f l (i + 1) (upd g (f x) (some true)) := by
  intro k
  unfold upd
  rw [takeS hx, List.map_append, List.map_cons, List.map_nil]
  by_cases e : k = f x
  · rw [if_pos e, if_pos (List.mem_append_right _ (List.mem_singleton.2 e))]
  · rw [if_neg e, h k]
    by_cases hm : k ∈ (l.take i).map f
    · rw [if_pos hm, if_pos (List.mem_append_left _ hm)]
    · rw [if_neg hm, if_neg (fun h2 => ?_)]
      rcases List.mem_append.1 h2 with h3 | h3
      · exact hm h3
      · exact e (List.mem_singleton.1 h3)
/-- Is the thing at place i bad, or one too many? -/
def badAt (t : α → Bool) (f : α → κ) (most : Nat) (l : List α) (i : Nat) : Bool :=
  match l[i]? with
  | none => false
  | some x => decide (i = most) || !t x || decide (f x ∈ (l.take i).map f)
/-- The first bad place. -/
def badI (t : α → Bool) (f : α → κ) (most : Nat) (l : List α) : Option Nat := (List.range l.length).find? (badAt t f most l)
theorem badI_some {most : Nat} (hi : i < l.length) (hb : badAt t f most l i = true) (hn : ∀ j, j < i → badAt t f most l j = false) : badI t f most l = some i := by
  unfold badI
  rw [List.find?_range_eq_some]
  exact ⟨hb, List.mem_range.2 hi, fun j hj => by rw [hn j hj]; rfl⟩
theorem badI_none {most : Nat} (hn : ∀ j, j < l.length → badAt t f most l j = false) : badI t f most l = none := by
  unfold badI
  rw [List.find?_eq_none]
  intro j hj
  rw [hn j (List.mem_range.1 hj)]
  exact Bool.false_ne_true
theorem badAt_eq {most : Nat} (hx : l[i]? = some x) : badAt t f most l i = (decide (i = most) || !t x || decide (f x ∈ (l.take i).map f)) := by
  unfold badAt
  rw [hx]
end
noncomputable instance : DecidableEq S50 := fun a b => Classical.propDecidable (a = b)
/-- May a cost be? -/
def cheapB (n : Int) : Bool := decide (0 ≤ n) && decide (n ≤ 1000)
theorem qcheap (n : Int) : Gq.class_cheap.f n = some (cheapB n) := by
  unfold Gq.class_cheap.f cheapB
  by_cases h : 0 ≤ n <;> simp [h]
def placeB (rooms : Int) (x : S120) : Bool := decide (0 ≤ x.f0) && decide (x.f0 < rooms) && cheapB x.f1
def placesB (rooms : Int) (l : List S120) : Bool := onceB (placeB rooms) (fun x => x.f0) l && decide (l.length ≤ 12)
def timeB (g0 g1 g2 : Int) (x : S117) : Bool := whenI g0 g1 g2 x.f0 && cheapB x.f1
noncomputable def timesB (g0 g1 g2 : Int) (l : List S117) : Bool := onceB (timeB g0 g1 g2) (fun x => x.f0) l && (decide (0 < l.length) && decide (l.length ≤ 16))
end Go.Proofs.YtineikfhfmiidaaGreat.Pm
namespace Go.Proofs.YtineikfhfmiidaaGreat.Pm
open Go Go.RowKit Go.Maps Go.Proofs.YtineikfhfmiidaaGreat.Gp Go.Proofs.YtineikfhfmiidaaGreat.Mw Go.Proofs.YtineikfhfmiidaaGreatW.PrintWords Go.Proofs.YtineikfhfmiidaaGreatW.PrintLast Go.Proofs.YtineikfhfmiidaaGreatW.PrintMore
set_option maxRecDepth 100000
set_option linter.unusedVariables false
set_option linter.unusedSimpArgs false
theorem laidOut : laidOutB Tryz.prog = true := by kernel_rfl
theorem rowWhen : (50 : TypeId) < Tryz.prog.types.size := of_decide_eq_true (by kernel_rfl)
theorem cellsWhen : Tryz.prog.cellsOf 50 = 4 := by kernel_rfl
theorem deepWhen : Tryz.prog.keyTypeAt (Tryz.prog.types.size + 1) 50 = true := by kernel_rfl
theorem wideWhen : (match Tryz.prog.underlying 50 with | some (.array _ _) | some (.struct _) => true | _ => false) = true := by kernel_rfl
theorem lawWhen : WideMaps.KeyLaw Tryz.prog 50 := deep_law_laid laidOut (m := 2) (by omega) rowWhen (by kernel_rfl) wideWhen
theorem sizesucc : ∃ m, Tryz.prog.types.size = m + 1 := by
  have h : 0 < Tryz.prog.types.size := of_decide_eq_true (by kernel_rfl)
  exact ⟨Tryz.prog.types.size - 1, by generalize Tryz.prog.types.size = n at h ⊢; omega⟩
def litsW (x : S50) : List Lit := [.int .u32 x.f0, .int .u8 x.f1, .int .i64 x.f2, .int .i64 x.f3]
def valW (x : S50) : Value := .agg #[.int .u32 x.f0, .int .u8 x.f1, .int .i64 x.f2, .int .i64 x.f3]
theorem keyWhen (x : S50) (h : GoodW x) (hl : -9223372036854775808 ≤ x.f3) : keyOf Tryz.prog 50 (valW x) = some (.string (keyBytes (litsW x))) := by
  have w0 : (Lit.int .u32 x.f0).wf = true := Go.WalkArith.wf_u32 ⟨h.w0, by have := h.w1; omega⟩
  have w1 : (Lit.int .u8 x.f1).wf = true := Go.WalkArith.wf_u8 ⟨h.d0, by have := h.d1; omega⟩
  have w2 : (Lit.int .i64 x.f2).wf = true := Go.WalkArith.wf_i64 ⟨h.s0, h.s1⟩
  have w3 : (Lit.int .i64 x.f3).wf = true := Go.WalkArith.wf_i64 ⟨hl, h.l1⟩
  have hkt : Tryz.prog.keyType 50 = true := deepWhen
  have c3 : Tryz.prog.cellsOf 3 = 1 := by kernel_rfl
  have c32 : Tryz.prog.cellsOf 48 = 1 := by kernel_rfl
  have c8 : Tryz.prog.cellsOf 5 = 1 := by kernel_rfl
  obtain ⟨m, hm⟩ := sizesucc
  unfold keyOf
  simp only [Tryz.underlying50]
  rw [if_pos (by simp [hkt, Value.formed, valW, Tryz.underlying50, cellsWhen]), hm]
  unfold Program.keyLits
  simp only [Tryz.underlying50, Value.cells, valW]
  rw [if_pos ⟨by rw [cellsWhen]; rfl, by simp⟩]
  rw [List.mapM_cons, List.mapM_cons, List.mapM_cons, List.mapM_cons, List.mapM_nil]
  simp [Program.keyLits, c3, c32, c8, Tryz.underlying3, Tryz.underlying48, Tryz.underlying5, w0, w1, w2, w3, litsW]
/-- Good times. -/
def GoodV (x : S50) : Prop := GoodW x ∧ -9223372036854775808 ≤ x.f3
theorem valW_inj {a b : S50} (h : valW a = valW b) : a = b := by
  obtain ⟨a0, a1, a2, a3⟩ := a
  obtain ⟨b0, b1, b2, b3⟩ := b
  simp only [valW, Value.agg.injEq, Array.mk.injEq, List.cons.injEq, Value.int.injEq] at h
  obtain ⟨⟨_, rfl⟩, ⟨_, rfl⟩, ⟨_, rfl⟩, ⟨_, rfl⟩, _⟩ := h
  rfl
noncomputable def MWB : MK Tryz.prog S50 Bool where
  k := 50
  e := 4
  t := 182
  ek := valW
  lk := fun x => .string (keyBytes (litsW x))
  ok := GoodV
  ev := .bool
  le := fun x => .lit (.bool x)
  oke := fun _ => True
  z := false
  R := plainElem Tryz.prog 4
  K := Maps.Keyed.of_law lawWhen
  ht := Tryz.underlying182
  hkey := fun a ha => keyWhen a ha.1 ha.2
  hinj := fun a b ha hb h => valW_inj ((Maps.Keyed.of_law lawWhen).inj (keyWhen a ha.1 ha.2) ((keyWhen b hb.1 hb.2).trans (congrArg some h.symm)))
  hz := zeroB
  hzo := trivial
  hR := fun x _ => plainElem_bool Tryz.underlying4 x
  hRi := fun v d ps x h hd => by
    subst hd
    unfold plainElem at h
    rw [Tryz.underlying4] at h
    cases v <;> simp at h
    rw [h.1]
end Go.Proofs.YtineikfhfmiidaaGreat.Pm
namespace Go.Proofs.YtineikfhfmiidaaGreat.Pm
open Go Go.RowKit Go.Proofs.YtineikfhfmiidaaGreat.Gp Go.Proofs.YtineikfhfmiidaaGreat.Mw Go.Proofs.YtineikfhfmiidaaGreatW.PrintWords Go.Proofs.YtineikfhfmiidaaGreatW.PrintLast Go.Proofs.YtineikfhfmiidaaGreatW.PrintMore
set_option linter.unusedVariables false
set_option linter.unusedSimpArgs false
theorem elPlace {w : World} {A : Option Addr} {n : Nat} {xs : List S120} (h : Kd.C k120 w A n xs) {i : Nat} {x : S120} (hx : xs[i]? = some x) :
    ∃ ad : Addr, A = some ad ∧ w.cell? (ad.add (i * 2)) = some (.int .i64 x.f0) ∧ w.cell? ⟨(ad.add (i * 2)).block, (ad.add (i * 2)).off + 1, none⟩ = some (.int .i64 x.f1) := by
  obtain ⟨ad, cs, e, hK, hc⟩ := cl_get h hx
  obtain rfl := k120_open hK
  exact ⟨ad, e, hc 0 _ rfl, show w.cell? ((ad.add (i * 2)).add 1) = _ by rw [Deep.add_add]; exact hc 1 _ rfl⟩
set_option maxRecDepth 100000 in
set_option maxHeartbeats 2000000 in
theorem places_is (w : World) (A : Option Addr) (m c : Nat) (xs : List S120) (n : Int) (hm : xs.length = m) (hC : Kd.C k120 w A xs.length xs) (hl : m ≤ 9223372036854775807) (hn : n ≤ 9223372036854775807) :
    Calls Tryz.prog 128 #[.int .i64 n, .slice A m c] w fun e w' => e = .returned (.bool (placesB n xs)) ∧ Below w.heap.size w w' := by
  have HC := Aside0.mk hC
  have HM := Aside0.mk hm
  clear hC hm
  have hut := Tryz.underlying120
  have hmm := @run_makeMap Tryz.prog
  go_enter Tryz.func128, Tryz.ntmps128
  go_wp2
  go_loopw [11] (fun v11 wr => ∃ (i : Nat) (f : Int → Option Bool) (s : Nat), i ≤ m ∧ v11 = .int .i64 i ∧ Aside0 (OnceTo (placeB n) (fun x : S120 => x.f0) xs i) ∧ Aside0 (Seen (fun x : S120 => x.f0) xs i f) ∧ Aside0 (s ≤ i) ∧ Aside0 (MIs MIB wr w.heap.size s f) ∧ Aside0 (Below w.heap.size w wr)) (fun v11 _ => m - (intOf v11).toNat)
  case atStart => exact ⟨0, fun _ => none, 0, Nat.zero_le _, rfl, ⟨OnceTo.start _ _ _⟩, ⟨Seen.start _ _⟩, ⟨Nat.le_refl _⟩, ⟨MIs.made MIB w⟩, ⟨below_alloc (Below.refl _ _) _⟩⟩
  case round =>
    clear hmm
    obtain ⟨i, f, s, hi, rfl, HD, HF, HS, HMp, HB⟩ := hrel
    by_cases him : i < m
    · have him2 : (i : Int) < (m : Int) := by omega
      obtain ⟨x, hx⟩ : ∃ x, xs[i]? = some x := ⟨_, List.getElem?_eq_getElem (by have := HM.out; omega)⟩
      obtain ⟨ad, rfl, hk0, hk1⟩ := elPlace (Kd.C_below HC.out HB.out) hx
      have HX := Aside0.mk hx
      clear hx
      by_cases h0 : x.f0 < 0
      · have HH := Aside0.mk h0
        have HR := Aside0.mk (once_bad (t := placeB n) (f := (fun x : S120 => x.f0)) HX.out (Or.inl (show placeB n x = false by unfold placeB; rw [decide_eq_false (show ¬ 0 ≤ x.f0 by omega)]; rfl)))
        go_wp2
        go_ret
        rw [show placesB n xs = false from by unfold placesB; rw [HR.out, Bool.false_and]]
        exact ⟨rfl, below_alloc HB.out _⟩
      · have h0' : decide (x.f0 < 0) = false := decide_eq_false h0
        by_cases h1 : n ≤ x.f0
        · have HH := Aside0.mk h1
          have HR := Aside0.mk (once_bad (t := placeB n) (f := (fun x : S120 => x.f0)) HX.out (Or.inl (show placeB n x = false by unfold placeB; rw [decide_eq_false (show ¬ x.f0 < n by omega), Bool.and_false]; rfl)))
          go_wp2
          go_ret
          rw [show placesB n xs = false from by unfold placesB; rw [HR.out, Bool.false_and]]
          exact ⟨rfl, below_alloc HB.out _⟩
        · have h1' : decide (n ≤ x.f0) = false := decide_eq_false h1
          have HOK : Aside0 (MIB.ok x.f0) := ⟨wf64 (by omega) (by omega)⟩
          have HT : Aside0 (∀ b, cheapB x.f1 = b → placeB n x = b) := ⟨fun b hb => by unfold placeB; rw [decide_eq_true (show 0 ≤ x.f0 by omega), decide_eq_true (show x.f0 < n by omega), hb]; rfl⟩
          cases hcb : cheapB x.f1 with
          | false =>
            have EC : Aside0 (Gq.class_cheap.f x.f1 = some false) := ⟨(qcheap x.f1).trans (congrArg some hcb)⟩
            have HCB := Aside0.mk hcb
            clear hcb
            have HR := Aside0.mk (once_bad (t := placeB n) (f := (fun x : S120 => x.f0)) HX.out (Or.inl (HT.out false HCB.out)))
            go_wp2_with (first
              | (go_at_call 162; refine (Gq.class_cheap.calls x.f1 _ _ EC.out).mono ?_; rintro e w4 ⟨rfl, hD⟩; have hB := hD.below; clear hD; have HNw := Aside0.mk (blk_then (blk_new wr _) hB); have HM4 := Aside0.mk ((HMp.out.alloc _).below hB (HMp.out.alloc _).lt); have HB4 := Aside0.mk (below_then (below_alloc HB.out _) (below_alloc HB.out _).size hB); clear hB; have hn0 := (blk_cell HNw.out 0).trans rfl; have hn1 := (blk_cell HNw.out 1).trans rfl))
            go_ret
            rw [show placesB n xs = false from by unfold placesB; rw [HR.out, Bool.false_and]]
            exact ⟨rfl, HB4.out⟩
          | true =>
            have EC : Aside0 (Gq.class_cheap.f x.f1 = some true) := ⟨(qcheap x.f1).trans (congrArg some hcb)⟩
            have HTT := Aside0.mk (HT.out true hcb)
            clear hcb
            by_cases h2 : x.f0 ∈ (xs.take i).map (fun x : S120 => x.f0)
            · have HMM := Aside0.mk h2
              have HL : Aside0 (∀ u, MIs MIB u w.heap.size s f → (Instr.lookup 157 (.map (some w.heap.size)) (.int .i64 x.f0) false).run Tryz.prog u = .ok (.bool true) u) := ⟨fun u hu => by have h3 := hu.run_look x.f0 HOK.out; rw [HF.out x.f0, if_pos h2] at h3; exact h3⟩
              clear h2
              have HR := Aside0.mk (once_bad (t := placeB n) (f := (fun x : S120 => x.f0)) HX.out (Or.inr HMM.out))
              go_wp2_with (first
                | (go_at_call 162; refine (Gq.class_cheap.calls x.f1 _ _ EC.out).mono ?_; rintro e w4 ⟨rfl, hD⟩; have hB := hD.below; clear hD; have HNw := Aside0.mk (blk_then (blk_new wr _) hB); have HM4 := Aside0.mk ((HMp.out.alloc _).below hB (HMp.out.alloc _).lt); have HB4 := Aside0.mk (below_then (below_alloc HB.out _) (below_alloc HB.out _).size hB); clear hB; have hn0 := (blk_cell HNw.out 0).trans rfl; have hn1 := (blk_cell HNw.out 1).trans rfl; have hlook : (Instr.lookup 157 (.map (some w.heap.size)) (.int .i64 x.f0) false).run Tryz.prog w4 = .ok (.bool true) w4 := HL.out _ HM4.out))
              go_ret
              rw [show placesB n xs = false from by unfold placesB; rw [HR.out, Bool.false_and]]
              exact ⟨rfl, HB4.out⟩
            · have HL : Aside0 (∀ u, MIs MIB u w.heap.size s f → (Instr.lookup 157 (.map (some w.heap.size)) (.int .i64 x.f0) false).run Tryz.prog u = .ok (.bool false) u) := ⟨fun u hu => by have h3 := hu.run_look x.f0 HOK.out; rw [HF.out x.f0, if_neg h2] at h3; exact h3⟩
              have HNone : Aside0 (f x.f0 = none) := ⟨by rw [HF.out x.f0, if_neg h2]⟩
              have HD2 := Aside0.mk (HD.out.step HX.out HTT.out h2)
              have HF2 := Aside0.mk (HF.out.step HX.out)
              clear h2
              go_wp2_with (first
                | (go_at_call 162; refine (Gq.class_cheap.calls x.f1 _ _ EC.out).mono ?_; rintro e w4 ⟨rfl, hD⟩; have hB := hD.below; clear hD; have HNw := Aside0.mk (blk_then (blk_new wr _) hB); have HM4 := Aside0.mk ((HMp.out.alloc _).below hB (HMp.out.alloc _).lt); have HB4 := Aside0.mk (below_then (below_alloc HB.out _) (below_alloc HB.out _).size hB); clear hB; have hn0 := (blk_cell HNw.out 0).trans rfl; have hn1 := (blk_cell HNw.out 1).trans rfl; have hlook : (Instr.lookup 157 (.map (some w.heap.size)) (.int .i64 x.f0) false).run Tryz.prog w4 = .ok (.bool false) w4 := HL.out _ HM4.out)
                | (at_mapUpdate; refine wl_put HM4.out rfl _ _ _ rfl rfl (by have := HS.out; unfold maxLen; omega) x.f0 HOK.out rfl true trivial rfl ?_; intro w5 hM5 hg5; have HM5 := Aside0.mk hM5; have HG5 := Aside0.mk hg5; clear hM5 hg5))
              exact ⟨⟨i + 1, _, s + 1, by omega, by go_num, HD2, HF2, ⟨by have := HS.out; omega⟩, ⟨by have h6 := HM5.out; rw [HNone.out] at h6; exact h6⟩, ⟨HB4.out.grown HG5.out HB4.out.size (fun q e => by cases e; exact Nat.le_refl _)⟩⟩, by simp [intOf]; omega⟩
    · obtain rfl : i = m := by omega
      have HR := Aside0.mk (show onceB (placeB n) (fun x : S120 => x.f0) xs = true from OnceTo.over (by rw [HM.out]; exact HD.out))
      by_cases hq : i ≤ 12
      · have hqd : decide ((i : Int) ≤ 12) = true := decide_eq_true (by omega)
        have HQ := Aside0.mk hq
        clear hq
        go_wp2
        go_ret
        rw [show placesB n xs = true from by unfold placesB; rw [HR.out, HM.out, decide_eq_true HQ.out]; rfl]
        exact ⟨rfl, HB.out⟩
      · have hqd : decide ((i : Int) ≤ 12) = false := decide_eq_false (by omega)
        have HQ : Aside0 (decide (i ≤ 12) = false) := ⟨decide_eq_false hq⟩
        clear hq
        go_wp2
        go_ret
        rw [show placesB n xs = false from by unfold placesB; rw [HR.out, HM.out]; have := HQ.out; simp at this ⊢; omega]
        exact ⟨rfl, HB.out⟩
end Go.Proofs.YtineikfhfmiidaaGreat.Pm
namespace Go.Proofs.YtineikfhfmiidaaGreat.Pm
open Go Go.RowKit Go.Proofs.YtineikfhfmiidaaGreat.Gp Go.Proofs.YtineikfhfmiidaaGreat.Mw Go.Proofs.YtineikfhfmiidaaGreatW.PrintWords Go.Proofs.YtineikfhfmiidaaGreatW.PrintLast Go.Proofs.YtineikfhfmiidaaGreatW.PrintMore
set_option linter.unusedVariables false
set_option linter.unusedSimpArgs false
theorem pbox_grown {w wr w1 : World} {g b : Nat} {t : TypeId} {cs : Array Value} (h : PBox w wr g t cs) (hg : wr.grownBy w1 (some b)) (hne : g ≠ b) (hb : w.heap.size ≤ b) : PBox w w1 g t cs :=
  ⟨by
    have h1 := hg.block g (blk_lt2 h.blk) (fun e => hne (Option.some.inj e))
    exact h1.trans h.blk, h.bel.grown hg h.bel.size (fun q e => by cases e; exact hb), h.ge⟩
theorem elTime {w : World} {A : Option Addr} {n : Nat} {xs : List S117} (h : Kd.C k117 w A n xs) {i : Nat} {x : S117} (hx : xs[i]? = some x) :
    ∃ ad : Addr, A = some ad ∧ w.cell? (ad.add (i * 5)) = some (.int .u32 x.f0.f0) ∧ w.cell? ⟨(ad.add (i * 5)).block, (ad.add (i * 5)).off + 1, none⟩ = some (.int .u8 x.f0.f1) ∧ w.cell? ⟨(ad.add (i * 5)).block, (ad.add (i * 5)).off + 2, none⟩ = some (.int .i64 x.f0.f2) ∧ w.cell? ⟨(ad.add (i * 5)).block, (ad.add (i * 5)).off + 3, none⟩ = some (.int .i64 x.f0.f3) ∧ w.cell? ⟨(ad.add (i * 5)).block, (ad.add (i * 5)).off + 4, none⟩ = some (.int .i64 x.f1) := by
  obtain ⟨ad, cs, e, hK, hc⟩ := cl_get h hx
  obtain rfl := k117_open hK
  exact ⟨ad, e, hc 0 _ rfl, show w.cell? ((ad.add (i * 5)).add 1) = _ by rw [Deep.add_add]; exact hc 1 _ rfl, show w.cell? ((ad.add (i * 5)).add 2) = _ by rw [Deep.add_add]; exact hc 2 _ rfl, show w.cell? ((ad.add (i * 5)).add 3) = _ by rw [Deep.add_add]; exact hc 3 _ rfl, show w.cell? ((ad.add (i * 5)).add 4) = _ by rw [Deep.add_add]; exact hc 4 _ rfl⟩
set_option maxRecDepth 100000 in
set_option maxHeartbeats 2000000 in
theorem times_is (w : World) (A : Option Addr) (m c : Nat) (xs : List S117) (g0 g1 g2 : Int) (hm : xs.length = m) (hC : Kd.C k117 w A xs.length xs) (hl : m ≤ 9223372036854775807) (hgood : ∀ x, x ∈ xs → GoodV x.f0) :
    Calls Tryz.prog 127 #[.agg #[.int .i64 g0, .int .i64 g1, .int .i64 g2], .slice A m c] w fun e w' => e = .returned (.bool (timesB g0 g1 g2 xs)) ∧ Below w.heap.size w w' := by
  have HC := Aside0.mk hC
  have HM := Aside0.mk hm
  clear hC hm
  have HGo := Aside0.mk hgood
  clear hgood
  have hug := Tryz.underlying23
  have huw := Tryz.underlying50
  have hut := Tryz.underlying117
  have hmm := @run_makeMap Tryz.prog
  go_enter Tryz.func127, Tryz.ntmps127
  go_wp2_with (first
    | ((with_reducible refine gate_dst (N := 2) rfl ?_); refine box_event ?hg (N := 2) ?hd (cs := #[.int .i64 g0, .int .i64 g1, .int .i64 g2]) (t := 23) ?hr ?_; (case hd => rfl); (case hg => rfl); (case hr => first | (go_simp; done) | (go_simp; rfl)); intro gg hgg w1 hbox hB; have HG1 := Aside0.mk (PBox.mk hbox hB (show w.heap.size ≤ gg by rw [hgg]; exact Nat.le_refl _)); clear hbox hB hgg))
  have hmb : ∃ mb, mb = w1.heap.size := ⟨_, rfl⟩
  obtain ⟨mb, hmb⟩ := hmb
  rw [← hmb]
  have HMB := Aside0.mk hmb
  clear hmb
  have HNE : Aside0 (gg ≠ mb) := ⟨by rw [HMB.out]; have := blk_lt2 HG1.out.blk; omega⟩
  have HMBl : Aside0 (w.heap.size ≤ mb) := ⟨by rw [HMB.out]; exact HG1.out.bel.size⟩
  go_loopw [11] (fun v11 wr => ∃ (i : Nat) (f : S50 → Option Bool) (s : Nat), i ≤ m ∧ v11 = .int .i64 i ∧ Aside0 (OnceTo (timeB g0 g1 g2) (fun x : S117 => x.f0) xs i) ∧ Aside0 (Seen (fun x : S117 => x.f0) xs i f) ∧ Aside0 (s ≤ i) ∧ Aside0 (MIs MWB wr mb s f) ∧ Aside0 (Below w.heap.size w wr) ∧ Aside0 (PBox w wr gg 23 #[.int .i64 g0, .int .i64 g1, .int .i64 g2])) (fun v11 _ => m - (intOf v11).toNat)
  case atStart => exact ⟨0, fun _ => none, 0, Nat.zero_le _, rfl, ⟨OnceTo.start _ _ _⟩, ⟨Seen.start _ _⟩, ⟨Nat.le_refl _⟩, ⟨by rw [HMB.out]; exact MIs.made MWB w1⟩, ⟨below_alloc HG1.out.bel _⟩, ⟨HG1.out.below (below_alloc (Below.refl _ _) _)⟩⟩
  case round =>
    clear hmm HG1 HMB
    obtain ⟨i, f, s, hi, rfl, HD, HF, HS, HMp, HB, HG⟩ := hrel
    by_cases him : i < m
    · have him2 : (i : Int) < (m : Int) := by omega
      obtain ⟨x, hx⟩ : ∃ x, xs[i]? = some x := ⟨_, List.getElem?_eq_getElem (by have := HM.out; omega)⟩
      obtain ⟨ad, rfl, hk0, hk1, hk2, hk3, hk4⟩ := elTime (Kd.C_below HC.out HB.out) hx
      have HX := Aside0.mk hx
      clear hx
      have HV := Aside0.mk (HGo.out x (List.mem_of_getElem? HX.out))
      have HGn := Aside0.mk (HG.out.below (below_alloc (Below.refl wr.heap.size wr) (.cells #[.int .u32 x.f0.f0, .int .u8 x.f0.f1, .int .i64 x.f0.f2, .int .i64 x.f0.f3, .int .i64 x.f1] 117)))
      have hgc0 := HGn.out.cell 0 rfl
      have hgc1 := HGn.out.cell 1 rfl
      have hgc2 := HGn.out.cell 2 rfl
      have HOK : Aside0 (MWB.ok x.f0) := ⟨HV.out⟩
      cases hw : whenI g0 g1 g2 x.f0 with
      | false =>
        have EW : Aside0 (Gq.when_Right.f g0 g1 g2 x.f0.f0 x.f0.f1 x.f0.f2 x.f0.f3 = some false) := ⟨(qwhenI g0 g1 g2 x.f0 HV.out.1).trans (congrArg some hw)⟩
        have HW := Aside0.mk hw
        clear hw
        have HR := Aside0.mk (once_bad (t := timeB g0 g1 g2) (f := (fun x : S117 => x.f0)) HX.out (Or.inl (show timeB g0 g1 g2 x = false by unfold timeB; rw [HW.out, Bool.false_and])))
        go_wp2_with (first
          | (go_at_call 123; refine (Gq.when_Right.calls g0 g1 g2 x.f0.f0 x.f0.f1 x.f0.f2 x.f0.f3 _ _ EW.out).mono ?_; rintro e w4 ⟨rfl, hB⟩; have HNw := Aside0.mk (blk_then (blk_new wr _) hB); have HM4 := Aside0.mk ((HMp.out.alloc _).below hB (HMp.out.alloc _).lt); have HB4 := Aside0.mk (below_then (below_alloc HB.out _) (below_alloc HB.out _).size hB); have HG4 := Aside0.mk ((HG.out.below (below_alloc (Below.refl _ _) _)).below hB); clear hB; have hn0 := (blk_cell HNw.out 0).trans rfl; have hn1 := (blk_cell HNw.out 1).trans rfl; have hn2 := (blk_cell HNw.out 2).trans rfl; have hn3 := (blk_cell HNw.out 3).trans rfl; have hn4 := (blk_cell HNw.out 4).trans rfl; have hg0 := HG4.out.cell 0 rfl; have hg1 := HG4.out.cell 1 rfl; have hg2 := HG4.out.cell 2 rfl))
        go_ret
        rw [show timesB g0 g1 g2 xs = false from by unfold timesB; rw [HR.out, Bool.false_and]]
        exact ⟨rfl, HB4.out⟩
      | true =>
        have EW : Aside0 (Gq.when_Right.f g0 g1 g2 x.f0.f0 x.f0.f1 x.f0.f2 x.f0.f3 = some true) := ⟨(qwhenI g0 g1 g2 x.f0 HV.out.1).trans (congrArg some hw)⟩
        have HT : Aside0 (∀ b, cheapB x.f1 = b → timeB g0 g1 g2 x = b) := ⟨fun b hb => by unfold timeB; rw [hw, hb, Bool.true_and]⟩
        clear hw
        cases hcb : cheapB x.f1 with
        | false =>
          have EC : Aside0 (Gq.class_cheap.f x.f1 = some false) := ⟨(qcheap x.f1).trans (congrArg some hcb)⟩
          have HCB := Aside0.mk hcb
          clear hcb
          have HR := Aside0.mk (once_bad (t := timeB g0 g1 g2) (f := (fun x : S117 => x.f0)) HX.out (Or.inl (HT.out false HCB.out)))
          go_wp2_with (first
            | (go_at_call 123; refine (Gq.when_Right.calls g0 g1 g2 x.f0.f0 x.f0.f1 x.f0.f2 x.f0.f3 _ _ EW.out).mono ?_; rintro e w4 ⟨rfl, hB⟩; have HNw := Aside0.mk (blk_then (blk_new wr _) hB); have HM4 := Aside0.mk ((HMp.out.alloc _).below hB (HMp.out.alloc _).lt); have HB4 := Aside0.mk (below_then (below_alloc HB.out _) (below_alloc HB.out _).size hB); have HG4 := Aside0.mk ((HG.out.below (below_alloc (Below.refl _ _) _)).below hB); clear hB; have hn0 := (blk_cell HNw.out 0).trans rfl; have hn1 := (blk_cell HNw.out 1).trans rfl; have hn2 := (blk_cell HNw.out 2).trans rfl; have hn3 := (blk_cell HNw.out 3).trans rfl; have hn4 := (blk_cell HNw.out 4).trans rfl; have hg0 := HG4.out.cell 0 rfl; have hg1 := HG4.out.cell 1 rfl; have hg2 := HG4.out.cell 2 rfl)
            | (go_at_call 162; refine (Gq.class_cheap.calls x.f1 _ _ EC.out).mono ?_; rintro e w4 ⟨rfl, hD⟩; have hB := hD.below; clear hD; have HNw2 := Aside0.mk (blk_then HNw.out hB); have HM42 := Aside0.mk (HM4.out.below hB HM4.out.lt); have HB42 := Aside0.mk (below_then HB4.out HB4.out.size hB); have HG42 := Aside0.mk (HG4.out.below hB); clear HNw HM4 HB4 HG4 hn0 hn1 hn2 hn3 hn4 hg0 hg1 hg2; have HNw := HNw2; have HM4 := HM42; have HB4 := HB42; have HG4 := HG42; clear HNw2 HM42 HB42 HG42; clear hB; have hn0 := (blk_cell HNw.out 0).trans rfl; have hn1 := (blk_cell HNw.out 1).trans rfl; have hn2 := (blk_cell HNw.out 2).trans rfl; have hn3 := (blk_cell HNw.out 3).trans rfl; have hn4 := (blk_cell HNw.out 4).trans rfl; have hg0 := HG4.out.cell 0 rfl; have hg1 := HG4.out.cell 1 rfl; have hg2 := HG4.out.cell 2 rfl))
          go_ret
          rw [show timesB g0 g1 g2 xs = false from by unfold timesB; rw [HR.out, Bool.false_and]]
          exact ⟨rfl, HB4.out⟩
        | true =>
          have EC : Aside0 (Gq.class_cheap.f x.f1 = some true) := ⟨(qcheap x.f1).trans (congrArg some hcb)⟩
          have HTT := Aside0.mk (HT.out true hcb)
          clear hcb
          by_cases h2 : x.f0 ∈ (xs.take i).map (fun x : S117 => x.f0)
          · have HMM := Aside0.mk h2
            have HL : Aside0 (∀ u, MIs MWB u mb s f → (Instr.lookup 182 (.map (some mb)) (.agg #[.int .u32 x.f0.f0, .int .u8 x.f0.f1, .int .i64 x.f0.f2, .int .i64 x.f0.f3]) false).run Tryz.prog u = .ok (.bool true) u) := ⟨fun u hu => by have h3 := hu.run_look x.f0 HOK.out; rw [HF.out x.f0, if_pos h2] at h3; exact h3⟩
            clear h2
            have HR := Aside0.mk (once_bad (t := timeB g0 g1 g2) (f := (fun x : S117 => x.f0)) HX.out (Or.inr HMM.out))
            go_wp2_with (first
              | (go_at_call 123; refine (Gq.when_Right.calls g0 g1 g2 x.f0.f0 x.f0.f1 x.f0.f2 x.f0.f3 _ _ EW.out).mono ?_; rintro e w4 ⟨rfl, hB⟩; have HNw := Aside0.mk (blk_then (blk_new wr _) hB); have HM4 := Aside0.mk ((HMp.out.alloc _).below hB (HMp.out.alloc _).lt); have HB4 := Aside0.mk (below_then (below_alloc HB.out _) (below_alloc HB.out _).size hB); have HG4 := Aside0.mk ((HG.out.below (below_alloc (Below.refl _ _) _)).below hB); clear hB; have hn0 := (blk_cell HNw.out 0).trans rfl; have hn1 := (blk_cell HNw.out 1).trans rfl; have hn2 := (blk_cell HNw.out 2).trans rfl; have hn3 := (blk_cell HNw.out 3).trans rfl; have hn4 := (blk_cell HNw.out 4).trans rfl; have hg0 := HG4.out.cell 0 rfl; have hg1 := HG4.out.cell 1 rfl; have hg2 := HG4.out.cell 2 rfl)
              | (go_at_call 162; refine (Gq.class_cheap.calls x.f1 _ _ EC.out).mono ?_; rintro e w4 ⟨rfl, hD⟩; have hB := hD.below; clear hD; have HNw2 := Aside0.mk (blk_then HNw.out hB); have HM42 := Aside0.mk (HM4.out.below hB HM4.out.lt); have HB42 := Aside0.mk (below_then HB4.out HB4.out.size hB); have HG42 := Aside0.mk (HG4.out.below hB); clear HNw HM4 HB4 HG4 hn0 hn1 hn2 hn3 hn4 hg0 hg1 hg2; have HNw := HNw2; have HM4 := HM42; have HB4 := HB42; have HG4 := HG42; clear HNw2 HM42 HB42 HG42; clear hB; have hn0 := (blk_cell HNw.out 0).trans rfl; have hn1 := (blk_cell HNw.out 1).trans rfl; have hn2 := (blk_cell HNw.out 2).trans rfl; have hn3 := (blk_cell HNw.out 3).trans rfl; have hn4 := (blk_cell HNw.out 4).trans rfl; have hg0 := HG4.out.cell 0 rfl; have hg1 := HG4.out.cell 1 rfl; have hg2 := HG4.out.cell 2 rfl; have hlook : (Instr.lookup 182 (.map (some mb)) (.agg #[.int .u32 x.f0.f0, .int .u8 x.f0.f1, .int .i64 x.f0.f2, .int .i64 x.f0.f3]) false).run Tryz.prog w4 = .ok (.bool true) w4 := HL.out _ HM4.out))
            go_ret
            rw [show timesB g0 g1 g2 xs = false from by unfold timesB; rw [HR.out, Bool.false_and]]
            exact ⟨rfl, HB4.out⟩
          · have HL : Aside0 (∀ u, MIs MWB u mb s f → (Instr.lookup 182 (.map (some mb)) (.agg #[.int .u32 x.f0.f0, .int .u8 x.f0.f1, .int .i64 x.f0.f2, .int .i64 x.f0.f3]) false).run Tryz.prog u = .ok (.bool false) u) := ⟨fun u hu => by have h3 := hu.run_look x.f0 HOK.out; rw [HF.out x.f0, if_neg h2] at h3; exact h3⟩
            have HNone : Aside0 (f x.f0 = none) := ⟨by rw [HF.out x.f0, if_neg h2]⟩
            have HD2 := Aside0.mk (HD.out.step HX.out HTT.out h2)
            have HF2 := Aside0.mk (HF.out.step HX.out)
            clear h2
            go_wp2_with (first
              | (go_at_call 123; refine (Gq.when_Right.calls g0 g1 g2 x.f0.f0 x.f0.f1 x.f0.f2 x.f0.f3 _ _ EW.out).mono ?_; rintro e w4 ⟨rfl, hB⟩; have HNw := Aside0.mk (blk_then (blk_new wr _) hB); have HM4 := Aside0.mk ((HMp.out.alloc _).below hB (HMp.out.alloc _).lt); have HB4 := Aside0.mk (below_then (below_alloc HB.out _) (below_alloc HB.out _).size hB); have HG4 := Aside0.mk ((HG.out.below (below_alloc (Below.refl _ _) _)).below hB); clear hB; have hn0 := (blk_cell HNw.out 0).trans rfl; have hn1 := (blk_cell HNw.out 1).trans rfl; have hn2 := (blk_cell HNw.out 2).trans rfl; have hn3 := (blk_cell HNw.out 3).trans rfl; have hn4 := (blk_cell HNw.out 4).trans rfl; have hg0 := HG4.out.cell 0 rfl; have hg1 := HG4.out.cell 1 rfl; have hg2 := HG4.out.cell 2 rfl)
              | (go_at_call 162; refine (Gq.class_cheap.calls x.f1 _ _ EC.out).mono ?_; rintro e w4 ⟨rfl, hD⟩; have hB := hD.below; clear hD; have HNw2 := Aside0.mk (blk_then HNw.out hB); have HM42 := Aside0.mk (HM4.out.below hB HM4.out.lt); have HB42 := Aside0.mk (below_then HB4.out HB4.out.size hB); have HG42 := Aside0.mk (HG4.out.below hB); clear HNw HM4 HB4 HG4 hn0 hn1 hn2 hn3 hn4 hg0 hg1 hg2; have HNw := HNw2; have HM4 := HM42; have HB4 := HB42; have HG4 := HG42; clear HNw2 HM42 HB42 HG42; clear hB; have hn0 := (blk_cell HNw.out 0).trans rfl; have hn1 := (blk_cell HNw.out 1).trans rfl; have hn2 := (blk_cell HNw.out 2).trans rfl; have hn3 := (blk_cell HNw.out 3).trans rfl; have hn4 := (blk_cell HNw.out 4).trans rfl; have hg0 := HG4.out.cell 0 rfl; have hg1 := HG4.out.cell 1 rfl; have hg2 := HG4.out.cell 2 rfl; have hlook : (Instr.lookup 182 (.map (some mb)) (.agg #[.int .u32 x.f0.f0, .int .u8 x.f0.f1, .int .i64 x.f0.f2, .int .i64 x.f0.f3]) false).run Tryz.prog w4 = .ok (.bool false) w4 := HL.out _ HM4.out)
              | (at_mapUpdate; refine wl_put HM4.out rfl _ _ _ rfl rfl (by have := HS.out; unfold maxLen; omega) x.f0 HOK.out rfl true trivial rfl ?_; intro w5 hM5 hg5; have HM5 := Aside0.mk hM5; have HG5 := Aside0.mk hg5; clear hM5 hg5))
            exact ⟨⟨i + 1, _, s + 1, by omega, by go_num, HD2, HF2, ⟨by have := HS.out; omega⟩, ⟨by have h6 := HM5.out; rw [HNone.out] at h6; exact h6⟩, ⟨HB4.out.grown HG5.out HB4.out.size (fun q e => by cases e; exact HMBl.out)⟩, ⟨pbox_grown HG4.out HG5.out HNE.out HMBl.out⟩⟩, by simp [intOf]; omega⟩
    · obtain rfl : i = m := by omega
      have HR := Aside0.mk (show onceB (timeB g0 g1 g2) (fun x : S117 => x.f0) xs = true from OnceTo.over (by rw [HM.out]; exact HD.out))
      by_cases hq0 : 0 < i
      · have hqd0 : decide ((0 : Int) < i) = true := decide_eq_true (by omega)
        have HQ0 : Aside0 (decide (0 < i) = true) := ⟨decide_eq_true hq0⟩
        by_cases hq : i ≤ 16
        · have hqd : decide ((i : Int) ≤ 16) = true := decide_eq_true (by omega)
          have HQ := Aside0.mk (decide_eq_true hq)
          go_wp2
          go_ret
          rw [show timesB g0 g1 g2 xs = true from by unfold timesB; rw [HR.out, HM.out]; simp; omega]
          exact ⟨rfl, HB.out⟩
        · have hqd : decide ((i : Int) ≤ 16) = false := decide_eq_false (by omega)
          go_wp2
          go_ret
          rw [show timesB g0 g1 g2 xs = false from by unfold timesB; rw [HR.out, HM.out]; simp; omega]
          exact ⟨rfl, HB.out⟩
      · have hqd0 : decide ((0 : Int) < i) = false := decide_eq_false (by omega)
        go_wp2
        go_ret
        rw [show timesB g0 g1 g2 xs = false from by unfold timesB; rw [HR.out, HM.out]; simp; omega]
        exact ⟨rfl, HB.out⟩
end Go.Proofs.YtineikfhfmiidaaGreat.Pm
