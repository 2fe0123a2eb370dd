import Derived.Test.YtineikfhfmiidaaGreatGpA
-- PRINTED by print.py (a twelfth state) out of the translation. Not trusted: Lean checks it.
namespace Go.Proofs.YtineikfhfmiidaaGreat.Gp
open Go.RowKit Go.Proofs.YtineikfhfmiidaaGreatW.PrintWords Go.Proofs.YtineikfhfmiidaaGreatW.PrintLast Go.Proofs.YtineikfhfmiidaaGreatW.PrintMore
attribute [local go_sem] max2_int min2_int max_two min_two max_three min_three max_four min_four   -- for this text's walks alone
set_option linter.unusedVariables false
set_option linter.unusedSimpArgs false

/-! ### problem_roomName: function 37 -/
def problem_roomName.f (a0_0 : ByteArray) (a0_1 : Int) (a0_2 : Int) (l0_3 : List (S50)) : Option (ByteArray) := some a0_0
set_option maxHeartbeats 8000000 in
set_option maxRecDepth 100000 in
theorem problem_roomName.calls (a0_0 : ByteArray) (a0_1 : Int) (a0_2 : Int) (A0_3 : Option Addr) (c0_3 : Nat) (l0_3 : List (S50)) (r : ByteArray) (w : World) (hr0_3 : Kd.C k50 w A0_3 l0_3.length l0_3) (hc0_3 : l0_3.length ≤ c0_3) (h : problem_roomName.f a0_0 a0_1 a0_2 l0_3 = some r) :
    Calls Tryz.prog 37 #[.agg #[.string a0_0, .int .i64 a0_1, .int .u16 a0_2, .slice A0_3 l0_3.length c0_3]] w fun e w' => e = .returned (.string r) ∧ Below w.heap.size w w' := by
  have hu47 := Tryz.underlying47
  have HR0_3 := Aside0.mk hr0_3
  have HC0_3 := Aside0.mk hc0_3
  clear hr0_3 hc0_3
  have HB := Aside0.mk (Below.refl w.heap.size w)
  have H : (some a0_0) = some r := h
  clear h
  obtain rfl := Option.some.inj H
  go_enter Tryz.func37, Tryz.ntmps37
  go_wp2_with (first | ((with_reducible refine gate_dst (N := 1) rfl ?_); refine box_event ?hg (N := 1) ?hd (cs := #[.string a0_0, .int .i64 a0_1, .int .u16 a0_2, .slice A0_3 l0_3.length c0_3]) (t := 47) ?hr ?_; (case hd => rfl); (case hg => rfl); (case hr => first | (go_simp; done) | (go_simp; rfl)); intro gb123 hg w2 hbox hb; have n0_ := Aside0.mk (below_step (by repeat (first | (with_reducible first | exact HB.out | apply below_alloc | apply pw_below_drewN | apply below_drew1) | exact HB.out)) hb); have n1_ := Aside0.mk (hbox); have n2_ := Aside0.mk ((by rw [hg]; exact (below_size (by repeat (first | (with_reducible first | exact HB.out | apply below_alloc | apply pw_below_drewN | apply below_drew1) | exact HB.out))) : w.heap.size ≤ gb123)); have n3_ := Aside0.mk ((by rw [hg]; exact (below_size (by repeat (first | (with_reducible first | exact HB.out | apply below_alloc | apply pw_below_drewN | apply below_drew1) | exact HB.out))) : w.heap.size ≤ gb123)); clear HB; have HB := n0_; have BK123 := n1_; have GW123 := n2_; have GE123 := n3_; clear n0_ n1_ n2_ n3_; clear hb hbox hg; have hcz3_0 : w2.cell? ⟨gb123, 0, none⟩ = some (.string a0_0) := (blk_cell BK123.out 0).trans rfl; have hcz3_1 : w2.cell? ⟨gb123, 1, none⟩ = some (.int .i64 a0_1) := (blk_cell BK123.out 1).trans rfl; have hcz3_2 : w2.cell? ⟨gb123, 2, none⟩ = some (.int .u16 a0_2) := (blk_cell BK123.out 2).trans rfl; have hcz3_3 : w2.cell? ⟨gb123, 3, none⟩ = some (.slice A0_3 l0_3.length c0_3) := (blk_cell BK123.out 3).trans rfl; have hfz3_0 := blk_frozen BK123.out 0; have hfz3_1 := blk_frozen BK123.out 1; have hfz3_2 := blk_frozen BK123.out 2; have hfz3_3 := blk_frozen BK123.out 3))
  go_ret
  exact ⟨by first | rfl | (simp [errW_none, errW_some] <;> rfl) | (simp [*, errW_none, errW_some] <;> rfl), by repeat (first | (with_reducible first | exact HB.out | apply below_alloc | apply pw_below_drewN | apply below_drew1 | refine below_set ?_ GE123.out) | exact HB.out)⟩

end Go.Proofs.YtineikfhfmiidaaGreat.Gp

-- PRINTED by print.py (a twelfth state) out of the translation. Not trusted: Lean checks it.
namespace Go.Proofs.YtineikfhfmiidaaGreat.Gp
open Go.RowKit Go.Proofs.YtineikfhfmiidaaGreatW.PrintWords Go.Proofs.YtineikfhfmiidaaGreatW.PrintLast Go.Proofs.YtineikfhfmiidaaGreatW.PrintMore
attribute [local go_sem] max2_int min2_int max_two min_two max_three min_three max_four min_four   -- for this text's walks alone
set_option linter.unusedVariables false
set_option linter.unusedSimpArgs false

/-! ### problem_personName: function 42 -/
def problem_personName.f (a0_0 : ByteArray) (l0_1 : List (S50)) : Option (ByteArray) := some a0_0
set_option maxHeartbeats 8000000 in
set_option maxRecDepth 100000 in
theorem problem_personName.calls (a0_0 : ByteArray) (A0_1 : Option Addr) (c0_1 : Nat) (l0_1 : List (S50)) (r : ByteArray) (w : World) (hr0_1 : Kd.C k50 w A0_1 l0_1.length l0_1) (hc0_1 : l0_1.length ≤ c0_1) (h : problem_personName.f a0_0 l0_1 = some r) :
    Calls Tryz.prog 42 #[.agg #[.string a0_0, .slice A0_1 l0_1.length c0_1]] w fun e w' => e = .returned (.string r) ∧ Below w.heap.size w w' := by
  have hu53 := Tryz.underlying53
  have HR0_1 := Aside0.mk hr0_1
  have HC0_1 := Aside0.mk hc0_1
  clear hr0_1 hc0_1
  have HB := Aside0.mk (Below.refl w.heap.size w)
  have H : (some a0_0) = some r := h
  clear h
  obtain rfl := Option.some.inj H
  go_enter Tryz.func42, Tryz.ntmps42
  go_wp2_with (first | ((with_reducible refine gate_dst (N := 1) rfl ?_); refine box_event ?hg (N := 1) ?hd (cs := #[.string a0_0, .slice A0_1 l0_1.length c0_1]) (t := 53) ?hr ?_; (case hd => rfl); (case hg => rfl); (case hr => first | (go_simp; done) | (go_simp; rfl)); intro gb129 hg w2 hbox hb; have n0_ := Aside0.mk (below_step (by repeat (first | (with_reducible first | exact HB.out | apply below_alloc | apply pw_below_drewN | apply below_drew1) | exact HB.out)) hb); have n1_ := Aside0.mk (hbox); have n2_ := Aside0.mk ((by rw [hg]; exact (below_size (by repeat (first | (with_reducible first | exact HB.out | apply below_alloc | apply pw_below_drewN | apply below_drew1) | exact HB.out))) : w.heap.size ≤ gb129)); have n3_ := Aside0.mk ((by rw [hg]; exact (below_size (by repeat (first | (with_reducible first | exact HB.out | apply below_alloc | apply pw_below_drewN | apply below_drew1) | exact HB.out))) : w.heap.size ≤ gb129)); clear HB; have HB := n0_; have BK129 := n1_; have GW129 := n2_; have GE129 := n3_; clear n0_ n1_ n2_ n3_; clear hb hbox hg; have hcz3_0 : w2.cell? ⟨gb129, 0, none⟩ = some (.string a0_0) := (blk_cell BK129.out 0).trans rfl; have hcz3_1 : w2.cell? ⟨gb129, 1, none⟩ = some (.slice A0_1 l0_1.length c0_1) := (blk_cell BK129.out 1).trans rfl; have hfz3_0 := blk_frozen BK129.out 0; have hfz3_1 := blk_frozen BK129.out 1))
  go_ret
  exact ⟨by first | rfl | (simp [errW_none, errW_some] <;> rfl) | (simp [*, errW_none, errW_some] <;> rfl), by repeat (first | (with_reducible first | exact HB.out | apply below_alloc | apply pw_below_drewN | apply below_drew1 | refine below_set ?_ GE129.out) | exact HB.out)⟩

end Go.Proofs.YtineikfhfmiidaaGreat.Gp

-- PRINTED by print.py (a twelfth state) out of the translation. Not trusted: Lean checks it.
namespace Go.Proofs.YtineikfhfmiidaaGreat.Gp
open Go.RowKit Go.Proofs.YtineikfhfmiidaaGreatW.PrintWords Go.Proofs.YtineikfhfmiidaaGreatW.PrintLast Go.Proofs.YtineikfhfmiidaaGreatW.PrintMore
attribute [local go_sem] max2_int min2_int max_two min_two max_three min_three max_four min_four   -- for this text's walks alone
set_option linter.unusedVariables false
set_option linter.unusedSimpArgs false

/-! ### problem_className: function 46 -/
def problem_className.f (a0_0 : ByteArray) (a0_1 : Int) (a0_2 : Int) (l0_3 : List Int) (l0_4 : List (S117)) (l0_5 : List (S120)) (a0_6 : Int) : Option (ByteArray) := some a0_0
set_option maxHeartbeats 8000000 in
set_option maxRecDepth 100000 in
theorem problem_className.calls (a0_0 : ByteArray) (a0_1 : Int) (a0_2 : Int) (A0_3 : Option Addr) (c0_3 : Nat) (l0_3 : List Int) (A0_4 : Option Addr) (c0_4 : Nat) (l0_4 : List (S117)) (A0_5 : Option Addr) (c0_5 : Nat) (l0_5 : List (S120)) (a0_6 : Int) (r : ByteArray) (w : World) (hr0_3 : Kd.C (Kd.int .i64) w A0_3 l0_3.length l0_3) (hc0_3 : l0_3.length ≤ c0_3) (hr0_4 : Kd.C k117 w A0_4 l0_4.length l0_4) (hc0_4 : l0_4.length ≤ c0_4) (hr0_5 : Kd.C k120 w A0_5 l0_5.length l0_5) (hc0_5 : l0_5.length ≤ c0_5) (h : problem_className.f a0_0 a0_1 a0_2 l0_3 l0_4 l0_5 a0_6 = some r) :
    Calls Tryz.prog 46 #[.agg #[.string a0_0, .int .i64 a0_1, .int .u16 a0_2, .slice A0_3 l0_3.length c0_3, .slice A0_4 l0_4.length c0_4, .slice A0_5 l0_5.length c0_5, .int .i64 a0_6]] w fun e w' => e = .returned (.string r) ∧ Below w.heap.size w w' := by
  have hu58 := Tryz.underlying58
  have HR0_3 := Aside0.mk hr0_3
  have HC0_3 := Aside0.mk hc0_3
  clear hr0_3 hc0_3
  have HR0_4 := Aside0.mk hr0_4
  have HC0_4 := Aside0.mk hc0_4
  clear hr0_4 hc0_4
  have HR0_5 := Aside0.mk hr0_5
  have HC0_5 := Aside0.mk hc0_5
  clear hr0_5 hc0_5
  have HB := Aside0.mk (Below.refl w.heap.size w)
  have H : (some a0_0) = some r := h
  clear h
  obtain rfl := Option.some.inj H
  go_enter Tryz.func46, Tryz.ntmps46
  go_wp2_with (first | ((with_reducible refine gate_dst (N := 1) rfl ?_); refine box_event ?hg (N := 1) ?hd (cs := #[.string a0_0, .int .i64 a0_1, .int .u16 a0_2, .slice A0_3 l0_3.length c0_3, .slice A0_4 l0_4.length c0_4, .slice A0_5 l0_5.length c0_5, .int .i64 a0_6]) (t := 58) ?hr ?_; (case hd => rfl); (case hg => rfl); (case hr => first | (go_simp; done) | (go_simp; rfl)); intro gb130 hg w2 hbox hb; have n0_ := Aside0.mk (below_step (by repeat (first | (with_reducible first | exact HB.out | apply below_alloc | apply pw_below_drewN | apply below_drew1) | exact HB.out)) hb); have n1_ := Aside0.mk (hbox); have n2_ := Aside0.mk ((by rw [hg]; exact (below_size (by repeat (first | (with_reducible first | exact HB.out | apply below_alloc | apply pw_below_drewN | apply below_drew1) | exact HB.out))) : w.heap.size ≤ gb130)); have n3_ := Aside0.mk ((by rw [hg]; exact (below_size (by repeat (first | (with_reducible first | exact HB.out | apply below_alloc | apply pw_below_drewN | apply below_drew1) | exact HB.out))) : w.heap.size ≤ gb130)); clear HB; have HB := n0_; have BK130 := n1_; have GW130 := n2_; have GE130 := n3_; clear n0_ n1_ n2_ n3_; clear hb hbox hg; have hcz3_0 : w2.cell? ⟨gb130, 0, none⟩ = some (.string a0_0) := (blk_cell BK130.out 0).trans rfl; have hcz3_1 : w2.cell? ⟨gb130, 1, none⟩ = some (.int .i64 a0_1) := (blk_cell BK130.out 1).trans rfl; have hcz3_2 : w2.cell? ⟨gb130, 2, none⟩ = some (.int .u16 a0_2) := (blk_cell BK130.out 2).trans rfl; have hcz3_3 : w2.cell? ⟨gb130, 3, none⟩ = some (.slice A0_3 l0_3.length c0_3) := (blk_cell BK130.out 3).trans rfl; have hcz3_4 : w2.cell? ⟨gb130, 4, none⟩ = some (.slice A0_4 l0_4.length c0_4) := (blk_cell BK130.out 4).trans rfl; have hcz3_5 : w2.cell? ⟨gb130, 5, none⟩ = some (.slice A0_5 l0_5.length c0_5) := (blk_cell BK130.out 5).trans rfl; have hcz3_6 : w2.cell? ⟨gb130, 6, none⟩ = some (.int .i64 a0_6) := (blk_cell BK130.out 6).trans rfl; have hfz3_0 := blk_frozen BK130.out 0; have hfz3_1 := blk_frozen BK130.out 1; have hfz3_2 := blk_frozen BK130.out 2; have hfz3_3 := blk_frozen BK130.out 3; have hfz3_4 := blk_frozen BK130.out 4; have hfz3_5 := blk_frozen BK130.out 5; have hfz3_6 := blk_frozen BK130.out 6))
  go_ret
  exact ⟨by first | rfl | (simp [errW_none, errW_some] <;> rfl) | (simp [*, errW_none, errW_some] <;> rfl), by repeat (first | (with_reducible first | exact HB.out | apply below_alloc | apply pw_below_drewN | apply below_drew1 | refine below_set ?_ GE130.out) | exact HB.out)⟩

end Go.Proofs.YtineikfhfmiidaaGreat.Gp

-- PRINTED by print.py (a twelfth state) out of the translation. Not trusted: Lean checks it.
namespace Go.Proofs.YtineikfhfmiidaaGreat.Gp
open Go.RowKit Go.Proofs.YtineikfhfmiidaaGreatW.PrintWords Go.Proofs.YtineikfhfmiidaaGreatW.PrintLast Go.Proofs.YtineikfhfmiidaaGreatW.PrintMore
attribute [local go_sem] max2_int min2_int max_two min_two max_three min_three max_four min_four   -- for this text's walks alone
set_option linter.unusedVariables false
set_option linter.unusedSimpArgs false

/-! ### problem_courseName: function 50 -/
def problem_courseName.f (a0_0 : ByteArray) (l0_1 : List (S63)) : Option (ByteArray) := some a0_0
set_option maxHeartbeats 8000000 in
set_option maxRecDepth 100000 in
theorem problem_courseName.calls (a0_0 : ByteArray) (A0_1 : Option Addr) (c0_1 : Nat) (l0_1 : List (S63)) (r : ByteArray) (w : World) (hr0_1 : Kd.C k63 w A0_1 l0_1.length l0_1) (hc0_1 : l0_1.length ≤ c0_1) (h : problem_courseName.f a0_0 l0_1 = some r) :
    Calls Tryz.prog 50 #[.agg #[.string a0_0, .slice A0_1 l0_1.length c0_1]] w fun e w' => e = .returned (.string r) ∧ Below w.heap.size w w' := by
  have hu61 := Tryz.underlying61
  have HR0_1 := Aside0.mk hr0_1
  have HC0_1 := Aside0.mk hc0_1
  clear hr0_1 hc0_1
  have HB := Aside0.mk (Below.refl w.heap.size w)
  have H : (some a0_0) = some r := h
  clear h
  obtain rfl := Option.some.inj H
  go_enter Tryz.func50, Tryz.ntmps50
  go_wp2_with (first | ((with_reducible refine gate_dst (N := 1) rfl ?_); refine box_event ?hg (N := 1) ?hd (cs := #[.string a0_0, .slice A0_1 l0_1.length c0_1]) (t := 61) ?hr ?_; (case hd => rfl); (case hg => rfl); (case hr => first | (go_simp; done) | (go_simp; rfl)); intro gb131 hg w2 hbox hb; have n0_ := Aside0.mk (below_step (by repeat (first | (with_reducible first | exact HB.out | apply below_alloc | apply pw_below_drewN | apply below_drew1) | exact HB.out)) hb); have n1_ := Aside0.mk (hbox); have n2_ := Aside0.mk ((by rw [hg]; exact (below_size (by repeat (first | (with_reducible first | exact HB.out | apply below_alloc | apply pw_below_drewN | apply below_drew1) | exact HB.out))) : w.heap.size ≤ gb131)); have n3_ := Aside0.mk ((by rw [hg]; exact (below_size (by repeat (first | (with_reducible first | exact HB.out | apply below_alloc | apply pw_below_drewN | apply below_drew1) | exact HB.out))) : w.heap.size ≤ gb131)); clear HB; have HB := n0_; have BK131 := n1_; have GW131 := n2_; have GE131 := n3_; clear n0_ n1_ n2_ n3_; clear hb hbox hg; have hcz3_0 : w2.cell? ⟨gb131, 0, none⟩ = some (.string a0_0) := (blk_cell BK131.out 0).trans rfl; have hcz3_1 : w2.cell? ⟨gb131, 1, none⟩ = some (.slice A0_1 l0_1.length c0_1) := (blk_cell BK131.out 1).trans rfl; have hfz3_0 := blk_frozen BK131.out 0; have hfz3_1 := blk_frozen BK131.out 1))
  go_ret
  exact ⟨by first | rfl | (simp [errW_none, errW_some] <;> rfl) | (simp [*, errW_none, errW_some] <;> rfl), by repeat (first | (with_reducible first | exact HB.out | apply below_alloc | apply pw_below_drewN | apply below_drew1 | refine below_set ?_ GE131.out) | exact HB.out)⟩

end Go.Proofs.YtineikfhfmiidaaGreat.Gp

-- PRINTED by print.py (a twelfth state) out of the translation. Not trusted: Lean checks it.
namespace Go.Proofs.YtineikfhfmiidaaGreat.Gp
open Go.RowKit Go.Proofs.YtineikfhfmiidaaGreatW.PrintWords Go.Proofs.YtineikfhfmiidaaGreatW.PrintLast Go.Proofs.YtineikfhfmiidaaGreatW.PrintMore
attribute [local go_sem] max2_int min2_int max_two min_two max_three min_three max_four min_four   -- for this text's walks alone
set_option linter.unusedVariables false
set_option linter.unusedSimpArgs false

/-! ### horariumref17_FindRoom: function 22 -/
def horariumref17_FindRoom.l0 : Nat → ByteArray → Int → ByteArray → Int → Int → Int → List (S47) → List (List Int) → List (S53) → List (S58) → List (S61) → List (S66) → List (S69) → Int → Int → Int → Int → Option (Int)
  | 0, _, _, _, _, _, _, _, _, _, _, _, _, _, _, _, _, _ => none
  | k + 1, x1, x5, x186000, x186001, x186002, x186003, x186004, x186005, x186006, x186007, x186008, x186009, x186010, x186011, x186012, x186013, x186014 => if x5 < (x186004.length : Int) then (if 0 ≤ x5 then (if ((rd_T47 x186004 x5).f0).toList = x1.toList then (some x5) else (horariumref17_FindRoom.l0 k x1 (wrap64 (x5 + 1)) x186000 x186001 x186002 x186003 x186004 x186005 x186006 x186007 x186008 x186009 x186010 x186011 x186012 x186013 x186014)) else (none)) else (some (-1))
def horariumref17_FindRoom.f (k : Nat) (a0_0 : ByteArray) (a0_1 : Int) (a0_2 : Int) (a0_3 : Int) (l0_4 : List (S47)) (l0_5 : List (List Int)) (l0_6 : List (S53)) (l0_7 : List (S58)) (l0_8 : List (S61)) (l0_9 : List (S66)) (l0_10 : List (S69)) (a0_11 : Int) (a0_12 : Int) (a0_13 : Int) (a0_14 : Int) (a1 : ByteArray) : Option (Int) := horariumref17_FindRoom.l0 k a1 0 a0_0 a0_1 a0_2 a0_3 l0_4 l0_5 l0_6 l0_7 l0_8 l0_9 l0_10 a0_11 a0_12 a0_13 a0_14
theorem horariumref17_FindRoom.mono_l : ∀ k, (∀ y0 y1 y2 y3 y4 y5 y6 y7 y8 y9 y10 y11 y12 y13 y14 y15 y16, LeO (horariumref17_FindRoom.l0 k y0 y1 y2 y3 y4 y5 y6 y7 y8 y9 y10 y11 y12 y13 y14 y15 y16) (horariumref17_FindRoom.l0 (k + 1) y0 y1 y2 y3 y4 y5 y6 y7 y8 y9 y10 y11 y12 y13 y14 y15 y16))
  | 0 => fun _ _ _ _ _ _ _ _ _ _ _ _ _ _ _ _ _ r h => by simp [horariumref17_FindRoom.l0] at h
  | k + 1 => by
    have ih0 := horariumref17_FindRoom.mono_l k
    · intro y0 y1 y2 y3 y4 y5 y6 y7 y8 y9 y10 y11 y12 y13 y14 y15 y16
      unfold horariumref17_FindRoom.l0
      repeat' first
      | (with_reducible exact ih0 _ _ _ _ _ _ _ _ _ _ _ _ _ _ _ _ _)
      | (with_reducible exact LeO.refl _)
      | (with_reducible exact LeO.none _)
      | (with_reducible refine LeO.ite ?_ ?_)
      | (with_reducible refine LeO.bind ?_ (fun _ => ?_))
      | exact ih0 _ _ _ _ _ _ _ _ _ _ _ _ _ _ _ _ _
      | exact LeO.none _
      | refine LeO.ite ?_ ?_
      | refine LeO.bind ?_ (fun _ => ?_)
theorem horariumref17_FindRoom.mono : ∀ a0 a1 a2 a3 a4 a5 a6 a7 a8 a9 a10 a11 a12 a13 a14 a15 k, LeO (horariumref17_FindRoom.f k a0 a1 a2 a3 a4 a5 a6 a7 a8 a9 a10 a11 a12 a13 a14 a15) (horariumref17_FindRoom.f (k + 1) a0 a1 a2 a3 a4 a5 a6 a7 a8 a9 a10 a11 a12 a13 a14 a15) := by
  intro a0 a1 a2 a3 a4 a5 a6 a7 a8 a9 a10 a11 a12 a13 a14 a15 k
  have ih0 := horariumref17_FindRoom.mono_l k
  unfold horariumref17_FindRoom.f
  repeat' first
      | (with_reducible exact ih0 _ _ _ _ _ _ _ _ _ _ _ _ _ _ _ _ _)
      | (with_reducible exact LeO.refl _)
      | (with_reducible exact LeO.none _)
      | (with_reducible refine LeO.ite ?_ ?_)
      | (with_reducible refine LeO.bind ?_ (fun _ => ?_))
      | exact ih0 _ _ _ _ _ _ _ _ _ _ _ _ _ _ _ _ _
      | exact LeO.none _
      | refine LeO.ite ?_ ?_
      | refine LeO.bind ?_ (fun _ => ?_)
set_option maxHeartbeats 8000000 in
set_option maxRecDepth 100000 in
theorem horariumref17_FindRoom.calls (k : Nat) (a0_0 : ByteArray) (a0_1 : Int) (a0_2 : Int) (a0_3 : Int) (A0_4 : Option Addr) (c0_4 : Nat) (l0_4 : List (S47)) (A0_5 : Option Addr) (c0_5 : Nat) (l0_5 : List (List Int)) (A0_6 : Option Addr) (c0_6 : Nat) (l0_6 : List (S53)) (A0_7 : Option Addr) (c0_7 : Nat) (l0_7 : List (S58)) (A0_8 : Option Addr) (c0_8 : Nat) (l0_8 : List (S61)) (A0_9 : Option Addr) (c0_9 : Nat) (l0_9 : List (S66)) (A0_10 : Option Addr) (c0_10 : Nat) (l0_10 : List (S69)) (a0_11 : Int) (a0_12 : Int) (a0_13 : Int) (a0_14 : Int) (a1 : ByteArray) (r : Int) (w : World) (hr0_4 : Kd.C k47 w A0_4 l0_4.length l0_4) (hc0_4 : l0_4.length ≤ c0_4) (hr0_5 : Kd.C (Kd.slice 3 (Kd.int .i64)) w A0_5 l0_5.length l0_5) (hc0_5 : l0_5.length ≤ c0_5) (hr0_6 : Kd.C k53 w A0_6 l0_6.length l0_6) (hc0_6 : l0_6.length ≤ c0_6) (hr0_7 : Kd.C k58 w A0_7 l0_7.length l0_7) (hc0_7 : l0_7.length ≤ c0_7) (hr0_8 : Kd.C k61 w A0_8 l0_8.length l0_8) (hc0_8 : l0_8.length ≤ c0_8) (hr0_9 : Kd.C k66 w A0_9 l0_9.length l0_9) (hc0_9 : l0_9.length ≤ c0_9) (hr0_10 : Kd.C k69 w A0_10 l0_10.length l0_10) (hc0_10 : l0_10.length ≤ c0_10) (h : horariumref17_FindRoom.f k a0_0 a0_1 a0_2 a0_3 l0_4 l0_5 l0_6 l0_7 l0_8 l0_9 l0_10 a0_11 a0_12 a0_13 a0_14 a1 = some r) :
    Calls Tryz.prog 22 #[.agg #[.string a0_0, .int .i64 a0_1, .int .i64 a0_2, .int .i64 a0_3, .slice A0_4 l0_4.length c0_4, .slice A0_5 l0_5.length c0_5, .slice A0_6 l0_6.length c0_6, .slice A0_7 l0_7.length c0_7, .slice A0_8 l0_8.length c0_8, .slice A0_9 l0_9.length c0_9, .slice A0_10 l0_10.length c0_10, .int .i64 a0_11, .int .i64 a0_12, .int .i64 a0_13, .int .i64 a0_14], .string a1] w fun e w' => e = .returned (.int .i64 r) ∧ Below w.heap.size w w' := by
  have hu34 := Tryz.underlying34
  have HR0_4 := Aside0.mk hr0_4
  have HC0_4 := Aside0.mk hc0_4
  clear hr0_4 hc0_4
  have HR0_5 := Aside0.mk hr0_5
  have HC0_5 := Aside0.mk hc0_5
  clear hr0_5 hc0_5
  have HR0_6 := Aside0.mk hr0_6
  have HC0_6 := Aside0.mk hc0_6
  clear hr0_6 hc0_6
  have HR0_7 := Aside0.mk hr0_7
  have HC0_7 := Aside0.mk hc0_7
  clear hr0_7 hc0_7
  have HR0_8 := Aside0.mk hr0_8
  have HC0_8 := Aside0.mk hc0_8
  clear hr0_8 hc0_8
  have HR0_9 := Aside0.mk hr0_9
  have HC0_9 := Aside0.mk hc0_9
  clear hr0_9 hc0_9
  have HR0_10 := Aside0.mk hr0_10
  have HC0_10 := Aside0.mk hc0_10
  clear hr0_10 hc0_10
  have HB := Aside0.mk (Below.refl w.heap.size w)
  have H : (horariumref17_FindRoom.l0 k a1 0 a0_0 a0_1 a0_2 a0_3 l0_4 l0_5 l0_6 l0_7 l0_8 l0_9 l0_10 a0_11 a0_12 a0_13 a0_14) = some r := h
  clear h
  have H' := Aside0.mk H
  clear H
  go_enter Tryz.func22, Tryz.ntmps22
  go_wp2_with (first | ((with_reducible refine gate_dst (N := 2) rfl ?_); refine box_event ?hg (N := 2) ?hd (cs := #[.string a0_0, .int .i64 a0_1, .int .i64 a0_2, .int .i64 a0_3, .slice A0_4 l0_4.length c0_4, .slice A0_5 l0_5.length c0_5, .slice A0_6 l0_6.length c0_6, .slice A0_7 l0_7.length c0_7, .slice A0_8 l0_8.length c0_8, .slice A0_9 l0_9.length c0_9, .slice A0_10 l0_10.length c0_10, .int .i64 a0_11, .int .i64 a0_12, .int .i64 a0_13, .int .i64 a0_14]) (t := 34) ?hr ?_; (case hd => rfl); (case hg => rfl); (case hr => first | (go_simp; done) | (go_simp; rfl)); intro gb185 hg w3 hbox hb; have n0_ := Aside0.mk (below_step (by repeat (first | (with_reducible first | exact HB.out | apply below_alloc | apply pw_below_drewN | apply below_drew1) | exact HB.out)) hb); have n1_ := Aside0.mk (hbox); have n2_ := Aside0.mk ((by rw [hg]; exact (below_size (by repeat (first | (with_reducible first | exact HB.out | apply below_alloc | apply pw_below_drewN | apply below_drew1) | exact HB.out))) : w.heap.size ≤ gb185)); have n3_ := Aside0.mk ((by rw [hg]; exact (below_size (by repeat (first | (with_reducible first | exact HB.out | apply below_alloc | apply pw_below_drewN | apply below_drew1) | exact HB.out))) : w.heap.size ≤ gb185)); clear HB; have HB := n0_; have BK185 := n1_; have GW185 := n2_; have GE185 := n3_; clear n0_ n1_ n2_ n3_; clear hb hbox hg))
  go_loopg [5] k (fun kq v5 w' => ∃ (x5_1 : Int), v5 = .int .i64 x5_1 ∧ Aside0 (horariumref17_FindRoom.l0 kq a1 x5_1 a0_0 a0_1 a0_2 a0_3 l0_4 l0_5 l0_6 l0_7 l0_8 l0_9 l0_10 a0_11 a0_12 a0_13 a0_14 = some r) ∧ Aside0 (kq ≤ k) ∧ Aside0 (w'.heap[gb185]? = some (.cells #[.string a0_0, .int .i64 a0_1, .int .i64 a0_2, .int .i64 a0_3, (.slice A0_4 l0_4.length c0_4), (.slice A0_5 l0_5.length c0_5), (.slice A0_6 l0_6.length c0_6), (.slice A0_7 l0_7.length c0_7), (.slice A0_8 l0_8.length c0_8), (.slice A0_9 l0_9.length c0_9), (.slice A0_10 l0_10.length c0_10), .int .i64 a0_11, .int .i64 a0_12, .int .i64 a0_13, .int .i64 a0_14] 34 (0, 0))) ∧ Aside0 (Below w.heap.size w w'))
  case atStart => exact ⟨(0), (by first | rfl | (simp; done) | (simp [*]; done)), H', ⟨Nat.le_refl _⟩, ⟨by (with_reducible repeat (first | refine blk_drewN ?_ _ | refine blk_drew ?_ | refine blk_alloc ?_ _)); exact BK185.out⟩, ⟨by repeat (first | (with_reducible first | exact HB.out | apply below_alloc | apply pw_below_drewN | apply below_drew1 | refine below_set ?_ GE185.out) | exact HB.out)⟩⟩
  case round =>
    clear H'
    try clear c2
    try clear p2
    obtain ⟨x5_1, rfl, HA, HK1, BK185, HB⟩ := hrel
    cases gk with
    | zero => exact absurd HA.out (by simp [horariumref17_FindRoom.l0])
    | succ k1 =>
      have H := HA.out
      clear HA
      simp only [horariumref17_FindRoom.l0] at H
      by_cases c4 : x5_1 < (l0_4.length : Int)
      · rw [if_pos c4] at H
        have c4b0 : decide (x5_1 < (l0_4.length : Int)) = true := decide_eq_true c4
        clear c4
        by_cases c5 : 0 ≤ x5_1
        · rw [if_pos c5] at H
          have c5b0 : decide (0 ≤ x5_1) = true := decide_eq_true c5
          clear c5
          by_cases c6 : ((rd_T47 l0_4 x5_1).f0).toList = a1.toList
          · rw [if_pos c6] at H
            have c6b0 : (((rd_T47 l0_4 x5_1).f0).toList == a1.toList) = true := beq_iff_eq.mpr c6
            have c6b1 : (((rd_T47 l0_4 x5_1).f0).toList != a1.toList) = false := bne_eq_false_iff_eq.mpr c6
            clear c6
            obtain rfl := Option.some.inj H
            have hcz7_0 : wr.cell? ⟨gb185, 0, none⟩ = some (.string a0_0) := (blk_cell BK185.out 0).trans rfl
            have hcz7_1 : wr.cell? ⟨gb185, 1, none⟩ = some (.int .i64 a0_1) := (blk_cell BK185.out 1).trans rfl
            have hcz7_2 : wr.cell? ⟨gb185, 2, none⟩ = some (.int .i64 a0_2) := (blk_cell BK185.out 2).trans rfl
            have hcz7_3 : wr.cell? ⟨gb185, 3, none⟩ = some (.int .i64 a0_3) := (blk_cell BK185.out 3).trans rfl
            have hcz7_4 : wr.cell? ⟨gb185, 4, none⟩ = some (.slice A0_4 l0_4.length c0_4) := (blk_cell BK185.out 4).trans rfl
            have hcz7_5 : wr.cell? ⟨gb185, 5, none⟩ = some (.slice A0_5 l0_5.length c0_5) := (blk_cell BK185.out 5).trans rfl
            have hcz7_6 : wr.cell? ⟨gb185, 6, none⟩ = some (.slice A0_6 l0_6.length c0_6) := (blk_cell BK185.out 6).trans rfl
            have hcz7_7 : wr.cell? ⟨gb185, 7, none⟩ = some (.slice A0_7 l0_7.length c0_7) := (blk_cell BK185.out 7).trans rfl
            have hcz7_8 : wr.cell? ⟨gb185, 8, none⟩ = some (.slice A0_8 l0_8.length c0_8) := (blk_cell BK185.out 8).trans rfl
            have hcz7_9 : wr.cell? ⟨gb185, 9, none⟩ = some (.slice A0_9 l0_9.length c0_9) := (blk_cell BK185.out 9).trans rfl
            have hcz7_10 : wr.cell? ⟨gb185, 10, none⟩ = some (.slice A0_10 l0_10.length c0_10) := (blk_cell BK185.out 10).trans rfl
            have hcz7_11 : wr.cell? ⟨gb185, 11, none⟩ = some (.int .i64 a0_11) := (blk_cell BK185.out 11).trans rfl
            have hcz7_12 : wr.cell? ⟨gb185, 12, none⟩ = some (.int .i64 a0_12) := (blk_cell BK185.out 12).trans rfl
            have hcz7_13 : wr.cell? ⟨gb185, 13, none⟩ = some (.int .i64 a0_13) := (blk_cell BK185.out 13).trans rfl
            have hcz7_14 : wr.cell? ⟨gb185, 14, none⟩ = some (.int .i64 a0_14) := (blk_cell BK185.out 14).trans rfl
            have hfz7_0 := blk_frozen BK185.out 0
            have hfz7_1 := blk_frozen BK185.out 1
            have hfz7_2 := blk_frozen BK185.out 2
            have hfz7_3 := blk_frozen BK185.out 3
            have hfz7_4 := blk_frozen BK185.out 4
            have hfz7_5 := blk_frozen BK185.out 5
            have hfz7_6 := blk_frozen BK185.out 6
            have hfz7_7 := blk_frozen BK185.out 7
            have hfz7_8 := blk_frozen BK185.out 8
            have hfz7_9 := blk_frozen BK185.out 9
            have hfz7_10 := blk_frozen BK185.out 10
            have hfz7_11 := blk_frozen BK185.out 11
            have hfz7_12 := blk_frozen BK185.out 12
            have hfz7_13 := blk_frozen BK185.out 13
            have hfz7_14 := blk_frozen BK185.out 14
            have p186 : 0 ≤ (x5_1 : Int) := of_decide_eq_true (by first | (with_reducible assumption) | assumption)
            have q186 : x5_1 < (l0_4.length : Int) := of_decide_eq_true (by first | (with_reducible assumption) | assumption)
            obtain ⟨ad186, A186_3, c186_3, e186, hx186_0, hx186_1, hx186_2, hx186_3, hl186_3, hi186_3⟩ := at_T47 HR0_4.out x5_1 p186 q186
            cases e186
            replace hx186_0 := (HB.out.cell (World.block_lt_of_cell? w _ hx186_0)).trans hx186_0
            replace hx186_1 := (HB.out.cell (World.block_lt_of_cell? w _ hx186_1)).trans hx186_1
            replace hx186_2 := (HB.out.cell (World.block_lt_of_cell? w _ hx186_2)).trans hx186_2
            replace hx186_3 := (HB.out.cell (World.block_lt_of_cell? w _ hx186_3)).trans hx186_3
            have HR186_3 := Aside0.mk hi186_3
            have HC186_3 := Aside0.mk hl186_3
            clear hi186_3 hl186_3
            replace p186 := eq_true p186
            replace q186 := eq_true q186
            go_wp2
            go_ret
            exact ⟨by first | rfl | (simp [errW_none, errW_some] <;> rfl) | (simp [*, errW_none, errW_some] <;> rfl), by repeat (first | (with_reducible first | exact HB.out | apply below_alloc | apply pw_below_drewN | apply below_drew1 | refine below_set ?_ GE185.out) | exact HB.out)⟩
          · rw [if_neg c6] at H
            have c6b0 : (((rd_T47 l0_4 x5_1).f0).toList == a1.toList) = false := beq_eq_false_iff_ne.mpr c6
            have c6b1 : (((rd_T47 l0_4 x5_1).f0).toList != a1.toList) = true := bne_iff_ne.mpr c6
            have H' := Aside0.mk H
            clear H
            have hcz8_0 : wr.cell? ⟨gb185, 0, none⟩ = some (.string a0_0) := (blk_cell BK185.out 0).trans rfl
            have hcz8_1 : wr.cell? ⟨gb185, 1, none⟩ = some (.int .i64 a0_1) := (blk_cell BK185.out 1).trans rfl
            have hcz8_2 : wr.cell? ⟨gb185, 2, none⟩ = some (.int .i64 a0_2) := (blk_cell BK185.out 2).trans rfl
            have hcz8_3 : wr.cell? ⟨gb185, 3, none⟩ = some (.int .i64 a0_3) := (blk_cell BK185.out 3).trans rfl
            have hcz8_4 : wr.cell? ⟨gb185, 4, none⟩ = some (.slice A0_4 l0_4.length c0_4) := (blk_cell BK185.out 4).trans rfl
            have hcz8_5 : wr.cell? ⟨gb185, 5, none⟩ = some (.slice A0_5 l0_5.length c0_5) := (blk_cell BK185.out 5).trans rfl
            have hcz8_6 : wr.cell? ⟨gb185, 6, none⟩ = some (.slice A0_6 l0_6.length c0_6) := (blk_cell BK185.out 6).trans rfl
            have hcz8_7 : wr.cell? ⟨gb185, 7, none⟩ = some (.slice A0_7 l0_7.length c0_7) := (blk_cell BK185.out 7).trans rfl
            have hcz8_8 : wr.cell? ⟨gb185, 8, none⟩ = some (.slice A0_8 l0_8.length c0_8) := (blk_cell BK185.out 8).trans rfl
            have hcz8_9 : wr.cell? ⟨gb185, 9, none⟩ = some (.slice A0_9 l0_9.length c0_9) := (blk_cell BK185.out 9).trans rfl
            have hcz8_10 : wr.cell? ⟨gb185, 10, none⟩ = some (.slice A0_10 l0_10.length c0_10) := (blk_cell BK185.out 10).trans rfl
            have hcz8_11 : wr.cell? ⟨gb185, 11, none⟩ = some (.int .i64 a0_11) := (blk_cell BK185.out 11).trans rfl
            have hcz8_12 : wr.cell? ⟨gb185, 12, none⟩ = some (.int .i64 a0_12) := (blk_cell BK185.out 12).trans rfl
            have hcz8_13 : wr.cell? ⟨gb185, 13, none⟩ = some (.int .i64 a0_13) := (blk_cell BK185.out 13).trans rfl
            have hcz8_14 : wr.cell? ⟨gb185, 14, none⟩ = some (.int .i64 a0_14) := (blk_cell BK185.out 14).trans rfl
            have hfz8_0 := blk_frozen BK185.out 0
            have hfz8_1 := blk_frozen BK185.out 1
            have hfz8_2 := blk_frozen BK185.out 2
            have hfz8_3 := blk_frozen BK185.out 3
            have hfz8_4 := blk_frozen BK185.out 4
            have hfz8_5 := blk_frozen BK185.out 5
            have hfz8_6 := blk_frozen BK185.out 6
            have hfz8_7 := blk_frozen BK185.out 7
            have hfz8_8 := blk_frozen BK185.out 8
            have hfz8_9 := blk_frozen BK185.out 9
            have hfz8_10 := blk_frozen BK185.out 10
            have hfz8_11 := blk_frozen BK185.out 11
            have hfz8_12 := blk_frozen BK185.out 12
            have hfz8_13 := blk_frozen BK185.out 13
            have hfz8_14 := blk_frozen BK185.out 14
            have p186 : 0 ≤ (x5_1 : Int) := of_decide_eq_true (by first | (with_reducible assumption) | assumption)
            have q186 : x5_1 < (l0_4.length : Int) := of_decide_eq_true (by first | (with_reducible assumption) | assumption)
            obtain ⟨ad186, A186_3, c186_3, e186, hx186_0, hx186_1, hx186_2, hx186_3, hl186_3, hi186_3⟩ := at_T47 HR0_4.out x5_1 p186 q186
            cases e186
            replace hx186_0 := (HB.out.cell (World.block_lt_of_cell? w _ hx186_0)).trans hx186_0
            replace hx186_1 := (HB.out.cell (World.block_lt_of_cell? w _ hx186_1)).trans hx186_1
            replace hx186_2 := (HB.out.cell (World.block_lt_of_cell? w _ hx186_2)).trans hx186_2
            replace hx186_3 := (HB.out.cell (World.block_lt_of_cell? w _ hx186_3)).trans hx186_3
            have HR186_3 := Aside0.mk hi186_3
            have HC186_3 := Aside0.mk hl186_3
            clear hi186_3 hl186_3
            replace p186 := eq_true p186
            replace q186 := eq_true q186
            go_wp2
            go_roundg k1
            case measure => have := HK1.out; omega
            case rel => exact ⟨(wrap64 (x5_1 + 1)), (by first | rfl | (simp; done) | (simp [*]; done)), H', ⟨by have := HK1.out; omega⟩, ⟨by (with_reducible repeat (first | refine blk_drewN ?_ _ | refine blk_drew ?_ | refine blk_alloc ?_ _)); exact BK185.out⟩, ⟨by repeat (first | (with_reducible first | exact HB.out | apply below_alloc | apply pw_below_drewN | apply below_drew1 | refine below_set ?_ GE185.out) | exact HB.out)⟩⟩
        · rw [if_neg c5] at H
          exact absurd H (by simp)
      · rw [if_neg c4] at H
        have c4b0 : decide (x5_1 < (l0_4.length : Int)) = false := decide_eq_false c4
        clear c4
        obtain rfl := Option.some.inj H
        have hcz9_0 : wr.cell? ⟨gb185, 0, none⟩ = some (.string a0_0) := (blk_cell BK185.out 0).trans rfl
        have hcz9_1 : wr.cell? ⟨gb185, 1, none⟩ = some (.int .i64 a0_1) := (blk_cell BK185.out 1).trans rfl
        have hcz9_2 : wr.cell? ⟨gb185, 2, none⟩ = some (.int .i64 a0_2) := (blk_cell BK185.out 2).trans rfl
        have hcz9_3 : wr.cell? ⟨gb185, 3, none⟩ = some (.int .i64 a0_3) := (blk_cell BK185.out 3).trans rfl
        have hcz9_4 : wr.cell? ⟨gb185, 4, none⟩ = some (.slice A0_4 l0_4.length c0_4) := (blk_cell BK185.out 4).trans rfl
        have hcz9_5 : wr.cell? ⟨gb185, 5, none⟩ = some (.slice A0_5 l0_5.length c0_5) := (blk_cell BK185.out 5).trans rfl
        have hcz9_6 : wr.cell? ⟨gb185, 6, none⟩ = some (.slice A0_6 l0_6.length c0_6) := (blk_cell BK185.out 6).trans rfl
        have hcz9_7 : wr.cell? ⟨gb185, 7, none⟩ = some (.slice A0_7 l0_7.length c0_7) := (blk_cell BK185.out 7).trans rfl
        have hcz9_8 : wr.cell? ⟨gb185, 8, none⟩ = some (.slice A0_8 l0_8.length c0_8) := (blk_cell BK185.out 8).trans rfl
        have hcz9_9 : wr.cell? ⟨gb185, 9, none⟩ = some (.slice A0_9 l0_9.length c0_9) := (blk_cell BK185.out 9).trans rfl
        have hcz9_10 : wr.cell? ⟨gb185, 10, none⟩ = some (.slice A0_10 l0_10.length c0_10) := (blk_cell BK185.out 10).trans rfl
        have hcz9_11 : wr.cell? ⟨gb185, 11, none⟩ = some (.int .i64 a0_11) := (blk_cell BK185.out 11).trans rfl
        have hcz9_12 : wr.cell? ⟨gb185, 12, none⟩ = some (.int .i64 a0_12) := (blk_cell BK185.out 12).trans rfl
        have hcz9_13 : wr.cell? ⟨gb185, 13, none⟩ = some (.int .i64 a0_13) := (blk_cell BK185.out 13).trans rfl
        have hcz9_14 : wr.cell? ⟨gb185, 14, none⟩ = some (.int .i64 a0_14) := (blk_cell BK185.out 14).trans rfl
        have hfz9_0 := blk_frozen BK185.out 0
        have hfz9_1 := blk_frozen BK185.out 1
        have hfz9_2 := blk_frozen BK185.out 2
        have hfz9_3 := blk_frozen BK185.out 3
        have hfz9_4 := blk_frozen BK185.out 4
        have hfz9_5 := blk_frozen BK185.out 5
        have hfz9_6 := blk_frozen BK185.out 6
        have hfz9_7 := blk_frozen BK185.out 7
        have hfz9_8 := blk_frozen BK185.out 8
        have hfz9_9 := blk_frozen BK185.out 9
        have hfz9_10 := blk_frozen BK185.out 10
        have hfz9_11 := blk_frozen BK185.out 11
        have hfz9_12 := blk_frozen BK185.out 12
        have hfz9_13 := blk_frozen BK185.out 13
        have hfz9_14 := blk_frozen BK185.out 14
        go_wp2
        go_ret
        exact ⟨by first | rfl | (simp [errW_none, errW_some] <;> rfl) | (simp [*, errW_none, errW_some] <;> rfl), by repeat (first | (with_reducible first | exact HB.out | apply below_alloc | apply pw_below_drewN | apply below_drew1 | refine below_set ?_ GE185.out) | exact HB.out)⟩

end Go.Proofs.YtineikfhfmiidaaGreat.Gp

-- PRINTED by print.py (a twelfth state) out of the translation. Not trusted: Lean checks it.
namespace Go.Proofs.YtineikfhfmiidaaGreat.Gp
open Go.RowKit Go.Proofs.YtineikfhfmiidaaGreatW.PrintWords Go.Proofs.YtineikfhfmiidaaGreatW.PrintLast Go.Proofs.YtineikfhfmiidaaGreatW.PrintMore
attribute [local go_sem] max2_int min2_int max_two min_two max_three min_three max_four min_four   -- for this text's walks alone
set_option linter.unusedVariables false
set_option linter.unusedSimpArgs false

/-! ### horariumref17_FindPerson: function 24 -/
def horariumref17_FindPerson.l0 : Nat → ByteArray → Int → ByteArray → Int → Int → Int → List (S47) → List (List Int) → List (S53) → List (S58) → List (S61) → List (S66) → List (S69) → Int → Int → Int → Int → Option (Int)
  | 0, _, _, _, _, _, _, _, _, _, _, _, _, _, _, _, _, _ => none
  | k + 1, x1, x5, x189000, x189001, x189002, x189003, x189004, x189005, x189006, x189007, x189008, x189009, x189010, x189011, x189012, x189013, x189014 => if x5 < (x189006.length : Int) then (if 0 ≤ x5 then (if ((rd_T53 x189006 x5).f0).toList = x1.toList then (some x5) else (horariumref17_FindPerson.l0 k x1 (wrap64 (x5 + 1)) x189000 x189001 x189002 x189003 x189004 x189005 x189006 x189007 x189008 x189009 x189010 x189011 x189012 x189013 x189014)) else (none)) else (some (-1))
def horariumref17_FindPerson.f (k : Nat) (a0_0 : ByteArray) (a0_1 : Int) (a0_2 : Int) (a0_3 : Int) (l0_4 : List (S47)) (l0_5 : List (List Int)) (l0_6 : List (S53)) (l0_7 : List (S58)) (l0_8 : List (S61)) (l0_9 : List (S66)) (l0_10 : List (S69)) (a0_11 : Int) (a0_12 : Int) (a0_13 : Int) (a0_14 : Int) (a1 : ByteArray) : Option (Int) := horariumref17_FindPerson.l0 k a1 0 a0_0 a0_1 a0_2 a0_3 l0_4 l0_5 l0_6 l0_7 l0_8 l0_9 l0_10 a0_11 a0_12 a0_13 a0_14
theorem horariumref17_FindPerson.mono_l : ∀ k, (∀ y0 y1 y2 y3 y4 y5 y6 y7 y8 y9 y10 y11 y12 y13 y14 y15 y16, LeO (horariumref17_FindPerson.l0 k y0 y1 y2 y3 y4 y5 y6 y7 y8 y9 y10 y11 y12 y13 y14 y15 y16) (horariumref17_FindPerson.l0 (k + 1) y0 y1 y2 y3 y4 y5 y6 y7 y8 y9 y10 y11 y12 y13 y14 y15 y16))
  | 0 => fun _ _ _ _ _ _ _ _ _ _ _ _ _ _ _ _ _ r h => by simp [horariumref17_FindPerson.l0] at h
  | k + 1 => by
    have ih0 := horariumref17_FindPerson.mono_l k
    · intro y0 y1 y2 y3 y4 y5 y6 y7 y8 y9 y10 y11 y12 y13 y14 y15 y16
      unfold horariumref17_FindPerson.l0
      repeat' first
      | (with_reducible exact ih0 _ _ _ _ _ _ _ _ _ _ _ _ _ _ _ _ _)
      | (with_reducible exact LeO.refl _)
      | (with_reducible exact LeO.none _)
      | (with_reducible refine LeO.ite ?_ ?_)
      | (with_reducible refine LeO.bind ?_ (fun _ => ?_))
      | exact ih0 _ _ _ _ _ _ _ _ _ _ _ _ _ _ _ _ _
      | exact LeO.none _
      | refine LeO.ite ?_ ?_
      | refine LeO.bind ?_ (fun _ => ?_)
theorem horariumref17_FindPerson.mono : ∀ a0 a1 a2 a3 a4 a5 a6 a7 a8 a9 a10 a11 a12 a13 a14 a15 k, LeO (horariumref17_FindPerson.f k a0 a1 a2 a3 a4 a5 a6 a7 a8 a9 a10 a11 a12 a13 a14 a15) (horariumref17_FindPerson.f (k + 1) a0 a1 a2 a3 a4 a5 a6 a7 a8 a9 a10 a11 a12 a13 a14 a15) := by
  intro a0 a1 a2 a3 a4 a5 a6 a7 a8 a9 a10 a11 a12 a13 a14 a15 k
  have ih0 := horariumref17_FindPerson.mono_l k
  unfold horariumref17_FindPerson.f
  repeat' first
      | (with_reducible exact ih0 _ _ _ _ _ _ _ _ _ _ _ _ _ _ _ _ _)
      | (with_reducible exact LeO.refl _)
      | (with_reducible exact LeO.none _)
      | (with_reducible refine LeO.ite ?_ ?_)
      | (with_reducible refine LeO.bind ?_ (fun _ => ?_))
      | exact ih0 _ _ _ _ _ _ _ _ _ _ _ _ _ _ _ _ _
      | exact LeO.none _
      | refine LeO.ite ?_ ?_
      | refine LeO.bind ?_ (fun _ => ?_)
set_option maxHeartbeats 8000000 in
set_option maxRecDepth 100000 in
theorem horariumref17_FindPerson.calls (k : Nat) (a0_0 : ByteArray) (a0_1 : Int) (a0_2 : Int) (a0_3 : Int) (A0_4 : Option Addr) (c0_4 : Nat) (l0_4 : List (S47)) (A0_5 : Option Addr) (c0_5 : Nat) (l0_5 : List (List Int)) (A0_6 : Option Addr) (c0_6 : Nat) (l0_6 : List (S53)) (A0_7 : Option Addr) (c0_7 : Nat) (l0_7 : List (S58)) (A0_8 : Option Addr) (c0_8 : Nat) (l0_8 : List (S61)) (A0_9 : Option Addr) (c0_9 : Nat) (l0_9 : List (S66)) (A0_10 : Option Addr) (c0_10 : Nat) (l0_10 : List (S69)) (a0_11 : Int) (a0_12 : Int) (a0_13 : Int) (a0_14 : Int) (a1 : ByteArray) (r : Int) (w : World) (hr0_4 : Kd.C k47 w A0_4 l0_4.length l0_4) (hc0_4 : l0_4.length ≤ c0_4) (hr0_5 : Kd.C (Kd.slice 3 (Kd.int .i64)) w A0_5 l0_5.length l0_5) (hc0_5 : l0_5.length ≤ c0_5) (hr0_6 : Kd.C k53 w A0_6 l0_6.length l0_6) (hc0_6 : l0_6.length ≤ c0_6) (hr0_7 : Kd.C k58 w A0_7 l0_7.length l0_7) (hc0_7 : l0_7.length ≤ c0_7) (hr0_8 : Kd.C k61 w A0_8 l0_8.length l0_8) (hc0_8 : l0_8.length ≤ c0_8) (hr0_9 : Kd.C k66 w A0_9 l0_9.length l0_9) (hc0_9 : l0_9.length ≤ c0_9) (hr0_10 : Kd.C k69 w A0_10 l0_10.length l0_10) (hc0_10 : l0_10.length ≤ c0_10) (h : horariumref17_FindPerson.f k a0_0 a0_1 a0_2 a0_3 l0_4 l0_5 l0_6 l0_7 l0_8 l0_9 l0_10 a0_11 a0_12 a0_13 a0_14 a1 = some r) :
    Calls Tryz.prog 24 #[.agg #[.string a0_0, .int .i64 a0_1, .int .i64 a0_2, .int .i64 a0_3, .slice A0_4 l0_4.length c0_4, .slice A0_5 l0_5.length c0_5, .slice A0_6 l0_6.length c0_6, .slice A0_7 l0_7.length c0_7, .slice A0_8 l0_8.length c0_8, .slice A0_9 l0_9.length c0_9, .slice A0_10 l0_10.length c0_10, .int .i64 a0_11, .int .i64 a0_12, .int .i64 a0_13, .int .i64 a0_14], .string a1] w fun e w' => e = .returned (.int .i64 r) ∧ Below w.heap.size w w' := by
  have hu34 := Tryz.underlying34
  have HR0_4 := Aside0.mk hr0_4
  have HC0_4 := Aside0.mk hc0_4
  clear hr0_4 hc0_4
  have HR0_5 := Aside0.mk hr0_5
  have HC0_5 := Aside0.mk hc0_5
  clear hr0_5 hc0_5
  have HR0_6 := Aside0.mk hr0_6
  have HC0_6 := Aside0.mk hc0_6
  clear hr0_6 hc0_6
  have HR0_7 := Aside0.mk hr0_7
  have HC0_7 := Aside0.mk hc0_7
  clear hr0_7 hc0_7
  have HR0_8 := Aside0.mk hr0_8
  have HC0_8 := Aside0.mk hc0_8
  clear hr0_8 hc0_8
  have HR0_9 := Aside0.mk hr0_9
  have HC0_9 := Aside0.mk hc0_9
  clear hr0_9 hc0_9
  have HR0_10 := Aside0.mk hr0_10
  have HC0_10 := Aside0.mk hc0_10
  clear hr0_10 hc0_10
  have HB := Aside0.mk (Below.refl w.heap.size w)
  have H : (horariumref17_FindPerson.l0 k a1 0 a0_0 a0_1 a0_2 a0_3 l0_4 l0_5 l0_6 l0_7 l0_8 l0_9 l0_10 a0_11 a0_12 a0_13 a0_14) = some r := h
  clear h
  have H' := Aside0.mk H
  clear H
  go_enter Tryz.func24, Tryz.ntmps24
  go_wp2_with (first | ((with_reducible refine gate_dst (N := 2) rfl ?_); refine box_event ?hg (N := 2) ?hd (cs := #[.string a0_0, .int .i64 a0_1, .int .i64 a0_2, .int .i64 a0_3, .slice A0_4 l0_4.length c0_4, .slice A0_5 l0_5.length c0_5, .slice A0_6 l0_6.length c0_6, .slice A0_7 l0_7.length c0_7, .slice A0_8 l0_8.length c0_8, .slice A0_9 l0_9.length c0_9, .slice A0_10 l0_10.length c0_10, .int .i64 a0_11, .int .i64 a0_12, .int .i64 a0_13, .int .i64 a0_14]) (t := 34) ?hr ?_; (case hd => rfl); (case hg => rfl); (case hr => first | (go_simp; done) | (go_simp; rfl)); intro gb188 hg w3 hbox hb; have n0_ := Aside0.mk (below_step (by repeat (first | (with_reducible first | exact HB.out | apply below_alloc | apply pw_below_drewN | apply below_drew1) | exact HB.out)) hb); have n1_ := Aside0.mk (hbox); have n2_ := Aside0.mk ((by rw [hg]; exact (below_size (by repeat (first | (with_reducible first | exact HB.out | apply below_alloc | apply pw_below_drewN | apply below_drew1) | exact HB.out))) : w.heap.size ≤ gb188)); have n3_ := Aside0.mk ((by rw [hg]; exact (below_size (by repeat (first | (with_reducible first | exact HB.out | apply below_alloc | apply pw_below_drewN | apply below_drew1) | exact HB.out))) : w.heap.size ≤ gb188)); clear HB; have HB := n0_; have BK188 := n1_; have GW188 := n2_; have GE188 := n3_; clear n0_ n1_ n2_ n3_; clear hb hbox hg))
  go_loopg [5] k (fun kq v5 w' => ∃ (x5_1 : Int), v5 = .int .i64 x5_1 ∧ Aside0 (horariumref17_FindPerson.l0 kq a1 x5_1 a0_0 a0_1 a0_2 a0_3 l0_4 l0_5 l0_6 l0_7 l0_8 l0_9 l0_10 a0_11 a0_12 a0_13 a0_14 = some r) ∧ Aside0 (kq ≤ k) ∧ Aside0 (w'.heap[gb188]? = some (.cells #[.string a0_0, .int .i64 a0_1, .int .i64 a0_2, .int .i64 a0_3, (.slice A0_4 l0_4.length c0_4), (.slice A0_5 l0_5.length c0_5), (.slice A0_6 l0_6.length c0_6), (.slice A0_7 l0_7.length c0_7), (.slice A0_8 l0_8.length c0_8), (.slice A0_9 l0_9.length c0_9), (.slice A0_10 l0_10.length c0_10), .int .i64 a0_11, .int .i64 a0_12, .int .i64 a0_13, .int .i64 a0_14] 34 (0, 0))) ∧ Aside0 (Below w.heap.size w w'))
  case atStart => exact ⟨(0), (by first | rfl | (simp; done) | (simp [*]; done)), H', ⟨Nat.le_refl _⟩, ⟨by (with_reducible repeat (first | refine blk_drewN ?_ _ | refine blk_drew ?_ | refine blk_alloc ?_ _)); exact BK188.out⟩, ⟨by repeat (first | (with_reducible first | exact HB.out | apply below_alloc | apply pw_below_drewN | apply below_drew1 | refine below_set ?_ GE188.out) | exact HB.out)⟩⟩
  case round =>
    clear H'
    try clear c2
    try clear p2
    obtain ⟨x5_1, rfl, HA, HK1, BK188, HB⟩ := hrel
    cases gk with
    | zero => exact absurd HA.out (by simp [horariumref17_FindPerson.l0])
    | succ k1 =>
      have H := HA.out
      clear HA
      simp only [horariumref17_FindPerson.l0] at H
      by_cases c4 : x5_1 < (l0_6.length : Int)
      · rw [if_pos c4] at H
        have c4b0 : decide (x5_1 < (l0_6.length : Int)) = true := decide_eq_true c4
        clear c4
        by_cases c5 : 0 ≤ x5_1
        · rw [if_pos c5] at H
          have c5b0 : decide (0 ≤ x5_1) = true := decide_eq_true c5
          clear c5
          by_cases c6 : ((rd_T53 l0_6 x5_1).f0).toList = a1.toList
          · rw [if_pos c6] at H
            have c6b0 : (((rd_T53 l0_6 x5_1).f0).toList == a1.toList) = true := beq_iff_eq.mpr c6
            have c6b1 : (((rd_T53 l0_6 x5_1).f0).toList != a1.toList) = false := bne_eq_false_iff_eq.mpr c6
            clear c6
            obtain rfl := Option.some.inj H
            have hcz7_0 : wr.cell? ⟨gb188, 0, none⟩ = some (.string a0_0) := (blk_cell BK188.out 0).trans rfl
            have hcz7_1 : wr.cell? ⟨gb188, 1, none⟩ = some (.int .i64 a0_1) := (blk_cell BK188.out 1).trans rfl
            have hcz7_2 : wr.cell? ⟨gb188, 2, none⟩ = some (.int .i64 a0_2) := (blk_cell BK188.out 2).trans rfl
            have hcz7_3 : wr.cell? ⟨gb188, 3, none⟩ = some (.int .i64 a0_3) := (blk_cell BK188.out 3).trans rfl
            have hcz7_4 : wr.cell? ⟨gb188, 4, none⟩ = some (.slice A0_4 l0_4.length c0_4) := (blk_cell BK188.out 4).trans rfl
            have hcz7_5 : wr.cell? ⟨gb188, 5, none⟩ = some (.slice A0_5 l0_5.length c0_5) := (blk_cell BK188.out 5).trans rfl
            have hcz7_6 : wr.cell? ⟨gb188, 6, none⟩ = some (.slice A0_6 l0_6.length c0_6) := (blk_cell BK188.out 6).trans rfl
            have hcz7_7 : wr.cell? ⟨gb188, 7, none⟩ = some (.slice A0_7 l0_7.length c0_7) := (blk_cell BK188.out 7).trans rfl
            have hcz7_8 : wr.cell? ⟨gb188, 8, none⟩ = some (.slice A0_8 l0_8.length c0_8) := (blk_cell BK188.out 8).trans rfl
            have hcz7_9 : wr.cell? ⟨gb188, 9, none⟩ = some (.slice A0_9 l0_9.length c0_9) := (blk_cell BK188.out 9).trans rfl
            have hcz7_10 : wr.cell? ⟨gb188, 10, none⟩ = some (.slice A0_10 l0_10.length c0_10) := (blk_cell BK188.out 10).trans rfl
            have hcz7_11 : wr.cell? ⟨gb188, 11, none⟩ = some (.int .i64 a0_11) := (blk_cell BK188.out 11).trans rfl
            have hcz7_12 : wr.cell? ⟨gb188, 12, none⟩ = some (.int .i64 a0_12) := (blk_cell BK188.out 12).trans rfl
            have hcz7_13 : wr.cell? ⟨gb188, 13, none⟩ = some (.int .i64 a0_13) := (blk_cell BK188.out 13).trans rfl
            have hcz7_14 : wr.cell? ⟨gb188, 14, none⟩ = some (.int .i64 a0_14) := (blk_cell BK188.out 14).trans rfl
            have hfz7_0 := blk_frozen BK188.out 0
            have hfz7_1 := blk_frozen BK188.out 1
            have hfz7_2 := blk_frozen BK188.out 2
            have hfz7_3 := blk_frozen BK188.out 3
            have hfz7_4 := blk_frozen BK188.out 4
            have hfz7_5 := blk_frozen BK188.out 5
            have hfz7_6 := blk_frozen BK188.out 6
            have hfz7_7 := blk_frozen BK188.out 7
            have hfz7_8 := blk_frozen BK188.out 8
            have hfz7_9 := blk_frozen BK188.out 9
            have hfz7_10 := blk_frozen BK188.out 10
            have hfz7_11 := blk_frozen BK188.out 11
            have hfz7_12 := blk_frozen BK188.out 12
            have hfz7_13 := blk_frozen BK188.out 13
            have hfz7_14 := blk_frozen BK188.out 14
            have p189 : 0 ≤ (x5_1 : Int) := of_decide_eq_true (by first | (with_reducible assumption) | assumption)
            have q189 : x5_1 < (l0_6.length : Int) := of_decide_eq_true (by first | (with_reducible assumption) | assumption)
            obtain ⟨ad189, A189_1, c189_1, e189, hx189_0, hx189_1, hl189_1, hi189_1⟩ := at_T53 HR0_6.out x5_1 p189 q189
            cases e189
            replace hx189_0 := (HB.out.cell (World.block_lt_of_cell? w _ hx189_0)).trans hx189_0
            replace hx189_1 := (HB.out.cell (World.block_lt_of_cell? w _ hx189_1)).trans hx189_1
            have HR189_1 := Aside0.mk hi189_1
            have HC189_1 := Aside0.mk hl189_1
            clear hi189_1 hl189_1
            replace p189 := eq_true p189
            replace q189 := eq_true q189
            go_wp2
            go_ret
            exact ⟨by first | rfl | (simp [errW_none, errW_some] <;> rfl) | (simp [*, errW_none, errW_some] <;> rfl), by repeat (first | (with_reducible first | exact HB.out | apply below_alloc | apply pw_below_drewN | apply below_drew1 | refine below_set ?_ GE188.out) | exact HB.out)⟩
          · rw [if_neg c6] at H
            have c6b0 : (((rd_T53 l0_6 x5_1).f0).toList == a1.toList) = false := beq_eq_false_iff_ne.mpr c6
            have c6b1 : (((rd_T53 l0_6 x5_1).f0).toList != a1.toList) = true := bne_iff_ne.mpr c6
            have H' := Aside0.mk H
            clear H
            have hcz8_0 : wr.cell? ⟨gb188, 0, none⟩ = some (.string a0_0) := (blk_cell BK188.out 0).trans rfl
            have hcz8_1 : wr.cell? ⟨gb188, 1, none⟩ = some (.int .i64 a0_1) := (blk_cell BK188.out 1).trans rfl
            have hcz8_2 : wr.cell? ⟨gb188, 2, none⟩ = some (.int .i64 a0_2) := (blk_cell BK188.out 2).trans rfl
            have hcz8_3 : wr.cell? ⟨gb188, 3, none⟩ = some (.int .i64 a0_3) := (blk_cell BK188.out 3).trans rfl
            have hcz8_4 : wr.cell? ⟨gb188, 4, none⟩ = some (.slice A0_4 l0_4.length c0_4) := (blk_cell BK188.out 4).trans rfl
            have hcz8_5 : wr.cell? ⟨gb188, 5, none⟩ = some (.slice A0_5 l0_5.length c0_5) := (blk_cell BK188.out 5).trans rfl
            have hcz8_6 : wr.cell? ⟨gb188, 6, none⟩ = some (.slice A0_6 l0_6.length c0_6) := (blk_cell BK188.out 6).trans rfl
            have hcz8_7 : wr.cell? ⟨gb188, 7, none⟩ = some (.slice A0_7 l0_7.length c0_7) := (blk_cell BK188.out 7).trans rfl
            have hcz8_8 : wr.cell? ⟨gb188, 8, none⟩ = some (.slice A0_8 l0_8.length c0_8) := (blk_cell BK188.out 8).trans rfl
            have hcz8_9 : wr.cell? ⟨gb188, 9, none⟩ = some (.slice A0_9 l0_9.length c0_9) := (blk_cell BK188.out 9).trans rfl
            have hcz8_10 : wr.cell? ⟨gb188, 10, none⟩ = some (.slice A0_10 l0_10.length c0_10) := (blk_cell BK188.out 10).trans rfl
            have hcz8_11 : wr.cell? ⟨gb188, 11, none⟩ = some (.int .i64 a0_11) := (blk_cell BK188.out 11).trans rfl
            have hcz8_12 : wr.cell? ⟨gb188, 12, none⟩ = some (.int .i64 a0_12) := (blk_cell BK188.out 12).trans rfl
            have hcz8_13 : wr.cell? ⟨gb188, 13, none⟩ = some (.int .i64 a0_13) := (blk_cell BK188.out 13).trans rfl
            have hcz8_14 : wr.cell? ⟨gb188, 14, none⟩ = some (.int .i64 a0_14) := (blk_cell BK188.out 14).trans rfl
            have hfz8_0 := blk_frozen BK188.out 0
            have hfz8_1 := blk_frozen BK188.out 1
            have hfz8_2 := blk_frozen BK188.out 2
            have hfz8_3 := blk_frozen BK188.out 3
            have hfz8_4 := blk_frozen BK188.out 4
            have hfz8_5 := blk_frozen BK188.out 5
            have hfz8_6 := blk_frozen BK188.out 6
            have hfz8_7 := blk_frozen BK188.out 7
            have hfz8_8 := blk_frozen BK188.out 8
            have hfz8_9 := blk_frozen BK188.out 9
            have hfz8_10 := blk_frozen BK188.out 10
            have hfz8_11 := blk_frozen BK188.out 11
            have hfz8_12 := blk_frozen BK188.out 12
            have hfz8_13 := blk_frozen BK188.out 13
            have hfz8_14 := blk_frozen BK188.out 14
            have p189 : 0 ≤ (x5_1 : Int) := of_decide_eq_true (by first | (with_reducible assumption) | assumption)
            have q189 : x5_1 < (l0_6.length : Int) := of_decide_eq_true (by first | (with_reducible assumption) | assumption)
            obtain ⟨ad189, A189_1, c189_1, e189, hx189_0, hx189_1, hl189_1, hi189_1⟩ := at_T53 HR0_6.out x5_1 p189 q189
            cases e189
            replace hx189_0 := (HB.out.cell (World.block_lt_of_cell? w _ hx189_0)).trans hx189_0
            replace hx189_1 := (HB.out.cell (World.block_lt_of_cell? w _ hx189_1)).trans hx189_1
            have HR189_1 := Aside0.mk hi189_1
            have HC189_1 := Aside0.mk hl189_1
            clear hi189_1 hl189_1
            replace p189 := eq_true p189
            replace q189 := eq_true q189
            go_wp2
            go_roundg k1
            case measure => have := HK1.out; omega
            case rel => exact ⟨(wrap64 (x5_1 + 1)), (by first | rfl | (simp; done) | (simp [*]; done)), H', ⟨by have := HK1.out; omega⟩, ⟨by (with_reducible repeat (first | refine blk_drewN ?_ _ | refine blk_drew ?_ | refine blk_alloc ?_ _)); exact BK188.out⟩, ⟨by repeat (first | (with_reducible first | exact HB.out | apply below_alloc | apply pw_below_drewN | apply below_drew1 | refine below_set ?_ GE188.out) | exact HB.out)⟩⟩
        · rw [if_neg c5] at H
          exact absurd H (by simp)
      · rw [if_neg c4] at H
        have c4b0 : decide (x5_1 < (l0_6.length : Int)) = false := decide_eq_false c4
        clear c4
        obtain rfl := Option.some.inj H
        have hcz9_0 : wr.cell? ⟨gb188, 0, none⟩ = some (.string a0_0) := (blk_cell BK188.out 0).trans rfl
        have hcz9_1 : wr.cell? ⟨gb188, 1, none⟩ = some (.int .i64 a0_1) := (blk_cell BK188.out 1).trans rfl
        have hcz9_2 : wr.cell? ⟨gb188, 2, none⟩ = some (.int .i64 a0_2) := (blk_cell BK188.out 2).trans rfl
        have hcz9_3 : wr.cell? ⟨gb188, 3, none⟩ = some (.int .i64 a0_3) := (blk_cell BK188.out 3).trans rfl
        have hcz9_4 : wr.cell? ⟨gb188, 4, none⟩ = some (.slice A0_4 l0_4.length c0_4) := (blk_cell BK188.out 4).trans rfl
        have hcz9_5 : wr.cell? ⟨gb188, 5, none⟩ = some (.slice A0_5 l0_5.length c0_5) := (blk_cell BK188.out 5).trans rfl
        have hcz9_6 : wr.cell? ⟨gb188, 6, none⟩ = some (.slice A0_6 l0_6.length c0_6) := (blk_cell BK188.out 6).trans rfl
        have hcz9_7 : wr.cell? ⟨gb188, 7, none⟩ = some (.slice A0_7 l0_7.length c0_7) := (blk_cell BK188.out 7).trans rfl
        have hcz9_8 : wr.cell? ⟨gb188, 8, none⟩ = some (.slice A0_8 l0_8.length c0_8) := (blk_cell BK188.out 8).trans rfl
        have hcz9_9 : wr.cell? ⟨gb188, 9, none⟩ = some (.slice A0_9 l0_9.length c0_9) := (blk_cell BK188.out 9).trans rfl
        have hcz9_10 : wr.cell? ⟨gb188, 10, none⟩ = some (.slice A0_10 l0_10.length c0_10) := (blk_cell BK188.out 10).trans rfl
        have hcz9_11 : wr.cell? ⟨gb188, 11, none⟩ = some (.int .i64 a0_11) := (blk_cell BK188.out 11).trans rfl
        have hcz9_12 : wr.cell? ⟨gb188, 12, none⟩ = some (.int .i64 a0_12) := (blk_cell BK188.out 12).trans rfl
        have hcz9_13 : wr.cell? ⟨gb188, 13, none⟩ = some (.int .i64 a0_13) := (blk_cell BK188.out 13).trans rfl
        have hcz9_14 : wr.cell? ⟨gb188, 14, none⟩ = some (.int .i64 a0_14) := (blk_cell BK188.out 14).trans rfl
        have hfz9_0 := blk_frozen BK188.out 0
        have hfz9_1 := blk_frozen BK188.out 1
        have hfz9_2 := blk_frozen BK188.out 2
        have hfz9_3 := blk_frozen BK188.out 3
        have hfz9_4 := blk_frozen BK188.out 4
        have hfz9_5 := blk_frozen BK188.out 5
        have hfz9_6 := blk_frozen BK188.out 6
        have hfz9_7 := blk_frozen BK188.out 7
        have hfz9_8 := blk_frozen BK188.out 8
        have hfz9_9 := blk_frozen BK188.out 9
        have hfz9_10 := blk_frozen BK188.out 10
        have hfz9_11 := blk_frozen BK188.out 11
        have hfz9_12 := blk_frozen BK188.out 12
        have hfz9_13 := blk_frozen BK188.out 13
        have hfz9_14 := blk_frozen BK188.out 14
        go_wp2
        go_ret
        exact ⟨by first | rfl | (simp [errW_none, errW_some] <;> rfl) | (simp [*, errW_none, errW_some] <;> rfl), by repeat (first | (with_reducible first | exact HB.out | apply below_alloc | apply pw_below_drewN | apply below_drew1 | refine below_set ?_ GE188.out) | exact HB.out)⟩

end Go.Proofs.YtineikfhfmiidaaGreat.Gp

-- PRINTED by print.py (a twelfth state) out of the translation. Not trusted: Lean checks it.
namespace Go.Proofs.YtineikfhfmiidaaGreat.Gp
open Go.RowKit Go.Proofs.YtineikfhfmiidaaGreatW.PrintWords Go.Proofs.YtineikfhfmiidaaGreatW.PrintLast Go.Proofs.YtineikfhfmiidaaGreatW.PrintMore
attribute [local go_sem] max2_int min2_int max_two min_two max_three min_three max_four min_four   -- for this text's walks alone
set_option linter.unusedVariables false
set_option linter.unusedSimpArgs false

/-! ### horariumref17_FindClass: function 26 -/
def horariumref17_FindClass.l0 : Nat → ByteArray → Int → ByteArray → Int → Int → Int → List (S47) → List (List Int) → List (S53) → List (S58) → List (S61) → List (S66) → List (S69) → Int → Int → Int → Int → Option (Int)
  | 0, _, _, _, _, _, _, _, _, _, _, _, _, _, _, _, _, _ => none
  | k + 1, x1, x5, x191000, x191001, x191002, x191003, x191004, x191005, x191006, x191007, x191008, x191009, x191010, x191011, x191012, x191013, x191014 => if x5 < (x191007.length : Int) then (if 0 ≤ x5 then (if ((rd_T58 x191007 x5).f0).toList = x1.toList then (some x5) else (horariumref17_FindClass.l0 k x1 (wrap64 (x5 + 1)) x191000 x191001 x191002 x191003 x191004 x191005 x191006 x191007 x191008 x191009 x191010 x191011 x191012 x191013 x191014)) else (none)) else (some (-1))
def horariumref17_FindClass.f (k : Nat) (a0_0 : ByteArray) (a0_1 : Int) (a0_2 : Int) (a0_3 : Int) (l0_4 : List (S47)) (l0_5 : List (List Int)) (l0_6 : List (S53)) (l0_7 : List (S58)) (l0_8 : List (S61)) (l0_9 : List (S66)) (l0_10 : List (S69)) (a0_11 : Int) (a0_12 : Int) (a0_13 : Int) (a0_14 : Int) (a1 : ByteArray) : Option (Int) := horariumref17_FindClass.l0 k a1 0 a0_0 a0_1 a0_2 a0_3 l0_4 l0_5 l0_6 l0_7 l0_8 l0_9 l0_10 a0_11 a0_12 a0_13 a0_14
theorem horariumref17_FindClass.mono_l : ∀ k, (∀ y0 y1 y2 y3 y4 y5 y6 y7 y8 y9 y10 y11 y12 y13 y14 y15 y16, LeO (horariumref17_FindClass.l0 k y0 y1 y2 y3 y4 y5 y6 y7 y8 y9 y10 y11 y12 y13 y14 y15 y16) (horariumref17_FindClass.l0 (k + 1) y0 y1 y2 y3 y4 y5 y6 y7 y8 y9 y10 y11 y12 y13 y14 y15 y16))
  | 0 => fun _ _ _ _ _ _ _ _ _ _ _ _ _ _ _ _ _ r h => by simp [horariumref17_FindClass.l0] at h
  | k + 1 => by
    have ih0 := horariumref17_FindClass.mono_l k
    · intro y0 y1 y2 y3 y4 y5 y6 y7 y8 y9 y10 y11 y12 y13 y14 y15 y16
      unfold horariumref17_FindClass.l0
      repeat' first
      | (with_reducible exact ih0 _ _ _ _ _ _ _ _ _ _ _ _ _ _ _ _ _)
      | (with_reducible exact LeO.refl _)
      | (with_reducible exact LeO.none _)
      | (with_reducible refine LeO.ite ?_ ?_)
      | (with_reducible refine LeO.bind ?_ (fun _ => ?_))
      | exact ih0 _ _ _ _ _ _ _ _ _ _ _ _ _ _ _ _ _
      | exact LeO.none _
      | refine LeO.ite ?_ ?_
      | refine LeO.bind ?_ (fun _ => ?_)
theorem horariumref17_FindClass.mono : ∀ a0 a1 a2 a3 a4 a5 a6 a7 a8 a9 a10 a11 a12 a13 a14 a15 k, LeO (horariumref17_FindClass.f k a0 a1 a2 a3 a4 a5 a6 a7 a8 a9 a10 a11 a12 a13 a14 a15) (horariumref17_FindClass.f (k + 1) a0 a1 a2 a3 a4 a5 a6 a7 a8 a9 a10 a11 a12 a13 a14 a15) := by
  intro a0 a1 a2 a3 a4 a5 a6 a7 a8 a9 a10 a11 a12 a13 a14 a15 k
  have ih0 := horariumref17_FindClass.mono_l k
  unfold horariumref17_FindClass.f
  repeat' first
      | (with_reducible exact ih0 _ _ _ _ _ _ _ _ _ _ _ _ _ _ _ _ _)
      | (with_reducible exact LeO.refl _)
      | (with_reducible exact LeO.none _)
      | (with_reducible refine LeO.ite ?_ ?_)
      | (with_reducible refine LeO.bind ?_ (fun _ => ?_))
      | exact ih0 _ _ _ _ _ _ _ _ _ _ _ _ _ _ _ _ _
      | exact LeO.none _
      | refine LeO.ite ?_ ?_
      | refine LeO.bind ?_ (fun _ => ?_)
set_option maxHeartbeats 8000000 in
set_option maxRecDepth 100000 in
theorem horariumref17_FindClass.calls (k : Nat) (a0_0 : ByteArray) (a0_1 : Int) (a0_2 : Int) (a0_3 : Int) (A0_4 : Option Addr) (c0_4 : Nat) (l0_4 : List (S47)) (A0_5 : Option Addr) (c0_5 : Nat) (l0_5 : List (List Int)) (A0_6 : Option Addr) (c0_6 : Nat) (l0_6 : List (S53)) (A0_7 : Option Addr) (c0_7 : Nat) (l0_7 : List (S58)) (A0_8 : Option Addr) (c0_8 : Nat) (l0_8 : List (S61)) (A0_9 : Option Addr) (c0_9 : Nat) (l0_9 : List (S66)) (A0_10 : Option Addr) (c0_10 : Nat) (l0_10 : List (S69)) (a0_11 : Int) (a0_12 : Int) (a0_13 : Int) (a0_14 : Int) (a1 : ByteArray) (r : Int) (w : World) (hr0_4 : Kd.C k47 w A0_4 l0_4.length l0_4) (hc0_4 : l0_4.length ≤ c0_4) (hr0_5 : Kd.C (Kd.slice 3 (Kd.int .i64)) w A0_5 l0_5.length l0_5) (hc0_5 : l0_5.length ≤ c0_5) (hr0_6 : Kd.C k53 w A0_6 l0_6.length l0_6) (hc0_6 : l0_6.length ≤ c0_6) (hr0_7 : Kd.C k58 w A0_7 l0_7.length l0_7) (hc0_7 : l0_7.length ≤ c0_7) (hr0_8 : Kd.C k61 w A0_8 l0_8.length l0_8) (hc0_8 : l0_8.length ≤ c0_8) (hr0_9 : Kd.C k66 w A0_9 l0_9.length l0_9) (hc0_9 : l0_9.length ≤ c0_9) (hr0_10 : Kd.C k69 w A0_10 l0_10.length l0_10) (hc0_10 : l0_10.length ≤ c0_10) (h : horariumref17_FindClass.f k a0_0 a0_1 a0_2 a0_3 l0_4 l0_5 l0_6 l0_7 l0_8 l0_9 l0_10 a0_11 a0_12 a0_13 a0_14 a1 = some r) :
    Calls Tryz.prog 26 #[.agg #[.string a0_0, .int .i64 a0_1, .int .i64 a0_2, .int .i64 a0_3, .slice A0_4 l0_4.length c0_4, .slice A0_5 l0_5.length c0_5, .slice A0_6 l0_6.length c0_6, .slice A0_7 l0_7.length c0_7, .slice A0_8 l0_8.length c0_8, .slice A0_9 l0_9.length c0_9, .slice A0_10 l0_10.length c0_10, .int .i64 a0_11, .int .i64 a0_12, .int .i64 a0_13, .int .i64 a0_14], .string a1] w fun e w' => e = .returned (.int .i64 r) ∧ Below w.heap.size w w' := by
  have hu34 := Tryz.underlying34
  have HR0_4 := Aside0.mk hr0_4
  have HC0_4 := Aside0.mk hc0_4
  clear hr0_4 hc0_4
  have HR0_5 := Aside0.mk hr0_5
  have HC0_5 := Aside0.mk hc0_5
  clear hr0_5 hc0_5
  have HR0_6 := Aside0.mk hr0_6
  have HC0_6 := Aside0.mk hc0_6
  clear hr0_6 hc0_6
  have HR0_7 := Aside0.mk hr0_7
  have HC0_7 := Aside0.mk hc0_7
  clear hr0_7 hc0_7
  have HR0_8 := Aside0.mk hr0_8
  have HC0_8 := Aside0.mk hc0_8
  clear hr0_8 hc0_8
  have HR0_9 := Aside0.mk hr0_9
  have HC0_9 := Aside0.mk hc0_9
  clear hr0_9 hc0_9
  have HR0_10 := Aside0.mk hr0_10
  have HC0_10 := Aside0.mk hc0_10
  clear hr0_10 hc0_10
  have HB := Aside0.mk (Below.refl w.heap.size w)
  have H : (horariumref17_FindClass.l0 k a1 0 a0_0 a0_1 a0_2 a0_3 l0_4 l0_5 l0_6 l0_7 l0_8 l0_9 l0_10 a0_11 a0_12 a0_13 a0_14) = some r := h
  clear h
  have H' := Aside0.mk H
  clear H
  go_enter Tryz.func26, Tryz.ntmps26
  go_wp2_with (first | ((with_reducible refine gate_dst (N := 2) rfl ?_); refine box_event ?hg (N := 2) ?hd (cs := #[.string a0_0, .int .i64 a0_1, .int .i64 a0_2, .int .i64 a0_3, .slice A0_4 l0_4.length c0_4, .slice A0_5 l0_5.length c0_5, .slice A0_6 l0_6.length c0_6, .slice A0_7 l0_7.length c0_7, .slice A0_8 l0_8.length c0_8, .slice A0_9 l0_9.length c0_9, .slice A0_10 l0_10.length c0_10, .int .i64 a0_11, .int .i64 a0_12, .int .i64 a0_13, .int .i64 a0_14]) (t := 34) ?hr ?_; (case hd => rfl); (case hg => rfl); (case hr => first | (go_simp; done) | (go_simp; rfl)); intro gb190 hg w3 hbox hb; have n0_ := Aside0.mk (below_step (by repeat (first | (with_reducible first | exact HB.out | apply below_alloc | apply pw_below_drewN | apply below_drew1) | exact HB.out)) hb); have n1_ := Aside0.mk (hbox); have n2_ := Aside0.mk ((by rw [hg]; exact (below_size (by repeat (first | (with_reducible first | exact HB.out | apply below_alloc | apply pw_below_drewN | apply below_drew1) | exact HB.out))) : w.heap.size ≤ gb190)); have n3_ := Aside0.mk ((by rw [hg]; exact (below_size (by repeat (first | (with_reducible first | exact HB.out | apply below_alloc | apply pw_below_drewN | apply below_drew1) | exact HB.out))) : w.heap.size ≤ gb190)); clear HB; have HB := n0_; have BK190 := n1_; have GW190 := n2_; have GE190 := n3_; clear n0_ n1_ n2_ n3_; clear hb hbox hg))
  go_loopg [5] k (fun kq v5 w' => ∃ (x5_1 : Int), v5 = .int .i64 x5_1 ∧ Aside0 (horariumref17_FindClass.l0 kq a1 x5_1 a0_0 a0_1 a0_2 a0_3 l0_4 l0_5 l0_6 l0_7 l0_8 l0_9 l0_10 a0_11 a0_12 a0_13 a0_14 = some r) ∧ Aside0 (kq ≤ k) ∧ Aside0 (w'.heap[gb190]? = some (.cells #[.string a0_0, .int .i64 a0_1, .int .i64 a0_2, .int .i64 a0_3, (.slice A0_4 l0_4.length c0_4), (.slice A0_5 l0_5.length c0_5), (.slice A0_6 l0_6.length c0_6), (.slice A0_7 l0_7.length c0_7), (.slice A0_8 l0_8.length c0_8), (.slice A0_9 l0_9.length c0_9), (.slice A0_10 l0_10.length c0_10), .int .i64 a0_11, .int .i64 a0_12, .int .i64 a0_13, .int .i64 a0_14] 34 (0, 0))) ∧ Aside0 (Below w.heap.size w w'))
  case atStart => exact ⟨(0), (by first | rfl | (simp; done) | (simp [*]; done)), H', ⟨Nat.le_refl _⟩, ⟨by (with_reducible repeat (first | refine blk_drewN ?_ _ | refine blk_drew ?_ | refine blk_alloc ?_ _)); exact BK190.out⟩, ⟨by repeat (first | (with_reducible first | exact HB.out | apply below_alloc | apply pw_below_drewN | apply below_drew1 | refine below_set ?_ GE190.out) | exact HB.out)⟩⟩
  case round =>
    clear H'
    try clear c2
    try clear p2
    obtain ⟨x5_1, rfl, HA, HK1, BK190, HB⟩ := hrel
    cases gk with
    | zero => exact absurd HA.out (by simp [horariumref17_FindClass.l0])
    | succ k1 =>
      have H := HA.out
      clear HA
      simp only [horariumref17_FindClass.l0] at H
      by_cases c4 : x5_1 < (l0_7.length : Int)
      · rw [if_pos c4] at H
        have c4b0 : decide (x5_1 < (l0_7.length : Int)) = true := decide_eq_true c4
        clear c4
        by_cases c5 : 0 ≤ x5_1
        · rw [if_pos c5] at H
          have c5b0 : decide (0 ≤ x5_1) = true := decide_eq_true c5
          clear c5
          by_cases c6 : ((rd_T58 l0_7 x5_1).f0).toList = a1.toList
          · rw [if_pos c6] at H
            have c6b0 : (((rd_T58 l0_7 x5_1).f0).toList == a1.toList) = true := beq_iff_eq.mpr c6
            have c6b1 : (((rd_T58 l0_7 x5_1).f0).toList != a1.toList) = false := bne_eq_false_iff_eq.mpr c6
            clear c6
            obtain rfl := Option.some.inj H
            have hcz7_0 : wr.cell? ⟨gb190, 0, none⟩ = some (.string a0_0) := (blk_cell BK190.out 0).trans rfl
            have hcz7_1 : wr.cell? ⟨gb190, 1, none⟩ = some (.int .i64 a0_1) := (blk_cell BK190.out 1).trans rfl
            have hcz7_2 : wr.cell? ⟨gb190, 2, none⟩ = some (.int .i64 a0_2) := (blk_cell BK190.out 2).trans rfl
            have hcz7_3 : wr.cell? ⟨gb190, 3, none⟩ = some (.int .i64 a0_3) := (blk_cell BK190.out 3).trans rfl
            have hcz7_4 : wr.cell? ⟨gb190, 4, none⟩ = some (.slice A0_4 l0_4.length c0_4) := (blk_cell BK190.out 4).trans rfl
            have hcz7_5 : wr.cell? ⟨gb190, 5, none⟩ = some (.slice A0_5 l0_5.length c0_5) := (blk_cell BK190.out 5).trans rfl
            have hcz7_6 : wr.cell? ⟨gb190, 6, none⟩ = some (.slice A0_6 l0_6.length c0_6) := (blk_cell BK190.out 6).trans rfl
            have hcz7_7 : wr.cell? ⟨gb190, 7, none⟩ = some (.slice A0_7 l0_7.length c0_7) := (blk_cell BK190.out 7).trans rfl
            have hcz7_8 : wr.cell? ⟨gb190, 8, none⟩ = some (.slice A0_8 l0_8.length c0_8) := (blk_cell BK190.out 8).trans rfl
            have hcz7_9 : wr.cell? ⟨gb190, 9, none⟩ = some (.slice A0_9 l0_9.length c0_9) := (blk_cell BK190.out 9).trans rfl
            have hcz7_10 : wr.cell? ⟨gb190, 10, none⟩ = some (.slice A0_10 l0_10.length c0_10) := (blk_cell BK190.out 10).trans rfl
            have hcz7_11 : wr.cell? ⟨gb190, 11, none⟩ = some (.int .i64 a0_11) := (blk_cell BK190.out 11).trans rfl
            have hcz7_12 : wr.cell? ⟨gb190, 12, none⟩ = some (.int .i64 a0_12) := (blk_cell BK190.out 12).trans rfl
            have hcz7_13 : wr.cell? ⟨gb190, 13, none⟩ = some (.int .i64 a0_13) := (blk_cell BK190.out 13).trans rfl
            have hcz7_14 : wr.cell? ⟨gb190, 14, none⟩ = some (.int .i64 a0_14) := (blk_cell BK190.out 14).trans rfl
            have hfz7_0 := blk_frozen BK190.out 0
            have hfz7_1 := blk_frozen BK190.out 1
            have hfz7_2 := blk_frozen BK190.out 2
            have hfz7_3 := blk_frozen BK190.out 3
            have hfz7_4 := blk_frozen BK190.out 4
            have hfz7_5 := blk_frozen BK190.out 5
            have hfz7_6 := blk_frozen BK190.out 6
            have hfz7_7 := blk_frozen BK190.out 7
            have hfz7_8 := blk_frozen BK190.out 8
            have hfz7_9 := blk_frozen BK190.out 9
            have hfz7_10 := blk_frozen BK190.out 10
            have hfz7_11 := blk_frozen BK190.out 11
            have hfz7_12 := blk_frozen BK190.out 12
            have hfz7_13 := blk_frozen BK190.out 13
            have hfz7_14 := blk_frozen BK190.out 14
            have p191 : 0 ≤ (x5_1 : Int) := of_decide_eq_true (by first | (with_reducible assumption) | assumption)
            have q191 : x5_1 < (l0_7.length : Int) := of_decide_eq_true (by first | (with_reducible assumption) | assumption)
            obtain ⟨ad191, A191_3, c191_3, A191_4, c191_4, A191_5, c191_5, e191, hx191_0, hx191_1, hx191_2, hx191_3, hx191_4, hx191_5, hx191_6, hl191_3, hi191_3, hl191_4, hi191_4, hl191_5, hi191_5⟩ := at_T58 HR0_7.out x5_1 p191 q191
            cases e191
            replace hx191_0 := (HB.out.cell (World.block_lt_of_cell? w _ hx191_0)).trans hx191_0
            replace hx191_1 := (HB.out.cell (World.block_lt_of_cell? w _ hx191_1)).trans hx191_1
            replace hx191_2 := (HB.out.cell (World.block_lt_of_cell? w _ hx191_2)).trans hx191_2
            replace hx191_3 := (HB.out.cell (World.block_lt_of_cell? w _ hx191_3)).trans hx191_3
            replace hx191_4 := (HB.out.cell (World.block_lt_of_cell? w _ hx191_4)).trans hx191_4
            replace hx191_5 := (HB.out.cell (World.block_lt_of_cell? w _ hx191_5)).trans hx191_5
            replace hx191_6 := (HB.out.cell (World.block_lt_of_cell? w _ hx191_6)).trans hx191_6
            have HR191_3 := Aside0.mk hi191_3
            have HC191_3 := Aside0.mk hl191_3
            clear hi191_3 hl191_3
            have HR191_4 := Aside0.mk hi191_4
            have HC191_4 := Aside0.mk hl191_4
            clear hi191_4 hl191_4
            have HR191_5 := Aside0.mk hi191_5
            have HC191_5 := Aside0.mk hl191_5
            clear hi191_5 hl191_5
            replace p191 := eq_true p191
            replace q191 := eq_true q191
            go_wp2
            go_ret
            exact ⟨by first | rfl | (simp [errW_none, errW_some] <;> rfl) | (simp [*, errW_none, errW_some] <;> rfl), by repeat (first | (with_reducible first | exact HB.out | apply below_alloc | apply pw_below_drewN | apply below_drew1 | refine below_set ?_ GE190.out) | exact HB.out)⟩
          · rw [if_neg c6] at H
            have c6b0 : (((rd_T58 l0_7 x5_1).f0).toList == a1.toList) = false := beq_eq_false_iff_ne.mpr c6
            have c6b1 : (((rd_T58 l0_7 x5_1).f0).toList != a1.toList) = true := bne_iff_ne.mpr c6
            have H' := Aside0.mk H
            clear H
            have hcz8_0 : wr.cell? ⟨gb190, 0, none⟩ = some (.string a0_0) := (blk_cell BK190.out 0).trans rfl
            have hcz8_1 : wr.cell? ⟨gb190, 1, none⟩ = some (.int .i64 a0_1) := (blk_cell BK190.out 1).trans rfl
            have hcz8_2 : wr.cell? ⟨gb190, 2, none⟩ = some (.int .i64 a0_2) := (blk_cell BK190.out 2).trans rfl
            have hcz8_3 : wr.cell? ⟨gb190, 3, none⟩ = some (.int .i64 a0_3) := (blk_cell BK190.out 3).trans rfl
            have hcz8_4 : wr.cell? ⟨gb190, 4, none⟩ = some (.slice A0_4 l0_4.length c0_4) := (blk_cell BK190.out 4).trans rfl
            have hcz8_5 : wr.cell? ⟨gb190, 5, none⟩ = some (.slice A0_5 l0_5.length c0_5) := (blk_cell BK190.out 5).trans rfl
            have hcz8_6 : wr.cell? ⟨gb190, 6, none⟩ = some (.slice A0_6 l0_6.length c0_6) := (blk_cell BK190.out 6).trans rfl
            have hcz8_7 : wr.cell? ⟨gb190, 7, none⟩ = some (.slice A0_7 l0_7.length c0_7) := (blk_cell BK190.out 7).trans rfl
            have hcz8_8 : wr.cell? ⟨gb190, 8, none⟩ = some (.slice A0_8 l0_8.length c0_8) := (blk_cell BK190.out 8).trans rfl
            have hcz8_9 : wr.cell? ⟨gb190, 9, none⟩ = some (.slice A0_9 l0_9.length c0_9) := (blk_cell BK190.out 9).trans rfl
            have hcz8_10 : wr.cell? ⟨gb190, 10, none⟩ = some (.slice A0_10 l0_10.length c0_10) := (blk_cell BK190.out 10).trans rfl
            have hcz8_11 : wr.cell? ⟨gb190, 11, none⟩ = some (.int .i64 a0_11) := (blk_cell BK190.out 11).trans rfl
            have hcz8_12 : wr.cell? ⟨gb190, 12, none⟩ = some (.int .i64 a0_12) := (blk_cell BK190.out 12).trans rfl
            have hcz8_13 : wr.cell? ⟨gb190, 13, none⟩ = some (.int .i64 a0_13) := (blk_cell BK190.out 13).trans rfl
            have hcz8_14 : wr.cell? ⟨gb190, 14, none⟩ = some (.int .i64 a0_14) := (blk_cell BK190.out 14).trans rfl
            have hfz8_0 := blk_frozen BK190.out 0
            have hfz8_1 := blk_frozen BK190.out 1
            have hfz8_2 := blk_frozen BK190.out 2
            have hfz8_3 := blk_frozen BK190.out 3
            have hfz8_4 := blk_frozen BK190.out 4
            have hfz8_5 := blk_frozen BK190.out 5
            have hfz8_6 := blk_frozen BK190.out 6
            have hfz8_7 := blk_frozen BK190.out 7
            have hfz8_8 := blk_frozen BK190.out 8
            have hfz8_9 := blk_frozen BK190.out 9
            have hfz8_10 := blk_frozen BK190.out 10
            have hfz8_11 := blk_frozen BK190.out 11
            have hfz8_12 := blk_frozen BK190.out 12
            have hfz8_13 := blk_frozen BK190.out 13
            have hfz8_14 := blk_frozen BK190.out 14
            have p191 : 0 ≤ (x5_1 : Int) := of_decide_eq_true (by first | (with_reducible assumption) | assumption)
            have q191 : x5_1 < (l0_7.length : Int) := of_decide_eq_true (by first | (with_reducible assumption) | assumption)
            obtain ⟨ad191, A191_3, c191_3, A191_4, c191_4, A191_5, c191_5, e191, hx191_0, hx191_1, hx191_2, hx191_3, hx191_4, hx191_5, hx191_6, hl191_3, hi191_3, hl191_4, hi191_4, hl191_5, hi191_5⟩ := at_T58 HR0_7.out x5_1 p191 q191
            cases e191
            replace hx191_0 := (HB.out.cell (World.block_lt_of_cell? w _ hx191_0)).trans hx191_0
            replace hx191_1 := (HB.out.cell (World.block_lt_of_cell? w _ hx191_1)).trans hx191_1
            replace hx191_2 := (HB.out.cell (World.block_lt_of_cell? w _ hx191_2)).trans hx191_2
            replace hx191_3 := (HB.out.cell (World.block_lt_of_cell? w _ hx191_3)).trans hx191_3
            replace hx191_4 := (HB.out.cell (World.block_lt_of_cell? w _ hx191_4)).trans hx191_4
            replace hx191_5 := (HB.out.cell (World.block_lt_of_cell? w _ hx191_5)).trans hx191_5
            replace hx191_6 := (HB.out.cell (World.block_lt_of_cell? w _ hx191_6)).trans hx191_6
            have HR191_3 := Aside0.mk hi191_3
            have HC191_3 := Aside0.mk hl191_3
            clear hi191_3 hl191_3
            have HR191_4 := Aside0.mk hi191_4
            have HC191_4 := Aside0.mk hl191_4
            clear hi191_4 hl191_4
            have HR191_5 := Aside0.mk hi191_5
            have HC191_5 := Aside0.mk hl191_5
            clear hi191_5 hl191_5
            replace p191 := eq_true p191
            replace q191 := eq_true q191
            go_wp2
            go_roundg k1
            case measure => have := HK1.out; omega
            case rel => exact ⟨(wrap64 (x5_1 + 1)), (by first | rfl | (simp; done) | (simp [*]; done)), H', ⟨by have := HK1.out; omega⟩, ⟨by (with_reducible repeat (first | refine blk_drewN ?_ _ | refine blk_drew ?_ | refine blk_alloc ?_ _)); exact BK190.out⟩, ⟨by repeat (first | (with_reducible first | exact HB.out | apply below_alloc | apply pw_below_drewN | apply below_drew1 | refine below_set ?_ GE190.out) | exact HB.out)⟩⟩
        · rw [if_neg c5] at H
          exact absurd H (by simp)
      · rw [if_neg c4] at H
        have c4b0 : decide (x5_1 < (l0_7.length : Int)) = false := decide_eq_false c4
        clear c4
        obtain rfl := Option.some.inj H
        have hcz9_0 : wr.cell? ⟨gb190, 0, none⟩ = some (.string a0_0) := (blk_cell BK190.out 0).trans rfl
        have hcz9_1 : wr.cell? ⟨gb190, 1, none⟩ = some (.int .i64 a0_1) := (blk_cell BK190.out 1).trans rfl
        have hcz9_2 : wr.cell? ⟨gb190, 2, none⟩ = some (.int .i64 a0_2) := (blk_cell BK190.out 2).trans rfl
        have hcz9_3 : wr.cell? ⟨gb190, 3, none⟩ = some (.int .i64 a0_3) := (blk_cell BK190.out 3).trans rfl
        have hcz9_4 : wr.cell? ⟨gb190, 4, none⟩ = some (.slice A0_4 l0_4.length c0_4) := (blk_cell BK190.out 4).trans rfl
        have hcz9_5 : wr.cell? ⟨gb190, 5, none⟩ = some (.slice A0_5 l0_5.length c0_5) := (blk_cell BK190.out 5).trans rfl
        have hcz9_6 : wr.cell? ⟨gb190, 6, none⟩ = some (.slice A0_6 l0_6.length c0_6) := (blk_cell BK190.out 6).trans rfl
        have hcz9_7 : wr.cell? ⟨gb190, 7, none⟩ = some (.slice A0_7 l0_7.length c0_7) := (blk_cell BK190.out 7).trans rfl
        have hcz9_8 : wr.cell? ⟨gb190, 8, none⟩ = some (.slice A0_8 l0_8.length c0_8) := (blk_cell BK190.out 8).trans rfl
        have hcz9_9 : wr.cell? ⟨gb190, 9, none⟩ = some (.slice A0_9 l0_9.length c0_9) := (blk_cell BK190.out 9).trans rfl
        have hcz9_10 : wr.cell? ⟨gb190, 10, none⟩ = some (.slice A0_10 l0_10.length c0_10) := (blk_cell BK190.out 10).trans rfl
        have hcz9_11 : wr.cell? ⟨gb190, 11, none⟩ = some (.int .i64 a0_11) := (blk_cell BK190.out 11).trans rfl
        have hcz9_12 : wr.cell? ⟨gb190, 12, none⟩ = some (.int .i64 a0_12) := (blk_cell BK190.out 12).trans rfl
        have hcz9_13 : wr.cell? ⟨gb190, 13, none⟩ = some (.int .i64 a0_13) := (blk_cell BK190.out 13).trans rfl
        have hcz9_14 : wr.cell? ⟨gb190, 14, none⟩ = some (.int .i64 a0_14) := (blk_cell BK190.out 14).trans rfl
        have hfz9_0 := blk_frozen BK190.out 0
        have hfz9_1 := blk_frozen BK190.out 1
        have hfz9_2 := blk_frozen BK190.out 2
        have hfz9_3 := blk_frozen BK190.out 3
        have hfz9_4 := blk_frozen BK190.out 4
        have hfz9_5 := blk_frozen BK190.out 5
        have hfz9_6 := blk_frozen BK190.out 6
        have hfz9_7 := blk_frozen BK190.out 7
        have hfz9_8 := blk_frozen BK190.out 8
        have hfz9_9 := blk_frozen BK190.out 9
        have hfz9_10 := blk_frozen BK190.out 10
        have hfz9_11 := blk_frozen BK190.out 11
        have hfz9_12 := blk_frozen BK190.out 12
        have hfz9_13 := blk_frozen BK190.out 13
        have hfz9_14 := blk_frozen BK190.out 14
        go_wp2
        go_ret
        exact ⟨by first | rfl | (simp [errW_none, errW_some] <;> rfl) | (simp [*, errW_none, errW_some] <;> rfl), by repeat (first | (with_reducible first | exact HB.out | apply below_alloc | apply pw_below_drewN | apply below_drew1 | refine below_set ?_ GE190.out) | exact HB.out)⟩

end Go.Proofs.YtineikfhfmiidaaGreat.Gp

-- PRINTED by print.py (a twelfth state) out of the translation. Not trusted: Lean checks it.
namespace Go.Proofs.YtineikfhfmiidaaGreat.Gp
open Go.RowKit Go.Proofs.YtineikfhfmiidaaGreatW.PrintWords Go.Proofs.YtineikfhfmiidaaGreatW.PrintLast Go.Proofs.YtineikfhfmiidaaGreatW.PrintMore
attribute [local go_sem] max2_int min2_int max_two min_two max_three min_three max_four min_four   -- for this text's walks alone
set_option linter.unusedVariables false
set_option linter.unusedSimpArgs false

/-! ### horariumref17_FindCourse: function 28 -/
def horariumref17_FindCourse.l0 : Nat → ByteArray → Int → ByteArray → Int → Int → Int → List (S47) → List (List Int) → List (S53) → List (S58) → List (S61) → List (S66) → List (S69) → Int → Int → Int → Int → Option (Int)
  | 0, _, _, _, _, _, _, _, _, _, _, _, _, _, _, _, _, _ => none
  | k + 1, x1, x5, x194000, x194001, x194002, x194003, x194004, x194005, x194006, x194007, x194008, x194009, x194010, x194011, x194012, x194013, x194014 => if x5 < (x194008.length : Int) then (if 0 ≤ x5 then (if ((rd_T61 x194008 x5).f0).toList = x1.toList then (some x5) else (horariumref17_FindCourse.l0 k x1 (wrap64 (x5 + 1)) x194000 x194001 x194002 x194003 x194004 x194005 x194006 x194007 x194008 x194009 x194010 x194011 x194012 x194013 x194014)) else (none)) else (some (-1))
def horariumref17_FindCourse.f (k : Nat) (a0_0 : ByteArray) (a0_1 : Int) (a0_2 : Int) (a0_3 : Int) (l0_4 : List (S47)) (l0_5 : List (List Int)) (l0_6 : List (S53)) (l0_7 : List (S58)) (l0_8 : List (S61)) (l0_9 : List (S66)) (l0_10 : List (S69)) (a0_11 : Int) (a0_12 : Int) (a0_13 : Int) (a0_14 : Int) (a1 : ByteArray) : Option (Int) := horariumref17_FindCourse.l0 k a1 0 a0_0 a0_1 a0_2 a0_3 l0_4 l0_5 l0_6 l0_7 l0_8 l0_9 l0_10 a0_11 a0_12 a0_13 a0_14
theorem horariumref17_FindCourse.mono_l : ∀ k, (∀ y0 y1 y2 y3 y4 y5 y6 y7 y8 y9 y10 y11 y12 y13 y14 y15 y16, LeO (horariumref17_FindCourse.l0 k y0 y1 y2 y3 y4 y5 y6 y7 y8 y9 y10 y11 y12 y13 y14 y15 y16) (horariumref17_FindCourse.l0 (k + 1) y0 y1 y2 y3 y4 y5 y6 y7 y8 y9 y10 y11 y12 y13 y14 y15 y16))
  | 0 => fun _ _ _ _ _ _ _ _ _ _ _ _ _ _ _ _ _ r h => by simp [horariumref17_FindCourse.l0] at h
  | k + 1 => by
    have ih0 := horariumref17_FindCourse.mono_l k
    · intro y0 y1 y2 y3 y4 y5 y6 y7 y8 y9 y10 y11 y12 y13 y14 y15 y16
      unfold horariumref17_FindCourse.l0
      repeat' first
      | (with_reducible exact ih0 _ _ _ _ _ _ _ _ _ _ _ _ _ _ _ _ _)
      | (with_reducible exact LeO.refl _)
      | (with_reducible exact LeO.none _)
      | (with_reducible refine LeO.ite ?_ ?_)
      | (with_reducible refine LeO.bind ?_ (fun _ => ?_))
      | exact ih0 _ _ _ _ _ _ _ _ _ _ _ _ _ _ _ _ _
      | exact LeO.none _
      | refine LeO.ite ?_ ?_
      | refine LeO.bind ?_ (fun _ => ?_)
theorem horariumref17_FindCourse.mono : ∀ a0 a1 a2 a3 a4 a5 a6 a7 a8 a9 a10 a11 a12 a13 a14 a15 k, LeO (horariumref17_FindCourse.f k a0 a1 a2 a3 a4 a5 a6 a7 a8 a9 a10 a11 a12 a13 a14 a15) (horariumref17_FindCourse.f (k + 1) a0 a1 a2 a3 a4 a5 a6 a7 a8 a9 a10 a11 a12 a13 a14 a15) := by
  intro a0 a1 a2 a3 a4 a5 a6 a7 a8 a9 a10 a11 a12 a13 a14 a15 k
  have ih0 := horariumref17_FindCourse.mono_l k
  unfold horariumref17_FindCourse.f
  repeat' first
      | (with_reducible exact ih0 _ _ _ _ _ _ _ _ _ _ _ _ _ _ _ _ _)
      | (with_reducible exact LeO.refl _)
      | (with_reducible exact LeO.none _)
      | (with_reducible refine LeO.ite ?_ ?_)
      | (with_reducible refine LeO.bind ?_ (fun _ => ?_))
      | exact ih0 _ _ _ _ _ _ _ _ _ _ _ _ _ _ _ _ _
      | exact LeO.none _
      | refine LeO.ite ?_ ?_
      | refine LeO.bind ?_ (fun _ => ?_)
set_option maxHeartbeats 8000000 in
set_option maxRecDepth 100000 in
theorem horariumref17_FindCourse.calls (k : Nat) (a0_0 : ByteArray) (a0_1 : Int) (a0_2 : Int) (a0_3 : Int) (A0_4 : Option Addr) (c0_4 : Nat) (l0_4 : List (S47)) (A0_5 : Option Addr) (c0_5 : Nat) (l0_5 : List (List Int)) (A0_6 : Option Addr) (c0_6 : Nat) (l0_6 : List (S53)) (A0_7 : Option Addr) (c0_7 : Nat) (l0_7 : List (S58)) (A0_8 : Option Addr) (c0_8 : Nat) (l0_8 : List (S61)) (A0_9 : Option Addr) (c0_9 : Nat) (l0_9 : List (S66)) (A0_10 : Option Addr) (c0_10 : Nat) (l0_10 : List (S69)) (a0_11 : Int) (a0_12 : Int) (a0_13 : Int) (a0_14 : Int) (a1 : ByteArray) (r : Int) (w : World) (hr0_4 : Kd.C k47 w A0_4 l0_4.length l0_4) (hc0_4 : l0_4.length ≤ c0_4) (hr0_5 : Kd.C (Kd.slice 3 (Kd.int .i64)) w A0_5 l0_5.length l0_5) (hc0_5 : l0_5.length ≤ c0_5) (hr0_6 : Kd.C k53 w A0_6 l0_6.length l0_6) (hc0_6 : l0_6.length ≤ c0_6) (hr0_7 : Kd.C k58 w A0_7 l0_7.length l0_7) (hc0_7 : l0_7.length ≤ c0_7) (hr0_8 : Kd.C k61 w A0_8 l0_8.length l0_8) (hc0_8 : l0_8.length ≤ c0_8) (hr0_9 : Kd.C k66 w A0_9 l0_9.length l0_9) (hc0_9 : l0_9.length ≤ c0_9) (hr0_10 : Kd.C k69 w A0_10 l0_10.length l0_10) (hc0_10 : l0_10.length ≤ c0_10) (h : horariumref17_FindCourse.f k a0_0 a0_1 a0_2 a0_3 l0_4 l0_5 l0_6 l0_7 l0_8 l0_9 l0_10 a0_11 a0_12 a0_13 a0_14 a1 = some r) :
    Calls Tryz.prog 28 #[.agg #[.string a0_0, .int .i64 a0_1, .int .i64 a0_2, .int .i64 a0_3, .slice A0_4 l0_4.length c0_4, .slice A0_5 l0_5.length c0_5, .slice A0_6 l0_6.length c0_6, .slice A0_7 l0_7.length c0_7, .slice A0_8 l0_8.length c0_8, .slice A0_9 l0_9.length c0_9, .slice A0_10 l0_10.length c0_10, .int .i64 a0_11, .int .i64 a0_12, .int .i64 a0_13, .int .i64 a0_14], .string a1] w fun e w' => e = .returned (.int .i64 r) ∧ Below w.heap.size w w' := by
  have hu34 := Tryz.underlying34
  have HR0_4 := Aside0.mk hr0_4
  have HC0_4 := Aside0.mk hc0_4
  clear hr0_4 hc0_4
  have HR0_5 := Aside0.mk hr0_5
  have HC0_5 := Aside0.mk hc0_5
  clear hr0_5 hc0_5
  have HR0_6 := Aside0.mk hr0_6
  have HC0_6 := Aside0.mk hc0_6
  clear hr0_6 hc0_6
  have HR0_7 := Aside0.mk hr0_7
  have HC0_7 := Aside0.mk hc0_7
  clear hr0_7 hc0_7
  have HR0_8 := Aside0.mk hr0_8
  have HC0_8 := Aside0.mk hc0_8
  clear hr0_8 hc0_8
  have HR0_9 := Aside0.mk hr0_9
  have HC0_9 := Aside0.mk hc0_9
  clear hr0_9 hc0_9
  have HR0_10 := Aside0.mk hr0_10
  have HC0_10 := Aside0.mk hc0_10
  clear hr0_10 hc0_10
  have HB := Aside0.mk (Below.refl w.heap.size w)
  have H : (horariumref17_FindCourse.l0 k a1 0 a0_0 a0_1 a0_2 a0_3 l0_4 l0_5 l0_6 l0_7 l0_8 l0_9 l0_10 a0_11 a0_12 a0_13 a0_14) = some r := h
  clear h
  have H' := Aside0.mk H
  clear H
  go_enter Tryz.func28, Tryz.ntmps28
  go_wp2_with (first | ((with_reducible refine gate_dst (N := 2) rfl ?_); refine box_event ?hg (N := 2) ?hd (cs := #[.string a0_0, .int .i64 a0_1, .int .i64 a0_2, .int .i64 a0_3, .slice A0_4 l0_4.length c0_4, .slice A0_5 l0_5.length c0_5, .slice A0_6 l0_6.length c0_6, .slice A0_7 l0_7.length c0_7, .slice A0_8 l0_8.length c0_8, .slice A0_9 l0_9.length c0_9, .slice A0_10 l0_10.length c0_10, .int .i64 a0_11, .int .i64 a0_12, .int .i64 a0_13, .int .i64 a0_14]) (t := 34) ?hr ?_; (case hd => rfl); (case hg => rfl); (case hr => first | (go_simp; done) | (go_simp; rfl)); intro gb193 hg w3 hbox hb; have n0_ := Aside0.mk (below_step (by repeat (first | (with_reducible first | exact HB.out | apply below_alloc | apply pw_below_drewN | apply below_drew1) | exact HB.out)) hb); have n1_ := Aside0.mk (hbox); have n2_ := Aside0.mk ((by rw [hg]; exact (below_size (by repeat (first | (with_reducible first | exact HB.out | apply below_alloc | apply pw_below_drewN | apply below_drew1) | exact HB.out))) : w.heap.size ≤ gb193)); have n3_ := Aside0.mk ((by rw [hg]; exact (below_size (by repeat (first | (with_reducible first | exact HB.out | apply below_alloc | apply pw_below_drewN | apply below_drew1) | exact HB.out))) : w.heap.size ≤ gb193)); clear HB; have HB := n0_; have BK193 := n1_; have GW193 := n2_; have GE193 := n3_; clear n0_ n1_ n2_ n3_; clear hb hbox hg))
  go_loopg [5] k (fun kq v5 w' => ∃ (x5_1 : Int), v5 = .int .i64 x5_1 ∧ Aside0 (horariumref17_FindCourse.l0 kq a1 x5_1 a0_0 a0_1 a0_2 a0_3 l0_4 l0_5 l0_6 l0_7 l0_8 l0_9 l0_10 a0_11 a0_12 a0_13 a0_14 = some r) ∧ Aside0 (kq ≤ k) ∧ Aside0 (w'.heap[gb193]? = some (.cells #[.string a0_0, .int .i64 a0_1, .int .i64 a0_2, .int .i64 a0_3, (.slice A0_4 l0_4.length c0_4), (.slice A0_5 l0_5.length c0_5), (.slice A0_6 l0_6.length c0_6), (.slice A0_7 l0_7.length c0_7), (.slice A0_8 l0_8.length c0_8), (.slice A0_9 l0_9.length c0_9), (.slice A0_10 l0_10.length c0_10), .int .i64 a0_11, .int .i64 a0_12, .int .i64 a0_13, .int .i64 a0_14] 34 (0, 0))) ∧ Aside0 (Below w.heap.size w w'))
  case atStart => exact ⟨(0), (by first | rfl | (simp; done) | (simp [*]; done)), H', ⟨Nat.le_refl _⟩, ⟨by (with_reducible repeat (first | refine blk_drewN ?_ _ | refine blk_drew ?_ | refine blk_alloc ?_ _)); exact BK193.out⟩, ⟨by repeat (first | (with_reducible first | exact HB.out | apply below_alloc | apply pw_below_drewN | apply below_drew1 | refine below_set ?_ GE193.out) | exact HB.out)⟩⟩
  case round =>
    clear H'
    try clear c2
    try clear p2
    obtain ⟨x5_1, rfl, HA, HK1, BK193, HB⟩ := hrel
    cases gk with
    | zero => exact absurd HA.out (by simp [horariumref17_FindCourse.l0])
    | succ k1 =>
      have H := HA.out
      clear HA
      simp only [horariumref17_FindCourse.l0] at H
      by_cases c4 : x5_1 < (l0_8.length : Int)
      · rw [if_pos c4] at H
        have c4b0 : decide (x5_1 < (l0_8.length : Int)) = true := decide_eq_true c4
        clear c4
        by_cases c5 : 0 ≤ x5_1
        · rw [if_pos c5] at H
          have c5b0 : decide (0 ≤ x5_1) = true := decide_eq_true c5
          clear c5
          by_cases c6 : ((rd_T61 l0_8 x5_1).f0).toList = a1.toList
          · rw [if_pos c6] at H
            have c6b0 : (((rd_T61 l0_8 x5_1).f0).toList == a1.toList) = true := beq_iff_eq.mpr c6
            have c6b1 : (((rd_T61 l0_8 x5_1).f0).toList != a1.toList) = false := bne_eq_false_iff_eq.mpr c6
            clear c6
            obtain rfl := Option.some.inj H
            have hcz7_0 : wr.cell? ⟨gb193, 0, none⟩ = some (.string a0_0) := (blk_cell BK193.out 0).trans rfl
            have hcz7_1 : wr.cell? ⟨gb193, 1, none⟩ = some (.int .i64 a0_1) := (blk_cell BK193.out 1).trans rfl
            have hcz7_2 : wr.cell? ⟨gb193, 2, none⟩ = some (.int .i64 a0_2) := (blk_cell BK193.out 2).trans rfl
            have hcz7_3 : wr.cell? ⟨gb193, 3, none⟩ = some (.int .i64 a0_3) := (blk_cell BK193.out 3).trans rfl
            have hcz7_4 : wr.cell? ⟨gb193, 4, none⟩ = some (.slice A0_4 l0_4.length c0_4) := (blk_cell BK193.out 4).trans rfl
            have hcz7_5 : wr.cell? ⟨gb193, 5, none⟩ = some (.slice A0_5 l0_5.length c0_5) := (blk_cell BK193.out 5).trans rfl
            have hcz7_6 : wr.cell? ⟨gb193, 6, none⟩ = some (.slice A0_6 l0_6.length c0_6) := (blk_cell BK193.out 6).trans rfl
            have hcz7_7 : wr.cell? ⟨gb193, 7, none⟩ = some (.slice A0_7 l0_7.length c0_7) := (blk_cell BK193.out 7).trans rfl
            have hcz7_8 : wr.cell? ⟨gb193, 8, none⟩ = some (.slice A0_8 l0_8.length c0_8) := (blk_cell BK193.out 8).trans rfl
            have hcz7_9 : wr.cell? ⟨gb193, 9, none⟩ = some (.slice A0_9 l0_9.length c0_9) := (blk_cell BK193.out 9).trans rfl
            have hcz7_10 : wr.cell? ⟨gb193, 10, none⟩ = some (.slice A0_10 l0_10.length c0_10) := (blk_cell BK193.out 10).trans rfl
            have hcz7_11 : wr.cell? ⟨gb193, 11, none⟩ = some (.int .i64 a0_11) := (blk_cell BK193.out 11).trans rfl
            have hcz7_12 : wr.cell? ⟨gb193, 12, none⟩ = some (.int .i64 a0_12) := (blk_cell BK193.out 12).trans rfl
            have hcz7_13 : wr.cell? ⟨gb193, 13, none⟩ = some (.int .i64 a0_13) := (blk_cell BK193.out 13).trans rfl
            have hcz7_14 : wr.cell? ⟨gb193, 14, none⟩ = some (.int .i64 a0_14) := (blk_cell BK193.out 14).trans rfl
            have hfz7_0 := blk_frozen BK193.out 0
            have hfz7_1 := blk_frozen BK193.out 1
            have hfz7_2 := blk_frozen BK193.out 2
            have hfz7_3 := blk_frozen BK193.out 3
            have hfz7_4 := blk_frozen BK193.out 4
            have hfz7_5 := blk_frozen BK193.out 5
            have hfz7_6 := blk_frozen BK193.out 6
            have hfz7_7 := blk_frozen BK193.out 7
            have hfz7_8 := blk_frozen BK193.out 8
            have hfz7_9 := blk_frozen BK193.out 9
            have hfz7_10 := blk_frozen BK193.out 10
            have hfz7_11 := blk_frozen BK193.out 11
            have hfz7_12 := blk_frozen BK193.out 12
            have hfz7_13 := blk_frozen BK193.out 13
            have hfz7_14 := blk_frozen BK193.out 14
            have p194 : 0 ≤ (x5_1 : Int) := of_decide_eq_true (by first | (with_reducible assumption) | assumption)
            have q194 : x5_1 < (l0_8.length : Int) := of_decide_eq_true (by first | (with_reducible assumption) | assumption)
            obtain ⟨ad194, A194_1, c194_1, e194, hx194_0, hx194_1, hl194_1, hi194_1⟩ := at_T61 HR0_8.out x5_1 p194 q194
            cases e194
            replace hx194_0 := (HB.out.cell (World.block_lt_of_cell? w _ hx194_0)).trans hx194_0
            replace hx194_1 := (HB.out.cell (World.block_lt_of_cell? w _ hx194_1)).trans hx194_1
            have HR194_1 := Aside0.mk hi194_1
            have HC194_1 := Aside0.mk hl194_1
            clear hi194_1 hl194_1
            replace p194 := eq_true p194
            replace q194 := eq_true q194
            go_wp2
            go_ret
            exact ⟨by first | rfl | (simp [errW_none, errW_some] <;> rfl) | (simp [*, errW_none, errW_some] <;> rfl), by repeat (first | (with_reducible first | exact HB.out | apply below_alloc | apply pw_below_drewN | apply below_drew1 | refine below_set ?_ GE193.out) | exact HB.out)⟩
          · rw [if_neg c6] at H
            have c6b0 : (((rd_T61 l0_8 x5_1).f0).toList == a1.toList) = false := beq_eq_false_iff_ne.mpr c6
            have c6b1 : (((rd_T61 l0_8 x5_1).f0).toList != a1.toList) = true := bne_iff_ne.mpr c6
            have H' := Aside0.mk H
            clear H
            have hcz8_0 : wr.cell? ⟨gb193, 0, none⟩ = some (.string a0_0) := (blk_cell BK193.out 0).trans rfl
            have hcz8_1 : wr.cell? ⟨gb193, 1, none⟩ = some (.int .i64 a0_1) := (blk_cell BK193.out 1).trans rfl
            have hcz8_2 : wr.cell? ⟨gb193, 2, none⟩ = some (.int .i64 a0_2) := (blk_cell BK193.out 2).trans rfl
            have hcz8_3 : wr.cell? ⟨gb193, 3, none⟩ = some (.int .i64 a0_3) := (blk_cell BK193.out 3).trans rfl
            have hcz8_4 : wr.cell? ⟨gb193, 4, none⟩ = some (.slice A0_4 l0_4.length c0_4) := (blk_cell BK193.out 4).trans rfl
            have hcz8_5 : wr.cell? ⟨gb193, 5, none⟩ = some (.slice A0_5 l0_5.length c0_5) := (blk_cell BK193.out 5).trans rfl
            have hcz8_6 : wr.cell? ⟨gb193, 6, none⟩ = some (.slice A0_6 l0_6.length c0_6) := (blk_cell BK193.out 6).trans rfl
            have hcz8_7 : wr.cell? ⟨gb193, 7, none⟩ = some (.slice A0_7 l0_7.length c0_7) := (blk_cell BK193.out 7).trans rfl
            have hcz8_8 : wr.cell? ⟨gb193, 8, none⟩ = some (.slice A0_8 l0_8.length c0_8) := (blk_cell BK193.out 8).trans rfl
            have hcz8_9 : wr.cell? ⟨gb193, 9, none⟩ = some (.slice A0_9 l0_9.length c0_9) := (blk_cell BK193.out 9).trans rfl
            have hcz8_10 : wr.cell? ⟨gb193, 10, none⟩ = some (.slice A0_10 l0_10.length c0_10) := (blk_cell BK193.out 10).trans rfl
            have hcz8_11 : wr.cell? ⟨gb193, 11, none⟩ = some (.int .i64 a0_11) := (blk_cell BK193.out 11).trans rfl
            have hcz8_12 : wr.cell? ⟨gb193, 12, none⟩ = some (.int .i64 a0_12) := (blk_cell BK193.out 12).trans rfl
            have hcz8_13 : wr.cell? ⟨gb193, 13, none⟩ = some (.int .i64 a0_13) := (blk_cell BK193.out 13).trans rfl
            have hcz8_14 : wr.cell? ⟨gb193, 14, none⟩ = some (.int .i64 a0_14) := (blk_cell BK193.out 14).trans rfl
            have hfz8_0 := blk_frozen BK193.out 0
            have hfz8_1 := blk_frozen BK193.out 1
            have hfz8_2 := blk_frozen BK193.out 2
            have hfz8_3 := blk_frozen BK193.out 3
            have hfz8_4 := blk_frozen BK193.out 4
            have hfz8_5 := blk_frozen BK193.out 5
            have hfz8_6 := blk_frozen BK193.out 6
            have hfz8_7 := blk_frozen BK193.out 7
            have hfz8_8 := blk_frozen BK193.out 8
            have hfz8_9 := blk_frozen BK193.out 9
            have hfz8_10 := blk_frozen BK193.out 10
            have hfz8_11 := blk_frozen BK193.out 11
            have hfz8_12 := blk_frozen BK193.out 12
            have hfz8_13 := blk_frozen BK193.out 13
            have hfz8_14 := blk_frozen BK193.out 14
            have p194 : 0 ≤ (x5_1 : Int) := of_decide_eq_true (by first | (with_reducible assumption) | assumption)
            have q194 : x5_1 < (l0_8.length : Int) := of_decide_eq_true (by first | (with_reducible assumption) | assumption)
            obtain ⟨ad194, A194_1, c194_1, e194, hx194_0, hx194_1, hl194_1, hi194_1⟩ := at_T61 HR0_8.out x5_1 p194 q194
            cases e194
            replace hx194_0 := (HB.out.cell (World.block_lt_of_cell? w _ hx194_0)).trans hx194_0
            replace hx194_1 := (HB.out.cell (World.block_lt_of_cell? w _ hx194_1)).trans hx194_1
            have HR194_1 := Aside0.mk hi194_1
            have HC194_1 := Aside0.mk hl194_1
            clear hi194_1 hl194_1
            replace p194 := eq_true p194
            replace q194 := eq_true q194
            go_wp2
            go_roundg k1
            case measure => have := HK1.out; omega
            case rel => exact ⟨(wrap64 (x5_1 + 1)), (by first | rfl | (simp; done) | (simp [*]; done)), H', ⟨by have := HK1.out; omega⟩, ⟨by (with_reducible repeat (first | refine blk_drewN ?_ _ | refine blk_drew ?_ | refine blk_alloc ?_ _)); exact BK193.out⟩, ⟨by repeat (first | (with_reducible first | exact HB.out | apply below_alloc | apply pw_below_drewN | apply below_drew1 | refine below_set ?_ GE193.out) | exact HB.out)⟩⟩
        · rw [if_neg c5] at H
          exact absurd H (by simp)
      · rw [if_neg c4] at H
        have c4b0 : decide (x5_1 < (l0_8.length : Int)) = false := decide_eq_false c4
        clear c4
        obtain rfl := Option.some.inj H
        have hcz9_0 : wr.cell? ⟨gb193, 0, none⟩ = some (.string a0_0) := (blk_cell BK193.out 0).trans rfl
        have hcz9_1 : wr.cell? ⟨gb193, 1, none⟩ = some (.int .i64 a0_1) := (blk_cell BK193.out 1).trans rfl
        have hcz9_2 : wr.cell? ⟨gb193, 2, none⟩ = some (.int .i64 a0_2) := (blk_cell BK193.out 2).trans rfl
        have hcz9_3 : wr.cell? ⟨gb193, 3, none⟩ = some (.int .i64 a0_3) := (blk_cell BK193.out 3).trans rfl
        have hcz9_4 : wr.cell? ⟨gb193, 4, none⟩ = some (.slice A0_4 l0_4.length c0_4) := (blk_cell BK193.out 4).trans rfl
        have hcz9_5 : wr.cell? ⟨gb193, 5, none⟩ = some (.slice A0_5 l0_5.length c0_5) := (blk_cell BK193.out 5).trans rfl
        have hcz9_6 : wr.cell? ⟨gb193, 6, none⟩ = some (.slice A0_6 l0_6.length c0_6) := (blk_cell BK193.out 6).trans rfl
        have hcz9_7 : wr.cell? ⟨gb193, 7, none⟩ = some (.slice A0_7 l0_7.length c0_7) := (blk_cell BK193.out 7).trans rfl
        have hcz9_8 : wr.cell? ⟨gb193, 8, none⟩ = some (.slice A0_8 l0_8.length c0_8) := (blk_cell BK193.out 8).trans rfl
        have hcz9_9 : wr.cell? ⟨gb193, 9, none⟩ = some (.slice A0_9 l0_9.length c0_9) := (blk_cell BK193.out 9).trans rfl
        have hcz9_10 : wr.cell? ⟨gb193, 10, none⟩ = some (.slice A0_10 l0_10.length c0_10) := (blk_cell BK193.out 10).trans rfl
        have hcz9_11 : wr.cell? ⟨gb193, 11, none⟩ = some (.int .i64 a0_11) := (blk_cell BK193.out 11).trans rfl
        have hcz9_12 : wr.cell? ⟨gb193, 12, none⟩ = some (.int .i64 a0_12) := (blk_cell BK193.out 12).trans rfl
        have hcz9_13 : wr.cell? ⟨gb193, 13, none⟩ = some (.int .i64 a0_13) := (blk_cell BK193.out 13).trans rfl
        have hcz9_14 : wr.cell? ⟨gb193, 14, none⟩ = some (.int .i64 a0_14) := (blk_cell BK193.out 14).trans rfl
        have hfz9_0 := blk_frozen BK193.out 0
        have hfz9_1 := blk_frozen BK193.out 1
        have hfz9_2 := blk_frozen BK193.out 2
        have hfz9_3 := blk_frozen BK193.out 3
        have hfz9_4 := blk_frozen BK193.out 4
        have hfz9_5 := blk_frozen BK193.out 5
        have hfz9_6 := blk_frozen BK193.out 6
        have hfz9_7 := blk_frozen BK193.out 7
        have hfz9_8 := blk_frozen BK193.out 8
        have hfz9_9 := blk_frozen BK193.out 9
        have hfz9_10 := blk_frozen BK193.out 10
        have hfz9_11 := blk_frozen BK193.out 11
        have hfz9_12 := blk_frozen BK193.out 12
        have hfz9_13 := blk_frozen BK193.out 13
        have hfz9_14 := blk_frozen BK193.out 14
        go_wp2
        go_ret
        exact ⟨by first | rfl | (simp [errW_none, errW_some] <;> rfl) | (simp [*, errW_none, errW_some] <;> rfl), by repeat (first | (with_reducible first | exact HB.out | apply below_alloc | apply pw_below_drewN | apply below_drew1 | refine below_set ?_ GE193.out) | exact HB.out)⟩

end Go.Proofs.YtineikfhfmiidaaGreat.Gp
