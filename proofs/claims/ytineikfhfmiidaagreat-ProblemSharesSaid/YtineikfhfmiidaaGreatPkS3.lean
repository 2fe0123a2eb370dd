import Derived.Test.YtineikfhfmiidaaGreatGpC
import Derived.Test.YtineikfhfmiidaaGreatShelf
import Derived.Test.YtineikfhfmiidaaGreatPkS2
/- The document's Few: it ends, and says that no row is too long. -/
namespace Go.Proofs.YtineikfhfmiidaaGreat.Pm
open Go Go.RowKit Go.Proofs.YtineikfhfmiidaaGreat.Gp Go.Proofs.YtineikfhfmiidaaGreatW.PrintWords Go.Proofs.YtineikfhfmiidaaGreatW.PrintLast Go.Proofs.YtineikfhfmiidaaGreatW.PrintMore
set_option linter.unusedVariables false
set_option linter.unusedSimpArgs false
/-- No row is too long. -/
def Short (p : PV) : Prop := p.rooms.length ≤ 30 ∧ p.walk.length ≤ 40 ∧ p.persons.length ≤ 30 ∧ p.classes.length ≤ 50 ∧ p.courses.length ≤ 20 ∧ p.students.length ≤ 210 ∧ p.rules.length ≤ 70
def FewPost (p : PV) (e : Ending) : Prop := ∃ b, e = .returned (.bool b) ∧ (b = true → Short p)
theorem few_mk {p : PV} {b : Bool} {e : Ending} (he : e = .returned (.bool b)) (h : b = true → Short p) : FewPost p e := ⟨b, he, h⟩
theorem row_at {α : Type} {d : Kd α} {q : Nat} {w : World} {A : Option Addr} {n : Nat} {xs : List (List α)} (h : Kd.C (Kd.slice q d) w A n xs) {i : Nat} (hi : i < xs.length) :
    ∃ ad B c, A = some ad ∧ w.cell? (ad.add i) = some (.slice B (xs.getD i []).length c) ∧ (xs.getD i []).length ≤ c ∧ d.C w B (xs.getD i []).length (xs.getD i []) := by
  obtain ⟨ad, cs, e, _, hK, hc0⟩ := Kd.C_get h ([] : List α) (i : Int) (by omega) (by have := h.1; omega)
  obtain ⟨B, cB, rfl, l0, g0⟩ := hK
  rw [Int.toNat_natCast] at l0 g0 hc0
  have hc : w.cell? (ad.add (i * 1 + 0)) = _ := hc0 0 _ rfl
  rw [Nat.mul_one, Nat.add_zero] at hc
  exact ⟨ad, B, cB, e, hc, l0, g0⟩
theorem prow {w wr : World} {g : Nat} {t : TypeId} {p : PV} {a : PA} (h : PBox w wr g t (pcs p a)) : wr.cell? ⟨g, 4, none⟩ = some (.slice a.A4 p.rooms.length a.c4) ∧ wr.cell? ⟨g, 5, none⟩ = some (.slice a.A5 p.walk.length a.c5) ∧ wr.cell? ⟨g, 6, none⟩ = some (.slice a.A6 p.persons.length a.c6) ∧ wr.cell? ⟨g, 7, none⟩ = some (.slice a.A7 p.classes.length a.c7) ∧ wr.cell? ⟨g, 8, none⟩ = some (.slice a.A8 p.courses.length a.c8) ∧ wr.cell? ⟨g, 9, none⟩ = some (.slice a.A9 p.students.length a.c9) ∧ wr.cell? ⟨g, 10, none⟩ = some (.slice a.A10 p.rules.length a.c10) :=
  ⟨h.cell 4 rfl, h.cell 5 rfl, h.cell 6 rfl, h.cell 7 rfl, h.cell 8 rfl, h.cell 9 rfl, h.cell 10 rfl⟩
set_option maxRecDepth 100000 in
set_option maxHeartbeats 4000000 in
theorem Few_is (w : World) (p : PV) (a : PA) (h : PRd w p a) :
    Calls Tryz.prog 8 #[.agg (pcs p a)] w fun e w' => FewPost p e ∧ Below w.heap.size w w' := by
  have H := Aside0.mk h
  clear h
  have hu := Tryz.underlying34
  by_cases h4 : 30 < p.rooms.length
  · have j4 : (30 : Int) < (p.rooms.length : Int) := by omega
    go_enter Tryz.func8, Tryz.ntmps8
    go_wp2_with (first
      | ((with_reducible refine gate_dst (N := 1) rfl ?_); refine box_event ?hg (N := 1) ?hd (cs := pcs p a) (t := 34) ?hr ?_; (case hd => rfl); (case hg => rfl); (case hr => first | (go_simp; done) | (go_simp; rfl)); intro g hg w2 hbox hB; have HP := Aside0.mk (PBox.mk hbox hB (show w.heap.size ≤ g by rw [hg]; exact Nat.le_refl _)); clear hbox hB hg; obtain ⟨hc4, hc5, hc6, hc7, hc8, hc9, hc10⟩ := prow HP.out))
    go_ret
    exact ⟨few_mk rfl (fun hf => by cases hf), HP.out.bel⟩
  have j4 : ¬ (30 : Int) < (p.rooms.length : Int) := by omega
  by_cases h5 : 40 < p.walk.length
  · have j5 : (40 : Int) < (p.walk.length : Int) := by omega
    go_enter Tryz.func8, Tryz.ntmps8
    go_wp2_with (first
      | ((with_reducible refine gate_dst (N := 1) rfl ?_); refine box_event ?hg (N := 1) ?hd (cs := pcs p a) (t := 34) ?hr ?_; (case hd => rfl); (case hg => rfl); (case hr => first | (go_simp; done) | (go_simp; rfl)); intro g hg w2 hbox hB; have HP := Aside0.mk (PBox.mk hbox hB (show w.heap.size ≤ g by rw [hg]; exact Nat.le_refl _)); clear hbox hB hg; obtain ⟨hc4, hc5, hc6, hc7, hc8, hc9, hc10⟩ := prow HP.out))
    go_ret
    exact ⟨few_mk rfl (fun hf => by cases hf), HP.out.bel⟩
  have j5 : ¬ (40 : Int) < (p.walk.length : Int) := by omega
  by_cases h6 : 30 < p.persons.length
  · have j6 : (30 : Int) < (p.persons.length : Int) := by omega
    go_enter Tryz.func8, Tryz.ntmps8
    go_wp2_with (first
      | ((with_reducible refine gate_dst (N := 1) rfl ?_); refine box_event ?hg (N := 1) ?hd (cs := pcs p a) (t := 34) ?hr ?_; (case hd => rfl); (case hg => rfl); (case hr => first | (go_simp; done) | (go_simp; rfl)); intro g hg w2 hbox hB; have HP := Aside0.mk (PBox.mk hbox hB (show w.heap.size ≤ g by rw [hg]; exact Nat.le_refl _)); clear hbox hB hg; obtain ⟨hc4, hc5, hc6, hc7, hc8, hc9, hc10⟩ := prow HP.out))
    go_ret
    exact ⟨few_mk rfl (fun hf => by cases hf), HP.out.bel⟩
  have j6 : ¬ (30 : Int) < (p.persons.length : Int) := by omega
  by_cases h7 : 50 < p.classes.length
  · have j7 : (50 : Int) < (p.classes.length : Int) := by omega
    go_enter Tryz.func8, Tryz.ntmps8
    go_wp2_with (first
      | ((with_reducible refine gate_dst (N := 1) rfl ?_); refine box_event ?hg (N := 1) ?hd (cs := pcs p a) (t := 34) ?hr ?_; (case hd => rfl); (case hg => rfl); (case hr => first | (go_simp; done) | (go_simp; rfl)); intro g hg w2 hbox hB; have HP := Aside0.mk (PBox.mk hbox hB (show w.heap.size ≤ g by rw [hg]; exact Nat.le_refl _)); clear hbox hB hg; obtain ⟨hc4, hc5, hc6, hc7, hc8, hc9, hc10⟩ := prow HP.out))
    go_ret
    exact ⟨few_mk rfl (fun hf => by cases hf), HP.out.bel⟩
  have j7 : ¬ (50 : Int) < (p.classes.length : Int) := by omega
  by_cases h8 : 20 < p.courses.length
  · have j8 : (20 : Int) < (p.courses.length : Int) := by omega
    go_enter Tryz.func8, Tryz.ntmps8
    go_wp2_with (first
      | ((with_reducible refine gate_dst (N := 1) rfl ?_); refine box_event ?hg (N := 1) ?hd (cs := pcs p a) (t := 34) ?hr ?_; (case hd => rfl); (case hg => rfl); (case hr => first | (go_simp; done) | (go_simp; rfl)); intro g hg w2 hbox hB; have HP := Aside0.mk (PBox.mk hbox hB (show w.heap.size ≤ g by rw [hg]; exact Nat.le_refl _)); clear hbox hB hg; obtain ⟨hc4, hc5, hc6, hc7, hc8, hc9, hc10⟩ := prow HP.out))
    go_ret
    exact ⟨few_mk rfl (fun hf => by cases hf), HP.out.bel⟩
  have j8 : ¬ (20 : Int) < (p.courses.length : Int) := by omega
  by_cases h9 : 210 < p.students.length
  · have j9 : (210 : Int) < (p.students.length : Int) := by omega
    go_enter Tryz.func8, Tryz.ntmps8
    go_wp2_with (first
      | ((with_reducible refine gate_dst (N := 1) rfl ?_); refine box_event ?hg (N := 1) ?hd (cs := pcs p a) (t := 34) ?hr ?_; (case hd => rfl); (case hg => rfl); (case hr => first | (go_simp; done) | (go_simp; rfl)); intro g hg w2 hbox hB; have HP := Aside0.mk (PBox.mk hbox hB (show w.heap.size ≤ g by rw [hg]; exact Nat.le_refl _)); clear hbox hB hg; obtain ⟨hc4, hc5, hc6, hc7, hc8, hc9, hc10⟩ := prow HP.out))
    go_ret
    exact ⟨few_mk rfl (fun hf => by cases hf), HP.out.bel⟩
  have j9 : ¬ (210 : Int) < (p.students.length : Int) := by omega
  by_cases h10 : 70 < p.rules.length
  · have j10 : (70 : Int) < (p.rules.length : Int) := by omega
    go_enter Tryz.func8, Tryz.ntmps8
    go_wp2_with (first
      | ((with_reducible refine gate_dst (N := 1) rfl ?_); refine box_event ?hg (N := 1) ?hd (cs := pcs p a) (t := 34) ?hr ?_; (case hd => rfl); (case hg => rfl); (case hr => first | (go_simp; done) | (go_simp; rfl)); intro g hg w2 hbox hB; have HP := Aside0.mk (PBox.mk hbox hB (show w.heap.size ≤ g by rw [hg]; exact Nat.le_refl _)); clear hbox hB hg; obtain ⟨hc4, hc5, hc6, hc7, hc8, hc9, hc10⟩ := prow HP.out))
    go_ret
    exact ⟨few_mk rfl (fun hf => by cases hf), HP.out.bel⟩
  have j10 : ¬ (70 : Int) < (p.rules.length : Int) := by omega
  have HSh := Aside0.mk (show Short p from ⟨by omega, by omega, by omega, by omega, by omega, by omega, by omega⟩)
  go_enter Tryz.func8, Tryz.ntmps8
  go_wp2_with (first
    | ((with_reducible refine gate_dst (N := 1) rfl ?_); refine box_event ?hg (N := 1) ?hd (cs := pcs p a) (t := 34) ?hr ?_; (case hd => rfl); (case hg => rfl); (case hr => first | (go_simp; done) | (go_simp; rfl)); intro g hg w2 hbox hB; have HP := Aside0.mk (PBox.mk hbox hB (show w.heap.size ≤ g by rw [hg]; exact Nat.le_refl _)); clear hbox hB hg; obtain ⟨hc4, hc5, hc6, hc7, hc8, hc9, hc10⟩ := prow HP.out))
  go_loopw [3, 4] (fun v3 v4 wr => ∃ (x : Int) (i : Nat), i ≤ p.rooms.length ∧ v3 = .int .i64 x ∧ v4 = .int .i64 i ∧ Aside0 (PBox w wr g 34 (pcs p a))) (fun _ v4 _ => p.rooms.length - (intOf v4).toNat)
  case atStart => exact ⟨_, 0, Nat.zero_le _, rfl, rfl, HP⟩
  case round =>
    clear HP hc4 hc5 hc6 hc7 hc8 hc9 hc10
    obtain ⟨x, i, hi, rfl, rfl, HP⟩ := hrel
    obtain ⟨hc4, hc5, hc6, hc7, hc8, hc9, hc10⟩ := prow HP.out
    by_cases hin : i < p.rooms.length
    · have hi2 : (i : Int) < (p.rooms.length : Int) := by omega
      obtain ⟨ad, B3, c3, hA, e0, e1, e2, e3, l3, g3⟩ := at_T47 (Kd.C_below H.out.r4 HP.out.bel) (i : Int) (by omega) (by omega)
      rw [Int.toNat_natCast] at e0 e1 e2 e3
      rw [hA] at hc4
      clear l3 g3
      go_wp2
      exact ⟨⟨_, i + 1, by omega, rfl, by go_num, HP⟩, by simp [intOf]; omega⟩
    · obtain rfl : i = p.rooms.length := by omega
      go_wp2
      go_loopw [3, 5] (fun v3 v5 wr => ∃ (x : Int) (i : Nat), i ≤ p.walk.length ∧ v3 = .int .i64 x ∧ v5 = .int .i64 i ∧ Aside0 (PBox w wr g 34 (pcs p a))) (fun _ v5 _ => p.walk.length - (intOf v5).toNat)
      case atStart => exact ⟨_, 0, Nat.zero_le _, rfl, rfl, HP⟩
      case round =>
        clear HP hc4 hc5 hc6 hc7 hc8 hc9 hc10
        obtain ⟨x, i, hi, rfl, rfl, HP⟩ := hrel
        obtain ⟨hc4, hc5, hc6, hc7, hc8, hc9, hc10⟩ := prow HP.out
        by_cases hin : i < p.walk.length
        · have hi2 : (i : Int) < (p.walk.length : Int) := by omega
          obtain ⟨ad, B, c, hA, e0, l0, g0⟩ := row_at (Kd.C_below H.out.r5 HP.out.bel) hin
          rw [hA] at hc5
          clear l0 g0
          go_wp2
          exact ⟨⟨_, i + 1, by omega, rfl, by go_num, HP⟩, by simp [intOf]; omega⟩
        · obtain rfl : i = p.walk.length := by omega
          go_wp2
          go_loopw [3, 6] (fun v3 v6 wr => ∃ (x : Int) (i : Nat), i ≤ p.persons.length ∧ v3 = .int .i64 x ∧ v6 = .int .i64 i ∧ Aside0 (PBox w wr g 34 (pcs p a))) (fun _ v6 _ => p.persons.length - (intOf v6).toNat)
          case atStart => exact ⟨_, 0, Nat.zero_le _, rfl, rfl, HP⟩
          case round =>
            clear HP hc4 hc5 hc6 hc7 hc8 hc9 hc10
            obtain ⟨x, i, hi, rfl, rfl, HP⟩ := hrel
            obtain ⟨hc4, hc5, hc6, hc7, hc8, hc9, hc10⟩ := prow HP.out
            by_cases hin : i < p.persons.length
            · have hi2 : (i : Int) < (p.persons.length : Int) := by omega
              obtain ⟨ad, B1, c1, hA, e0, e1, l1, g1⟩ := at_T53 (Kd.C_below H.out.r6 HP.out.bel) (i : Int) (by omega) (by omega)
              rw [Int.toNat_natCast] at e0 e1
              rw [hA] at hc6
              clear l1 g1
              go_wp2
              exact ⟨⟨_, i + 1, by omega, rfl, by go_num, HP⟩, by simp [intOf]; omega⟩
            · obtain rfl : i = p.persons.length := by omega
              go_wp2
              go_loopw [3, 7] (fun v3 v7 wr => ∃ (x : Int) (i : Nat), i ≤ p.classes.length ∧ v3 = .int .i64 x ∧ v7 = .int .i64 i ∧ Aside0 (PBox w wr g 34 (pcs p a))) (fun _ v7 _ => p.classes.length - (intOf v7).toNat)
              case atStart => exact ⟨_, 0, Nat.zero_le _, rfl, rfl, HP⟩
              case round =>
                clear HP hc4 hc5 hc6 hc7 hc8 hc9 hc10
                obtain ⟨x, i, hi, rfl, rfl, HP⟩ := hrel
                obtain ⟨hc4, hc5, hc6, hc7, hc8, hc9, hc10⟩ := prow HP.out
                by_cases hin : i < p.classes.length
                · have hi2 : (i : Int) < (p.classes.length : Int) := by omega
                  obtain ⟨ad, B3, c3, B4, c4, B5, c5, hA, e0, e1, e2, e3, e4, e5, e6, l3, g3, l4, g4, l5, g5⟩ := at_T58 (Kd.C_below H.out.r7 HP.out.bel) (i : Int) (by omega) (by omega)
                  rw [Int.toNat_natCast] at e0 e1 e2 e3 e4 e5 e6
                  rw [hA] at hc7
                  clear l3 g3 l4 g4 l5 g5
                  go_wp2
                  go_quiet (fail)
                  go_wp2
                  exact ⟨⟨_, i + 1, by omega, rfl, by go_num, ⟨HP.out.below (pw_below_drewN (Below.refl _ _) nq)⟩⟩, by simp [intOf]; omega⟩
                · obtain rfl : i = p.classes.length := by omega
                  go_wp2
                  go_loopw [3, 8] (fun v3 v8 wr => ∃ (x : Int) (i : Nat), i ≤ p.students.length ∧ v3 = .int .i64 x ∧ v8 = .int .i64 i ∧ Aside0 (PBox w wr g 34 (pcs p a))) (fun _ v8 _ => p.students.length - (intOf v8).toNat)
                  case atStart => exact ⟨_, 0, Nat.zero_le _, rfl, rfl, HP⟩
                  case round =>
                    clear HP hc4 hc5 hc6 hc7 hc8 hc9 hc10
                    obtain ⟨x, i, hi, rfl, rfl, HP⟩ := hrel
                    obtain ⟨hc4, hc5, hc6, hc7, hc8, hc9, hc10⟩ := prow HP.out
                    by_cases hin : i < p.students.length
                    · have hi2 : (i : Int) < (p.students.length : Int) := by omega
                      obtain ⟨ad, B1, c1, hA, e0, e1, l1, g1⟩ := at_T66 (Kd.C_below H.out.r9 HP.out.bel) (i : Int) (by omega) (by omega)
                      rw [Int.toNat_natCast] at e0 e1
                      rw [hA] at hc9
                      clear l1 g1
                      go_wp2
                      exact ⟨⟨_, i + 1, by omega, rfl, by go_num, HP⟩, by simp [intOf]; omega⟩
                    · obtain rfl : i = p.students.length := by omega
                      go_wp2
                      go_loopw [3, 9] (fun v3 v9 wr => ∃ (x : Int) (i : Nat), i ≤ p.rules.length ∧ v3 = .int .i64 x ∧ v9 = .int .i64 i ∧ Aside0 (PBox w wr g 34 (pcs p a))) (fun _ v9 _ => p.rules.length - (intOf v9).toNat)
                      case atStart => exact ⟨_, 0, Nat.zero_le _, rfl, rfl, HP⟩
                      case round =>
                        clear HP hc4 hc5 hc6 hc7 hc8 hc9 hc10
                        obtain ⟨x, i, hi, rfl, rfl, HP⟩ := hrel
                        obtain ⟨hc4, hc5, hc6, hc7, hc8, hc9, hc10⟩ := prow HP.out
                        by_cases hin : i < p.rules.length
                        · have hi2 : (i : Int) < (p.rules.length : Int) := by omega
                          obtain ⟨ad, B1, c1, hA, e0, e1, e2, e3, e4, e5, l1, g1⟩ := at_T69 (Kd.C_below H.out.r10 HP.out.bel) (i : Int) (by omega) (by omega)
                          rw [Int.toNat_natCast] at e0 e1 e2 e3 e4 e5
                          rw [hA] at hc10
                          clear l1 g1
                          go_wp2
                          exact ⟨⟨_, i + 1, by omega, rfl, by go_num, HP⟩, by simp [intOf]; omega⟩
                        · obtain rfl : i = p.rules.length := by omega
                          go_wp2
                          go_loopw [3, 10] (fun v3 v10 wr => ∃ (x : Int) (i : Nat), i ≤ p.courses.length ∧ v3 = .int .i64 x ∧ v10 = .int .i64 i ∧ Aside0 (PBox w wr g 34 (pcs p a))) (fun _ v10 _ => p.courses.length - (intOf v10).toNat)
                          case atStart => exact ⟨_, 0, Nat.zero_le _, rfl, rfl, HP⟩
                          case round =>
                            clear HP hc4 hc5 hc6 hc7 hc8 hc9 hc10
                            obtain ⟨x, i, hi, rfl, rfl, HP⟩ := hrel
                            obtain ⟨hc4, hc5, hc6, hc7, hc8, hc9, hc10⟩ := prow HP.out
                            by_cases hin : i < p.courses.length
                            · have hi2 : (i : Int) < (p.courses.length : Int) := by omega
                              obtain ⟨x3, hx3⟩ : ∃ y, y = p.courses.getD i z61 := ⟨_, rfl⟩
                              obtain ⟨ad, B1, c1, hA, e0, e1, l1, g1⟩ := at_T61 (Kd.C_below H.out.r8 HP.out.bel) (i : Int) (by omega) (by omega)
                              rw [Int.toNat_natCast] at e0 e1
                              unfold rd_T61 at e0 e1 l1 g1
                              rw [Int.toNat_natCast, ← hx3] at e0 e1 l1 g1
                              rw [hA] at hc8
                              have HE := Aside0.mk e1
                              have HG := Aside0.mk g1
                              have hmx := Kd.C_max g1
                              clear hx3 g1 l1 e0
                              generalize x3.f1 = ws at HE HG hmx e1
                              go_wp2
                              go_loopw [3, 11] (fun v3 v11 wr => ∃ (x : Int) (k : Nat), k ≤ ws.length ∧ v3 = .int .i64 x ∧ v11 = .int .i64 k ∧ Aside0 (PBox w wr g 34 (pcs p a)) ∧ Aside0 (wr.cell? ⟨(ad.add (i * 2)).block, (ad.add (i * 2)).off + 1, none⟩ = some (.slice B1 ws.length c1)) ∧ Aside0 (Kd.C k63 wr B1 ws.length ws)) (fun _ v11 _ => ws.length - (intOf v11).toNat)
                              case atStart => exact ⟨_, 0, Nat.zero_le _, rfl, rfl, HP, HE, HG⟩
                              case round =>
                                clear HP HE HG e1 hc4 hc5 hc6 hc7 hc8 hc9 hc10
                                obtain ⟨x, k, hk, rfl, rfl, HP, HE, HG⟩ := hrel
                                obtain ⟨hc4, hc5, hc6, hc7, hc8, hc9, hc10⟩ := prow HP.out
                                have e1 := HE.out
                                rw [hA] at hc8
                                by_cases hkn : k < ws.length
                                · have hk2 : (k : Int) < (ws.length : Int) := by omega
                                  obtain ⟨ad2, B2, c2, hA2, f0, l2, g2⟩ := at_T63 HG.out (k : Int) (by omega) (by omega)
                                  rw [Int.toNat_natCast] at f0
                                  unfold rd_T63 at f0 l2 g2
                                  rw [Int.toNat_natCast] at f0 l2 g2
                                  (try rw [Nat.mul_one] at f0)
                                  rw [hA2] at e1
                                  have HF := Aside0.mk f0
                                  have HG2 := Aside0.mk g2
                                  have hmx2 := Kd.C_max g2
                                  clear l2 g2
                                  generalize (ws.getD k z63).f0 = ps at HF HG2 hmx2 f0
                                  go_wp2
                                  go_loopw [3, 12] (fun v3 v12 wr => ∃ (x : Int) (q : Nat), q ≤ ps.length ∧ v3 = .int .i64 x ∧ v12 = .int .i64 q ∧ Aside0 (PBox w wr g 34 (pcs p a)) ∧ Aside0 (wr.cell? ⟨(ad.add (i * 2)).block, (ad.add (i * 2)).off + 1, none⟩ = some (.slice (some ad2) ws.length c1)) ∧ Aside0 (Kd.C k63 wr (some ad2) ws.length ws) ∧ Aside0 (wr.cell? (ad2.add k) = some (.slice B2 ps.length c2)) ∧ Aside0 (Kd.C (Kd.slice 3 (Kd.int .i64)) wr B2 ps.length ps)) (fun _ v12 _ => ps.length - (intOf v12).toNat)
                                  case atStart => exact ⟨_, 0, Nat.zero_le _, rfl, rfl, HP, ⟨e1⟩, ⟨by rw [← hA2]; exact HG.out⟩, HF, HG2⟩
                                  case round =>
                                    clear HP HE HG HF HG2 e1 f0 hc4 hc5 hc6 hc7 hc8 hc9 hc10
                                    obtain ⟨x, q, hq, rfl, rfl, HP, HE, HG, HF, HG2⟩ := hrel
                                    obtain ⟨hc4, hc5, hc6, hc7, hc8, hc9, hc10⟩ := prow HP.out
                                    have e1 := HE.out
                                    have f0 := HF.out
                                    rw [hA] at hc8
                                    by_cases hqn : q < ps.length
                                    · have hq2 : (q : Int) < (ps.length : Int) := by omega
                                      obtain ⟨ad3, B3, c3, hA3, t0, l3, g3⟩ := row_at HG2.out hqn
                                      rw [hA3] at f0
                                      clear l3 g3
                                      go_wp2
                                      exact ⟨⟨_, q + 1, by omega, rfl, by go_num, HP, HE, HG, HF, HG2⟩, by simp [intOf]; omega⟩
                                    · obtain rfl : q = ps.length := by omega
                                      go_wp2
                                      exact ⟨⟨_, k + 1, by omega, rfl, by go_num, HP, ⟨by rw [hA2]; exact HE.out⟩, ⟨by rw [hA2]; exact HG.out⟩⟩, by simp [intOf]; omega⟩
                                · obtain rfl : k = ws.length := by omega
                                  go_wp2
                                  exact ⟨⟨_, i + 1, by omega, rfl, by go_num, HP⟩, by simp [intOf]; omega⟩
                            · obtain rfl : i = p.courses.length := by omega
                              go_wp2
                              go_ret
                              exact ⟨few_mk rfl (fun _ => HSh.out), HP.out.bel⟩
end Go.Proofs.YtineikfhfmiidaaGreat.Pm

/- Who teaches both of two classes: plain facts, the document's Share, folk, Contains, and Sort and Compact of a rising row. -/
namespace Go.Proofs.YtineikfhfmiidaaGreat.Pm
open Go Go.RowKit Go.Proofs.YtineikfhfmiidaaGreat.Gp Go.Proofs.YtineikfhfmiidaaGreatW.PrintWords Go.Proofs.YtineikfhfmiidaaGreatW.PrintLast Go.Proofs.YtineikfhfmiidaaGreatW.PrintMore
set_option linter.unusedVariables false
set_option linter.unusedSimpArgs false
/-- Who teaches a class. -/
def folkL (p : PV) (c : Int) : List Int := if 0 ≤ c then (match p.classes[c.toNat]? with | some x => x.f3 | none => []) else []
def both (p : PV) (a b i : Int) : Bool := (folkL p a).contains i && (folkL p b).contains i
def shareTo (p : PV) (a b : Int) : Nat → List Int
  | 0 => []
  | n + 1 => if both p a b (n : Int) then shareTo p a b n ++ [(n : Int)] else shareTo p a b n
theorem shareTo_mem (p : PV) (a b : Int) : ∀ (n : Nat) (x : Int), x ∈ shareTo p a b n ↔ (0 ≤ x ∧ x < n) ∧ both p a b x = true := by
  intro n
  induction n with
  | zero => intro x; simp [shareTo]; omega
  | succ n ih =>
    intro x
    unfold shareTo
    split
    · rename_i hb
      rw [List.mem_append, ih, List.mem_singleton]
      constructor
      · rintro (⟨h, h2⟩ | rfl)
        · exact ⟨⟨h.1, by omega⟩, h2⟩
        · exact ⟨⟨by omega, by omega⟩, hb⟩
      · rintro ⟨⟨h0, h1⟩, h2⟩
        by_cases e : x = (n : Int)
        · exact Or.inr e
        · exact Or.inl ⟨⟨h0, by omega⟩, h2⟩
    · rename_i hb
      rw [ih]
      constructor
      · rintro ⟨h, h2⟩
        exact ⟨⟨h.1, by omega⟩, h2⟩
      · rintro ⟨⟨h0, h1⟩, h2⟩
        refine ⟨⟨h0, ?_⟩, h2⟩
        by_cases e : x = (n : Int)
        · rw [e] at h2; exact absurd h2 hb
        · omega
theorem shareTo_rise (p : PV) (a b : Int) : ∀ n : Nat, (shareTo p a b n).Pairwise (· < ·) := by
  intro n
  induction n with
  | zero => exact List.Pairwise.nil
  | succ n ih =>
    unfold shareTo
    split
    · rw [List.pairwise_append]
      refine ⟨ih, List.pairwise_singleton _ _, fun x hx y hy => ?_⟩
      rw [List.mem_singleton.1 hy]
      exact ((shareTo_mem p a b n x).1 hx).1.2
    · exact ih
theorem shareTo_len (p : PV) (a b : Int) : ∀ n : Nat, (shareTo p a b n).length ≤ n := by
  intro n
  induction n with
  | zero => exact Nat.le_refl _
  | succ n ih =>
    unfold shareTo
    split
    · rw [List.length_append]
      simp
      omega
    · omega
theorem rise_unique : ∀ (l m : List Int), l.Pairwise (· < ·) → m.Pairwise (· < ·) → (∀ x, x ∈ l ↔ x ∈ m) → l = m
  | [], [], _, _, _ => rfl
  | [], y :: m, _, _, h => by have := (h y).2 List.mem_cons_self; cases this
  | x :: l, [], _, _, h => by have := (h x).1 List.mem_cons_self; cases this
  | x :: l, y :: m, hl, hm, h => by
    rw [List.pairwise_cons] at hl hm
    have e : x = y := by
      rcases List.mem_cons.1 ((h x).1 List.mem_cons_self) with e | e
      · exact e
      · rcases List.mem_cons.1 ((h y).2 List.mem_cons_self) with e2 | e2
        · exact e2.symm
        · have h1 := hm.1 x e
          have h2 := hl.1 y e2
          omega
    subst e
    rw [rise_unique l m hl.2 hm.2 (fun z => ?_)]
    constructor
    · intro hz
      rcases List.mem_cons.1 ((h z).1 (List.mem_cons_of_mem _ hz)) with e | e
      · have := hl.1 z hz
        omega
      · exact e
    · intro hz
      rcases List.mem_cons.1 ((h z).2 (List.mem_cons_of_mem _ hz)) with e | e
      · have := hm.1 z hz
        omega
      · exact e
/-- A rising row of numbers from 0 below n. -/
structure Ris (l : List Int) (n : Int) : Prop where
  inn : ∀ x, x ∈ l → 0 ≤ x ∧ x < n
  rise : l.Pairwise (· < ·)
theorem ris_of {l : List Int} {n : Int} (h : ∀ j, j < l.length → (0 ≤ l.getD j 0 ∧ l.getD j 0 < n) ∧ (0 < j → l.getD (j - 1) 0 < l.getD j 0)) : Ris l n := by
  refine ⟨fun x hx => ?_, ?_⟩
  · obtain ⟨j, hj, rfl⟩ := List.getElem_of_mem hx
    have := (h j hj).1
    rw [List.getD_eq_getElem?_getD, List.getElem?_eq_getElem hj] at this
    exact this
  · rw [List.pairwise_iff_getElem]
    have key : ∀ d i : Nat, (h2 : i + d + 1 < l.length) → l[i] < l[i + d + 1] := by
      intro d
      induction d with
      | zero =>
        intro i h2
        have := (h (i + 1) (by omega)).2 (by omega)
        rw [List.getD_eq_getElem?_getD, List.getElem?_eq_getElem (show i + 1 - 1 < l.length by omega), List.getD_eq_getElem?_getD, List.getElem?_eq_getElem (show i + 1 < l.length by omega)] at this
        exact this
      | succ d ih =>
        intro i h2
        have h3 := ih i (by omega)
        have := (h (i + (d + 1) + 1) (by omega)).2 (by omega)
        rw [List.getD_eq_getElem?_getD, List.getElem?_eq_getElem (show i + (d + 1) + 1 - 1 < l.length by omega), List.getD_eq_getElem?_getD, List.getElem?_eq_getElem (show i + (d + 1) + 1 < l.length by omega)] at this
        exact Int.lt_trans h3 this
    intro i j hi hj hij
    obtain ⟨d, rfl⟩ : ∃ d, j = i + d + 1 := ⟨j - i - 1, by omega⟩
    exact key d i hj
theorem ris_ev (l : List Int) (n : Int) (hl : l.length ≤ 9223372036854775807) : ∀ d i : Nat, d + i = l.length → (∀ j, j < i → (0 ≤ l.getD j 0 ∧ l.getD j 0 < n) ∧ (0 < j → l.getD (j - 1) 0 < l.getD j 0)) → ∃ b, Ev (fun k => horariumref13_Rising.l0 k l n (i : Int)) b ∧ (b = true → Ris l n) := by
  intro d
  induction d with
  | zero =>
    intro i hi h
    refine ⟨true, Ev.step (f := fun _ => some true) (fun k => ?_) (Ev.now _), fun _ => ris_of (fun j hj => h j (by omega))⟩
    simp only [horariumref13_Rising.l0]
    rw [if_neg (by omega)]
  | succ d ih =>
    intro i hi h
    by_cases h0 : l.getD i 0 < 0
    · refine ⟨false, Ev.step (f := fun _ => some false) (fun k => ?_) (Ev.now _), fun hf => by cases hf⟩
      simp only [horariumref13_Rising.l0]
      rw [if_pos (by omega), if_pos (by omega), rd_nat, if_pos h0]
    · by_cases h1 : n ≤ l.getD i 0
      · refine ⟨false, Ev.step (f := fun _ => some false) (fun k => ?_) (Ev.now _), fun hf => by cases hf⟩
        simp only [horariumref13_Rising.l0]
        rw [if_pos (by omega), if_pos (by omega), rd_nat, if_neg h0, if_pos h1]
      · by_cases hp : 0 < i
        · have hw : wrap64 ((i : Int) - 1) = ((i - 1 : Nat) : Int) := by unfold wrap64; omega
          by_cases h2 : l.getD i 0 ≤ l.getD (i - 1) 0
          · refine ⟨false, Ev.step (f := fun _ => some false) (fun k => ?_) (Ev.now _), fun hf => by cases hf⟩
            simp only [horariumref13_Rising.l0]
            rw [if_pos (by omega), if_pos (by omega), rd_nat, if_neg h0, if_neg h1, if_pos (by omega), hw, if_pos (by omega), if_pos (by omega), rd_nat, if_pos h2]
          · obtain ⟨b, hb, hr⟩ := ih (i + 1) (by omega) (fun j hj => by
              by_cases e : j = i
              · subst e; exact ⟨⟨by omega, by omega⟩, fun _ => by omega⟩
              · exact h j (by omega))
            refine ⟨b, Ev.step (fun k => ?_) hb, hr⟩
            simp only [horariumref13_Rising.l0]
            rw [if_pos (by omega), if_pos (by omega), rd_nat, if_neg h0, if_neg h1, if_pos (by omega), hw, if_pos (by omega), if_pos (by omega), rd_nat, if_neg h2, wr1 (by omega)]
        · obtain ⟨b, hb, hr⟩ := ih (i + 1) (by omega) (fun j hj => by
            by_cases e : j = i
            · subst e; exact ⟨⟨by omega, by omega⟩, fun h5 => absurd h5 hp⟩
            · exact h j (by omega))
          refine ⟨b, Ev.step (fun k => ?_) hb, hr⟩
          simp only [horariumref13_Rising.l0]
          rw [if_pos (by omega), if_pos (by omega), rd_nat, if_neg h0, if_neg h1, if_neg (by omega), wr1 (by omega)]
def RisRet (l : List Int) (n : Int) (e : Ending) : Prop := ∃ b, e = .returned (.bool b) ∧ (b = true → Ris l n)
theorem Rising_is (w : World) (A : Option Addr) (c : Nat) (l : List Int) (n : Int) (hC : (Kd.int .i64).C w A l.length l) (hc : l.length ≤ c) :
    Calls Tryz.prog 29 #[.slice A l.length c, .int .i64 n] w fun e w' => RisRet l n e ∧ Below w.heap.size w w' := by
  obtain ⟨b, hb, hr⟩ := ris_ev l n (Kd.C_max hC) l.length 0 rfl (fun j hj => by omega)
  obtain ⟨k, hk⟩ := hb.rounds
  refine (horariumref13_Rising.calls k A c l n b w hC hc hk).mono ?_
  rintro e w' ⟨he, hD⟩
  exact ⟨⟨b, he, hr⟩, hD.below⟩
/-! ### Contains -/
theorem index_ev (l : List Int) (x : Int) (hl : l.length ≤ 9223372036854775807) : ∀ d i : Nat, d + i = l.length → (∀ j, j < i → l.getD j 0 ≠ x) → ∃ r, Ev (fun k => slices_Index_int_int.l0 k l x (l.length : Int) (i : Int)) r ∧ decide (r ≥ 0) = l.contains x := by
  intro d
  induction d with
  | zero =>
    intro i hi hj
    refine ⟨-1, Ev.step (f := fun _ => some (-1)) (fun k => ?_) (Ev.now _), ?_⟩
    · simp only [slices_Index_int_int.l0]
      rw [if_neg (by omega)]
    · have : l.contains x = false := by
        rw [List.contains_eq_mem]
        refine decide_eq_false (fun hm => ?_)
        obtain ⟨j, h1, h2⟩ := List.getElem_of_mem hm
        refine hj j (by omega) ?_
        rw [List.getD_eq_getElem?_getD, List.getElem?_eq_getElem h1]
        exact h2
      rw [this]
      rfl
  | succ d ih =>
    intro i hi hj
    by_cases he : x = l.getD i 0
    · refine ⟨(i : Int), Ev.step (f := fun _ => some (i : Int)) (fun k => ?_) (Ev.now _), ?_⟩
      · simp only [slices_Index_int_int.l0]
        rw [if_pos (by omega), if_pos (by omega), if_pos (by omega), rd_nat, if_pos he]
      · have : l.contains x = true := by
          rw [List.contains_eq_mem]
          refine decide_eq_true ?_
          rw [he]
          exact memD l i (by omega)
        rw [this]
        exact decide_eq_true (by omega)
    · obtain ⟨r, hr, hc⟩ := ih (i + 1) (by omega) (fun j h => by
        by_cases e : j = i
        · subst e; exact fun e2 => he e2.symm
        · exact hj j (by omega))
      refine ⟨r, Ev.step (fun k => ?_) hr, hc⟩
      simp only [slices_Index_int_int.l0]
      rw [if_pos (by omega), if_pos (by omega), if_pos (by omega), rd_nat, if_neg he, wr1 (by omega)]
theorem Cont_is (w : World) (A : Option Addr) (c : Nat) (l : List Int) (x : Int) (hC : (Kd.int .i64).C w A l.length l) (hc : l.length ≤ c) :
    Calls Tryz.prog 113 #[.slice A l.length c, .int .i64 x] w fun e w' => e = .returned (.bool (l.contains x)) ∧ Below w.heap.size w w' := by
  obtain ⟨r, hr, he⟩ := index_ev l x (Kd.C_max hC) l.length 0 rfl (fun j hj => by omega)
  have h2 : Ev (fun k => slices_Contains_int_int.f k l x) (l.contains x) := by
    unfold slices_Contains_int_int.f
    refine Ev.bind (a := r) hr ?_
    rw [he]
    exact Ev.now _
  obtain ⟨k, hk⟩ := h2.rounds
  refine (slices_Contains_int_int.calls k A c l x _ w hC hc hk).mono ?_
  rintro e w' ⟨he, hD⟩
  exact ⟨he, hD.below⟩
/-! ### the document's Share -/
theorem teaches_ev (p : PV) (i c : Int) (hmx : ∀ x, x ∈ p.classes → x.f3.length ≤ 9223372036854775807) : Ev (fun k => horariumref17_Teaches.f k p.nm p.g0 p.g1 p.g2 p.rooms p.walk p.persons p.classes p.courses p.students p.rules p.w0 p.w1 p.w2 p.w3 i c) ((folkL p c).contains i) := by
  unfold folkL
  by_cases h0 : 0 ≤ c
  · rw [if_pos h0]
    by_cases h1 : c < (p.classes.length : Int)
    · obtain ⟨x, hx⟩ : ∃ x, p.classes[c.toNat]? = some x := ⟨_, List.getElem?_eq_getElem (by omega)⟩
      have hr : rd_T58 p.classes c = x := by
        unfold rd_T58
        rw [List.getD_eq_getElem?_getD, hx]
        rfl
      rw [hx]
      refine Ev.congr (f := fun k => (horariumref14_Has.f k x.f3 i).bind fun t => some t) (fun k => ?_) ?_
      · unfold horariumref17_Teaches.f
        rw [if_pos h0, if_pos h1, if_pos h0, hr]
      · exact Ev.bind (among_f x.f3 i (hmx x (List.mem_of_getElem? hx))) (Ev.now _)
    · rw [List.getElem?_eq_none (by omega)]
      refine Ev.congr (f := fun _ => some false) (fun k => ?_) (Ev.now _)
      unfold horariumref17_Teaches.f
      rw [if_pos h0, if_neg h1]
  · rw [if_neg h0]
    refine Ev.congr (f := fun _ => some false) (fun k => ?_) (Ev.now _)
    unfold horariumref17_Teaches.f
    rw [if_neg (by omega)]
theorem share_ev (p : PV) (a b : Int) (hmx : ∀ x, x ∈ p.classes → x.f3.length ≤ 9223372036854775807) : ∀ d i : Nat, d + i = 64 → Ev (fun k => horariumref17_Share.l0 k a b (shareTo p a b i) (i : Int) p.nm p.g0 p.g1 p.g2 p.rooms p.walk p.persons p.classes p.courses p.students p.rules p.w0 p.w1 p.w2 p.w3) (shareTo p a b 64) := by
  intro d
  induction d with
  | zero =>
    intro i hi
    obtain rfl : i = 64 := by omega
    refine Ev.step (f := fun _ => some (shareTo p a b 64)) (fun k => ?_) (Ev.now _)
    simp only [horariumref17_Share.l0]
    rw [if_neg (by omega)]
  | succ d ih =>
    intro i hi
    have h1 := ih (i + 1) (by omega)
    have ha := teaches_ev p (i : Int) a hmx
    have hb := teaches_ev p (i : Int) b hmx
    have hlen := shareTo_len p a b i
    have hw : wrap64 ((i : Int) + 1) = ((i + 1 : Nat) : Int) := wr1 (by omega)
    have hlt : (i : Int) < 64 := by omega
    unfold shareTo both at h1
    cases hta : (folkL p a).contains (i : Int) with
    | false =>
      rw [hta, Bool.false_and, if_neg (by decide)] at h1
      rw [hta] at ha
      refine Ev.step (fun k => ?_) (Ev.bind ha (f := fun k t => if t = true then ((horariumref17_Teaches.f k p.nm p.g0 p.g1 p.g2 p.rooms p.walk p.persons p.classes p.courses p.students p.rules p.w0 p.w1 p.w2 p.w3 (i : Int) b).bind fun t2 => if t2 = true then (if (shareTo p a b i).length < 17592186044416 then horariumref17_Share.l0 k a b (shareTo p a b i ++ [(i : Int)]) ((i + 1 : Nat) : Int) p.nm p.g0 p.g1 p.g2 p.rooms p.walk p.persons p.classes p.courses p.students p.rules p.w0 p.w1 p.w2 p.w3 else none) else horariumref17_Share.l0 k a b (shareTo p a b i) ((i + 1 : Nat) : Int) p.nm p.g0 p.g1 p.g2 p.rooms p.walk p.persons p.classes p.courses p.students p.rules p.w0 p.w1 p.w2 p.w3) else horariumref17_Share.l0 k a b (shareTo p a b i) ((i + 1 : Nat) : Int) p.nm p.g0 p.g1 p.g2 p.rooms p.walk p.persons p.classes p.courses p.students p.rules p.w0 p.w1 p.w2 p.w3) h1)
      simp only [horariumref17_Share.l0, hw]
      rw [if_pos hlt]
    | true =>
      rw [hta, Bool.true_and] at h1
      rw [hta] at ha
      cases htb : (folkL p b).contains (i : Int) with
      | false =>
        rw [htb, if_neg (by decide)] at h1
        rw [htb] at hb
        refine Ev.step (fun k => ?_) (Ev.bind ha (f := fun k t => if t = true then ((horariumref17_Teaches.f k p.nm p.g0 p.g1 p.g2 p.rooms p.walk p.persons p.classes p.courses p.students p.rules p.w0 p.w1 p.w2 p.w3 (i : Int) b).bind fun t2 => if t2 = true then (if (shareTo p a b i).length < 17592186044416 then horariumref17_Share.l0 k a b (shareTo p a b i ++ [(i : Int)]) ((i + 1 : Nat) : Int) p.nm p.g0 p.g1 p.g2 p.rooms p.walk p.persons p.classes p.courses p.students p.rules p.w0 p.w1 p.w2 p.w3 else none) else horariumref17_Share.l0 k a b (shareTo p a b i) ((i + 1 : Nat) : Int) p.nm p.g0 p.g1 p.g2 p.rooms p.walk p.persons p.classes p.courses p.students p.rules p.w0 p.w1 p.w2 p.w3) else horariumref17_Share.l0 k a b (shareTo p a b i) ((i + 1 : Nat) : Int) p.nm p.g0 p.g1 p.g2 p.rooms p.walk p.persons p.classes p.courses p.students p.rules p.w0 p.w1 p.w2 p.w3) (Ev.bind hb h1))
        simp only [horariumref17_Share.l0, hw]
        rw [if_pos hlt]
      | true =>
        rw [htb, if_pos rfl] at h1
        rw [htb] at hb
        have h1' : Ev (fun k => if (shareTo p a b i).length < 17592186044416 then horariumref17_Share.l0 k a b (shareTo p a b i ++ [(i : Int)]) ((i + 1 : Nat) : Int) p.nm p.g0 p.g1 p.g2 p.rooms p.walk p.persons p.classes p.courses p.students p.rules p.w0 p.w1 p.w2 p.w3 else none) (shareTo p a b 64) := by
          refine Ev.congr (fun k => ?_) h1
          rw [if_pos (by omega)]
        refine Ev.step (fun k => ?_) (Ev.bind ha (f := fun k t => if t = true then ((horariumref17_Teaches.f k p.nm p.g0 p.g1 p.g2 p.rooms p.walk p.persons p.classes p.courses p.students p.rules p.w0 p.w1 p.w2 p.w3 (i : Int) b).bind fun t2 => if t2 = true then (if (shareTo p a b i).length < 17592186044416 then horariumref17_Share.l0 k a b (shareTo p a b i ++ [(i : Int)]) ((i + 1 : Nat) : Int) p.nm p.g0 p.g1 p.g2 p.rooms p.walk p.persons p.classes p.courses p.students p.rules p.w0 p.w1 p.w2 p.w3 else none) else horariumref17_Share.l0 k a b (shareTo p a b i) ((i + 1 : Nat) : Int) p.nm p.g0 p.g1 p.g2 p.rooms p.walk p.persons p.classes p.courses p.students p.rules p.w0 p.w1 p.w2 p.w3) else horariumref17_Share.l0 k a b (shareTo p a b i) ((i + 1 : Nat) : Int) p.nm p.g0 p.g1 p.g2 p.rooms p.walk p.persons p.classes p.courses p.students p.rules p.w0 p.w1 p.w2 p.w3) (Ev.bind hb h1'))
        simp only [horariumref17_Share.l0, hw]
        rw [if_pos hlt]
theorem cls_max {w : World} {p : PV} {a : PA} (h : PRd w p a) : ∀ x, x ∈ p.classes → x.f3.length ≤ 9223372036854775807 := by
  intro x hx
  obtain ⟨i, hi, rfl⟩ := List.getElem_of_mem hx
  obtain ⟨ad, B3, d3, B4, d4, B5, d5, _, _, _, _, _, _, _, _, h3, _⟩ := elClass h.r7 (List.getElem?_eq_getElem hi)
  exact Kd.C_max h3.1
theorem RShare_is (w : World) (p : PV) (a : PA) (x y : Int) (h : PRd w p a) :
    Calls Tryz.prog 32 #[.agg (pcs p a), .int .i64 x, .int .i64 y] w fun e w' => ∃ v, e = .returned v ∧ (Kd.int .i64).R 3 w' w.heap.size (fun _ => True) v (shareTo p x y 64) ∧ Below w.heap.size w w' := by
  obtain ⟨k, hk⟩ := (share_ev p x y (cls_max h) 64 0 rfl).rounds
  exact horariumref17_Share.calls k p.nm p.g0 p.g1 p.g2 a.A4 a.c4 p.rooms a.A5 a.c5 p.walk a.A6 a.c6 p.persons a.A7 a.c7 p.classes a.A8 a.c8 p.courses a.A9 a.c9 p.students a.A10 a.c10 p.rules p.w0 p.w1 p.w2 p.w3 x y _ w h.r4 h.l4 h.r5 h.l5 h.r6 h.l6 h.r7 h.l7 h.r8 h.l8 h.r9 h.l9 h.r10 h.l10 hk
/-! ### Sort and Compact of a rising row of the call's own -/
theorem sort_rise (w : World) (base g n c : Nat) (l : List Int) (hR : (Kd.int .i64).R 3 w base (fun _ => True) (.slice (some ⟨g, 0, none⟩) n c) l) (hn : n < 4611686018427387904) (hl : l.Pairwise (· < ·)) :
    Calls Tryz.prog 114 #[.slice (some ⟨g, 0, none⟩) n c] w fun e w' => e = .returned (.tuple #[]) ∧ Below w.heap.size w w' := by
  obtain ⟨rfl, _⟩ := Kd.R_reads' hR
  have hH : Sort.Holds (Value.int .i64) w g 0 l.toArray := by
    intro j hj
    have hj2 : j < l.length := by simpa using hj
    have hc := Kd.R_cell (0 : Int) hR (j : Int) (by omega) (by omega)
    rw [Int.toNat_natCast] at hc
    rw [Nat.zero_add]
    refine ⟨hc.1.trans ?_, hc.2⟩
    congr 2
    unfold rdOf
    rw [Int.toNat_natCast, List.getD_eq_getElem?_getD, List.getElem?_eq_getElem hj2]
    simp [hj2]
  have hb : g < w.heap.size := by
    obtain ⟨inner, ho⟩ := Kd.R_own hR
    exact own_lt ho g (by simp [Value.ownBlock])
  refine (Tryz.slices_Sort_int g 0 c l w hH hb hn).mono ?_
  rintro e w' ⟨he, q, os, rfl⟩
  have hs : (l.mergeSort fun x y => decide (x ≤ y)) = l := List.mergeSort_of_pairwise (hl.imp (fun h => decide_eq_true (Int.le_of_lt h)))
  rw [hs]
  have hH2 : Sort.Holds (Value.int .i64) (Sort.ahead w q) g 0 l.toArray := hH
  rw [Sort.putRow_self _ _ _ _ _ hH2]
  refine ⟨he, ⟨rfl, rfl, rfl, ?_, fun k hk => Sort.heap_grow_old (Sort.ahead w q) os hk⟩⟩
  show w.heap.size ≤ (w.heap ++ os).size
  rw [Array.size_append]
  omega
theorem compact_rise {l : List Int} (hl : l.Pairwise (· < ·)) : Lib.compact l = l := by
  unfold Lib.compact
  rw [Lib.compactUpTo_all]
  · have := Lib.range_map_get l.toArray
    simpa using this
  · intro j hj
    unfold Lib.keeps
    by_cases h0 : j = 0
    · simp [h0]
    · have h1 := (List.pairwise_iff_getElem.1 hl) (j - 1) j (by omega) hj (by omega)
      have h2 : l.toArray[j - 1]! = l[j - 1] := by simp [show j - 1 < l.length by omega]
      have h3 : l.toArray[j]! = l[j] := by simp [hj]
      simp [h0, h2, h3]
      omega
theorem compact_is (w : World) (base g n c : Nat) (l : List Int) (hR : (Kd.int .i64).R 3 w base (fun _ => True) (.slice (some ⟨g, 0, none⟩) n c) l) (hl : l.Pairwise (· < ·)) :
    Calls Tryz.prog 115 #[.slice (some ⟨g, 0, none⟩) n c] w fun e w' => e = .returned (.slice (some ⟨g, 0, none⟩) n c) ∧ Below w.heap.size w w' := by
  obtain ⟨rfl, hcap, hC⟩ := Kd.R_reads' hR
  have hH : Sort.Holds (Value.int .i64) w g 0 l.toArray := by
    intro j hj
    have hj2 : j < l.length := by simpa using hj
    have hc := Kd.R_cell (0 : Int) hR (j : Int) (by omega) (by omega)
    rw [Int.toNat_natCast] at hc
    rw [Nat.zero_add]
    refine ⟨hc.1.trans ?_, hc.2⟩
    congr 2
    unfold rdOf
    rw [Int.toNat_natCast, List.getD_eq_getElem?_getD, List.getElem?_eq_getElem hj2]
    simp [hj2]
  refine (Tryz.slices_Compact_int g 0 c l w hH (Kd.C_max hC) hcap).mono ?_
  rw [compact_rise hl]
  rintro e w' ⟨he, q, rfl⟩
  rw [Nat.sub_self, List.replicate_zero, List.append_nil]
  have hH2 : Sort.Holds (Value.int .i64) (Sort.ahead w q) g 0 l.toArray := hH
  rw [Sort.putRow_self _ _ _ _ _ hH2]
  exact ⟨he, rfl, rfl, rfl, Nat.le_refl _, fun k hk => rfl⟩
end Go.Proofs.YtineikfhfmiidaaGreat.Pm
