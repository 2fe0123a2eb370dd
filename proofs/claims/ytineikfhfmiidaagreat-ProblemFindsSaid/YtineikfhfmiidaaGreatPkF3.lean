import Derived.Laws.Strings
import Derived.Test.YtineikfhfmiidaaGreatPkF2
/- The document's Few: it ends, and says that no row is too long. -/
namespace Go.Proofs.YtineikfhfmiidaaGreat.Pm
open Go Go.RowKit Go.Proofs.YtineikfhfmiidaaGreat.Gp Go.Proofs.YtineikfhfmiidaaGreatW.PrintWords Go.Proofs.YtineikfhfmiidaaGreatW.PrintLast Go.Proofs.YtineikfhfmiidaaGreatW.PrintMore
set_option linter.unusedVariables false
set_option linter.unusedSimpArgs false
/-- No row is too long. -/
def Short (p : PV) : Prop := p.rooms.length ≤ 30 ∧ p.walk.length ≤ 40 ∧ p.persons.length ≤ 30 ∧ p.classes.length ≤ 50 ∧ p.courses.length ≤ 20 ∧ p.students.length ≤ 210 ∧ p.rules.length ≤ 70
def FewPost (p : PV) (e : Ending) : Prop := ∃ b, e = .returned (.bool b) ∧ (b = true → Short p)
theorem few_mk {p : PV} {b : Bool} {e : Ending} (he : e = .returned (.bool b)) (h : b = true → Short p) : FewPost p e := ⟨b, he, h⟩
theorem row_at {α : Type} {d : Kd α} {q : Nat} {w : World} {A : Option Addr} {n : Nat} {xs : List (List α)} (h : Kd.C (Kd.slice q d) w A n xs) {i : Nat} (hi : i < xs.length) :
    ∃ ad B c, A = some ad ∧ w.cell? (ad.add i) = some (.slice B (xs.getD i []).length c) ∧ (xs.getD i []).length ≤ c ∧ d.C w B (xs.getD i []).length (xs.getD i []) := by
  obtain ⟨ad, cs, e, _, hK, hc0⟩ := Kd.C_get h ([] : List α) (i : Int) (by omega) (by have := h.1; omega)
  obtain ⟨B, cB, rfl, l0, g0⟩ := hK
  rw [Int.toNat_natCast] at l0 g0 hc0
  have hc : w.cell? (ad.add (i * 1 + 0)) = _ := hc0 0 _ rfl
  rw [Nat.mul_one, Nat.add_zero] at hc
  exact ⟨ad, B, cB, e, hc, l0, g0⟩
theorem prow {w wr : World} {g : Nat} {t : TypeId} {p : PV} {a : PA} (h : PBox w wr g t (pcs p a)) : wr.cell? ⟨g, 4, none⟩ = some (.slice a.A4 p.rooms.length a.c4) ∧ wr.cell? ⟨g, 5, none⟩ = some (.slice a.A5 p.walk.length a.c5) ∧ wr.cell? ⟨g, 6, none⟩ = some (.slice a.A6 p.persons.length a.c6) ∧ wr.cell? ⟨g, 7, none⟩ = some (.slice a.A7 p.classes.length a.c7) ∧ wr.cell? ⟨g, 8, none⟩ = some (.slice a.A8 p.courses.length a.c8) ∧ wr.cell? ⟨g, 9, none⟩ = some (.slice a.A9 p.students.length a.c9) ∧ wr.cell? ⟨g, 10, none⟩ = some (.slice a.A10 p.rules.length a.c10) :=
  ⟨h.cell 4 rfl, h.cell 5 rfl, h.cell 6 rfl, h.cell 7 rfl, h.cell 8 rfl, h.cell 9 rfl, h.cell 10 rfl⟩
set_option maxRecDepth 100000 in
set_option maxHeartbeats 4000000 in
theorem Few_is (w : World) (p : PV) (a : PA) (h : PRd w p a) :
    Calls Tryz.prog 8 #[.agg (pcs p a)] w fun e w' => FewPost p e ∧ Below w.heap.size w w' := by
  have H := Aside0.mk h
  clear h
  have hu := Tryz.underlying34
  by_cases h4 : 30 < p.rooms.length
  · have j4 : (30 : Int) < (p.rooms.length : Int) := by omega
    go_enter Tryz.func8, Tryz.ntmps8
    go_wp2_with (first
      | ((with_reducible refine gate_dst (N := 1) rfl ?_); refine box_event ?hg (N := 1) ?hd (cs := pcs p a) (t := 34) ?hr ?_; (case hd => rfl); (case hg => rfl); (case hr => first | (go_simp; done) | (go_simp; rfl)); intro g hg w2 hbox hB; have HP := Aside0.mk (PBox.mk hbox hB (show w.heap.size ≤ g by rw [hg]; exact Nat.le_refl _)); clear hbox hB hg; obtain ⟨hc4, hc5, hc6, hc7, hc8, hc9, hc10⟩ := prow HP.out))
    go_ret
    exact ⟨few_mk rfl (fun hf => by cases hf), HP.out.bel⟩
  have j4 : ¬ (30 : Int) < (p.rooms.length : Int) := by omega
  by_cases h5 : 40 < p.walk.length
  · have j5 : (40 : Int) < (p.walk.length : Int) := by omega
    go_enter Tryz.func8, Tryz.ntmps8
    go_wp2_with (first
      | ((with_reducible refine gate_dst (N := 1) rfl ?_); refine box_event ?hg (N := 1) ?hd (cs := pcs p a) (t := 34) ?hr ?_; (case hd => rfl); (case hg => rfl); (case hr => first | (go_simp; done) | (go_simp; rfl)); intro g hg w2 hbox hB; have HP := Aside0.mk (PBox.mk hbox hB (show w.heap.size ≤ g by rw [hg]; exact Nat.le_refl _)); clear hbox hB hg; obtain ⟨hc4, hc5, hc6, hc7, hc8, hc9, hc10⟩ := prow HP.out))
    go_ret
    exact ⟨few_mk rfl (fun hf => by cases hf), HP.out.bel⟩
  have j5 : ¬ (40 : Int) < (p.walk.length : Int) := by omega
  by_cases h6 : 30 < p.persons.length
  · have j6 : (30 : Int) < (p.persons.length : Int) := by omega
    go_enter Tryz.func8, Tryz.ntmps8
    go_wp2_with (first
      | ((with_reducible refine gate_dst (N := 1) rfl ?_); refine box_event ?hg (N := 1) ?hd (cs := pcs p a) (t := 34) ?hr ?_; (case hd => rfl); (case hg => rfl); (case hr => first | (go_simp; done) | (go_simp; rfl)); intro g hg w2 hbox hB; have HP := Aside0.mk (PBox.mk hbox hB (show w.heap.size ≤ g by rw [hg]; exact Nat.le_refl _)); clear hbox hB hg; obtain ⟨hc4, hc5, hc6, hc7, hc8, hc9, hc10⟩ := prow HP.out))
    go_ret
    exact ⟨few_mk rfl (fun hf => by cases hf), HP.out.bel⟩
  have j6 : ¬ (30 : Int) < (p.persons.length : Int) := by omega
  by_cases h7 : 50 < p.classes.length
  · have j7 : (50 : Int) < (p.classes.length : Int) := by omega
    go_enter Tryz.func8, Tryz.ntmps8
    go_wp2_with (first
      | ((with_reducible refine gate_dst (N := 1) rfl ?_); refine box_event ?hg (N := 1) ?hd (cs := pcs p a) (t := 34) ?hr ?_; (case hd => rfl); (case hg => rfl); (case hr => first | (go_simp; done) | (go_simp; rfl)); intro g hg w2 hbox hB; have HP := Aside0.mk (PBox.mk hbox hB (show w.heap.size ≤ g by rw [hg]; exact Nat.le_refl _)); clear hbox hB hg; obtain ⟨hc4, hc5, hc6, hc7, hc8, hc9, hc10⟩ := prow HP.out))
    go_ret
    exact ⟨few_mk rfl (fun hf => by cases hf), HP.out.bel⟩
  have j7 : ¬ (50 : Int) < (p.classes.length : Int) := by omega
  by_cases h8 : 20 < p.courses.length
  · have j8 : (20 : Int) < (p.courses.length : Int) := by omega
    go_enter Tryz.func8, Tryz.ntmps8
    go_wp2_with (first
      | ((with_reducible refine gate_dst (N := 1) rfl ?_); refine box_event ?hg (N := 1) ?hd (cs := pcs p a) (t := 34) ?hr ?_; (case hd => rfl); (case hg => rfl); (case hr => first | (go_simp; done) | (go_simp; rfl)); intro g hg w2 hbox hB; have HP := Aside0.mk (PBox.mk hbox hB (show w.heap.size ≤ g by rw [hg]; exact Nat.le_refl _)); clear hbox hB hg; obtain ⟨hc4, hc5, hc6, hc7, hc8, hc9, hc10⟩ := prow HP.out))
    go_ret
    exact ⟨few_mk rfl (fun hf => by cases hf), HP.out.bel⟩
  have j8 : ¬ (20 : Int) < (p.courses.length : Int) := by omega
  by_cases h9 : 210 < p.students.length
  · have j9 : (210 : Int) < (p.students.length : Int) := by omega
    go_enter Tryz.func8, Tryz.ntmps8
    go_wp2_with (first
      | ((with_reducible refine gate_dst (N := 1) rfl ?_); refine box_event ?hg (N := 1) ?hd (cs := pcs p a) (t := 34) ?hr ?_; (case hd => rfl); (case hg => rfl); (case hr => first | (go_simp; done) | (go_simp; rfl)); intro g hg w2 hbox hB; have HP := Aside0.mk (PBox.mk hbox hB (show w.heap.size ≤ g by rw [hg]; exact Nat.le_refl _)); clear hbox hB hg; obtain ⟨hc4, hc5, hc6, hc7, hc8, hc9, hc10⟩ := prow HP.out))
    go_ret
    exact ⟨few_mk rfl (fun hf => by cases hf), HP.out.bel⟩
  have j9 : ¬ (210 : Int) < (p.students.length : Int) := by omega
  by_cases h10 : 70 < p.rules.length
  · have j10 : (70 : Int) < (p.rules.length : Int) := by omega
    go_enter Tryz.func8, Tryz.ntmps8
    go_wp2_with (first
      | ((with_reducible refine gate_dst (N := 1) rfl ?_); refine box_event ?hg (N := 1) ?hd (cs := pcs p a) (t := 34) ?hr ?_; (case hd => rfl); (case hg => rfl); (case hr => first | (go_simp; done) | (go_simp; rfl)); intro g hg w2 hbox hB; have HP := Aside0.mk (PBox.mk hbox hB (show w.heap.size ≤ g by rw [hg]; exact Nat.le_refl _)); clear hbox hB hg; obtain ⟨hc4, hc5, hc6, hc7, hc8, hc9, hc10⟩ := prow HP.out))
    go_ret
    exact ⟨few_mk rfl (fun hf => by cases hf), HP.out.bel⟩
  have j10 : ¬ (70 : Int) < (p.rules.length : Int) := by omega
  have HSh := Aside0.mk (show Short p from ⟨by omega, by omega, by omega, by omega, by omega, by omega, by omega⟩)
  go_enter Tryz.func8, Tryz.ntmps8
  go_wp2_with (first
    | ((with_reducible refine gate_dst (N := 1) rfl ?_); refine box_event ?hg (N := 1) ?hd (cs := pcs p a) (t := 34) ?hr ?_; (case hd => rfl); (case hg => rfl); (case hr => first | (go_simp; done) | (go_simp; rfl)); intro g hg w2 hbox hB; have HP := Aside0.mk (PBox.mk hbox hB (show w.heap.size ≤ g by rw [hg]; exact Nat.le_refl _)); clear hbox hB hg; obtain ⟨hc4, hc5, hc6, hc7, hc8, hc9, hc10⟩ := prow HP.out))
  go_loopw [3, 4] (fun v3 v4 wr => ∃ (x : Int) (i : Nat), i ≤ p.rooms.length ∧ v3 = .int .i64 x ∧ v4 = .int .i64 i ∧ Aside0 (PBox w wr g 34 (pcs p a))) (fun _ v4 _ => p.rooms.length - (intOf v4).toNat)
  case atStart => exact ⟨_, 0, Nat.zero_le _, rfl, rfl, HP⟩
  case round =>
    clear HP hc4 hc5 hc6 hc7 hc8 hc9 hc10
    obtain ⟨x, i, hi, rfl, rfl, HP⟩ := hrel
    obtain ⟨hc4, hc5, hc6, hc7, hc8, hc9, hc10⟩ := prow HP.out
    by_cases hin : i < p.rooms.length
    · have hi2 : (i : Int) < (p.rooms.length : Int) := by omega
      obtain ⟨ad, B3, c3, hA, e0, e1, e2, e3, l3, g3⟩ := at_T47 (Kd.C_below H.out.r4 HP.out.bel) (i : Int) (by omega) (by omega)
      rw [Int.toNat_natCast] at e0 e1 e2 e3
      rw [hA] at hc4
      clear l3 g3
      go_wp2
      exact ⟨⟨_, i + 1, by omega, rfl, by go_num, HP⟩, by simp [intOf]; omega⟩
    · obtain rfl : i = p.rooms.length := by omega
      go_wp2
      go_loopw [3, 5] (fun v3 v5 wr => ∃ (x : Int) (i : Nat), i ≤ p.walk.length ∧ v3 = .int .i64 x ∧ v5 = .int .i64 i ∧ Aside0 (PBox w wr g 34 (pcs p a))) (fun _ v5 _ => p.walk.length - (intOf v5).toNat)
      case atStart => exact ⟨_, 0, Nat.zero_le _, rfl, rfl, HP⟩
      case round =>
        clear HP hc4 hc5 hc6 hc7 hc8 hc9 hc10
        obtain ⟨x, i, hi, rfl, rfl, HP⟩ := hrel
        obtain ⟨hc4, hc5, hc6, hc7, hc8, hc9, hc10⟩ := prow HP.out
        by_cases hin : i < p.walk.length
        · have hi2 : (i : Int) < (p.walk.length : Int) := by omega
          obtain ⟨ad, B, c, hA, e0, l0, g0⟩ := row_at (Kd.C_below H.out.r5 HP.out.bel) hin
          rw [hA] at hc5
          clear l0 g0
          go_wp2
          exact ⟨⟨_, i + 1, by omega, rfl, by go_num, HP⟩, by simp [intOf]; omega⟩
        · obtain rfl : i = p.walk.length := by omega
          go_wp2
          go_loopw [3, 6] (fun v3 v6 wr => ∃ (x : Int) (i : Nat), i ≤ p.persons.length ∧ v3 = .int .i64 x ∧ v6 = .int .i64 i ∧ Aside0 (PBox w wr g 34 (pcs p a))) (fun _ v6 _ => p.persons.length - (intOf v6).toNat)
          case atStart => exact ⟨_, 0, Nat.zero_le _, rfl, rfl, HP⟩
          case round =>
            clear HP hc4 hc5 hc6 hc7 hc8 hc9 hc10
            obtain ⟨x, i, hi, rfl, rfl, HP⟩ := hrel
            obtain ⟨hc4, hc5, hc6, hc7, hc8, hc9, hc10⟩ := prow HP.out
            by_cases hin : i < p.persons.length
            · have hi2 : (i : Int) < (p.persons.length : Int) := by omega
              obtain ⟨ad, B1, c1, hA, e0, e1, l1, g1⟩ := at_T53 (Kd.C_below H.out.r6 HP.out.bel) (i : Int) (by omega) (by omega)
              rw [Int.toNat_natCast] at e0 e1
              rw [hA] at hc6
              clear l1 g1
              go_wp2
              exact ⟨⟨_, i + 1, by omega, rfl, by go_num, HP⟩, by simp [intOf]; omega⟩
            · obtain rfl : i = p.persons.length := by omega
              go_wp2
              go_loopw [3, 7] (fun v3 v7 wr => ∃ (x : Int) (i : Nat), i ≤ p.classes.length ∧ v3 = .int .i64 x ∧ v7 = .int .i64 i ∧ Aside0 (PBox w wr g 34 (pcs p a))) (fun _ v7 _ => p.classes.length - (intOf v7).toNat)
              case atStart => exact ⟨_, 0, Nat.zero_le _, rfl, rfl, HP⟩
              case round =>
                clear HP hc4 hc5 hc6 hc7 hc8 hc9 hc10
                obtain ⟨x, i, hi, rfl, rfl, HP⟩ := hrel
                obtain ⟨hc4, hc5, hc6, hc7, hc8, hc9, hc10⟩ := prow HP.out
                by_cases hin : i < p.classes.length
                · have hi2 : (i : Int) < (p.classes.length : Int) := by omega
                  obtain ⟨ad, B3, c3, B4, c4, B5, c5, hA, e0, e1, e2, e3, e4, e5, e6, l3, g3, l4, g4, l5, g5⟩ := at_T58 (Kd.C_below H.out.r7 HP.out.bel) (i : Int) (by omega) (by omega)
                  rw [Int.toNat_natCast] at e0 e1 e2 e3 e4 e5 e6
                  rw [hA] at hc7
                  clear l3 g3 l4 g4 l5 g5
                  go_wp2
                  go_quiet (fail)
                  go_wp2
                  exact ⟨⟨_, i + 1, by omega, rfl, by go_num, ⟨HP.out.below (pw_below_drewN (Below.refl _ _) nq)⟩⟩, by simp [intOf]; omega⟩
                · obtain rfl : i = p.classes.length := by omega
                  go_wp2
                  go_loopw [3, 8] (fun v3 v8 wr => ∃ (x : Int) (i : Nat), i ≤ p.students.length ∧ v3 = .int .i64 x ∧ v8 = .int .i64 i ∧ Aside0 (PBox w wr g 34 (pcs p a))) (fun _ v8 _ => p.students.length - (intOf v8).toNat)
                  case atStart => exact ⟨_, 0, Nat.zero_le _, rfl, rfl, HP⟩
                  case round =>
                    clear HP hc4 hc5 hc6 hc7 hc8 hc9 hc10
                    obtain ⟨x, i, hi, rfl, rfl, HP⟩ := hrel
                    obtain ⟨hc4, hc5, hc6, hc7, hc8, hc9, hc10⟩ := prow HP.out
                    by_cases hin : i < p.students.length
                    · have hi2 : (i : Int) < (p.students.length : Int) := by omega
                      obtain ⟨ad, B1, c1, hA, e0, e1, l1, g1⟩ := at_T66 (Kd.C_below H.out.r9 HP.out.bel) (i : Int) (by omega) (by omega)
                      rw [Int.toNat_natCast] at e0 e1
                      rw [hA] at hc9
                      clear l1 g1
                      go_wp2
                      exact ⟨⟨_, i + 1, by omega, rfl, by go_num, HP⟩, by simp [intOf]; omega⟩
                    · obtain rfl : i = p.students.length := by omega
                      go_wp2
                      go_loopw [3, 9] (fun v3 v9 wr => ∃ (x : Int) (i : Nat), i ≤ p.rules.length ∧ v3 = .int .i64 x ∧ v9 = .int .i64 i ∧ Aside0 (PBox w wr g 34 (pcs p a))) (fun _ v9 _ => p.rules.length - (intOf v9).toNat)
                      case atStart => exact ⟨_, 0, Nat.zero_le _, rfl, rfl, HP⟩
                      case round =>
                        clear HP hc4 hc5 hc6 hc7 hc8 hc9 hc10
                        obtain ⟨x, i, hi, rfl, rfl, HP⟩ := hrel
                        obtain ⟨hc4, hc5, hc6, hc7, hc8, hc9, hc10⟩ := prow HP.out
                        by_cases hin : i < p.rules.length
                        · have hi2 : (i : Int) < (p.rules.length : Int) := by omega
                          obtain ⟨ad, B1, c1, hA, e0, e1, e2, e3, e4, e5, l1, g1⟩ := at_T69 (Kd.C_below H.out.r10 HP.out.bel) (i : Int) (by omega) (by omega)
                          rw [Int.toNat_natCast] at e0 e1 e2 e3 e4 e5
                          rw [hA] at hc10
                          clear l1 g1
                          go_wp2
                          exact ⟨⟨_, i + 1, by omega, rfl, by go_num, HP⟩, by simp [intOf]; omega⟩
                        · obtain rfl : i = p.rules.length := by omega
                          go_wp2
                          go_loopw [3, 10] (fun v3 v10 wr => ∃ (x : Int) (i : Nat), i ≤ p.courses.length ∧ v3 = .int .i64 x ∧ v10 = .int .i64 i ∧ Aside0 (PBox w wr g 34 (pcs p a))) (fun _ v10 _ => p.courses.length - (intOf v10).toNat)
                          case atStart => exact ⟨_, 0, Nat.zero_le _, rfl, rfl, HP⟩
                          case round =>
                            clear HP hc4 hc5 hc6 hc7 hc8 hc9 hc10
                            obtain ⟨x, i, hi, rfl, rfl, HP⟩ := hrel
                            obtain ⟨hc4, hc5, hc6, hc7, hc8, hc9, hc10⟩ := prow HP.out
                            by_cases hin : i < p.courses.length
                            · have hi2 : (i : Int) < (p.courses.length : Int) := by omega
                              obtain ⟨x3, hx3⟩ : ∃ y, y = p.courses.getD i z61 := ⟨_, rfl⟩
                              obtain ⟨ad, B1, c1, hA, e0, e1, l1, g1⟩ := at_T61 (Kd.C_below H.out.r8 HP.out.bel) (i : Int) (by omega) (by omega)
                              rw [Int.toNat_natCast] at e0 e1
                              unfold rd_T61 at e0 e1 l1 g1
                              rw [Int.toNat_natCast, ← hx3] at e0 e1 l1 g1
                              rw [hA] at hc8
                              have HE := Aside0.mk e1
                              have HG := Aside0.mk g1
                              have hmx := Kd.C_max g1
                              clear hx3 g1 l1 e0
                              generalize x3.f1 = ws at HE HG hmx e1
                              go_wp2
                              go_loopw [3, 11] (fun v3 v11 wr => ∃ (x : Int) (k : Nat), k ≤ ws.length ∧ v3 = .int .i64 x ∧ v11 = .int .i64 k ∧ Aside0 (PBox w wr g 34 (pcs p a)) ∧ Aside0 (wr.cell? ⟨(ad.add (i * 2)).block, (ad.add (i * 2)).off + 1, none⟩ = some (.slice B1 ws.length c1)) ∧ Aside0 (Kd.C k63 wr B1 ws.length ws)) (fun _ v11 _ => ws.length - (intOf v11).toNat)
                              case atStart => exact ⟨_, 0, Nat.zero_le _, rfl, rfl, HP, HE, HG⟩
                              case round =>
                                clear HP HE HG e1 hc4 hc5 hc6 hc7 hc8 hc9 hc10
                                obtain ⟨x, k, hk, rfl, rfl, HP, HE, HG⟩ := hrel
                                obtain ⟨hc4, hc5, hc6, hc7, hc8, hc9, hc10⟩ := prow HP.out
                                have e1 := HE.out
                                rw [hA] at hc8
                                by_cases hkn : k < ws.length
                                · have hk2 : (k : Int) < (ws.length : Int) := by omega
                                  obtain ⟨ad2, B2, c2, hA2, f0, l2, g2⟩ := at_T63 HG.out (k : Int) (by omega) (by omega)
                                  rw [Int.toNat_natCast] at f0
                                  unfold rd_T63 at f0 l2 g2
                                  rw [Int.toNat_natCast] at f0 l2 g2
                                  (try rw [Nat.mul_one] at f0)
                                  rw [hA2] at e1
                                  have HF := Aside0.mk f0
                                  have HG2 := Aside0.mk g2
                                  have hmx2 := Kd.C_max g2
                                  clear l2 g2
                                  generalize (ws.getD k z63).f0 = ps at HF HG2 hmx2 f0
                                  go_wp2
                                  go_loopw [3, 12] (fun v3 v12 wr => ∃ (x : Int) (q : Nat), q ≤ ps.length ∧ v3 = .int .i64 x ∧ v12 = .int .i64 q ∧ Aside0 (PBox w wr g 34 (pcs p a)) ∧ Aside0 (wr.cell? ⟨(ad.add (i * 2)).block, (ad.add (i * 2)).off + 1, none⟩ = some (.slice (some ad2) ws.length c1)) ∧ Aside0 (Kd.C k63 wr (some ad2) ws.length ws) ∧ Aside0 (wr.cell? (ad2.add k) = some (.slice B2 ps.length c2)) ∧ Aside0 (Kd.C (Kd.slice 3 (Kd.int .i64)) wr B2 ps.length ps)) (fun _ v12 _ => ps.length - (intOf v12).toNat)
                                  case atStart => exact ⟨_, 0, Nat.zero_le _, rfl, rfl, HP, ⟨e1⟩, ⟨by rw [← hA2]; exact HG.out⟩, HF, HG2⟩
                                  case round =>
                                    clear HP HE HG HF HG2 e1 f0 hc4 hc5 hc6 hc7 hc8 hc9 hc10
                                    obtain ⟨x, q, hq, rfl, rfl, HP, HE, HG, HF, HG2⟩ := hrel
                                    obtain ⟨hc4, hc5, hc6, hc7, hc8, hc9, hc10⟩ := prow HP.out
                                    have e1 := HE.out
                                    have f0 := HF.out
                                    rw [hA] at hc8
                                    by_cases hqn : q < ps.length
                                    · have hq2 : (q : Int) < (ps.length : Int) := by omega
                                      obtain ⟨ad3, B3, c3, hA3, t0, l3, g3⟩ := row_at HG2.out hqn
                                      rw [hA3] at f0
                                      clear l3 g3
                                      go_wp2
                                      exact ⟨⟨_, q + 1, by omega, rfl, by go_num, HP, HE, HG, HF, HG2⟩, by simp [intOf]; omega⟩
                                    · obtain rfl : q = ps.length := by omega
                                      go_wp2
                                      exact ⟨⟨_, k + 1, by omega, rfl, by go_num, HP, ⟨by rw [hA2]; exact HE.out⟩, ⟨by rw [hA2]; exact HG.out⟩⟩, by simp [intOf]; omega⟩
                                · obtain rfl : k = ws.length := by omega
                                  go_wp2
                                  exact ⟨⟨_, i + 1, by omega, rfl, by go_num, HP⟩, by simp [intOf]; omega⟩
                            · obtain rfl : i = p.courses.length := by omega
                              go_wp2
                              go_ret
                              exact ⟨few_mk rfl (fun _ => HSh.out), HP.out.bel⟩
end Go.Proofs.YtineikfhfmiidaaGreat.Pm

/- Check, Right, Plans, FindClass, Same and Copy at the problems of law 17's example: all rows are empty. -/
namespace Go.Proofs.YtineikfhfmiidaaGreat.Pm
open Go Go.RowKit Go.Proofs.YtineikfhfmiidaaGreat.Gp Go.Proofs.YtineikfhfmiidaaGreatW.PrintWords Go.Proofs.YtineikfhfmiidaaGreatW.PrintLast Go.Proofs.YtineikfhfmiidaaGreatW.PrintMore
set_option linter.unusedVariables false
set_option linter.unusedSimpArgs false
theorem name_none : room_Name.f { data := #[] } = some false := by
  unfold room_Name.f
  rw [ByteArray.toList_eq]
  rfl
theorem name_p : room_Name.f { data := #[112] } = some true := by
  unfold room_Name.f
  rw [ByteArray.toList_eq]
  rfl
theorem nilC {α : Type} (d : Kd α) (w : World) : d.C w none 0 [] := ⟨rfl, by omega, fun h => absurd h (Nat.lt_irrefl 0)⟩
set_option maxRecDepth 100000 in
set_option maxHeartbeats 1000000 in
theorem Check_none (w : World) :
    Calls Tryz.prog 10 #[.agg #[.string { data := #[] }, .int .i64 0, .int .i64 0, .int .i64 0, .slice none 0 0, .slice none 0 0, .slice none 0 0, .slice none 0 0, .slice none 0 0, .slice none 0 0, .slice none 0 0, .int .i64 0, .int .i64 0, .int .i64 0, .int .i64 0]] w fun e w' => e = .returned (.tuple #[.int .i64 18, .int .i64 0]) ∧ Below w.heap.size w w' := by
  have hu40 := Tryz.underlying34
  have hu29 := Tryz.underlying23
  have hu38 := Tryz.underlying32
  go_enter Tryz.func10, Tryz.ntmps10
  go_wp2_with (first
    | ((with_reducible refine gate_dst (N := 1) rfl ?_); refine box_event ?hg (N := 1) ?hd (cs := #[.string { data := #[] }, .int .i64 0, .int .i64 0, .int .i64 0, .slice none 0 0, .slice none 0 0, .slice none 0 0, .slice none 0 0, .slice none 0 0, .slice none 0 0, .slice none 0 0, .int .i64 0, .int .i64 0, .int .i64 0, .int .i64 0]) (t := 34) ?hr ?_; (case hd => rfl); (case hg => rfl); (case hr => first | (go_simp; done) | (go_simp; rfl)); intro g hg w2 hbox hB; have HP := Aside0.mk (PBox.mk hbox hB (show w.heap.size ≤ g by rw [hg]; exact Nat.le_refl _)); clear hbox hB hg; have hc0 := HP.out.cell 0 rfl; have hc1 := HP.out.cell 1 rfl; have hc2 := HP.out.cell 2 rfl; have hc3 := HP.out.cell 3 rfl; have hc4 := HP.out.cell 4 rfl; have hc5 := HP.out.cell 5 rfl; have hc6 := HP.out.cell 6 rfl; have hc7 := HP.out.cell 7 rfl; have hc8 := HP.out.cell 8 rfl; have hc9 := HP.out.cell 9 rfl; have hc10 := HP.out.cell 10 rfl; have hc11 := HP.out.cell 11 rfl; have hc12 := HP.out.cell 12 rfl; have hc13 := HP.out.cell 13 rfl; have hc14 := HP.out.cell 14 rfl)
    | (go_at_call 34; refine (room_Name.calls _ _ _ name_none).mono ?_; rintro e w3 ⟨rfl, hD⟩; have hB := hD.below; clear hD; have HQ := Aside0.mk (HP.out.below hB); clear HP hB hc0 hc1 hc2 hc3 hc4 hc5 hc6 hc7 hc8 hc9 hc10 hc11 hc12 hc13 hc14; have HP := HQ; clear HQ; have hc0 := HP.out.cell 0 rfl; have hc1 := HP.out.cell 1 rfl; have hc2 := HP.out.cell 2 rfl; have hc3 := HP.out.cell 3 rfl; have hc4 := HP.out.cell 4 rfl; have hc5 := HP.out.cell 5 rfl; have hc6 := HP.out.cell 6 rfl; have hc7 := HP.out.cell 7 rfl; have hc8 := HP.out.cell 8 rfl; have hc9 := HP.out.cell 9 rfl; have hc10 := HP.out.cell 10 rfl; have hc11 := HP.out.cell 11 rfl; have hc12 := HP.out.cell 12 rfl; have hc13 := HP.out.cell 13 rfl; have hc14 := HP.out.cell 14 rfl))
  refine bodyPost_ret (results_tmp2 rfl _ _ _) rfl ?_
  exact ⟨rfl, by repeat (first | exact HP.out.bel | apply pw_below_drewN | apply below_alloc)⟩
set_option maxRecDepth 100000 in
set_option maxHeartbeats 1000000 in
theorem Check_p (w : World) :
    Calls Tryz.prog 10 #[.agg #[.string { data := #[112] }, .int .i64 1, .int .i64 5, .int .i64 10, .slice none 0 0, .slice none 0 0, .slice none 0 0, .slice none 0 0, .slice none 0 0, .slice none 0 0, .slice none 0 0, .int .i64 0, .int .i64 0, .int .i64 0, .int .i64 0]] w fun e w' => e = .returned (.tuple #[.int .i64 0, .int .i64 0]) ∧ Below w.heap.size w w' := by
  have hu40 := Tryz.underlying34
  have hu29 := Tryz.underlying23
  have hu38 := Tryz.underlying32
  go_enter Tryz.func10, Tryz.ntmps10
  go_wp2_with (first
    | ((with_reducible refine gate_dst (N := 1) rfl ?_); refine box_event ?hg (N := 1) ?hd (cs := #[.string { data := #[112] }, .int .i64 1, .int .i64 5, .int .i64 10, .slice none 0 0, .slice none 0 0, .slice none 0 0, .slice none 0 0, .slice none 0 0, .slice none 0 0, .slice none 0 0, .int .i64 0, .int .i64 0, .int .i64 0, .int .i64 0]) (t := 34) ?hr ?_; (case hd => rfl); (case hg => rfl); (case hr => first | (go_simp; done) | (go_simp; rfl)); intro g hg w2 hbox hB; have HP := Aside0.mk (PBox.mk hbox hB (show w.heap.size ≤ g by rw [hg]; exact Nat.le_refl _)); clear hbox hB hg; have hc0 := HP.out.cell 0 rfl; have hc1 := HP.out.cell 1 rfl; have hc2 := HP.out.cell 2 rfl; have hc3 := HP.out.cell 3 rfl; have hc4 := HP.out.cell 4 rfl; have hc5 := HP.out.cell 5 rfl; have hc6 := HP.out.cell 6 rfl; have hc7 := HP.out.cell 7 rfl; have hc8 := HP.out.cell 8 rfl; have hc9 := HP.out.cell 9 rfl; have hc10 := HP.out.cell 10 rfl; have hc11 := HP.out.cell 11 rfl; have hc12 := HP.out.cell 12 rfl; have hc13 := HP.out.cell 13 rfl; have hc14 := HP.out.cell 14 rfl)
    | (go_at_call 34; refine (room_Name.calls _ _ _ name_p).mono ?_; rintro e w3 ⟨rfl, hD⟩; have hB := hD.below; clear hD; have HQ := Aside0.mk (HP.out.below hB); clear HP hB hc0 hc1 hc2 hc3 hc4 hc5 hc6 hc7 hc8 hc9 hc10 hc11 hc12 hc13 hc14; have HP := HQ; clear HQ; have hc0 := HP.out.cell 0 rfl; have hc1 := HP.out.cell 1 rfl; have hc2 := HP.out.cell 2 rfl; have hc3 := HP.out.cell 3 rfl; have hc4 := HP.out.cell 4 rfl; have hc5 := HP.out.cell 5 rfl; have hc6 := HP.out.cell 6 rfl; have hc7 := HP.out.cell 7 rfl; have hc8 := HP.out.cell 8 rfl; have hc9 := HP.out.cell 9 rfl; have hc10 := HP.out.cell 10 rfl; have hc11 := HP.out.cell 11 rfl; have hc12 := HP.out.cell 12 rfl; have hc13 := HP.out.cell 13 rfl; have hc14 := HP.out.cell 14 rfl)
    | (go_at_call 35; refine (when_RightGrid.calls _ _ _ true _ (by rfl)).mono ?_; rintro e w3 ⟨rfl, hB⟩; have HQ := Aside0.mk (HP.out.below hB); clear HP hB hc0 hc1 hc2 hc3 hc4 hc5 hc6 hc7 hc8 hc9 hc10 hc11 hc12 hc13 hc14; have HP := HQ; clear HQ; have hc0 := HP.out.cell 0 rfl; have hc1 := HP.out.cell 1 rfl; have hc2 := HP.out.cell 2 rfl; have hc3 := HP.out.cell 3 rfl; have hc4 := HP.out.cell 4 rfl; have hc5 := HP.out.cell 5 rfl; have hc6 := HP.out.cell 6 rfl; have hc7 := HP.out.cell 7 rfl; have hc8 := HP.out.cell 8 rfl; have hc9 := HP.out.cell 9 rfl; have hc10 := HP.out.cell 10 rfl; have hc11 := HP.out.cell 11 rfl; have hc12 := HP.out.cell 12 rfl; have hc13 := HP.out.cell 13 rfl; have hc14 := HP.out.cell 14 rfl)
    | (go_at_call 36; refine (badRoom_nil _ _ _ _).mono ?_; rintro e w3 ⟨rfl, hB⟩; have HQ := Aside0.mk (HP.out.below hB); clear HP hB hc0 hc1 hc2 hc3 hc4 hc5 hc6 hc7 hc8 hc9 hc10 hc11 hc12 hc13 hc14; have HP := HQ; clear HQ; have hc0 := HP.out.cell 0 rfl; have hc1 := HP.out.cell 1 rfl; have hc2 := HP.out.cell 2 rfl; have hc3 := HP.out.cell 3 rfl; have hc4 := HP.out.cell 4 rfl; have hc5 := HP.out.cell 5 rfl; have hc6 := HP.out.cell 6 rfl; have hc7 := HP.out.cell 7 rfl; have hc8 := HP.out.cell 8 rfl; have hc9 := HP.out.cell 9 rfl; have hc10 := HP.out.cell 10 rfl; have hc11 := HP.out.cell 11 rfl; have hc12 := HP.out.cell 12 rfl; have hc13 := HP.out.cell 13 rfl; have hc14 := HP.out.cell 14 rfl)
    | (go_at_call 41; refine (badPerson_nil _ _ _ _).mono ?_; rintro e w3 ⟨rfl, hB⟩; have HQ := Aside0.mk (HP.out.below hB); clear HP hB hc0 hc1 hc2 hc3 hc4 hc5 hc6 hc7 hc8 hc9 hc10 hc11 hc12 hc13 hc14; have HP := HQ; clear HQ; have hc0 := HP.out.cell 0 rfl; have hc1 := HP.out.cell 1 rfl; have hc2 := HP.out.cell 2 rfl; have hc3 := HP.out.cell 3 rfl; have hc4 := HP.out.cell 4 rfl; have hc5 := HP.out.cell 5 rfl; have hc6 := HP.out.cell 6 rfl; have hc7 := HP.out.cell 7 rfl; have hc8 := HP.out.cell 8 rfl; have hc9 := HP.out.cell 9 rfl; have hc10 := HP.out.cell 10 rfl; have hc11 := HP.out.cell 11 rfl; have hc12 := HP.out.cell 12 rfl; have hc13 := HP.out.cell 13 rfl; have hc14 := HP.out.cell 14 rfl)
    | (go_at_call 45; refine (badClass_nil _ _ _ _).mono ?_; rintro e w3 ⟨rfl, hB⟩; have HQ := Aside0.mk (HP.out.below hB); clear HP hB hc0 hc1 hc2 hc3 hc4 hc5 hc6 hc7 hc8 hc9 hc10 hc11 hc12 hc13 hc14; have HP := HQ; clear HQ; have hc0 := HP.out.cell 0 rfl; have hc1 := HP.out.cell 1 rfl; have hc2 := HP.out.cell 2 rfl; have hc3 := HP.out.cell 3 rfl; have hc4 := HP.out.cell 4 rfl; have hc5 := HP.out.cell 5 rfl; have hc6 := HP.out.cell 6 rfl; have hc7 := HP.out.cell 7 rfl; have hc8 := HP.out.cell 8 rfl; have hc9 := HP.out.cell 9 rfl; have hc10 := HP.out.cell 10 rfl; have hc11 := HP.out.cell 11 rfl; have hc12 := HP.out.cell 12 rfl; have hc13 := HP.out.cell 13 rfl; have hc14 := HP.out.cell 14 rfl)
    | (go_at_call 49; refine (badCourse_nil _ _ _ _).mono ?_; rintro e w3 ⟨rfl, hB⟩; have HQ := Aside0.mk (HP.out.below hB); clear HP hB hc0 hc1 hc2 hc3 hc4 hc5 hc6 hc7 hc8 hc9 hc10 hc11 hc12 hc13 hc14; have HP := HQ; clear HQ; have hc0 := HP.out.cell 0 rfl; have hc1 := HP.out.cell 1 rfl; have hc2 := HP.out.cell 2 rfl; have hc3 := HP.out.cell 3 rfl; have hc4 := HP.out.cell 4 rfl; have hc5 := HP.out.cell 5 rfl; have hc6 := HP.out.cell 6 rfl; have hc7 := HP.out.cell 7 rfl; have hc8 := HP.out.cell 8 rfl; have hc9 := HP.out.cell 9 rfl; have hc10 := HP.out.cell 10 rfl; have hc11 := HP.out.cell 11 rfl; have hc12 := HP.out.cell 12 rfl; have hc13 := HP.out.cell 13 rfl; have hc14 := HP.out.cell 14 rfl)
    | (go_at_call 53; refine (badStudent_nil _ _ _ _).mono ?_; rintro e w3 ⟨rfl, hB⟩; have HQ := Aside0.mk (HP.out.below hB); clear HP hB hc0 hc1 hc2 hc3 hc4 hc5 hc6 hc7 hc8 hc9 hc10 hc11 hc12 hc13 hc14; have HP := HQ; clear HQ; have hc0 := HP.out.cell 0 rfl; have hc1 := HP.out.cell 1 rfl; have hc2 := HP.out.cell 2 rfl; have hc3 := HP.out.cell 3 rfl; have hc4 := HP.out.cell 4 rfl; have hc5 := HP.out.cell 5 rfl; have hc6 := HP.out.cell 6 rfl; have hc7 := HP.out.cell 7 rfl; have hc8 := HP.out.cell 8 rfl; have hc9 := HP.out.cell 9 rfl; have hc10 := HP.out.cell 10 rfl; have hc11 := HP.out.cell 11 rfl; have hc12 := HP.out.cell 12 rfl; have hc13 := HP.out.cell 13 rfl; have hc14 := HP.out.cell 14 rfl)
    | (go_at_call 57; refine (badRule_nil _ _ _ _).mono ?_; rintro e w3 ⟨rfl, hB⟩; have HQ := Aside0.mk (HP.out.below hB); clear HP hB hc0 hc1 hc2 hc3 hc4 hc5 hc6 hc7 hc8 hc9 hc10 hc11 hc12 hc13 hc14; have HP := HQ; clear HQ; have hc0 := HP.out.cell 0 rfl; have hc1 := HP.out.cell 1 rfl; have hc2 := HP.out.cell 2 rfl; have hc3 := HP.out.cell 3 rfl; have hc4 := HP.out.cell 4 rfl; have hc5 := HP.out.cell 5 rfl; have hc6 := HP.out.cell 6 rfl; have hc7 := HP.out.cell 7 rfl; have hc8 := HP.out.cell 8 rfl; have hc9 := HP.out.cell 9 rfl; have hc10 := HP.out.cell 10 rfl; have hc11 := HP.out.cell 11 rfl; have hc12 := HP.out.cell 12 rfl; have hc13 := HP.out.cell 13 rfl; have hc14 := HP.out.cell 14 rfl)
    | (go_at_call 40; refine (room_RightWalk.calls 5 0 none 0 [] true _ (nilC _ _) (Nat.le_refl _) (by rfl)).mono ?_; rintro e w3 ⟨rfl, hD⟩; have hB := hD.below; clear hD; have HQ := Aside0.mk (HP.out.below hB); clear HP hB hc0 hc1 hc2 hc3 hc4 hc5 hc6 hc7 hc8 hc9 hc10 hc11 hc12 hc13 hc14; have HP := HQ; clear HQ; have hc0 := HP.out.cell 0 rfl; have hc1 := HP.out.cell 1 rfl; have hc2 := HP.out.cell 2 rfl; have hc3 := HP.out.cell 3 rfl; have hc4 := HP.out.cell 4 rfl; have hc5 := HP.out.cell 5 rfl; have hc6 := HP.out.cell 6 rfl; have hc7 := HP.out.cell 7 rfl; have hc8 := HP.out.cell 8 rfl; have hc9 := HP.out.cell 9 rfl; have hc10 := HP.out.cell 10 rfl; have hc11 := HP.out.cell 11 rfl; have hc12 := HP.out.cell 12 rfl; have hc13 := HP.out.cell 13 rfl; have hc14 := HP.out.cell 14 rfl)
    | (go_at_call 59; refine (problem_cost.calls 0 true _ (by rfl)).mono ?_; rintro e w3 ⟨rfl, hD⟩; obtain ⟨m, rfl⟩ := hD.out; clear hD))
  refine bodyPost_ret (results_tmp2 rfl _ _ _) rfl ?_
  exact ⟨rfl, by repeat (first | exact HP.out.bel | apply pw_below_drewN | apply below_alloc)⟩
end Go.Proofs.YtineikfhfmiidaaGreat.Pm
