import Derived.Test.YtineikfhfmiidaaWMore
import Derived.Deep.Slices
import Derived.ChangeSame
import Derived.OpenShut
import Derived.Test.YtineikfhfmiidaaProg
import Derived.Test.YtineikfhfmiidaaPkR1
/- Copy of the problem of law 17's example. -/
namespace Go.Proofs.Ytineikfhfmiidaa.Pm
open Go Go.RowKit Go.Proofs.Ytineikfhfmiidaa.Gp Go.Proofs.YtineikfhfmiidaaW.PrintWords Go.Proofs.YtineikfhfmiidaaW.PrintLast Go.Proofs.YtineikfhfmiidaaW.PrintMore
set_option linter.unusedVariables false
set_option linter.unusedSimpArgs false
theorem PBox.fro {w wr : World} {g : Nat} {t : TypeId} {cs : Array Value} (h : PBox w wr g t cs) (i : Nat) : wr.frozen? ⟨g, i, none⟩ = false := blk_frozen h.blk i
theorem PBox.put {w wr : World} {g : Nat} {t : TypeId} {cs cs' : Array Value} (h : PBox w wr g t cs) (i : Nat) (u : Value) (e : cs.setIfInBounds i u = cs') : PBox w (wr.setCell ⟨g, i, none⟩ u) g t cs' :=
  ⟨blk_put h.blk i u e, h.bel.setCell (p := ⟨g, i, none⟩) h.ge _, h.ge⟩
theorem PBox.far {w wr : World} {g g2 : Nat} {t : TypeId} {cs : Array Value} (h : PBox w wr g t cs) (hne : g ≠ g2) (h2 : w.heap.size ≤ g2) (i : Nat) (u : Value) : PBox w (wr.setCell ⟨g2, i, none⟩ u) g t cs :=
  ⟨blk_far h.blk (p := ⟨g2, i, none⟩) hne u, h.bel.setCell (p := ⟨g2, i, none⟩) h2 _, h.ge⟩
theorem PBox.lt {w wr : World} {g : Nat} {t : TypeId} {cs : Array Value} (h : PBox w wr g t cs) : g < wr.heap.size := (Array.getElem?_eq_some_iff.1 h.blk).1
/-- The argument's block and the result's. -/
structure CB (w wr : World) (g g2 : Nat) : Prop where
  p : PBox w wr g 40 #[.string { data := #[112] }, .int .i64 1, .int .i64 5, .int .i64 10, .slice none 0 0, .slice none 0 0, .slice none 0 0, .slice none 0 0, .slice none 0 0, .slice none 0 0, .slice none 0 0, .int .i64 0, .int .i64 0, .int .i64 0, .int .i64 0]
  z : PBox w wr g2 40 #[.string ByteArray.empty, .int .i64 0, .int .i64 0, .int .i64 0, .slice none 0 0, .slice none 0 0, .slice none 0 0, .slice none 0 0, .slice none 0 0, .slice none 0 0, .slice none 0 0, .int .i64 0, .int .i64 0, .int .i64 0, .int .i64 0]
  ne : g2 ≠ g
theorem CB.below {w wr w1 : World} {g g2 : Nat} (h : CB w wr g g2) (hB : Below wr.heap.size wr w1) : CB w w1 g g2 := ⟨h.p.below hB, h.z.below hB, h.ne⟩
theorem CB.put {w wr : World} {g g2 : Nat} (h : CB w wr g g2) (i : Nat) (e : (#[.string { data := #[112] }, .int .i64 1, .int .i64 5, .int .i64 10, .slice none 0 0, .slice none 0 0, .slice none 0 0, .slice none 0 0, .slice none 0 0, .slice none 0 0, .slice none 0 0, .int .i64 0, .int .i64 0, .int .i64 0, .int .i64 0] : Array Value).setIfInBounds i (.slice none 0 0) = #[.string { data := #[112] }, .int .i64 1, .int .i64 5, .int .i64 10, .slice none 0 0, .slice none 0 0, .slice none 0 0, .slice none 0 0, .slice none 0 0, .slice none 0 0, .slice none 0 0, .int .i64 0, .int .i64 0, .int .i64 0, .int .i64 0]) : CB w (wr.setCell ⟨g, i, none⟩ (.slice none 0 0)) g g2 :=
  ⟨h.p.put i _ e, h.z.far h.ne h.p.ge i _, h.ne⟩
set_option maxRecDepth 100000 in
set_option maxHeartbeats 2000000 in
theorem Copy_p (w : World) :
    Calls Try.prog 14 #[.agg #[.string { data := #[112] }, .int .i64 1, .int .i64 5, .int .i64 10, .slice none 0 0, .slice none 0 0, .slice none 0 0, .slice none 0 0, .slice none 0 0, .slice none 0 0, .slice none 0 0, .int .i64 0, .int .i64 0, .int .i64 0, .int .i64 0]] w fun e w' => e = .returned (.agg #[.string { data := #[112] }, .int .i64 1, .int .i64 5, .int .i64 10, .slice none 0 0, .slice none 0 0, .slice none 0 0, .slice none 0 0, .slice none 0 0, .slice none 0 0, .slice none 0 0, .int .i64 0, .int .i64 0, .int .i64 0, .int .i64 0]) ∧ Below w.heap.size w w' := by
  have hu40 := Try.underlying40
  go_enter Try.func14, Try.ntmps14
  go_wp2_with (first
    | ((with_reducible refine gate_dst (N := 1) rfl ?_); refine box_event ?hg (N := 1) ?hd (cs := #[.string { data := #[112] }, .int .i64 1, .int .i64 5, .int .i64 10, .slice none 0 0, .slice none 0 0, .slice none 0 0, .slice none 0 0, .slice none 0 0, .slice none 0 0, .slice none 0 0, .int .i64 0, .int .i64 0, .int .i64 0, .int .i64 0]) (t := 40) ?hr ?_; (case hd => rfl); (case hg => rfl); (case hr => first | (go_simp; done) | (go_simp; rfl)); intro g hg w2 hbox hB; have HP := Aside0.mk (PBox.mk hbox hB (show w.heap.size ≤ g by rw [hg]; exact Nat.le_refl _)); clear hbox hB hg)
    | ((with_reducible refine gate_dst (N := 2) rfl ?_); refine box_event ?hg (N := 2) ?hd (cs := #[.string ByteArray.empty, .int .i64 0, .int .i64 0, .int .i64 0, .slice none 0 0, .slice none 0 0, .slice none 0 0, .slice none 0 0, .slice none 0 0, .slice none 0 0, .slice none 0 0, .int .i64 0, .int .i64 0, .int .i64 0, .int .i64 0]) (t := 40) ?hr ?_; (case hd => rfl); (case hg => rfl); (case hr => first | (go_simp; done) | (go_simp; rfl)); intro g2 hg w3 hbox hB; have CP := Aside0.mk (CB.mk (HP.out.below hB) (PBox.mk hbox (below_then HP.out.bel HP.out.bel.size hB) (show w.heap.size ≤ g2 by rw [hg]; exact HP.out.bel.size)) (show g2 ≠ g by have := HP.out.lt; omega)); clear hbox hB hg HP; have hc0 := CP.out.p.cell 0 rfl; have hc1 := CP.out.p.cell 1 rfl; have hc2 := CP.out.p.cell 2 rfl; have hc3 := CP.out.p.cell 3 rfl; have hc4 := CP.out.p.cell 4 rfl; have hc5 := CP.out.p.cell 5 rfl; have hc6 := CP.out.p.cell 6 rfl; have hc7 := CP.out.p.cell 7 rfl; have hc8 := CP.out.p.cell 8 rfl; have hc9 := CP.out.p.cell 9 rfl; have hc10 := CP.out.p.cell 10 rfl; have hc11 := CP.out.p.cell 11 rfl; have hc12 := CP.out.p.cell 12 rfl; have hc13 := CP.out.p.cell 13 rfl; have hc14 := CP.out.p.cell 14 rfl; have hf4 := CP.out.p.fro 4; have hf5 := CP.out.p.fro 5; have hf6 := CP.out.p.fro 6; have hf7 := CP.out.p.fro 7; have hf8 := CP.out.p.fro 8; have hf9 := CP.out.p.fro 9; have hf10 := CP.out.p.fro 10)
    | (go_at_call 66; refine (cloneRoom_nil _).mono ?_; rintro e w3 ⟨rfl, hB⟩; have CQ := Aside0.mk (CB.below (CP.out) hB); clear CP hB hc0 hc1 hc2 hc3 hc4 hc5 hc6 hc7 hc8 hc9 hc10 hc11 hc12 hc13 hc14 hf4 hf5 hf6 hf7 hf8 hf9 hf10; have CP := CQ; clear CQ; have hc0 := CP.out.p.cell 0 rfl; have hc1 := CP.out.p.cell 1 rfl; have hc2 := CP.out.p.cell 2 rfl; have hc3 := CP.out.p.cell 3 rfl; have hc4 := CP.out.p.cell 4 rfl; have hc5 := CP.out.p.cell 5 rfl; have hc6 := CP.out.p.cell 6 rfl; have hc7 := CP.out.p.cell 7 rfl; have hc8 := CP.out.p.cell 8 rfl; have hc9 := CP.out.p.cell 9 rfl; have hc10 := CP.out.p.cell 10 rfl; have hc11 := CP.out.p.cell 11 rfl; have hc12 := CP.out.p.cell 12 rfl; have hc13 := CP.out.p.cell 13 rfl; have hc14 := CP.out.p.cell 14 rfl; have hf4 := CP.out.p.fro 4; have hf5 := CP.out.p.fro 5; have hf6 := CP.out.p.fro 6; have hf7 := CP.out.p.fro 7; have hf8 := CP.out.p.fro 8; have hf9 := CP.out.p.fro 9; have hf10 := CP.out.p.fro 10))
  go_loopw [19] (fun v wr => v = .int .i64 0 ∧ Aside0 (CB w wr g g2)) (fun _ _ => 0)
  case atStart => exact ⟨rfl, ⟨CP.out.put 4 rfl⟩⟩
  case round =>
    clear CP hc0 hc1 hc2 hc3 hc4 hc5 hc6 hc7 hc8 hc9 hc10 hc11 hc12 hc13 hc14 hf4 hf5 hf6 hf7 hf8 hf9 hf10
    obtain ⟨rfl, CP⟩ := hrel
    have hc0 := CP.out.p.cell 0 rfl; have hc1 := CP.out.p.cell 1 rfl; have hc2 := CP.out.p.cell 2 rfl; have hc3 := CP.out.p.cell 3 rfl; have hc4 := CP.out.p.cell 4 rfl; have hc5 := CP.out.p.cell 5 rfl; have hc6 := CP.out.p.cell 6 rfl; have hc7 := CP.out.p.cell 7 rfl; have hc8 := CP.out.p.cell 8 rfl; have hc9 := CP.out.p.cell 9 rfl; have hc10 := CP.out.p.cell 10 rfl; have hc11 := CP.out.p.cell 11 rfl; have hc12 := CP.out.p.cell 12 rfl; have hc13 := CP.out.p.cell 13 rfl; have hc14 := CP.out.p.cell 14 rfl; have hf4 := CP.out.p.fro 4; have hf5 := CP.out.p.fro 5; have hf6 := CP.out.p.fro 6; have hf7 := CP.out.p.fro 7; have hf8 := CP.out.p.fro 8; have hf9 := CP.out.p.fro 9; have hf10 := CP.out.p.fro 10
    go_wp2_with (first
      | (go_at_call 68; refine (rows_nil _).mono ?_; rintro e w3 ⟨rfl, hB⟩; have CQ := Aside0.mk (CB.below (CP.out) hB); clear CP hB hc0 hc1 hc2 hc3 hc4 hc5 hc6 hc7 hc8 hc9 hc10 hc11 hc12 hc13 hc14 hf4 hf5 hf6 hf7 hf8 hf9 hf10; have CP := CQ; clear CQ; have hc0 := CP.out.p.cell 0 rfl; have hc1 := CP.out.p.cell 1 rfl; have hc2 := CP.out.p.cell 2 rfl; have hc3 := CP.out.p.cell 3 rfl; have hc4 := CP.out.p.cell 4 rfl; have hc5 := CP.out.p.cell 5 rfl; have hc6 := CP.out.p.cell 6 rfl; have hc7 := CP.out.p.cell 7 rfl; have hc8 := CP.out.p.cell 8 rfl; have hc9 := CP.out.p.cell 9 rfl; have hc10 := CP.out.p.cell 10 rfl; have hc11 := CP.out.p.cell 11 rfl; have hc12 := CP.out.p.cell 12 rfl; have hc13 := CP.out.p.cell 13 rfl; have hc14 := CP.out.p.cell 14 rfl; have hf4 := CP.out.p.fro 4; have hf5 := CP.out.p.fro 5; have hf6 := CP.out.p.fro 6; have hf7 := CP.out.p.fro 7; have hf8 := CP.out.p.fro 8; have hf9 := CP.out.p.fro 9; have hf10 := CP.out.p.fro 10)
      | (go_at_call 69; refine (clonePerson_nil _).mono ?_; rintro e w3 ⟨rfl, hB⟩; have CQ := Aside0.mk (CB.below (CP.out.put 5 rfl) hB); clear CP hB hc0 hc1 hc2 hc3 hc4 hc5 hc6 hc7 hc8 hc9 hc10 hc11 hc12 hc13 hc14 hf4 hf5 hf6 hf7 hf8 hf9 hf10; have CP := CQ; clear CQ; have hc0 := CP.out.p.cell 0 rfl; have hc1 := CP.out.p.cell 1 rfl; have hc2 := CP.out.p.cell 2 rfl; have hc3 := CP.out.p.cell 3 rfl; have hc4 := CP.out.p.cell 4 rfl; have hc5 := CP.out.p.cell 5 rfl; have hc6 := CP.out.p.cell 6 rfl; have hc7 := CP.out.p.cell 7 rfl; have hc8 := CP.out.p.cell 8 rfl; have hc9 := CP.out.p.cell 9 rfl; have hc10 := CP.out.p.cell 10 rfl; have hc11 := CP.out.p.cell 11 rfl; have hc12 := CP.out.p.cell 12 rfl; have hc13 := CP.out.p.cell 13 rfl; have hc14 := CP.out.p.cell 14 rfl; have hf4 := CP.out.p.fro 4; have hf5 := CP.out.p.fro 5; have hf6 := CP.out.p.fro 6; have hf7 := CP.out.p.fro 7; have hf8 := CP.out.p.fro 8; have hf9 := CP.out.p.fro 9; have hf10 := CP.out.p.fro 10))
    go_loopw [46] (fun v wr => v = .int .i64 0 ∧ Aside0 (CB w wr g g2)) (fun _ _ => 0)
    case atStart => exact ⟨rfl, ⟨CP.out.put 6 rfl⟩⟩
    case round =>
      clear CP hc0 hc1 hc2 hc3 hc4 hc5 hc6 hc7 hc8 hc9 hc10 hc11 hc12 hc13 hc14 hf4 hf5 hf6 hf7 hf8 hf9 hf10
      obtain ⟨rfl, CP⟩ := hrel
      have hc0 := CP.out.p.cell 0 rfl; have hc1 := CP.out.p.cell 1 rfl; have hc2 := CP.out.p.cell 2 rfl; have hc3 := CP.out.p.cell 3 rfl; have hc4 := CP.out.p.cell 4 rfl; have hc5 := CP.out.p.cell 5 rfl; have hc6 := CP.out.p.cell 6 rfl; have hc7 := CP.out.p.cell 7 rfl; have hc8 := CP.out.p.cell 8 rfl; have hc9 := CP.out.p.cell 9 rfl; have hc10 := CP.out.p.cell 10 rfl; have hc11 := CP.out.p.cell 11 rfl; have hc12 := CP.out.p.cell 12 rfl; have hc13 := CP.out.p.cell 13 rfl; have hc14 := CP.out.p.cell 14 rfl; have hf4 := CP.out.p.fro 4; have hf5 := CP.out.p.fro 5; have hf6 := CP.out.p.fro 6; have hf7 := CP.out.p.fro 7; have hf8 := CP.out.p.fro 8; have hf9 := CP.out.p.fro 9; have hf10 := CP.out.p.fro 10
      go_wp2_with (first
        | (go_at_call 70; refine (cloneClass_nil _).mono ?_; rintro e w3 ⟨rfl, hB⟩; have CQ := Aside0.mk (CB.below (CP.out) hB); clear CP hB hc0 hc1 hc2 hc3 hc4 hc5 hc6 hc7 hc8 hc9 hc10 hc11 hc12 hc13 hc14 hf4 hf5 hf6 hf7 hf8 hf9 hf10; have CP := CQ; clear CQ; have hc0 := CP.out.p.cell 0 rfl; have hc1 := CP.out.p.cell 1 rfl; have hc2 := CP.out.p.cell 2 rfl; have hc3 := CP.out.p.cell 3 rfl; have hc4 := CP.out.p.cell 4 rfl; have hc5 := CP.out.p.cell 5 rfl; have hc6 := CP.out.p.cell 6 rfl; have hc7 := CP.out.p.cell 7 rfl; have hc8 := CP.out.p.cell 8 rfl; have hc9 := CP.out.p.cell 9 rfl; have hc10 := CP.out.p.cell 10 rfl; have hc11 := CP.out.p.cell 11 rfl; have hc12 := CP.out.p.cell 12 rfl; have hc13 := CP.out.p.cell 13 rfl; have hc14 := CP.out.p.cell 14 rfl; have hf4 := CP.out.p.fro 4; have hf5 := CP.out.p.fro 5; have hf6 := CP.out.p.fro 6; have hf7 := CP.out.p.fro 7; have hf8 := CP.out.p.fro 8; have hf9 := CP.out.p.fro 9; have hf10 := CP.out.p.fro 10))
      go_loopw [69] (fun v wr => v = .int .i64 0 ∧ Aside0 (CB w wr g g2)) (fun _ _ => 0)
      case atStart => exact ⟨rfl, ⟨CP.out.put 7 rfl⟩⟩
      case round =>
        clear CP hc0 hc1 hc2 hc3 hc4 hc5 hc6 hc7 hc8 hc9 hc10 hc11 hc12 hc13 hc14 hf4 hf5 hf6 hf7 hf8 hf9 hf10
        obtain ⟨rfl, CP⟩ := hrel
        have hc0 := CP.out.p.cell 0 rfl; have hc1 := CP.out.p.cell 1 rfl; have hc2 := CP.out.p.cell 2 rfl; have hc3 := CP.out.p.cell 3 rfl; have hc4 := CP.out.p.cell 4 rfl; have hc5 := CP.out.p.cell 5 rfl; have hc6 := CP.out.p.cell 6 rfl; have hc7 := CP.out.p.cell 7 rfl; have hc8 := CP.out.p.cell 8 rfl; have hc9 := CP.out.p.cell 9 rfl; have hc10 := CP.out.p.cell 10 rfl; have hc11 := CP.out.p.cell 11 rfl; have hc12 := CP.out.p.cell 12 rfl; have hc13 := CP.out.p.cell 13 rfl; have hc14 := CP.out.p.cell 14 rfl; have hf4 := CP.out.p.fro 4; have hf5 := CP.out.p.fro 5; have hf6 := CP.out.p.fro 6; have hf7 := CP.out.p.fro 7; have hf8 := CP.out.p.fro 8; have hf9 := CP.out.p.fro 9; have hf10 := CP.out.p.fro 10
        go_wp2_with (first
          | (go_at_call 74; refine (cloneCourse_nil _).mono ?_; rintro e w3 ⟨rfl, hB⟩; have CQ := Aside0.mk (CB.below (CP.out) hB); clear CP hB hc0 hc1 hc2 hc3 hc4 hc5 hc6 hc7 hc8 hc9 hc10 hc11 hc12 hc13 hc14 hf4 hf5 hf6 hf7 hf8 hf9 hf10; have CP := CQ; clear CQ; have hc0 := CP.out.p.cell 0 rfl; have hc1 := CP.out.p.cell 1 rfl; have hc2 := CP.out.p.cell 2 rfl; have hc3 := CP.out.p.cell 3 rfl; have hc4 := CP.out.p.cell 4 rfl; have hc5 := CP.out.p.cell 5 rfl; have hc6 := CP.out.p.cell 6 rfl; have hc7 := CP.out.p.cell 7 rfl; have hc8 := CP.out.p.cell 8 rfl; have hc9 := CP.out.p.cell 9 rfl; have hc10 := CP.out.p.cell 10 rfl; have hc11 := CP.out.p.cell 11 rfl; have hc12 := CP.out.p.cell 12 rfl; have hc13 := CP.out.p.cell 13 rfl; have hc14 := CP.out.p.cell 14 rfl; have hf4 := CP.out.p.fro 4; have hf5 := CP.out.p.fro 5; have hf6 := CP.out.p.fro 6; have hf7 := CP.out.p.fro 7; have hf8 := CP.out.p.fro 8; have hf9 := CP.out.p.fro 9; have hf10 := CP.out.p.fro 10))
        go_loopw [108] (fun v wr => v = .int .i64 0 ∧ Aside0 (CB w wr g g2)) (fun _ _ => 0)
        case atStart => exact ⟨rfl, ⟨CP.out.put 8 rfl⟩⟩
        case round =>
          clear CP hc0 hc1 hc2 hc3 hc4 hc5 hc6 hc7 hc8 hc9 hc10 hc11 hc12 hc13 hc14 hf4 hf5 hf6 hf7 hf8 hf9 hf10
          obtain ⟨rfl, CP⟩ := hrel
          have hc0 := CP.out.p.cell 0 rfl; have hc1 := CP.out.p.cell 1 rfl; have hc2 := CP.out.p.cell 2 rfl; have hc3 := CP.out.p.cell 3 rfl; have hc4 := CP.out.p.cell 4 rfl; have hc5 := CP.out.p.cell 5 rfl; have hc6 := CP.out.p.cell 6 rfl; have hc7 := CP.out.p.cell 7 rfl; have hc8 := CP.out.p.cell 8 rfl; have hc9 := CP.out.p.cell 9 rfl; have hc10 := CP.out.p.cell 10 rfl; have hc11 := CP.out.p.cell 11 rfl; have hc12 := CP.out.p.cell 12 rfl; have hc13 := CP.out.p.cell 13 rfl; have hc14 := CP.out.p.cell 14 rfl; have hf4 := CP.out.p.fro 4; have hf5 := CP.out.p.fro 5; have hf6 := CP.out.p.fro 6; have hf7 := CP.out.p.fro 7; have hf8 := CP.out.p.fro 8; have hf9 := CP.out.p.fro 9; have hf10 := CP.out.p.fro 10
          go_wp2_with (first
            | (go_at_call 76; refine (cloneStudent_nil _).mono ?_; rintro e w3 ⟨rfl, hB⟩; have CQ := Aside0.mk (CB.below (CP.out) hB); clear CP hB hc0 hc1 hc2 hc3 hc4 hc5 hc6 hc7 hc8 hc9 hc10 hc11 hc12 hc13 hc14 hf4 hf5 hf6 hf7 hf8 hf9 hf10; have CP := CQ; clear CQ; have hc0 := CP.out.p.cell 0 rfl; have hc1 := CP.out.p.cell 1 rfl; have hc2 := CP.out.p.cell 2 rfl; have hc3 := CP.out.p.cell 3 rfl; have hc4 := CP.out.p.cell 4 rfl; have hc5 := CP.out.p.cell 5 rfl; have hc6 := CP.out.p.cell 6 rfl; have hc7 := CP.out.p.cell 7 rfl; have hc8 := CP.out.p.cell 8 rfl; have hc9 := CP.out.p.cell 9 rfl; have hc10 := CP.out.p.cell 10 rfl; have hc11 := CP.out.p.cell 11 rfl; have hc12 := CP.out.p.cell 12 rfl; have hc13 := CP.out.p.cell 13 rfl; have hc14 := CP.out.p.cell 14 rfl; have hf4 := CP.out.p.fro 4; have hf5 := CP.out.p.fro 5; have hf6 := CP.out.p.fro 6; have hf7 := CP.out.p.fro 7; have hf8 := CP.out.p.fro 8; have hf9 := CP.out.p.fro 9; have hf10 := CP.out.p.fro 10))
          go_loopw [156] (fun v wr => v = .int .i64 0 ∧ Aside0 (CB w wr g g2)) (fun _ _ => 0)
          case atStart => exact ⟨rfl, ⟨CP.out.put 9 rfl⟩⟩
          case round =>
            clear CP hc0 hc1 hc2 hc3 hc4 hc5 hc6 hc7 hc8 hc9 hc10 hc11 hc12 hc13 hc14 hf4 hf5 hf6 hf7 hf8 hf9 hf10
            obtain ⟨rfl, CP⟩ := hrel
            have hc0 := CP.out.p.cell 0 rfl; have hc1 := CP.out.p.cell 1 rfl; have hc2 := CP.out.p.cell 2 rfl; have hc3 := CP.out.p.cell 3 rfl; have hc4 := CP.out.p.cell 4 rfl; have hc5 := CP.out.p.cell 5 rfl; have hc6 := CP.out.p.cell 6 rfl; have hc7 := CP.out.p.cell 7 rfl; have hc8 := CP.out.p.cell 8 rfl; have hc9 := CP.out.p.cell 9 rfl; have hc10 := CP.out.p.cell 10 rfl; have hc11 := CP.out.p.cell 11 rfl; have hc12 := CP.out.p.cell 12 rfl; have hc13 := CP.out.p.cell 13 rfl; have hc14 := CP.out.p.cell 14 rfl; have hf4 := CP.out.p.fro 4; have hf5 := CP.out.p.fro 5; have hf6 := CP.out.p.fro 6; have hf7 := CP.out.p.fro 7; have hf8 := CP.out.p.fro 8; have hf9 := CP.out.p.fro 9; have hf10 := CP.out.p.fro 10
            go_wp2_with (first
              | (go_at_call 77; refine (cloneRule_nil _).mono ?_; rintro e w3 ⟨rfl, hB⟩; have CQ := Aside0.mk (CB.below (CP.out) hB); clear CP hB hc0 hc1 hc2 hc3 hc4 hc5 hc6 hc7 hc8 hc9 hc10 hc11 hc12 hc13 hc14 hf4 hf5 hf6 hf7 hf8 hf9 hf10; have CP := CQ; clear CQ; have hc0 := CP.out.p.cell 0 rfl; have hc1 := CP.out.p.cell 1 rfl; have hc2 := CP.out.p.cell 2 rfl; have hc3 := CP.out.p.cell 3 rfl; have hc4 := CP.out.p.cell 4 rfl; have hc5 := CP.out.p.cell 5 rfl; have hc6 := CP.out.p.cell 6 rfl; have hc7 := CP.out.p.cell 7 rfl; have hc8 := CP.out.p.cell 8 rfl; have hc9 := CP.out.p.cell 9 rfl; have hc10 := CP.out.p.cell 10 rfl; have hc11 := CP.out.p.cell 11 rfl; have hc12 := CP.out.p.cell 12 rfl; have hc13 := CP.out.p.cell 13 rfl; have hc14 := CP.out.p.cell 14 rfl; have hf4 := CP.out.p.fro 4; have hf5 := CP.out.p.fro 5; have hf6 := CP.out.p.fro 6; have hf7 := CP.out.p.fro 7; have hf8 := CP.out.p.fro 8; have hf9 := CP.out.p.fro 9; have hf10 := CP.out.p.fro 10))
            go_loopw [179] (fun v wr => v = .int .i64 0 ∧ Aside0 (CB w wr g g2)) (fun _ _ => 0)
            case atStart => exact ⟨rfl, ⟨CP.out.put 10 rfl⟩⟩
            case round =>
              clear CP hc0 hc1 hc2 hc3 hc4 hc5 hc6 hc7 hc8 hc9 hc10 hc11 hc12 hc13 hc14 hf4 hf5 hf6 hf7 hf8 hf9 hf10
              obtain ⟨rfl, CP⟩ := hrel
              have hc0 := CP.out.p.cell 0 rfl; have hc1 := CP.out.p.cell 1 rfl; have hc2 := CP.out.p.cell 2 rfl; have hc3 := CP.out.p.cell 3 rfl; have hc4 := CP.out.p.cell 4 rfl; have hc5 := CP.out.p.cell 5 rfl; have hc6 := CP.out.p.cell 6 rfl; have hc7 := CP.out.p.cell 7 rfl; have hc8 := CP.out.p.cell 8 rfl; have hc9 := CP.out.p.cell 9 rfl; have hc10 := CP.out.p.cell 10 rfl; have hc11 := CP.out.p.cell 11 rfl; have hc12 := CP.out.p.cell 12 rfl; have hc13 := CP.out.p.cell 13 rfl; have hc14 := CP.out.p.cell 14 rfl; have hf4 := CP.out.p.fro 4; have hf5 := CP.out.p.fro 5; have hf6 := CP.out.p.fro 6; have hf7 := CP.out.p.fro 7; have hf8 := CP.out.p.fro 8; have hf9 := CP.out.p.fro 9; have hf10 := CP.out.p.fro 10
              have hz0 := CP.out.z.fro 0; have hz1 := CP.out.z.fro 1; have hz2 := CP.out.z.fro 2; have hz3 := CP.out.z.fro 3; have hz4 := CP.out.z.fro 4; have hz5 := CP.out.z.fro 5; have hz6 := CP.out.z.fro 6; have hz7 := CP.out.z.fro 7; have hz8 := CP.out.z.fro 8; have hz9 := CP.out.z.fro 9; have hz10 := CP.out.z.fro 10; have hz11 := CP.out.z.fro 11; have hz12 := CP.out.z.fro 12; have hz13 := CP.out.z.fro 13; have hz14 := CP.out.z.fro 14
              have hd0 := CP.out.z.cell 0 rfl; have hd1 := CP.out.z.cell 1 rfl; have hd2 := CP.out.z.cell 2 rfl; have hd3 := CP.out.z.cell 3 rfl; have hd4 := CP.out.z.cell 4 rfl; have hd5 := CP.out.z.cell 5 rfl; have hd6 := CP.out.z.cell 6 rfl; have hd7 := CP.out.z.cell 7 rfl; have hd8 := CP.out.z.cell 8 rfl; have hd9 := CP.out.z.cell 9 rfl; have hd10 := CP.out.z.cell 10 rfl; have hd11 := CP.out.z.cell 11 rfl; have hd12 := CP.out.z.cell 12 rfl; have hd13 := CP.out.z.cell 13 rfl; have hd14 := CP.out.z.cell 14 rfl
              go_wp2
              have HK : PBox w _ g2 40 #[.string { data := #[112] }, .int .i64 1, .int .i64 5, .int .i64 10, .slice none 0 0, .slice none 0 0, .slice none 0 0, .slice none 0 0, .slice none 0 0, .slice none 0 0, .slice none 0 0, .int .i64 0, .int .i64 0, .int .i64 0, .int .i64 0] := (((((((((((((((CP.out.z.put 0 (.string { data := #[112] }) rfl).put 1 (.int .i64 1) rfl).put 2 (.int .i64 5) rfl).put 3 (.int .i64 10) rfl).put 4 (.slice none 0 0) rfl).put 5 (.slice none 0 0) rfl).put 6 (.slice none 0 0) rfl).put 7 (.slice none 0 0) rfl).put 8 (.slice none 0 0) rfl).put 9 (.slice none 0 0) rfl).put 10 (.slice none 0 0) rfl).put 11 (.int .i64 0) rfl).put 12 (.int .i64 0) rfl).put 13 (.int .i64 0) rfl).put 14 (.int .i64 0) rfl)
              refine bodyPost_ret (results_single rfl (Vals.cell g2 40 #[.string { data := #[112] }, .int .i64 1, .int .i64 5, .int .i64 10, .slice none 0 0, .slice none 0 0, .slice none 0 0, .slice none 0 0, .slice none 0 0, .slice none 0 0, .slice none 0 0, .int .i64 0, .int .i64 0, .int .i64 0, .int .i64 0] (0, 0) _ rfl HK.blk hu40 rfl (by kernel_rfl) .nil)) rfl ?_
              exact ⟨rfl, HK.bel⟩
end Go.Proofs.Ytineikfhfmiidaa.Pm

/- Right, Plans, FindClass and Same at the problem of law 17's example. -/
namespace Go.Proofs.Ytineikfhfmiidaa.Pm
open Go Go.RowKit Go.Proofs.Ytineikfhfmiidaa.Gp Go.Proofs.YtineikfhfmiidaaW.PrintWords Go.Proofs.YtineikfhfmiidaaW.PrintLast Go.Proofs.YtineikfhfmiidaaW.PrintMore
set_option linter.unusedVariables false
set_option linter.unusedSimpArgs false
set_option maxRecDepth 100000 in
theorem Right_p (w : World) :
    Calls Try.prog 11 #[.agg #[.string { data := #[112] }, .int .i64 1, .int .i64 5, .int .i64 10, .slice none 0 0, .slice none 0 0, .slice none 0 0, .slice none 0 0, .slice none 0 0, .slice none 0 0, .slice none 0 0, .int .i64 0, .int .i64 0, .int .i64 0, .int .i64 0]] w fun e w' => e = .returned (.bool true) ∧ Below w.heap.size w w' := by
  have hu40 := Try.underlying40
  go_enter Try.func11, Try.ntmps11
  go_wp2_with (first
    | ((with_reducible refine gate_dst (N := 1) rfl ?_); refine box_event ?hg (N := 1) ?hd (cs := #[.string { data := #[112] }, .int .i64 1, .int .i64 5, .int .i64 10, .slice none 0 0, .slice none 0 0, .slice none 0 0, .slice none 0 0, .slice none 0 0, .slice none 0 0, .slice none 0 0, .int .i64 0, .int .i64 0, .int .i64 0, .int .i64 0]) (t := 40) ?hr ?_; (case hd => rfl); (case hg => rfl); (case hr => first | (go_simp; done) | (go_simp; rfl)); intro g hg w2 hbox hB; have HP := Aside0.mk (PBox.mk hbox hB (show w.heap.size ≤ g by rw [hg]; exact Nat.le_refl _)); clear hbox hB hg; have hc0 := HP.out.cell 0 rfl; have hc1 := HP.out.cell 1 rfl; have hc2 := HP.out.cell 2 rfl; have hc3 := HP.out.cell 3 rfl; have hc4 := HP.out.cell 4 rfl; have hc5 := HP.out.cell 5 rfl; have hc6 := HP.out.cell 6 rfl; have hc7 := HP.out.cell 7 rfl; have hc8 := HP.out.cell 8 rfl; have hc9 := HP.out.cell 9 rfl; have hc10 := HP.out.cell 10 rfl; have hc11 := HP.out.cell 11 rfl; have hc12 := HP.out.cell 12 rfl; have hc13 := HP.out.cell 13 rfl; have hc14 := HP.out.cell 14 rfl)
    | (go_at_call 9; refine (Check_p _).mono ?_; rintro e w3 ⟨rfl, hB⟩; have HQ := Aside0.mk (HP.out.below hB); clear HP hB hc0 hc1 hc2 hc3 hc4 hc5 hc6 hc7 hc8 hc9 hc10 hc11 hc12 hc13 hc14; have HP := HQ; clear HQ; have hc0 := HP.out.cell 0 rfl; have hc1 := HP.out.cell 1 rfl; have hc2 := HP.out.cell 2 rfl; have hc3 := HP.out.cell 3 rfl; have hc4 := HP.out.cell 4 rfl; have hc5 := HP.out.cell 5 rfl; have hc6 := HP.out.cell 6 rfl; have hc7 := HP.out.cell 7 rfl; have hc8 := HP.out.cell 8 rfl; have hc9 := HP.out.cell 9 rfl; have hc10 := HP.out.cell 10 rfl; have hc11 := HP.out.cell 11 rfl; have hc12 := HP.out.cell 12 rfl; have hc13 := HP.out.cell 13 rfl; have hc14 := HP.out.cell 14 rfl))
  go_ret
  exact ⟨rfl, HP.out.bel⟩
set_option maxRecDepth 100000 in
theorem Plans_p (w : World) :
    Calls Try.prog 12 #[.agg #[.string { data := #[112] }, .int .i64 1, .int .i64 5, .int .i64 10, .slice none 0 0, .slice none 0 0, .slice none 0 0, .slice none 0 0, .slice none 0 0, .slice none 0 0, .slice none 0 0, .int .i64 0, .int .i64 0, .int .i64 0, .int .i64 0], .int .i64 9] w fun e w' => e = .returned (.int .i64 1) ∧ Below w.heap.size w w' := by
  have hu40 := Try.underlying40
  go_enter Try.func12, Try.ntmps12
  go_wp2_with (first
    | ((with_reducible refine gate_dst (N := 2) rfl ?_); refine box_event ?hg (N := 2) ?hd (cs := #[.string { data := #[112] }, .int .i64 1, .int .i64 5, .int .i64 10, .slice none 0 0, .slice none 0 0, .slice none 0 0, .slice none 0 0, .slice none 0 0, .slice none 0 0, .slice none 0 0, .int .i64 0, .int .i64 0, .int .i64 0, .int .i64 0]) (t := 40) ?hr ?_; (case hd => rfl); (case hg => rfl); (case hr => first | (go_simp; done) | (go_simp; rfl)); intro g hg w2 hbox hB; have HP := Aside0.mk (PBox.mk hbox hB (show w.heap.size ≤ g by rw [hg]; exact Nat.le_refl _)); clear hbox hB hg; have hc0 := HP.out.cell 0 rfl; have hc1 := HP.out.cell 1 rfl; have hc2 := HP.out.cell 2 rfl; have hc3 := HP.out.cell 3 rfl; have hc4 := HP.out.cell 4 rfl; have hc5 := HP.out.cell 5 rfl; have hc6 := HP.out.cell 6 rfl; have hc7 := HP.out.cell 7 rfl; have hc8 := HP.out.cell 8 rfl; have hc9 := HP.out.cell 9 rfl; have hc10 := HP.out.cell 10 rfl; have hc11 := HP.out.cell 11 rfl; have hc12 := HP.out.cell 12 rfl; have hc13 := HP.out.cell 13 rfl; have hc14 := HP.out.cell 14 rfl)
    | (go_at_call 11; refine (Right_p _).mono ?_; rintro e w3 ⟨rfl, hB⟩; have HQ := Aside0.mk (HP.out.below hB); clear HP hB hc0 hc1 hc2 hc3 hc4 hc5 hc6 hc7 hc8 hc9 hc10 hc11 hc12 hc13 hc14; have HP := HQ; clear HQ; have hc0 := HP.out.cell 0 rfl; have hc1 := HP.out.cell 1 rfl; have hc2 := HP.out.cell 2 rfl; have hc3 := HP.out.cell 3 rfl; have hc4 := HP.out.cell 4 rfl; have hc5 := HP.out.cell 5 rfl; have hc6 := HP.out.cell 6 rfl; have hc7 := HP.out.cell 7 rfl; have hc8 := HP.out.cell 8 rfl; have hc9 := HP.out.cell 9 rfl; have hc10 := HP.out.cell 10 rfl; have hc11 := HP.out.cell 11 rfl; have hc12 := HP.out.cell 12 rfl; have hc13 := HP.out.cell 13 rfl; have hc14 := HP.out.cell 14 rfl))
  go_loopw [5, 19] (fun v5 v19 wr => v5 = .int .i64 1 ∧ v19 = .int .i64 0 ∧ Aside0 (Below w.heap.size w wr)) (fun _ _ _ => 0)
  case atStart => exact ⟨rfl, rfl, ⟨HP.out.bel⟩⟩
  case round =>
    clear HP hc0 hc1 hc2 hc3 hc4 hc5 hc6 hc7 hc8 hc9 hc10 hc11 hc12 hc13 hc14
    obtain ⟨rfl, rfl, HB⟩ := hrel
    go_wp2
    go_ret
    exact ⟨rfl, HB.out⟩
set_option maxRecDepth 100000 in
theorem place_nil (w : World) (f : Value) (s : ByteArray) (hf : f.cells = #[f]) :
    Calls Try.prog 78 #[.slice none 0 0, f, .string s] w fun e w' => e = .returned (.int .i64 (-1)) ∧ Below w.heap.size w w' := by
  go_enter Try.func78, Try.ntmps78
  go_wp2_with (first
    | (go_at_call 98; refine (indexClass_nil _ _).mono ?_; rintro e w3 ⟨rfl, hB⟩; have HB := Aside0.mk hB; clear hB))
  go_ret
  exact ⟨rfl, below_then (below_alloc (below_alloc (Below.refl _ _) _) _) (below_alloc (below_alloc (Below.refl _ _) _) _).size HB.out⟩
set_option maxRecDepth 100000 in
theorem FindClass_p (w : World) :
    Calls Try.prog 15 #[.agg #[.string { data := #[112] }, .int .i64 1, .int .i64 5, .int .i64 10, .slice none 0 0, .slice none 0 0, .slice none 0 0, .slice none 0 0, .slice none 0 0, .slice none 0 0, .slice none 0 0, .int .i64 0, .int .i64 0, .int .i64 0, .int .i64 0], .string { data := #[99] }] w fun e w' => e = .returned (.int .i64 (-1)) ∧ Below w.heap.size w w' := by
  have hu40 := Try.underlying40
  go_enter Try.func15, Try.ntmps15
  go_wp2_with (first
    | ((with_reducible refine gate_dst (N := 2) rfl ?_); refine box_event ?hg (N := 2) ?hd (cs := #[.string { data := #[112] }, .int .i64 1, .int .i64 5, .int .i64 10, .slice none 0 0, .slice none 0 0, .slice none 0 0, .slice none 0 0, .slice none 0 0, .slice none 0 0, .slice none 0 0, .int .i64 0, .int .i64 0, .int .i64 0, .int .i64 0]) (t := 40) ?hr ?_; (case hd => rfl); (case hg => rfl); (case hr => first | (go_simp; done) | (go_simp; rfl)); intro g hg w2 hbox hB; have HP := Aside0.mk (PBox.mk hbox hB (show w.heap.size ≤ g by rw [hg]; exact Nat.le_refl _)); clear hbox hB hg; have hc0 := HP.out.cell 0 rfl; have hc1 := HP.out.cell 1 rfl; have hc2 := HP.out.cell 2 rfl; have hc3 := HP.out.cell 3 rfl; have hc4 := HP.out.cell 4 rfl; have hc5 := HP.out.cell 5 rfl; have hc6 := HP.out.cell 6 rfl; have hc7 := HP.out.cell 7 rfl; have hc8 := HP.out.cell 8 rfl; have hc9 := HP.out.cell 9 rfl; have hc10 := HP.out.cell 10 rfl; have hc11 := HP.out.cell 11 rfl; have hc12 := HP.out.cell 12 rfl; have hc13 := HP.out.cell 13 rfl; have hc14 := HP.out.cell 14 rfl)
    | (go_at_call 78; refine (place_nil _ _ _ rfl).mono ?_; rintro e w3 ⟨rfl, hB⟩; have HQ := Aside0.mk (HP.out.below hB); clear HP hB hc0 hc1 hc2 hc3 hc4 hc5 hc6 hc7 hc8 hc9 hc10 hc11 hc12 hc13 hc14; have HP := HQ; clear HQ; have hc0 := HP.out.cell 0 rfl; have hc1 := HP.out.cell 1 rfl; have hc2 := HP.out.cell 2 rfl; have hc3 := HP.out.cell 3 rfl; have hc4 := HP.out.cell 4 rfl; have hc5 := HP.out.cell 5 rfl; have hc6 := HP.out.cell 6 rfl; have hc7 := HP.out.cell 7 rfl; have hc8 := HP.out.cell 8 rfl; have hc9 := HP.out.cell 9 rfl; have hc10 := HP.out.cell 10 rfl; have hc11 := HP.out.cell 11 rfl; have hc12 := HP.out.cell 12 rfl; have hc13 := HP.out.cell 13 rfl; have hc14 := HP.out.cell 14 rfl))
  go_ret
  exact ⟨rfl, HP.out.bel⟩
set_option maxRecDepth 100000 in
set_option maxHeartbeats 1000000 in
theorem Same_p (w : World) :
    Calls Try.prog 13 #[.agg #[.string { data := #[112] }, .int .i64 1, .int .i64 5, .int .i64 10, .slice none 0 0, .slice none 0 0, .slice none 0 0, .slice none 0 0, .slice none 0 0, .slice none 0 0, .slice none 0 0, .int .i64 0, .int .i64 0, .int .i64 0, .int .i64 0], .agg #[.string { data := #[112] }, .int .i64 1, .int .i64 5, .int .i64 10, .slice none 0 0, .slice none 0 0, .slice none 0 0, .slice none 0 0, .slice none 0 0, .slice none 0 0, .slice none 0 0, .int .i64 0, .int .i64 0, .int .i64 0, .int .i64 0]] w fun e w' => e = .returned (.bool true) ∧ Below w.heap.size w w' := by
  have hu40 := Try.underlying40
  have hu29 := Try.underlying29
  have hu38 := Try.underlying38
  go_enter Try.func13, Try.ntmps13
  go_wp2_with (first
    | ((with_reducible refine gate_dst (N := 2) rfl ?_); refine box_event ?hg (N := 2) ?hd (cs := #[.string { data := #[112] }, .int .i64 1, .int .i64 5, .int .i64 10, .slice none 0 0, .slice none 0 0, .slice none 0 0, .slice none 0 0, .slice none 0 0, .slice none 0 0, .slice none 0 0, .int .i64 0, .int .i64 0, .int .i64 0, .int .i64 0]) (t := 40) ?hr ?_; (case hd => rfl); (case hg => rfl); (case hr => first | (go_simp; done) | (go_simp; rfl)); intro g hg w2 hbox hB; have HP := Aside0.mk (PBox.mk hbox hB (show w.heap.size ≤ g by rw [hg]; exact Nat.le_refl _)); clear hbox hB hg)
    | ((with_reducible refine gate_dst (N := 3) rfl ?_); refine box_event ?hg (N := 3) ?hd (cs := #[.string { data := #[112] }, .int .i64 1, .int .i64 5, .int .i64 10, .slice none 0 0, .slice none 0 0, .slice none 0 0, .slice none 0 0, .slice none 0 0, .slice none 0 0, .slice none 0 0, .int .i64 0, .int .i64 0, .int .i64 0, .int .i64 0]) (t := 40) ?hr ?_; (case hd => rfl); (case hg => rfl); (case hr => first | (go_simp; done) | (go_simp; rfl)); intro g2 hg w3 hbox hB; have C2 := Aside0.mk (And.intro (HP.out.below hB) (PBox.mk hbox (below_then HP.out.bel HP.out.bel.size hB) (show w.heap.size ≤ g2 by rw [hg]; exact HP.out.bel.size))); clear hbox hB hg HP; have hc0 := C2.out.1.cell 0 rfl; have hc1 := C2.out.1.cell 1 rfl; have hc2 := C2.out.1.cell 2 rfl; have hc3 := C2.out.1.cell 3 rfl; have hc4 := C2.out.1.cell 4 rfl; have hc5 := C2.out.1.cell 5 rfl; have hc6 := C2.out.1.cell 6 rfl; have hc7 := C2.out.1.cell 7 rfl; have hc8 := C2.out.1.cell 8 rfl; have hc9 := C2.out.1.cell 9 rfl; have hc10 := C2.out.1.cell 10 rfl; have hc11 := C2.out.1.cell 11 rfl; have hc12 := C2.out.1.cell 12 rfl; have hc13 := C2.out.1.cell 13 rfl; have hc14 := C2.out.1.cell 14 rfl; have hd0 := C2.out.2.cell 0 rfl; have hd1 := C2.out.2.cell 1 rfl; have hd2 := C2.out.2.cell 2 rfl; have hd3 := C2.out.2.cell 3 rfl; have hd4 := C2.out.2.cell 4 rfl; have hd5 := C2.out.2.cell 5 rfl; have hd6 := C2.out.2.cell 6 rfl; have hd7 := C2.out.2.cell 7 rfl; have hd8 := C2.out.2.cell 8 rfl; have hd9 := C2.out.2.cell 9 rfl; have hd10 := C2.out.2.cell 10 rfl; have hd11 := C2.out.2.cell 11 rfl; have hd12 := C2.out.2.cell 12 rfl; have hd13 := C2.out.2.cell 13 rfl; have hd14 := C2.out.2.cell 14 rfl)
    | (go_at_call 54; refine (eqRow_nil _ _).mono ?_; rintro e w3 ⟨rfl, hB⟩; have CQ := Aside0.mk (And.intro (C2.out.1.below hB) (C2.out.2.below hB)); clear C2 hB hc0 hc1 hc2 hc3 hc4 hc5 hc6 hc7 hc8 hc9 hc10 hc11 hc12 hc13 hc14 hd0 hd1 hd2 hd3 hd4 hd5 hd6 hd7 hd8 hd9 hd10 hd11 hd12 hd13 hd14; have C2 := CQ; clear CQ; have hc0 := C2.out.1.cell 0 rfl; have hc1 := C2.out.1.cell 1 rfl; have hc2 := C2.out.1.cell 2 rfl; have hc3 := C2.out.1.cell 3 rfl; have hc4 := C2.out.1.cell 4 rfl; have hc5 := C2.out.1.cell 5 rfl; have hc6 := C2.out.1.cell 6 rfl; have hc7 := C2.out.1.cell 7 rfl; have hc8 := C2.out.1.cell 8 rfl; have hc9 := C2.out.1.cell 9 rfl; have hc10 := C2.out.1.cell 10 rfl; have hc11 := C2.out.1.cell 11 rfl; have hc12 := C2.out.1.cell 12 rfl; have hc13 := C2.out.1.cell 13 rfl; have hc14 := C2.out.1.cell 14 rfl; have hd0 := C2.out.2.cell 0 rfl; have hd1 := C2.out.2.cell 1 rfl; have hd2 := C2.out.2.cell 2 rfl; have hd3 := C2.out.2.cell 3 rfl; have hd4 := C2.out.2.cell 4 rfl; have hd5 := C2.out.2.cell 5 rfl; have hd6 := C2.out.2.cell 6 rfl; have hd7 := C2.out.2.cell 7 rfl; have hd8 := C2.out.2.cell 8 rfl; have hd9 := C2.out.2.cell 9 rfl; have hd10 := C2.out.2.cell 10 rfl; have hd11 := C2.out.2.cell 11 rfl; have hd12 := C2.out.2.cell 12 rfl; have hd13 := C2.out.2.cell 13 rfl; have hd14 := C2.out.2.cell 14 rfl)
    | (go_at_call 52; refine (eqRoom_nil _ _).mono ?_; rintro e w3 ⟨rfl, hB⟩; have CQ := Aside0.mk (And.intro (C2.out.1.below hB) (C2.out.2.below hB)); clear C2 hB hc0 hc1 hc2 hc3 hc4 hc5 hc6 hc7 hc8 hc9 hc10 hc11 hc12 hc13 hc14 hd0 hd1 hd2 hd3 hd4 hd5 hd6 hd7 hd8 hd9 hd10 hd11 hd12 hd13 hd14; have C2 := CQ; clear CQ; have hc0 := C2.out.1.cell 0 rfl; have hc1 := C2.out.1.cell 1 rfl; have hc2 := C2.out.1.cell 2 rfl; have hc3 := C2.out.1.cell 3 rfl; have hc4 := C2.out.1.cell 4 rfl; have hc5 := C2.out.1.cell 5 rfl; have hc6 := C2.out.1.cell 6 rfl; have hc7 := C2.out.1.cell 7 rfl; have hc8 := C2.out.1.cell 8 rfl; have hc9 := C2.out.1.cell 9 rfl; have hc10 := C2.out.1.cell 10 rfl; have hc11 := C2.out.1.cell 11 rfl; have hc12 := C2.out.1.cell 12 rfl; have hc13 := C2.out.1.cell 13 rfl; have hc14 := C2.out.1.cell 14 rfl; have hd0 := C2.out.2.cell 0 rfl; have hd1 := C2.out.2.cell 1 rfl; have hd2 := C2.out.2.cell 2 rfl; have hd3 := C2.out.2.cell 3 rfl; have hd4 := C2.out.2.cell 4 rfl; have hd5 := C2.out.2.cell 5 rfl; have hd6 := C2.out.2.cell 6 rfl; have hd7 := C2.out.2.cell 7 rfl; have hd8 := C2.out.2.cell 8 rfl; have hd9 := C2.out.2.cell 9 rfl; have hd10 := C2.out.2.cell 10 rfl; have hd11 := C2.out.2.cell 11 rfl; have hd12 := C2.out.2.cell 12 rfl; have hd13 := C2.out.2.cell 13 rfl; have hd14 := C2.out.2.cell 14 rfl)
    | (go_at_call 56; refine (eqPerson_nil _ _).mono ?_; rintro e w3 ⟨rfl, hB⟩; have CQ := Aside0.mk (And.intro (C2.out.1.below hB) (C2.out.2.below hB)); clear C2 hB hc0 hc1 hc2 hc3 hc4 hc5 hc6 hc7 hc8 hc9 hc10 hc11 hc12 hc13 hc14 hd0 hd1 hd2 hd3 hd4 hd5 hd6 hd7 hd8 hd9 hd10 hd11 hd12 hd13 hd14; have C2 := CQ; clear CQ; have hc0 := C2.out.1.cell 0 rfl; have hc1 := C2.out.1.cell 1 rfl; have hc2 := C2.out.1.cell 2 rfl; have hc3 := C2.out.1.cell 3 rfl; have hc4 := C2.out.1.cell 4 rfl; have hc5 := C2.out.1.cell 5 rfl; have hc6 := C2.out.1.cell 6 rfl; have hc7 := C2.out.1.cell 7 rfl; have hc8 := C2.out.1.cell 8 rfl; have hc9 := C2.out.1.cell 9 rfl; have hc10 := C2.out.1.cell 10 rfl; have hc11 := C2.out.1.cell 11 rfl; have hc12 := C2.out.1.cell 12 rfl; have hc13 := C2.out.1.cell 13 rfl; have hc14 := C2.out.1.cell 14 rfl; have hd0 := C2.out.2.cell 0 rfl; have hd1 := C2.out.2.cell 1 rfl; have hd2 := C2.out.2.cell 2 rfl; have hd3 := C2.out.2.cell 3 rfl; have hd4 := C2.out.2.cell 4 rfl; have hd5 := C2.out.2.cell 5 rfl; have hd6 := C2.out.2.cell 6 rfl; have hd7 := C2.out.2.cell 7 rfl; have hd8 := C2.out.2.cell 8 rfl; have hd9 := C2.out.2.cell 9 rfl; have hd10 := C2.out.2.cell 10 rfl; have hd11 := C2.out.2.cell 11 rfl; have hd12 := C2.out.2.cell 12 rfl; have hd13 := C2.out.2.cell 13 rfl; have hd14 := C2.out.2.cell 14 rfl)
    | (go_at_call 58; refine (eqClass_nil _ _).mono ?_; rintro e w3 ⟨rfl, hB⟩; have CQ := Aside0.mk (And.intro (C2.out.1.below hB) (C2.out.2.below hB)); clear C2 hB hc0 hc1 hc2 hc3 hc4 hc5 hc6 hc7 hc8 hc9 hc10 hc11 hc12 hc13 hc14 hd0 hd1 hd2 hd3 hd4 hd5 hd6 hd7 hd8 hd9 hd10 hd11 hd12 hd13 hd14; have C2 := CQ; clear CQ; have hc0 := C2.out.1.cell 0 rfl; have hc1 := C2.out.1.cell 1 rfl; have hc2 := C2.out.1.cell 2 rfl; have hc3 := C2.out.1.cell 3 rfl; have hc4 := C2.out.1.cell 4 rfl; have hc5 := C2.out.1.cell 5 rfl; have hc6 := C2.out.1.cell 6 rfl; have hc7 := C2.out.1.cell 7 rfl; have hc8 := C2.out.1.cell 8 rfl; have hc9 := C2.out.1.cell 9 rfl; have hc10 := C2.out.1.cell 10 rfl; have hc11 := C2.out.1.cell 11 rfl; have hc12 := C2.out.1.cell 12 rfl; have hc13 := C2.out.1.cell 13 rfl; have hc14 := C2.out.1.cell 14 rfl; have hd0 := C2.out.2.cell 0 rfl; have hd1 := C2.out.2.cell 1 rfl; have hd2 := C2.out.2.cell 2 rfl; have hd3 := C2.out.2.cell 3 rfl; have hd4 := C2.out.2.cell 4 rfl; have hd5 := C2.out.2.cell 5 rfl; have hd6 := C2.out.2.cell 6 rfl; have hd7 := C2.out.2.cell 7 rfl; have hd8 := C2.out.2.cell 8 rfl; have hd9 := C2.out.2.cell 9 rfl; have hd10 := C2.out.2.cell 10 rfl; have hd11 := C2.out.2.cell 11 rfl; have hd12 := C2.out.2.cell 12 rfl; have hd13 := C2.out.2.cell 13 rfl; have hd14 := C2.out.2.cell 14 rfl)
    | (go_at_call 60; refine (eqCourse_nil _ _).mono ?_; rintro e w3 ⟨rfl, hB⟩; have CQ := Aside0.mk (And.intro (C2.out.1.below hB) (C2.out.2.below hB)); clear C2 hB hc0 hc1 hc2 hc3 hc4 hc5 hc6 hc7 hc8 hc9 hc10 hc11 hc12 hc13 hc14 hd0 hd1 hd2 hd3 hd4 hd5 hd6 hd7 hd8 hd9 hd10 hd11 hd12 hd13 hd14; have C2 := CQ; clear CQ; have hc0 := C2.out.1.cell 0 rfl; have hc1 := C2.out.1.cell 1 rfl; have hc2 := C2.out.1.cell 2 rfl; have hc3 := C2.out.1.cell 3 rfl; have hc4 := C2.out.1.cell 4 rfl; have hc5 := C2.out.1.cell 5 rfl; have hc6 := C2.out.1.cell 6 rfl; have hc7 := C2.out.1.cell 7 rfl; have hc8 := C2.out.1.cell 8 rfl; have hc9 := C2.out.1.cell 9 rfl; have hc10 := C2.out.1.cell 10 rfl; have hc11 := C2.out.1.cell 11 rfl; have hc12 := C2.out.1.cell 12 rfl; have hc13 := C2.out.1.cell 13 rfl; have hc14 := C2.out.1.cell 14 rfl; have hd0 := C2.out.2.cell 0 rfl; have hd1 := C2.out.2.cell 1 rfl; have hd2 := C2.out.2.cell 2 rfl; have hd3 := C2.out.2.cell 3 rfl; have hd4 := C2.out.2.cell 4 rfl; have hd5 := C2.out.2.cell 5 rfl; have hd6 := C2.out.2.cell 6 rfl; have hd7 := C2.out.2.cell 7 rfl; have hd8 := C2.out.2.cell 8 rfl; have hd9 := C2.out.2.cell 9 rfl; have hd10 := C2.out.2.cell 10 rfl; have hd11 := C2.out.2.cell 11 rfl; have hd12 := C2.out.2.cell 12 rfl; have hd13 := C2.out.2.cell 13 rfl; have hd14 := C2.out.2.cell 14 rfl)
    | (go_at_call 62; refine (eqStudent_nil _ _).mono ?_; rintro e w3 ⟨rfl, hB⟩; have CQ := Aside0.mk (And.intro (C2.out.1.below hB) (C2.out.2.below hB)); clear C2 hB hc0 hc1 hc2 hc3 hc4 hc5 hc6 hc7 hc8 hc9 hc10 hc11 hc12 hc13 hc14 hd0 hd1 hd2 hd3 hd4 hd5 hd6 hd7 hd8 hd9 hd10 hd11 hd12 hd13 hd14; have C2 := CQ; clear CQ; have hc0 := C2.out.1.cell 0 rfl; have hc1 := C2.out.1.cell 1 rfl; have hc2 := C2.out.1.cell 2 rfl; have hc3 := C2.out.1.cell 3 rfl; have hc4 := C2.out.1.cell 4 rfl; have hc5 := C2.out.1.cell 5 rfl; have hc6 := C2.out.1.cell 6 rfl; have hc7 := C2.out.1.cell 7 rfl; have hc8 := C2.out.1.cell 8 rfl; have hc9 := C2.out.1.cell 9 rfl; have hc10 := C2.out.1.cell 10 rfl; have hc11 := C2.out.1.cell 11 rfl; have hc12 := C2.out.1.cell 12 rfl; have hc13 := C2.out.1.cell 13 rfl; have hc14 := C2.out.1.cell 14 rfl; have hd0 := C2.out.2.cell 0 rfl; have hd1 := C2.out.2.cell 1 rfl; have hd2 := C2.out.2.cell 2 rfl; have hd3 := C2.out.2.cell 3 rfl; have hd4 := C2.out.2.cell 4 rfl; have hd5 := C2.out.2.cell 5 rfl; have hd6 := C2.out.2.cell 6 rfl; have hd7 := C2.out.2.cell 7 rfl; have hd8 := C2.out.2.cell 8 rfl; have hd9 := C2.out.2.cell 9 rfl; have hd10 := C2.out.2.cell 10 rfl; have hd11 := C2.out.2.cell 11 rfl; have hd12 := C2.out.2.cell 12 rfl; have hd13 := C2.out.2.cell 13 rfl; have hd14 := C2.out.2.cell 14 rfl)
    | (go_at_call 64; refine (eqRule_nil _ _).mono ?_; rintro e w3 ⟨rfl, hB⟩; have CQ := Aside0.mk (And.intro (C2.out.1.below hB) (C2.out.2.below hB)); clear C2 hB hc0 hc1 hc2 hc3 hc4 hc5 hc6 hc7 hc8 hc9 hc10 hc11 hc12 hc13 hc14 hd0 hd1 hd2 hd3 hd4 hd5 hd6 hd7 hd8 hd9 hd10 hd11 hd12 hd13 hd14; have C2 := CQ; clear CQ; have hc0 := C2.out.1.cell 0 rfl; have hc1 := C2.out.1.cell 1 rfl; have hc2 := C2.out.1.cell 2 rfl; have hc3 := C2.out.1.cell 3 rfl; have hc4 := C2.out.1.cell 4 rfl; have hc5 := C2.out.1.cell 5 rfl; have hc6 := C2.out.1.cell 6 rfl; have hc7 := C2.out.1.cell 7 rfl; have hc8 := C2.out.1.cell 8 rfl; have hc9 := C2.out.1.cell 9 rfl; have hc10 := C2.out.1.cell 10 rfl; have hc11 := C2.out.1.cell 11 rfl; have hc12 := C2.out.1.cell 12 rfl; have hc13 := C2.out.1.cell 13 rfl; have hc14 := C2.out.1.cell 14 rfl; have hd0 := C2.out.2.cell 0 rfl; have hd1 := C2.out.2.cell 1 rfl; have hd2 := C2.out.2.cell 2 rfl; have hd3 := C2.out.2.cell 3 rfl; have hd4 := C2.out.2.cell 4 rfl; have hd5 := C2.out.2.cell 5 rfl; have hd6 := C2.out.2.cell 6 rfl; have hd7 := C2.out.2.cell 7 rfl; have hd8 := C2.out.2.cell 8 rfl; have hd9 := C2.out.2.cell 9 rfl; have hd10 := C2.out.2.cell 10 rfl; have hd11 := C2.out.2.cell 11 rfl; have hd12 := C2.out.2.cell 12 rfl; have hd13 := C2.out.2.cell 13 rfl; have hd14 := C2.out.2.cell 14 rfl))
  go_ret
  exact ⟨rfl, C2.out.1.bel⟩
end Go.Proofs.Ytineikfhfmiidaa.Pm

/- The example of law 17. -/
namespace Go.Proofs.Ytineikfhfmiidaa.Pm
open Go Go.RowKit Go.Proofs.Ytineikfhfmiidaa.Gp Go.Proofs.YtineikfhfmiidaaW.PrintWords Go.Proofs.YtineikfhfmiidaaW.PrintLast Go.Proofs.YtineikfhfmiidaaW.PrintMore
set_option linter.unusedVariables false
set_option linter.unusedSimpArgs false
theorem litC (W : World) : (Kd.int .i64).C (W.alloc (.cells #[.int .i64 1, .int .i64 0] 3)) (some ⟨W.heap.size, 0, none⟩) 2 [1, 0] := by
  have h2 := World.ownsRow_lit (base := 0) (e := 3) (size := 1) W ([1, 0].map (Value.int .i64)).toArray 2 (Nat.zero_le _) (by simp only [maxLen]; omega) (by simp)
  have h3 : (Kd.int .i64).R 3 (W.alloc (.cells #[.int .i64 1, .int .i64 0] 3)) 0 (fun _ => True) (.slice (some ⟨W.heap.size, 0, none⟩) 2 2) [1, 0] := Kd.R_of_own (by simpa [encs] using h2) (fun _ _ => trivial)
  exact (Kd.R_reads' h3).2.2
theorem rule_ex : ruleOk 2 8 [1, 0] 0 0 true 0 = true := by decide
set_option maxRecDepth 100000 in
set_option maxHeartbeats 2000000 in
theorem heads_is (w : World) : Calls Try.prog 5 #[] w fun e w' => e = .returned (.bool true) ∧ Below w.heap.size w w' := by
  have hu40 := Try.underlying40
  have hu29 := Try.underlying29
  have hu25 := Try.underlying25
  go_enter Try.func5, Try.ntmps5
  go_wp2_with (first
    | ((with_reducible refine gate_dst (N := 1) rfl ?_); refine box_event ?hg (N := 1) ?hd (cs := #[.string ByteArray.empty, .int .i64 0, .int .i64 0, .int .i64 0, .slice none 0 0, .slice none 0 0, .slice none 0 0, .slice none 0 0, .slice none 0 0, .slice none 0 0, .slice none 0 0, .int .i64 0, .int .i64 0, .int .i64 0, .int .i64 0]) (t := 40) ?hr ?_; (case hd => rfl); (case hg => rfl); (case hr => first | (go_simp; done) | (go_simp; rfl)); intro g hg w2 hbox hB; have HZ := Aside0.mk (PBox.mk hbox hB (show w.heap.size ≤ g by rw [hg]; exact Nat.le_refl _)); clear hbox hB hg; have hz0 := HZ.out.cell 0 rfl; have hz1 := HZ.out.cell 1 rfl; have hz2 := HZ.out.cell 2 rfl; have hz3 := HZ.out.cell 3 rfl; have hz4 := HZ.out.cell 4 rfl; have hz5 := HZ.out.cell 5 rfl; have hz6 := HZ.out.cell 6 rfl; have hz7 := HZ.out.cell 7 rfl; have hz8 := HZ.out.cell 8 rfl; have hz9 := HZ.out.cell 9 rfl; have hz10 := HZ.out.cell 10 rfl; have hz11 := HZ.out.cell 11 rfl; have hz12 := HZ.out.cell 12 rfl; have hz13 := HZ.out.cell 13 rfl; have hz14 := HZ.out.cell 14 rfl; have hf0 := HZ.out.fro 0; have hf1 := HZ.out.fro 1; have hf2 := HZ.out.fro 2; have hf3 := HZ.out.fro 3; have hf4 := HZ.out.fro 4; have hf5 := HZ.out.fro 5; have hf6 := HZ.out.fro 6; have hf7 := HZ.out.fro 7; have hf8 := HZ.out.fro 8; have hf9 := HZ.out.fro 9; have hf10 := HZ.out.fro 10; have hf11 := HZ.out.fro 11; have hf12 := HZ.out.fro 12; have hf13 := HZ.out.fro 13; have hf14 := HZ.out.fro 14)
    | (go_at_call 9; (with_reducible refine (Check_p _).mono ?_); rintro e w3 ⟨rfl, hB⟩; have HP0 : Aside0 (PBox w _ g 40 #[.string { data := #[112] }, .int .i64 1, .int .i64 5, .int .i64 10, .slice none 0 0, .slice none 0 0, .slice none 0 0, .slice none 0 0, .slice none 0 0, .slice none 0 0, .slice none 0 0, .int .i64 0, .int .i64 0, .int .i64 0, .int .i64 0]) := Aside0.mk (((((((((((((((HZ.out.put 0 (.string { data := #[112] }) rfl).put 1 (.int .i64 1) rfl).put 2 (.int .i64 5) rfl).put 3 (.int .i64 10) rfl).put 4 (.slice none 0 0) rfl).put 5 (.slice none 0 0) rfl).put 6 (.slice none 0 0) rfl).put 7 (.slice none 0 0) rfl).put 8 (.slice none 0 0) rfl).put 9 (.slice none 0 0) rfl).put 10 (.slice none 0 0) rfl).put 11 (.int .i64 0) rfl).put 12 (.int .i64 0) rfl).put 13 (.int .i64 0) rfl).put 14 (.int .i64 0) rfl); have HP := Aside0.mk (HP0.out.below hB); clear HP0 HZ hB hz0 hz1 hz2 hz3 hz4 hz5 hz6 hz7 hz8 hz9 hz10 hz11 hz12 hz13 hz14 hf0 hf1 hf2 hf3 hf4 hf5 hf6 hf7 hf8 hf9 hf10 hf11 hf12 hf13 hf14; have hc0 := HP.out.cell 0 rfl; have hc1 := HP.out.cell 1 rfl; have hc2 := HP.out.cell 2 rfl; have hc3 := HP.out.cell 3 rfl; have hc4 := HP.out.cell 4 rfl; have hc5 := HP.out.cell 5 rfl; have hc6 := HP.out.cell 6 rfl; have hc7 := HP.out.cell 7 rfl; have hc8 := HP.out.cell 8 rfl; have hc9 := HP.out.cell 9 rfl; have hc10 := HP.out.cell 10 rfl; have hc11 := HP.out.cell 11 rfl; have hc12 := HP.out.cell 12 rfl; have hc13 := HP.out.cell 13 rfl; have hc14 := HP.out.cell 14 rfl)
    | (go_at_call 9; (with_reducible refine (Check_none _).mono ?_); rintro e w3 ⟨rfl, hB⟩; have HQ := Aside0.mk (HP.out.below hB); clear HP hB hc0 hc1 hc2 hc3 hc4 hc5 hc6 hc7 hc8 hc9 hc10 hc11 hc12 hc13 hc14; have HP := HQ; clear HQ; have hc0 := HP.out.cell 0 rfl; have hc1 := HP.out.cell 1 rfl; have hc2 := HP.out.cell 2 rfl; have hc3 := HP.out.cell 3 rfl; have hc4 := HP.out.cell 4 rfl; have hc5 := HP.out.cell 5 rfl; have hc6 := HP.out.cell 6 rfl; have hc7 := HP.out.cell 7 rfl; have hc8 := HP.out.cell 8 rfl; have hc9 := HP.out.cell 9 rfl; have hc10 := HP.out.cell 10 rfl; have hc11 := HP.out.cell 11 rfl; have hc12 := HP.out.cell 12 rfl; have hc13 := HP.out.cell 13 rfl; have hc14 := HP.out.cell 14 rfl))
  have HPd := Aside0.mk (HP.out.below (below_drew (Below.refl _ _)))
  go_region_held3 (fun w' => w'.cell? ⟨g, 0, none⟩ = some (.string { data := #[112] }) ∧ w'.cell? ⟨g, 1, none⟩ = some (.int .i64 1) ∧ w'.cell? ⟨g, 2, none⟩ = some (.int .i64 5) ∧ w'.cell? ⟨g, 3, none⟩ = some (.int .i64 10) ∧ w'.cell? ⟨g, 4, none⟩ = some (.slice none 0 0) ∧ w'.cell? ⟨g, 5, none⟩ = some (.slice none 0 0) ∧ w'.cell? ⟨g, 6, none⟩ = some (.slice none 0 0) ∧ w'.cell? ⟨g, 7, none⟩ = some (.slice none 0 0) ∧ w'.cell? ⟨g, 8, none⟩ = some (.slice none 0 0) ∧ w'.cell? ⟨g, 9, none⟩ = some (.slice none 0 0) ∧ w'.cell? ⟨g, 10, none⟩ = some (.slice none 0 0) ∧ w'.cell? ⟨g, 11, none⟩ = some (.int .i64 0) ∧ w'.cell? ⟨g, 12, none⟩ = some (.int .i64 0) ∧ w'.cell? ⟨g, 13, none⟩ = some (.int .i64 0) ∧ w'.cell? ⟨g, 14, none⟩ = some (.int .i64 0)) (first | exact ⟨hc0, hc1, hc2, hc3, hc4, hc5, hc6, hc7, hc8, hc9, hc10, hc11, hc12, hc13, hc14⟩ | exact ⟨pw_cell_below (below_alloc (Below.refl _ _) _) hc0, pw_cell_below (below_alloc (Below.refl _ _) _) hc1, pw_cell_below (below_alloc (Below.refl _ _) _) hc2, pw_cell_below (below_alloc (Below.refl _ _) _) hc3, pw_cell_below (below_alloc (Below.refl _ _) _) hc4, pw_cell_below (below_alloc (Below.refl _ _) _) hc5, pw_cell_below (below_alloc (Below.refl _ _) _) hc6, pw_cell_below (below_alloc (Below.refl _ _) _) hc7, pw_cell_below (below_alloc (Below.refl _ _) _) hc8, pw_cell_below (below_alloc (Below.refl _ _) _) hc9, pw_cell_below (below_alloc (Below.refl _ _) _) hc10, pw_cell_below (below_alloc (Below.refl _ _) _) hc11, pw_cell_below (below_alloc (Below.refl _ _) _) hc12, pw_cell_below (below_alloc (Below.refl _ _) _) hc13, pw_cell_below (below_alloc (Below.refl _ _) _) hc14⟩) (first
    | (go_at_call 11; refine (Right_p _).mono ?_; rintro e w3 ⟨rfl, hB⟩; have HQ := Aside0.mk (HPd.out.below hB); clear HPd hB hc0 hc1 hc2 hc3 hc4 hc5 hc6 hc7 hc8 hc9 hc10 hc11 hc12 hc13 hc14; have HPd := HQ; clear HQ; have hc0 := HPd.out.cell 0 rfl; have hc1 := HPd.out.cell 1 rfl; have hc2 := HPd.out.cell 2 rfl; have hc3 := HPd.out.cell 3 rfl; have hc4 := HPd.out.cell 4 rfl; have hc5 := HPd.out.cell 5 rfl; have hc6 := HPd.out.cell 6 rfl; have hc7 := HPd.out.cell 7 rfl; have hc8 := HPd.out.cell 8 rfl; have hc9 := HPd.out.cell 9 rfl; have hc10 := HPd.out.cell 10 rfl; have hc11 := HPd.out.cell 11 rfl; have hc12 := HPd.out.cell 12 rfl; have hc13 := HPd.out.cell 13 rfl; have hc14 := HPd.out.cell 14 rfl)
    | (go_at_call 12; refine (Plans_p _).mono ?_; rintro e w3 ⟨rfl, hB⟩; have HQ := Aside0.mk (HPd.out.below hB); clear HPd hB hc0 hc1 hc2 hc3 hc4 hc5 hc6 hc7 hc8 hc9 hc10 hc11 hc12 hc13 hc14; have HPd := HQ; clear HQ; have hc0 := HPd.out.cell 0 rfl; have hc1 := HPd.out.cell 1 rfl; have hc2 := HPd.out.cell 2 rfl; have hc3 := HPd.out.cell 3 rfl; have hc4 := HPd.out.cell 4 rfl; have hc5 := HPd.out.cell 5 rfl; have hc6 := HPd.out.cell 6 rfl; have hc7 := HPd.out.cell 7 rfl; have hc8 := HPd.out.cell 8 rfl; have hc9 := HPd.out.cell 9 rfl; have hc10 := HPd.out.cell 10 rfl; have hc11 := HPd.out.cell 11 rfl; have hc12 := HPd.out.cell 12 rfl; have hc13 := HPd.out.cell 13 rfl; have hc14 := HPd.out.cell 14 rfl)
    | (go_at_call 14; refine (Copy_p _).mono ?_; rintro e w3 ⟨rfl, hB⟩; have HQ := Aside0.mk (HPd.out.below hB); clear HPd hB hc0 hc1 hc2 hc3 hc4 hc5 hc6 hc7 hc8 hc9 hc10 hc11 hc12 hc13 hc14; have HPd := HQ; clear HQ; have hc0 := HPd.out.cell 0 rfl; have hc1 := HPd.out.cell 1 rfl; have hc2 := HPd.out.cell 2 rfl; have hc3 := HPd.out.cell 3 rfl; have hc4 := HPd.out.cell 4 rfl; have hc5 := HPd.out.cell 5 rfl; have hc6 := HPd.out.cell 6 rfl; have hc7 := HPd.out.cell 7 rfl; have hc8 := HPd.out.cell 8 rfl; have hc9 := HPd.out.cell 9 rfl; have hc10 := HPd.out.cell 10 rfl; have hc11 := HPd.out.cell 11 rfl; have hc12 := HPd.out.cell 12 rfl; have hc13 := HPd.out.cell 13 rfl; have hc14 := HPd.out.cell 14 rfl)
    | (go_at_call 13; refine (Same_p _).mono ?_; rintro e w3 ⟨rfl, hB⟩; have HQ := Aside0.mk (HPd.out.below hB); clear HPd hB hc0 hc1 hc2 hc3 hc4 hc5 hc6 hc7 hc8 hc9 hc10 hc11 hc12 hc13 hc14; have HPd := HQ; clear HQ; have hc0 := HPd.out.cell 0 rfl; have hc1 := HPd.out.cell 1 rfl; have hc2 := HPd.out.cell 2 rfl; have hc3 := HPd.out.cell 3 rfl; have hc4 := HPd.out.cell 4 rfl; have hc5 := HPd.out.cell 5 rfl; have hc6 := HPd.out.cell 6 rfl; have hc7 := HPd.out.cell 7 rfl; have hc8 := HPd.out.cell 8 rfl; have hc9 := HPd.out.cell 9 rfl; have hc10 := HPd.out.cell 10 rfl; have hc11 := HPd.out.cell 11 rfl; have hc12 := HPd.out.cell 12 rfl; have hc13 := HPd.out.cell 13 rfl; have hc14 := HPd.out.cell 14 rfl)
    | (go_at_call 6; refine (Rule_is _ 2 8 _ 2 2 [1, 0] 0 0 true 0 rfl (litC _) (Nat.le_refl _) (by decide)).mono ?_; rintro e w3 ⟨rfl, hB⟩; rw [rule_ex]; have hB2 := below_then (below_alloc (Below.refl _ _) _) (below_size (below_alloc (Below.refl _ _) _)) hB; clear hB; have hB := hB2; clear hB2; have HQ := Aside0.mk (HPd.out.below hB); clear HPd hB hc0 hc1 hc2 hc3 hc4 hc5 hc6 hc7 hc8 hc9 hc10 hc11 hc12 hc13 hc14; have HPd := HQ; clear HQ; have hc0 := HPd.out.cell 0 rfl; have hc1 := HPd.out.cell 1 rfl; have hc2 := HPd.out.cell 2 rfl; have hc3 := HPd.out.cell 3 rfl; have hc4 := HPd.out.cell 4 rfl; have hc5 := HPd.out.cell 5 rfl; have hc6 := HPd.out.cell 6 rfl; have hc7 := HPd.out.cell 7 rfl; have hc8 := HPd.out.cell 8 rfl; have hc9 := HPd.out.cell 9 rfl; have hc10 := HPd.out.cell 10 rfl; have hc11 := HPd.out.cell 11 rfl; have hc12 := HPd.out.cell 12 rfl; have hc13 := HPd.out.cell 13 rfl; have hc14 := HPd.out.cell 14 rfl)
    | (go_at_call 15; refine (FindClass_p _).mono ?_; rintro e w3 ⟨rfl, hB⟩; have HQ := Aside0.mk (HPd.out.below hB); clear HPd hB hc0 hc1 hc2 hc3 hc4 hc5 hc6 hc7 hc8 hc9 hc10 hc11 hc12 hc13 hc14; have HPd := HQ; clear HQ; have hc0 := HPd.out.cell 0 rfl; have hc1 := HPd.out.cell 1 rfl; have hc2 := HPd.out.cell 2 rfl; have hc3 := HPd.out.cell 3 rfl; have hc4 := HPd.out.cell 4 rfl; have hc5 := HPd.out.cell 5 rfl; have hc6 := HPd.out.cell 6 rfl; have hc7 := HPd.out.cell 7 rfl; have hc8 := HPd.out.cell 8 rfl; have hc9 := HPd.out.cell 9 rfl; have hc10 := HPd.out.cell 10 rfl; have hc11 := HPd.out.cell 11 rfl; have hc12 := HPd.out.cell 12 rfl; have hc13 := HPd.out.cell 13 rfl; have hc14 := HPd.out.cell 14 rfl))
  go_wp2
  go_ret
  exact ⟨rfl, HPd.out.bel⟩
end Go.Proofs.Ytineikfhfmiidaa.Pm

/- The law ProblemRules, walked. -/
namespace Go.Proofs.Ytineikfhfmiidaa.Pm
open Go Go.RowKit Go.Proofs.Ytineikfhfmiidaa.Gp Go.Proofs.Ytineikfhfmiidaa.Mw Go.Proofs.YtineikfhfmiidaaW.PrintWords Go.Proofs.YtineikfhfmiidaaW.PrintLast Go.Proofs.YtineikfhfmiidaaW.PrintMore
set_option linter.unusedVariables false
set_option linter.unusedSimpArgs false
set_option maxRecDepth 100000 in
set_option maxHeartbeats 2000000 in
theorem Rules_is (w : World) (n k : Int) (A : Option Addr) (m c : Nat) (cs : List Int) (a b : Int) (hard : Bool) (cost : Int) (hm : cs.length = m) (hC : (Kd.int .i64).C w A cs.length cs) (hc : m ≤ c) (hn : n ≤ 9223372036854775807) :
    Calls Try.prog 3 #[.int .i64 n, .agg #[.int .i64 k, .slice A m c, .int .i64 a, .int .i64 b, .bool hard, .int .i64 cost]] w fun e w' => e = .returned (.bool true) ∧ Below w.heap.size w w' := by
  have HC := Aside0.mk hC
  have HM := Aside0.mk hm
  clear hC hm
  have hu25 := Try.underlying25
  by_cases hbig : 200 < m
  · have hb2 : (200 : Int) < (m : Int) := by omega
    go_enter Try.func3, Try.ntmps3
    go_wp2_with (first
      | ((with_reducible refine gate_dst (N := 3) rfl ?_); refine box_event ?hg (N := 3) ?hd (cs := #[.int .i64 k, .slice A m c, .int .i64 a, .int .i64 b, .bool hard, .int .i64 cost]) (t := 25) ?hr ?_; (case hd => rfl); (case hg => rfl); (case hr => first | (go_simp; done) | (go_simp; rfl)); intro g hg w2 hbox hB; have HP := Aside0.mk (PBox.mk hbox hB (show w.heap.size ≤ g by rw [hg]; exact Nat.le_refl _)); clear hbox hB hg; have hc0 := HP.out.cell 0 rfl; have hc1 := HP.out.cell 1 rfl; have hc2 := HP.out.cell 2 rfl; have hc3 := HP.out.cell 3 rfl; have hc4 := HP.out.cell 4 rfl; have hc5 := HP.out.cell 5 rfl)
      | (go_at_call 5; refine (heads_is _).mono ?_; rintro e w3 ⟨rfl, hB⟩; have HQ := Aside0.mk (HP.out.below hB); clear HP hB hc0 hc1 hc2 hc3 hc4 hc5; have HP := HQ; clear HQ; have hc0 := HP.out.cell 0 rfl; have hc1 := HP.out.cell 1 rfl; have hc2 := HP.out.cell 2 rfl; have hc3 := HP.out.cell 3 rfl; have hc4 := HP.out.cell 4 rfl; have hc5 := HP.out.cell 5 rfl))
    go_ret
    exact ⟨rfl, HP.out.bel⟩
  have hb2 : ¬ (200 : Int) < (m : Int) := by omega
  cases hr : ruleOk n k cs a b hard cost with
  | true =>
    have HR := Aside0.mk hr
    clear hr
    go_enter Try.func3, Try.ntmps3
    go_wp2_with (first
      | ((with_reducible refine gate_dst (N := 3) rfl ?_); refine box_event ?hg (N := 3) ?hd (cs := #[.int .i64 k, .slice A m c, .int .i64 a, .int .i64 b, .bool hard, .int .i64 cost]) (t := 25) ?hr ?_; (case hd => rfl); (case hg => rfl); (case hr => first | (go_simp; done) | (go_simp; rfl)); intro g hg w2 hbox hB; have HP := Aside0.mk (PBox.mk hbox hB (show w.heap.size ≤ g by rw [hg]; exact Nat.le_refl _)); clear hbox hB hg; have hc0 := HP.out.cell 0 rfl; have hc1 := HP.out.cell 1 rfl; have hc2 := HP.out.cell 2 rfl; have hc3 := HP.out.cell 3 rfl; have hc4 := HP.out.cell 4 rfl; have hc5 := HP.out.cell 5 rfl))
    have HPd := Aside0.mk (HP.out.below (below_drew (Below.refl _ _)))
    go_region_held3 (fun w' => w'.cell? ⟨g, 0, none⟩ = some (.int .i64 k) ∧ w'.cell? ⟨g, 1, none⟩ = some (.slice A m c) ∧ w'.cell? ⟨g, 2, none⟩ = some (.int .i64 a) ∧ w'.cell? ⟨g, 3, none⟩ = some (.int .i64 b) ∧ w'.cell? ⟨g, 4, none⟩ = some (.bool hard) ∧ w'.cell? ⟨g, 5, none⟩ = some (.int .i64 cost)) (first | exact ⟨hc0, hc1, hc2, hc3, hc4, hc5⟩) (first
      | (go_at_call 6; refine (Rule_is _ n k A m c cs a b hard cost HM.out (Kd.C_below HC.out HPd.out.bel) hc hn).mono ?_; rintro e w3 ⟨rfl, hB⟩; rw [HR.out]; have HQ := Aside0.mk (HPd.out.below hB); clear HPd hB hc0 hc1 hc2 hc3 hc4 hc5; have HPd := HQ; clear HQ; have hc0 := HPd.out.cell 0 rfl; have hc1 := HPd.out.cell 1 rfl; have hc2 := HPd.out.cell 2 rfl; have hc3 := HPd.out.cell 3 rfl; have hc4 := HPd.out.cell 4 rfl; have hc5 := HPd.out.cell 5 rfl)
      | (go_at_call 7; refine (RRule_is _ n k A m c cs a b hard cost HM.out (Kd.C_below HC.out HPd.out.bel) hc hn).mono ?_; rintro e w3 ⟨rfl, hB⟩; rw [HR.out]; have HQ := Aside0.mk (HPd.out.below hB); clear HPd hB hc0 hc1 hc2 hc3 hc4 hc5; have HPd := HQ; clear HQ; have hc0 := HPd.out.cell 0 rfl; have hc1 := HPd.out.cell 1 rfl; have hc2 := HPd.out.cell 2 rfl; have hc3 := HPd.out.cell 3 rfl; have hc4 := HPd.out.cell 4 rfl; have hc5 := HPd.out.cell 5 rfl)
      | (go_at_call 5; refine (heads_is _).mono ?_; rintro e w3 ⟨rfl, hB⟩; have HQ := Aside0.mk (HPd.out.below hB); clear HPd hB hc0 hc1 hc2 hc3 hc4 hc5; have HPd := HQ; clear HQ; have hc0 := HPd.out.cell 0 rfl; have hc1 := HPd.out.cell 1 rfl; have hc2 := HPd.out.cell 2 rfl; have hc3 := HPd.out.cell 3 rfl; have hc4 := HPd.out.cell 4 rfl; have hc5 := HPd.out.cell 5 rfl))
    go_wp2
    go_ret
    exact ⟨rfl, HPd.out.bel⟩
  | false =>
    have HR := Aside0.mk hr
    clear hr
    go_enter Try.func3, Try.ntmps3
    go_wp2_with (first
      | ((with_reducible refine gate_dst (N := 3) rfl ?_); refine box_event ?hg (N := 3) ?hd (cs := #[.int .i64 k, .slice A m c, .int .i64 a, .int .i64 b, .bool hard, .int .i64 cost]) (t := 25) ?hr ?_; (case hd => rfl); (case hg => rfl); (case hr => first | (go_simp; done) | (go_simp; rfl)); intro g hg w2 hbox hB; have HP := Aside0.mk (PBox.mk hbox hB (show w.heap.size ≤ g by rw [hg]; exact Nat.le_refl _)); clear hbox hB hg; have hc0 := HP.out.cell 0 rfl; have hc1 := HP.out.cell 1 rfl; have hc2 := HP.out.cell 2 rfl; have hc3 := HP.out.cell 3 rfl; have hc4 := HP.out.cell 4 rfl; have hc5 := HP.out.cell 5 rfl))
    have HPd := Aside0.mk (HP.out.below (below_drew (Below.refl _ _)))
    go_region_held3 (fun w' => w'.cell? ⟨g, 0, none⟩ = some (.int .i64 k) ∧ w'.cell? ⟨g, 1, none⟩ = some (.slice A m c) ∧ w'.cell? ⟨g, 2, none⟩ = some (.int .i64 a) ∧ w'.cell? ⟨g, 3, none⟩ = some (.int .i64 b) ∧ w'.cell? ⟨g, 4, none⟩ = some (.bool hard) ∧ w'.cell? ⟨g, 5, none⟩ = some (.int .i64 cost)) (first | exact ⟨hc0, hc1, hc2, hc3, hc4, hc5⟩) (first
      | (go_at_call 6; refine (Rule_is _ n k A m c cs a b hard cost HM.out (Kd.C_below HC.out HPd.out.bel) hc hn).mono ?_; rintro e w3 ⟨rfl, hB⟩; rw [HR.out]; have HQ := Aside0.mk (HPd.out.below hB); clear HPd hB hc0 hc1 hc2 hc3 hc4 hc5; have HPd := HQ; clear HQ; have hc0 := HPd.out.cell 0 rfl; have hc1 := HPd.out.cell 1 rfl; have hc2 := HPd.out.cell 2 rfl; have hc3 := HPd.out.cell 3 rfl; have hc4 := HPd.out.cell 4 rfl; have hc5 := HPd.out.cell 5 rfl)
      | (go_at_call 7; refine (RRule_is _ n k A m c cs a b hard cost HM.out (Kd.C_below HC.out HPd.out.bel) hc hn).mono ?_; rintro e w3 ⟨rfl, hB⟩; rw [HR.out]; have HQ := Aside0.mk (HPd.out.below hB); clear HPd hB hc0 hc1 hc2 hc3 hc4 hc5; have HPd := HQ; clear HQ; have hc0 := HPd.out.cell 0 rfl; have hc1 := HPd.out.cell 1 rfl; have hc2 := HPd.out.cell 2 rfl; have hc3 := HPd.out.cell 3 rfl; have hc4 := HPd.out.cell 4 rfl; have hc5 := HPd.out.cell 5 rfl)
      | (go_at_call 5; refine (heads_is _).mono ?_; rintro e w3 ⟨rfl, hB⟩; have HQ := Aside0.mk (HPd.out.below hB); clear HPd hB hc0 hc1 hc2 hc3 hc4 hc5; have HPd := HQ; clear HQ; have hc0 := HPd.out.cell 0 rfl; have hc1 := HPd.out.cell 1 rfl; have hc2 := HPd.out.cell 2 rfl; have hc3 := HPd.out.cell 3 rfl; have hc4 := HPd.out.cell 4 rfl; have hc5 := HPd.out.cell 5 rfl))
    go_wp2
    go_ret
    exact ⟨rfl, HPd.out.bel⟩
end Go.Proofs.Ytineikfhfmiidaa.Pm

/- Arguments of any shape, opened: what a reading of an argument tells of its cells, kind by kind. -/
namespace Go.Proofs.Ytineikfhfmiidaa.Ak
open Go Go.RowKit Go.ChangeShapes Go.WideShapes Go.Proofs.YtineikfhfmiidaaW.PrintWords
set_option linter.unusedVariables false
set_option linter.unusedSimpArgs false
section
variable {P : Program} {α β : Type}
/-- What reads as type t has cells of this kind, and a value that is good. -/
def Opens (P : Program) (t : TypeId) (d : Kd α) (good : α → Prop) : Prop :=
  ∀ (H : Type) (enc : TypeId × Value → H) (w : World) (base : Nat) (spare : Nat → Bool) (held : Bool) (n : Nat) (cs : List Value) (x : DataW H × List MemPlace), DataW.trod enc P w base spare held n t cs = some x → ∃ y, d.K w y cs ∧ good y
def FOpens (P : Program) (fl : List Field) (o : Nat) (d : Kd α) (good : α → Prop) : Prop :=
  ∀ (H : Type) (enc : TypeId × Value → H) (w : World) (base : Nat) (spare : Nat → Bool) (held : Bool) (n : Nat) (cs : List Value), cs.length = o + d.sz → (∀ f, f ∈ fl → ∃ x, DataW.trod enc P w base spare held n f.type ((cs.drop f.offset).take (P.cellsOf f.type)) = some x) → ∃ y, d.K w y (cs.drop o) ∧ good y
theorem opens_int {t : TypeId} {k : IntKind} (ht : P.underlying t = some (.int k)) : Opens P t (Kd.int k) (fun n => (Lit.int k n).wf = true) := by
  intro H enc w base spare held n cs x h
  obtain ⟨a, rfl, _, hw⟩ := DataW.trod_int ht h
  exact ⟨a, rfl, hw⟩
theorem opens_bool {t : TypeId} (ht : P.underlying t = some .bool) : Opens P t Kd.bool (fun _ => True) := by
  intro H enc w base spare held n cs x h
  obtain ⟨a, rfl, _⟩ := DataW.trod_bool ht h
  exact ⟨a, rfl, trivial⟩
theorem opens_string {t : TypeId} (ht : P.underlying t = some .string) : Opens P t Kd.string (fun s => s.size ≤ maxLen) := by
  intro H enc w base spare held n cs x h
  obtain ⟨a, rfl, _, hw⟩ := DataW.trod_string ht h
  exact ⟨a, rfl, hw⟩
theorem getLast_irrel {α : Type} (l : List α) (i : Nat) (h : i < l.length) (d : α) : l.getD i d = l[i] := by
  rw [List.getD_eq_getElem?_getD, List.getElem?_eq_getElem h]; rfl
theorem opens_slice {t e : TypeId} {q : Nat} {d : Kd α} {good : α → Prop} (ht : P.underlying t = some (.slice e)) (hd : Opens P e d good) (hs : P.cellsOf e = d.sz) : Opens P t (Kd.slice q d) (fun xs => ∀ y, y ∈ xs → good y) := by
  intro H enc w base spare held n cs x h
  rcases Deep.open_slice ht h with ⟨rfl, _⟩ | ⟨a, len, cap, m, k, D, Pl, rfl, hb, hl, hm, hmm, hxe, hx⟩
  · exact ⟨[], ⟨none, 0, rfl, Nat.le_refl _, rfl, by simp, fun h0 => absurd h0 (Nat.lt_irrefl 0)⟩, fun y hy => by cases hy⟩
  · have hlm : len ≤ m := by rw [hmm]; split <;> omega
    have key : ∀ i, i < len → ∃ y : α, (∃ c, c.length = d.sz ∧ d.K w y c ∧ ∀ j u, c[j]? = some u → w.cell? (a.add (i * d.sz + j)) = some u) ∧ good y := by
      intro i hi
      obtain ⟨cs', h1, h2⟩ := hx i (by omega)
      rw [hs] at h1
      obtain ⟨_, hlen, hcell⟩ := World.cells?_some h1
      obtain ⟨y, hy, hg⟩ := hd _ _ _ _ _ _ _ _ _ h2
      refine ⟨y, ⟨cs', hlen, hy, fun j u hu => ?_⟩, hg⟩
      have hj : j < d.sz := by rw [← hlen]; exact (List.getElem?_eq_some_iff.1 hu).1
      have := hcell j hj
      rw [Deep.add_add] at this
      rw [this, hu]
    obtain ⟨ys, hyl, hy⟩ : ∃ ys : List α, ys.length = len ∧ ∀ j p, ys[j]? = some p → (∃ c, c.length = d.sz ∧ d.K w p c ∧ ∀ i u, c[i]? = some u → w.cell? (a.add (j * d.sz + i)) = some u) ∧ good p := by
      clear h hx hl hm hmm hlm hxe
      induction len with
      | zero => exact ⟨[], rfl, fun j p hp => by simp at hp⟩
      | succ k ih =>
        obtain ⟨ys, hyl, hy⟩ := ih (fun i hi => key i (by omega))
        obtain ⟨y, hy1⟩ := key k (by omega)
        refine ⟨ys ++ [y], by simp [hyl], fun j p hp => ?_⟩
        by_cases e : j < ys.length
        · rw [List.getElem?_append_left e] at hp
          exact hy j p hp
        · rw [List.getElem?_append_right (by omega)] at hp
          have hj : j - ys.length = 0 := by
            have := (List.getElem?_eq_some_iff.1 hp).1
            simp at this
            omega
          rw [hj] at hp
          simp at hp
          subst hp
          have : j = k := by omega
          subst this
          exact hy1
    refine ⟨ys, ⟨some a, cap, by rw [hyl], by omega, rfl, by rw [hyl]; unfold maxLen at hm; omega, fun _ => ⟨a, rfl, fun j p hp => ?_⟩⟩, fun y hy2 => ?_⟩
    · obtain ⟨⟨c, h1, h2, h3⟩, _⟩ := hy j p hp
      exact ⟨c, h1, h2, h3⟩
    · obtain ⟨j, hj, rfl⟩ := List.getElem_of_mem hy2
      exact (hy j _ (List.getElem?_eq_getElem hj)).2
theorem fopens_one {f : Field} {o : Nat} {d : Kd α} {good : α → Prop} (hd : Opens P f.type d good) (ho : f.offset = o) (hs : P.cellsOf f.type = d.sz) : FOpens P [f] o d good := by
  intro H enc w base spare held n cs hl hf
  obtain ⟨x, hx⟩ := hf f (List.mem_singleton.2 rfl)
  rw [ho, hs, List.take_of_length_le (by rw [List.length_drop]; omega)] at hx
  exact hd _ _ _ _ _ _ _ _ _ hx
theorem fopens_cons {f : Field} {fl : List Field} {o : Nat} {d : Kd α} {d' : Kd β} {good : α → Prop} {good' : β → Prop} (hd : Opens P f.type d good) (ho : f.offset = o) (hs : P.cellsOf f.type = d.sz) (hr : FOpens P fl (o + d.sz) d' good') : FOpens P (f :: fl) o (Kd.pair d d') (fun y => good y.1 ∧ good' y.2) := by
  intro H enc w base spare held n cs hl hf
  have hl2 : cs.length = o + (d.sz + d'.sz) := hl
  obtain ⟨x, hx⟩ := hf f List.mem_cons_self
  rw [ho, hs] at hx
  obtain ⟨y, hy, hg⟩ := hd _ _ _ _ _ _ _ _ _ hx
  obtain ⟨z, hz, hg2⟩ := hr H enc w base spare held n cs (by omega) (fun f2 hf2 => hf f2 (List.mem_cons_of_mem _ hf2))
  exact ⟨(y, z), ⟨_, _, by rw [← List.drop_drop, List.take_append_drop], hy, hz⟩, hg, hg2⟩
theorem opens_struct {t : TypeId} {fs : Array Field} {d : Kd α} {good : α → Prop} (ht : P.underlying t = some (.struct fs)) (hF : FOpens P fs.toList 0 d good) (hs : P.cellsOf t = d.sz) : Opens P t d good := by
  intro H enc w base spare held n cs x h
  obtain ⟨xs, m, rfl, rfl, hl, hxl, hx⟩ := DataW.trod_struct ht h
  have := hF H enc w base spare held m cs (by rw [hl, hs]; omega) (fun f hf => ?_)
  · rw [List.drop_zero] at this
    exact this
  · obtain ⟨i, hi, rfl⟩ := List.getElem_of_mem hf
    have hi2 : i < fs.size := by simpa using hi
    have h3 := hx i fs.toList[i] (by simp [hi2])
    rw [h3, List.getElem?_eq_getElem (by omega)]
    exact ⟨_, rfl⟩
theorem open_any {H : Type} {enc : TypeId × Value → H} {w : World} {base : Nat} {spare : Nat → Bool} {held : Bool} {t : TypeId} {v : Value} {dd : DataW H} {ps : List MemPlace} {d : Kd α} {good : α → Prop} (hd : Opens P t d good) (h : DataW.Trod enc P w base spare held t v dd ps) : ∃ y, d.K w y v.cells.toList ∧ good y := by
  obtain ⟨fuel, hf⟩ := h
  exact hd _ _ _ _ _ _ _ _ _ hf
end
theorem i64_lo {a : Int} (h : (Lit.int .i64 a).wf = true) : -9223372036854775808 ≤ a := by
  simp [Lit.wf, IntKind.min, IntKind.max, IntKind.signed, IntKind.bits] at h
  omega
theorem i64_hi {a : Int} (h : (Lit.int .i64 a).wf = true) : a ≤ 9223372036854775807 := by
  simp [Lit.wf, IntKind.min, IntKind.max, IntKind.signed, IntKind.bits] at h
  omega
end Go.Proofs.Ytineikfhfmiidaa.Ak

/- A rule among a law's arguments. -/
namespace Go.Proofs.Ytineikfhfmiidaa.Ak
open Go Go.RowKit Go.ChangeShapes Go.WideShapes Go.Proofs.YtineikfhfmiidaaW.PrintWords
set_option linter.unusedVariables false
set_option linter.unusedSimpArgs false
abbrev KRule : Kd (Int × List Int × Int × Int × Bool × Int) := Kd.pair (Kd.int .i64) (Kd.pair (Kd.slice 3 (Kd.int .i64)) (Kd.pair (Kd.int .i64) (Kd.pair (Kd.int .i64) (Kd.pair Kd.bool (Kd.int .i64)))))
set_option maxRecDepth 100000 in
theorem opens_rule : Opens Try.prog 25 KRule (fun y => (Lit.int .i64 y.1).wf = true ∧ (∀ z, z ∈ y.2.1 → (Lit.int .i64 z).wf = true) ∧ (Lit.int .i64 y.2.2.1).wf = true ∧ (Lit.int .i64 y.2.2.2.1).wf = true ∧ True ∧ (Lit.int .i64 y.2.2.2.2.2).wf = true) :=
  opens_struct Try.underlying25
    (fopens_cons (opens_int Try.underlying22) rfl (by kernel_rfl)
    (fopens_cons (opens_slice Try.underlying23 (opens_int Try.underlying3) (by kernel_rfl)) rfl (by kernel_rfl)
    (fopens_cons (opens_int Try.underlying3) rfl (by kernel_rfl)
    (fopens_cons (opens_int Try.underlying3) rfl (by kernel_rfl)
    (fopens_cons (opens_bool Try.underlying4) rfl (by kernel_rfl)
    (fopens_one (opens_int Try.underlying3) rfl (by kernel_rfl))))))) (by kernel_rfl)
theorem agg_of {cs : Array Value} {l : List Value} (h : cs.toList = l) : Value.agg cs = .agg l.toArray := by rw [← h]
set_option maxRecDepth 100000 in
theorem open_rule {H : Type} {enc : TypeId × Value → H} {w : World} {base b0 : Nat} {r : Reach} {spare : Nat → Bool} {held : Bool} {v : Value} {dd : DataW H} {ps : List MemPlace} (hv : Value.okWide Try.prog w r b0 25 v)
    (h : DataW.Trod enc Try.prog w base spare held 25 v dd ps) :
    ∃ (k : Int) (A : Option Addr) (m c : Nat) (cs : List Int) (a b : Int) (hard : Bool) (cost : Int), v = .agg #[.int .i64 k, .slice A m c, .int .i64 a, .int .i64 b, .bool hard, .int .i64 cost] ∧ cs.length = m ∧ (Kd.int .i64).C w A cs.length cs ∧ m ≤ c := by
  obtain ⟨cells, rfl, _⟩ := okWide_struct Try.underlying25 hv
  obtain ⟨⟨k, cs, a, b, hard, cost⟩, hK, hg⟩ := open_any opens_rule h
  obtain ⟨c0, r0, e0, h0, hK⟩ := hK
  obtain ⟨c1, r1, rfl, ⟨A, c, rfl, hl, hC⟩, hK⟩ := hK
  obtain ⟨c2, r2, rfl, h2, hK⟩ := hK
  obtain ⟨c3, r3, rfl, h3, hK⟩ := hK
  obtain ⟨c4, r4, rfl, h4, h5⟩ := hK
  have h0' : c0 = [.int .i64 k] := h0
  have h2' : c2 = [.int .i64 a] := h2
  have h3' : c3 = [.int .i64 b] := h3
  have h4' : c4 = [.bool hard] := h4
  have h5' : r4 = [.int .i64 cost] := h5
  subst h0' h2' h3' h4' h5'
  exact ⟨k, A, cs.length, c, cs, a, b, hard, cost, agg_of e0, rfl, hC, hl⟩
end Go.Proofs.Ytineikfhfmiidaa.Ak
