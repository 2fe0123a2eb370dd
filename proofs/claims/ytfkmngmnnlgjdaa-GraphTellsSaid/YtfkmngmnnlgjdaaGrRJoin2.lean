/- The document's Join where it joins. -/
import Derived.Test.YtfkmngmnnlgjdaaGrRJoin
namespace Go.Proofs.Ytfkmngmnnlgjdaa.Gr
open Go Go.RowKit Go.Proofs.Ytfkmngmnnlgjdaa.Gf Go.Proofs.Ytfkmngmnnlgjdaa.Pu Go.Proofs.Ytfkmngmnnlgjdaa.Pr Go.Proofs.Ytfkmngmnnlgjdaa.Mw Go.Proofs.YtfkmngmnnlgjdaaW.PrintWords Go.Proofs.YtfkmngmnnlgjdaaW.PrintLast Go.Proofs.YtfkmngmnnlgjdaaW.PrintMore
set_option linter.unusedVariables false
set_option linter.unusedSimpArgs false
theorem infoB : (Try.prog.info? 4).map (fun i => (i.zero, i.size, i.bytes)) = some (some (.bool false), 1, 1) := by kernel_rfl
theorem grown_none {w w1 : World} (hg : w.grownBy w1 none) : Below w.heap.size w w1 := (Below.refl w.heap.size w).grown hg (Nat.le_refl _) (fun k e => by cases e)
def RJoinR.T4 : Bool × List (List Nat × List Nat) := (true, [([], []), ([], []), ([], []), ([2], [2]), ([1, 3], [1, 3]), ([], []), ([4, 5], [4, 5]), ([], []), ([], []), ([], []), ([9], [9]), ([8, 10], [8, 10]), ([], []), ([11, 12], [11, 12]), ([0, 6, 0, 1, 2, 3, 4, 5, 6], [0, 6]), ([14, 0, 1, 2, 3, 4, 5, 6], [14]), ([7, 13, 0, 1, 2, 3, 4, 5, 6, 7, 8, 9, 10, 11, 12, 13, 14, 15], [7, 13]), ([16, 15, 0, 1, 2, 3, 4, 5, 6, 7, 8, 9, 10, 11, 12, 13, 14, 15], [16])])
def RJoinR.B4 : List Nat := [0, 0, 0, 4, 14, 0, 62, 0, 0, 0, 512, 1792, 0, 7936, 127, 16511, 65535, 131071]
theorem RJoinR.tab4 : rtab .any (opsOf Try.f13 4) = RJoinR.T4 := by kernel_rfl
theorem RJoinR.bits4 : waitsOk RJoinR.T4.2 RJoinR.B4 = true := by kernel_rfl
theorem R_full {α : Type} {d : Kd α} {w : World} {e base : Nat} {ok : Nat → Prop} {v : Value} {xs : List α} (hR : d.R e w base ok v xs) (h : 0 < xs.length) : ∃ ga c, v = .slice (some ⟨ga, 0, none⟩) xs.length c := by
  obtain ⟨inner, ho⟩ := Kd.R_own hR
  obtain ⟨_, h2 | ⟨b, cap, cur, he, _⟩⟩ := ho
  · have := h2.2
    omega
  · exact ⟨b, cap, he⟩
set_option maxRecDepth 100000 in
set_option maxHeartbeats 4000000 in
theorem RJoin_yes (w : World) (v : Value) (n : Nat) (adj : Adj) (x y : Nat) (h : RIs w v n adj) (hx : x < n) (hy : y < n) (hxy : x ≠ y) (hadj : adj x y = false) :
    Calls Try.prog 13 #[.agg #[.int .i64 n, v], .int .i64 x, .int .i64 y] w fun e w' => ∃ v', e = .returned (.tuple #[.agg #[.int .i64 n, v'], .bool true]) ∧ RIs w' v' n (Pu.put adj x y) ∧ Below w.heap.size w w' := by
  have hu29 := Try.underlying29
  have HR := Lib.hid h
  have hn4 := h.le
  obtain ⟨A, c, on, rfl, hc, hC, hR⟩ := h.rd
  have HRef := Aside0.mk hR
  have HC := Aside0.mk hC
  clear hc hC hR h
  have hab : ((x : Int) == (y : Int)) = false := by simpa using (show ¬ (x : Int) = (y : Int) by omega)
  have HNA := Lib.hid (show isN n (x : Int) = true by unfold isN; simp [hx])
  have HNB := Lib.hid (show isN n (y : Int) = true by unfold isN; simp [hy])
  have HH := Lib.hid (show hasN n adj (x : Int) (y : Int) = false by rw [hasN_nat hx]; exact hadj)
  clear hadj
  have hidx := idx (a := x) (b := y) hn4 hx hy
  have hidy := idx (a := y) (b := x) hn4 hy hx
  have hlen := HRef.out.len
  have hnn : n * n ≤ 400 * 400 := Nat.mul_le_mul hn4 hn4
  have HLen := Aside0.mk hlen
  have HNN := Aside0.mk hnn
  clear hlen hnn
  have HX := Aside0.mk hidx
  have HY := Aside0.mk hidy
  clear hidx hidy
  go_enter Try.func13, Try.ntmps13
  go_wp2_with (first
    | ((with_reducible refine gate_dst (N := 3) rfl ?_); refine box_event ?hg (N := 3) ?hd (cs := #[.int .i64 n, .slice A on.length c]) (t := 29) ?hr ?_; (case hd => rfl); (case hg => rfl); (case hr => first | (go_simp; done) | (go_simp; rfl)); intro gb hgb w1 hbox hb; have BK := Aside0.mk hbox; have HB := Aside0.mk hb; have HR1 := Aside0.mk (HR.out.below hb); have HG := Aside0.mk (show w.heap.size ≤ gb by rw [hgb]; exact Nat.le_refl _); clear hbox hb hgb)
    | ((with_reducible refine gate_dst (N := 6) rfl ?_); refine box_event ?hg (N := 6) ?hd (cs := #[.int .i64 0, .slice none 0 0]) (t := 29) ?hr ?_; (case hd => rfl); (case hg => rfl); (case hr => first | (go_simp; done) | (go_simp; rfl)); intro ge hge w2 hbox hb; have BE := Aside0.mk hbox; have n1 := Aside0.mk (blk_below BK.out hb); have n3 := Aside0.mk (HR1.out.below hb); have HE := Aside0.mk (show w.heap.size ≤ ge by rw [hge]; exact HB.out.size); have NE := Aside0.mk (show gb ≠ ge by rw [hge]; exact Nat.ne_of_lt (blk_lt BK.out)); have n4 := Aside0.mk (below_then HB.out HB.out.size hb); clear hbox hb hge HB BK HR1; have BK := n1; have HR1 := n3; have HB := n4; clear n1 n3 n4; have hcz0 : w2.cell? ⟨gb, 0, none⟩ = some (.int .i64 n) := (blk_cell BK.out 0).trans rfl; have hcz1 : w2.cell? ⟨gb, 1, none⟩ = some (.slice A on.length c) := (blk_cell BK.out 1).trans rfl; have hfz0 := blk_frozen BK.out 0; have hfz1 := blk_frozen BK.out 1; have hdz0 : w2.cell? ⟨ge, 0, none⟩ = some (.int .i64 0) := (blk_cell BE.out 0).trans rfl; have hdz1 : w2.cell? ⟨ge, 1, none⟩ = some (.slice none 0 0) := (blk_cell BE.out 1).trans rfl; have hgz0 := blk_frozen BE.out 0; have hgz1 := blk_frozen BE.out 1)
    | (go_at_call 31; refine (RNode_is _ _ n adj _ HR1.out).mono ?_; rintro e w3 ⟨rfl, hb⟩; (first | rw [HNA.out] | rw [HNB.out]); have n1 := Aside0.mk (blk_below BK.out hb); have n2 := Aside0.mk (blk_below BE.out hb); have n3 := Aside0.mk (HR1.out.below hb); have n4 := Aside0.mk (below_then HB.out HB.out.size hb); clear hcz0 hcz1 hfz0 hfz1 hdz0 hdz1 hgz0 hgz1 BK BE HR1 HB hb; have BK := n1; have BE := n2; have HR1 := n3; have HB := n4; clear n1 n2 n3 n4; have hcz0 : w3.cell? ⟨gb, 0, none⟩ = some (.int .i64 n) := (blk_cell BK.out 0).trans rfl; have hcz1 : w3.cell? ⟨gb, 1, none⟩ = some (.slice A on.length c) := (blk_cell BK.out 1).trans rfl; have hfz0 := blk_frozen BK.out 0; have hfz1 := blk_frozen BK.out 1; have hdz0 : w3.cell? ⟨ge, 0, none⟩ = some (.int .i64 0) := (blk_cell BE.out 0).trans rfl; have hdz1 : w3.cell? ⟨ge, 1, none⟩ = some (.slice none 0 0) := (blk_cell BE.out 1).trans rfl; have hgz0 := blk_frozen BE.out 0; have hgz1 := blk_frozen BE.out 1)
    | (go_at_call 17; refine (RHas_is _ _ n adj _ _ HR1.out).mono ?_; rintro e w4 ⟨rfl, hb⟩; rw [HH.out]; have n1 := Aside0.mk (blk_below BK.out hb); have n2 := Aside0.mk (blk_below BE.out hb); have n3 := Aside0.mk (HR1.out.below hb); have n4 := Aside0.mk (below_then HB.out HB.out.size hb); clear hcz0 hcz1 hfz0 hfz1 hdz0 hdz1 hgz0 hgz1 BK BE HR1 HB hb; have BK := n1; have BE := n2; have HR1 := n3; have HB := n4; clear n1 n2 n3 n4; have hcz0 : w4.cell? ⟨gb, 0, none⟩ = some (.int .i64 n) := (blk_cell BK.out 0).trans rfl; have hcz1 : w4.cell? ⟨gb, 1, none⟩ = some (.slice A on.length c) := (blk_cell BK.out 1).trans rfl; have hfz0 := blk_frozen BK.out 0; have hfz1 := blk_frozen BK.out 1; have hdz0 : w4.cell? ⟨ge, 0, none⟩ = some (.int .i64 0) := (blk_cell BE.out 0).trans rfl; have hdz1 : w4.cell? ⟨ge, 1, none⟩ = some (.slice none 0 0) := (blk_cell BE.out 1).trans rfl; have hgz0 := blk_frozen BE.out 0; have hgz1 := blk_frozen BE.out 1)
    | ((with_reducible refine gate_dst (N := 31) rfl ?_); go_loud (refine Kd.R_lit Kd.bool w.heap.size 4 ?hg (N := 31) ?hd (xs := ([] : List Bool)) (inner := []) (ok := fun _ => True) (okp := fun _ => True) ?hr ?hp (fun _ hk => hk) trivial HB.out HB.out.size (by simp) ?_; (case hd => rfl); (case hg => rfl); (case hr => first | (go_simp; done) | (go_simp; rfl)); (case hp => exact (Reps.none _ _)); intro v31 w5 hR5 hb0 hg5 hnew; have HL := Aside0.mk hR5; clear hR5 hb0 hnew; have hb := grown_none hg5; clear hg5; have n1 := Aside0.mk (blk_below BK.out hb); have n2 := Aside0.mk (blk_below BE.out hb); have n3 := Aside0.mk (HR1.out.below hb); have n4 := Aside0.mk (below_then HB.out HB.out.size hb); clear hcz0 hcz1 hfz0 hfz1 hdz0 hdz1 hgz0 hgz1 BK BE HR1 HB hb; have BK := n1; have BE := n2; have HR1 := n3; have HB := n4; clear n1 n2 n3 n4; have hcz0 : w5.cell? ⟨gb, 0, none⟩ = some (.int .i64 n) := (blk_cell BK.out 0).trans rfl; have hcz1 : w5.cell? ⟨gb, 1, none⟩ = some (.slice A on.length c) := (blk_cell BK.out 1).trans rfl; have hfz0 := blk_frozen BK.out 0; have hfz1 := blk_frozen BK.out 1; have hdz0 : w5.cell? ⟨ge, 0, none⟩ = some (.int .i64 0) := (blk_cell BE.out 0).trans rfl; have hdz1 : w5.cell? ⟨ge, 1, none⟩ = some (.slice none 0 0) := (blk_cell BE.out 1).trans rfl; have hgz0 := blk_frozen BE.out 0; have hgz1 := blk_frozen BE.out 1))
    | ((with_reducible refine gate_builtin (b := .append) (xs := #[.tmp 31, .tmp 33]) rfl ?_); go_loud (refine Kd.R_append_row Value.bool false (w0 := w) w.heap.size rfl (.tmp 31) (.tmp 33) 27 4 (.bool false) 1 rfl Try.underlying27 infoB rfl (by decide) _ [] on A on.length c (fun _ => True) rfl rfl (fun _ _ => trivial) HL.out (Kd.C_below HC.out HB.out) HB.out HB.out.size (by have := HLen.out; have := HNN.out; simp; omega) ?_; intro v34 w6 hR6 hb6 hg6 hat6; have n1 := Aside0.mk (blk_grown BK.out hg6 (Kd.R_ne HL.out BK.out (by decide))); have n2 := Aside0.mk (blk_grown BE.out hg6 (Kd.R_ne HL.out BE.out (by decide))); rw [List.nil_append] at hR6; obtain ⟨ga, ca, rfl⟩ := R_full hR6 (by have := HLen.out; have := HX.out.2; omega); have HV := Aside0.mk hR6; clear hcz0 hcz1 hfz0 hfz1 hdz0 hdz1 hgz0 hgz1 BK BE HR1 HB hg6 hat6 hR6 HL; have BK := n1; have BE := n2; have HB := Aside0.mk hb6; clear n1 n2 hb6; have hcz0 : w6.cell? ⟨gb, 0, none⟩ = some (.int .i64 n) := (blk_cell BK.out 0).trans rfl; have hcz1 : w6.cell? ⟨gb, 1, none⟩ = some (.slice A on.length c) := (blk_cell BK.out 1).trans rfl; have hfz0 := blk_frozen BK.out 0; have hfz1 := blk_frozen BK.out 1; have hdz0 : w6.cell? ⟨ge, 0, none⟩ = some (.int .i64 0) := (blk_cell BE.out 0).trans rfl; have hdz1 : w6.cell? ⟨ge, 1, none⟩ = some (.slice none 0 0) := (blk_cell BE.out 1).trans rfl; have hgz0 := blk_frozen BE.out 0; have hgz1 := blk_frozen BE.out 1)))
  have hP : wrap64 (wrap64 ((x : Int) * (n : Int)) + (y : Int)) = ((x * n + y : Nat) : Int) := HX.out.1
  have hQ : wrap64 (wrap64 ((y : Int) * (n : Int)) + (x : Int)) = ((y * n + x : Nat) : Int) := HY.out.1
  have hp : x * n + y < on.length := by rw [HLen.out]; exact HX.out.2
  have hq : y * n + x < on.length := by rw [HLen.out]; exact HY.out.2
  have HPut := Aside0.mk (RefOf.put HRef.out hx hy hxy)
  clear HX HY
  generalize x * n + y = p at hP hp HPut
  generalize y * n + x = q at hQ hq HPut
  have hp' : (p : Int) < (on.length : Int) := by omega
  have hq' : (q : Int) < (on.length : Int) := by omega
  clear hcz1 hfz0 hfz1 hdz0 hdz1 hgz0 hgz1
  refine start_ (n := 18) (S := (fun w' => w'.cell? ⟨gb, 0, none⟩ = some (.int .i64 n))) (ds := []) #[false, false, false, false, false, false, false, false, false, false, false, false, false, false, false, false, false, false] (by kernel_rfl) rfl rfl hcz0 (fun hHeld => ?_); refine with_tabW RJoinR.tab4 RJoinR.bits4 (fun HT_ HW_ => ?_)
  have BK' : Aside0 (w6.drew.heap[gb]? = some (Obj.cells #[.int .i64 n, .slice A on.length c] 29 (0, 0))) := BK
  have BE' : Aside0 (w6.drew.heap[ge]? = some (Obj.cells #[.int .i64 0, .slice none 0 0] 29 (0, 0))) := BE
  have HB' := Aside0.mk (below_drew HB.out)
  have HV' := Aside0.mk (Kd.R_drew HV.out)
  clear BK BE HB HV
  generalize w6.drew = wx at BK' BE' HB' HV' hHeld ⊢
  have hc0 := Kd.R_cell false HV'.out (p : Int) (by omega) (by omega)
  rw [Int.toNat_natCast] at hc0
  obtain ⟨hc1, hc2⟩ := hc0
  refine pure_ (i := 0) (N := some 35) (v := ?_) (a' := ?_) #[true, false, false, false, false, false, false, false, false, false, false, false, false, false, false, false, false, false] rfl rfl (any_of HT_.out (by kernel_rfl)) (fun _ _ _ h => h) (Or.inl ⟨by rfl, ?_⟩) ?_ ?_
  rotate_left
  · intro w'
    go_simp
    with_reducible rfl
  rotate_left
  · simp only [Act.put, List.setIfInBounds_toArray, List.set_cons_zero, List.set_cons_succ, i64_w, i32_w]
    rfl
  refine pure_ (i := 1) (N := some 36) (v := ?_) (a' := ?_) #[true, true, false, false, false, false, false, false, false, false, false, false, false, false, false, false, false, false] rfl rfl (any_of HT_.out (by kernel_rfl)) (fun _ _ _ h => h) (Or.inl ⟨by rfl, ?_⟩) ?_ ?_
  rotate_left
  · intro w'
    go_simp
    with_reducible rfl
  rotate_left
  · simp only [Act.put, List.setIfInBounds_toArray, List.set_cons_zero, List.set_cons_succ, i64_w, i32_w]
    rfl
  refine pure_ (i := 2) (N := some 37) (v := ?_) (a' := ?_) #[true, true, true, false, false, false, false, false, false, false, false, false, false, false, false, false, false, false] rfl rfl (any_of HT_.out (by kernel_rfl)) (fun _ _ _ h => h) (Or.inl ⟨by rfl, ?_⟩) ?_ ?_
  rotate_left
  · intro w'
    go_simp
    with_reducible rfl
  rotate_left
  · simp only [Act.put, List.setIfInBounds_toArray, List.set_cons_zero, List.set_cons_succ, i64_w, i32_w]
    rfl
  refine take_ (i := 3) (N := some 38) (v := ?_) (a' := ?_) #[true, true, true, true, false, false, false, false, false, false, false, false, false, false, false, false, false, false] rfl rfl (take_ofW HT_.out HW_.out (by kernel_rfl)) (fun _ _ _ h => h) (Or.inl ⟨by rfl, ?_⟩) hHeld ?_ ?_
  rotate_left
  · intro w' s0
    skip
    go_simp
    with_reducible rfl
  rotate_left
  · simp only [Act.put, List.setIfInBounds_toArray, List.set_cons_zero, List.set_cons_succ, i64_w, i32_w]
    rfl
  refine pure_ (i := 4) (N := some 39) (v := ?_) (a' := ?_) #[true, true, true, true, true, false, false, false, false, false, false, false, false, false, false, false, false, false] rfl rfl (any_of HT_.out (by kernel_rfl)) (fun _ _ _ h => h) (Or.inl ⟨by rfl, ?_⟩) ?_ ?_
  rotate_left
  · intro w'
    go_simp
    with_reducible rfl
  rotate_left
  · simp only [Act.put, List.setIfInBounds_toArray, List.set_cons_zero, List.set_cons_succ, i64_w, i32_w]
    rfl
  refine pure_ (i := 5) (N := some 40) (v := ?_) (a' := ?_) #[true, true, true, true, true, true, false, false, false, false, false, false, false, false, false, false, false, false] rfl rfl (any_of HT_.out (by kernel_rfl)) (fun _ _ _ h => h) (Or.inl ⟨by rfl, ?_⟩) ?_ ?_
  rotate_left
  · intro w'
    go_simp
    with_reducible rfl
  rotate_left
  · simp only [Act.put, List.setIfInBounds_toArray, List.set_cons_zero, List.set_cons_succ, i64_w, i32_w]
    rfl
  refine pure_ (i := 6) (N := some 41) (v := ?_) (a' := ?_) #[true, true, true, true, true, true, true, false, false, false, false, false, false, false, false, false, false, false] rfl rfl (any_of HT_.out (by kernel_rfl)) (fun _ _ _ h => h) (Or.inl ⟨by rfl, ?_⟩) ?_ ?_
  rotate_left
  · intro w'
    go_simp
    with_reducible rfl
  rotate_left
  · simp only [Act.put, List.setIfInBounds_toArray, List.set_cons_zero, List.set_cons_succ, i64_w, i32_w]
    rfl
  refine pure_ (i := 7) (N := some 42) (v := ?_) (a' := ?_) #[true, true, true, true, true, true, true, true, false, false, false, false, false, false, false, false, false, false] rfl rfl (any_of HT_.out (by kernel_rfl)) (fun _ _ _ h => h) (Or.inl ⟨by rfl, ?_⟩) ?_ ?_
  rotate_left
  · intro w'
    go_simp
    with_reducible rfl
  rotate_left
  · simp only [Act.put, List.setIfInBounds_toArray, List.set_cons_zero, List.set_cons_succ, i64_w, i32_w]
    rfl
  refine pure_ (i := 8) (N := some 43) (v := ?_) (a' := ?_) #[true, true, true, true, true, true, true, true, true, false, false, false, false, false, false, false, false, false] rfl rfl (any_of HT_.out (by kernel_rfl)) (fun _ _ _ h => h) (Or.inl ⟨by rfl, ?_⟩) ?_ ?_
  rotate_left
  · intro w'
    go_simp
    with_reducible rfl
  rotate_left
  · simp only [Act.put, List.setIfInBounds_toArray, List.set_cons_zero, List.set_cons_succ, i64_w, i32_w]
    rfl
  refine pure_ (i := 9) (N := some 44) (v := ?_) (a' := ?_) #[true, true, true, true, true, true, true, true, true, true, false, false, false, false, false, false, false, false] rfl rfl (any_of HT_.out (by kernel_rfl)) (fun _ _ _ h => h) (Or.inl ⟨by rfl, ?_⟩) ?_ ?_
  rotate_left
  · intro w'
    go_simp
    with_reducible rfl
  rotate_left
  · simp only [Act.put, List.setIfInBounds_toArray, List.set_cons_zero, List.set_cons_succ, i64_w, i32_w]
    rfl
  refine take_ (i := 10) (N := some 45) (v := ?_) (a' := ?_) #[true, true, true, true, true, true, true, true, true, true, true, false, false, false, false, false, false, false] rfl rfl (take_ofW HT_.out HW_.out (by kernel_rfl)) (fun _ _ _ h => h) (Or.inl ⟨by rfl, ?_⟩) hHeld ?_ ?_
  rotate_left
  · intro w' s0
    skip
    go_simp
    with_reducible rfl
  rotate_left
  · simp only [Act.put, List.setIfInBounds_toArray, List.set_cons_zero, List.set_cons_succ, i64_w, i32_w]
    rfl
  refine pure_ (i := 11) (N := some 46) (v := ?_) (a' := ?_) #[true, true, true, true, true, true, true, true, true, true, true, true, false, false, false, false, false, false] rfl rfl (any_of HT_.out (by kernel_rfl)) (fun _ _ _ h => h) (Or.inl ⟨by rfl, ?_⟩) ?_ ?_
  rotate_left
  · intro w'
    go_simp
    with_reducible rfl
  rotate_left
  · simp only [Act.put, List.setIfInBounds_toArray, List.set_cons_zero, List.set_cons_succ, i64_w, i32_w]
    rfl
  refine pure_ (i := 12) (N := some 47) (v := ?_) (a' := ?_) #[true, true, true, true, true, true, true, true, true, true, true, true, true, false, false, false, false, false] rfl rfl (any_of HT_.out (by kernel_rfl)) (fun _ _ _ h => h) (Or.inl ⟨by rfl, ?_⟩) ?_ ?_
  rotate_left
  · intro w'
    go_simp
    with_reducible rfl
  rotate_left
  · simp only [Act.put, List.setIfInBounds_toArray, List.set_cons_zero, List.set_cons_succ, i64_w, i32_w]
    rfl
  refine pure_ (i := 13) (N := some 48) (v := ?_) (a' := ?_) #[true, true, true, true, true, true, true, true, true, true, true, true, true, true, false, false, false, false] rfl rfl (any_of HT_.out (by kernel_rfl)) (fun _ _ _ h => h) (Or.inl ⟨by rfl, ?_⟩) ?_ ?_
  rotate_left
  · intro w'
    go_simp
    with_reducible rfl
  rotate_left
  · simp only [Act.put, List.setIfInBounds_toArray, List.set_cons_zero, List.set_cons_succ, i64_w, i32_w]
    rfl
  refine pure_ (i := 14) (N := some 49) (v := ?_) (a' := ?_) #[true, true, true, true, true, true, true, true, true, true, true, true, true, true, true, false, false, false] rfl rfl (any_of HT_.out (by kernel_rfl)) (fun _ _ _ h => h) (Or.inl ⟨by rfl, ?_⟩) ?_ ?_
  rotate_left
  · intro w'
    go_simp
    with_reducible rfl
  rotate_left
  · simp only [Act.put, List.setIfInBounds_toArray, List.set_cons_zero, List.set_cons_succ, i64_w, i32_w]
    rfl
  have hgab : gb ≠ ga := fun e => by
    obtain ⟨inner, ho⟩ := Kd.R_own HV'.out
    obtain ⟨cells, hcc⟩ := own_typed ho ga (by simp [Value.ownBlock])
    exact blk_ne BK'.out hcc (by decide) e
  have hgae : ge ≠ ga := fun e => by
    obtain ⟨inner, ho⟩ := Kd.R_own HV'.out
    obtain ⟨cells, hcc⟩ := own_typed ho ga (by simp [Value.ownBlock])
    exact blk_ne BE'.out hcc (by decide) e
  have hgaw := Kd.R_base HV'.out ga (by simp [Value.ownBlock])
  have HGA := Aside0.mk (And.intro hgab (And.intro hgae hgaw))
  clear hgab hgae hgaw
  refine one_ (i := 15) (N := none) #[true, true, true, true, true, true, true, true, true, true, true, true, true, true, true, true, false, false] rfl rfl (one_of HT_.out (by kernel_rfl)) (by decide) (fun K hK => ?_)
  refine skip_ (w1 := ?_) (by rfl) rfl ?_ ?_
  rotate_left
  · go_simp
    rfl
  have BK2 := blk_far BK'.out (p := ⟨ga, p, none⟩) HGA.out.1 (.bool true)
  have BE2 := blk_far BE'.out (p := ⟨ga, p, none⟩) HGA.out.2.1 (.bool true)
  have HBB := Aside0.mk (And.intro BK2 BE2)
  refine hK.out _ _ ((blk_cell BK2 0).trans rfl) (fun hHeld => ?_)
  clear hK K BK2 BE2
  have hput := Kd.R_put HV'.out (p : Int) true
  rw [Int.toNat_natCast] at hput
  have hV2 := hput.1
  have hlen2 : (on.set p true).length = on.length := List.length_set ..
  rw [← hlen2] at hV2
  have HV2 := Aside0.mk hV2
  have HB2 := Aside0.mk (HB'.out.setCell (p := ⟨ga, p, none⟩) HGA.out.2.2 (.bool true))
  have hd0 := Kd.R_cell false hV2 (q : Int) (by omega) (by omega)
  rw [Int.toNat_natCast] at hd0
  obtain ⟨hd1, hd2⟩ := hd0
  rw [hlen2] at HV2
  clear hc1 hc2 hput hV2 hlen2 HV' HB' BK' BE'
  generalize wx.setCell ⟨ga, p, none⟩ (.bool true) = wy at HBB HV2 HB2 hd1 hd2 hHeld ⊢
  refine pure_ (i := 16) (N := some 50) (v := ?_) (a' := ?_) #[true, true, true, true, true, true, true, true, true, true, true, true, true, true, true, true, true, false] rfl rfl (any_of HT_.out (by kernel_rfl)) (fun _ _ _ h => h) (Or.inl ⟨by rfl, ?_⟩) ?_ ?_
  rotate_left
  · intro w'
    go_simp
    with_reducible rfl
  rotate_left
  · simp only [Act.put, List.setIfInBounds_toArray, List.set_cons_zero, List.set_cons_succ, i64_w, i32_w]
    rfl
  refine one_ (i := 17) (N := none) #[true, true, true, true, true, true, true, true, true, true, true, true, true, true, true, true, true, true] rfl rfl (one_of HT_.out (by kernel_rfl)) (by decide) (fun K hK => ?_)
  refine skip_ (w1 := ?_) (by rfl) rfl ?_ ?_
  rotate_left
  · go_simp
    rfl
  have BK3 := blk_far HBB.out.1 (p := ⟨ga, q, none⟩) HGA.out.1 (.bool true)
  have BE3 := blk_far HBB.out.2 (p := ⟨ga, q, none⟩) HGA.out.2.1 (.bool true)
  refine hK.out _ _ ((blk_cell BK3 0).trans rfl) (fun hHeld => ?_)
  clear hK K
  refine done_ (done_of HT_.out (by kernel_rfl)) ?_
  have hV2 := HV2.out
  rw [← (List.length_set .. : (on.set p true).length = on.length)] at hV2
  have hput := Kd.R_put hV2 (q : Int) true
  clear hV2
  rw [Int.toNat_natCast] at hput
  have HV3 := Aside0.mk hput.1
  have HB3 := Aside0.mk (HB2.out.setCell (p := ⟨ga, q, none⟩) HGA.out.2.2 (.bool true))
  have HBK := Aside0.mk BK3
  have HBE := Aside0.mk BE3
  clear hput HV2 HB2 HBB hd1 hd2 BK3 BE3 hHeld
  generalize wy.setCell ⟨ga, q, none⟩ (.bool true) = wz at HV3 HB3 HBK HBE ⊢
  have hcz0 : wz.cell? ⟨gb, 0, none⟩ = some (.int .i64 n) := (blk_cell HBK.out 0).trans rfl; have hcz1 : wz.cell? ⟨gb, 1, none⟩ = some (.slice A on.length c) := (blk_cell HBK.out 1).trans rfl; have hfz0 := blk_frozen HBK.out 0; have hfz1 := blk_frozen HBK.out 1; have hdz0 : wz.cell? ⟨ge, 0, none⟩ = some (.int .i64 0) := (blk_cell HBE.out 0).trans rfl; have hdz1 : wz.cell? ⟨ge, 1, none⟩ = some (.slice none 0 0) := (blk_cell HBE.out 1).trans rfl; have hgz0 := blk_frozen HBE.out 0; have hgz1 := blk_frozen HBE.out 1
  go_wp2
  have hE1 := blk_put (cs := #[.int .i64 0, .slice none 0 0]) HBE.out 0 (.int .i64 n) (cs' := #[.int .i64 n, .slice none 0 0]) rfl
  refine bodyPost_ret (results_ct rfl _ _ ge 29 #[.int .i64 n, .slice (some ⟨ga, 0, none⟩) on.length ca] (0, 0) _ rfl (blk_put (cs := #[.int .i64 n, .slice none 0 0]) hE1 1 _ rfl) hu29 rfl (by kernel_rfl)) rfl ?_
  have hR3 := Kd.R_set (Kd.R_set HV3.out HBE.out (by decide) 0 (.int .i64 n)) hE1 (by decide) 1 (.slice (some ⟨ga, 0, none⟩) on.length ca)
  refine ⟨_, rfl, ⟨(on.set p true).set q true, Kd.R_lower (by have h := hR3; rw [List.length_set] at h; exact h) (Nat.zero_le _), HPut.out⟩, (HB3.out.setCell (p := ⟨ge, 0, none⟩) HE.out _).setCell (p := ⟨ge, 1, none⟩) HE.out _⟩
theorem RJoin_is (w : World) (v : Value) (n : Nat) (adj : Adj) (a b : Int) (h : RIs w v n adj) :
    Calls Try.prog 13 #[.agg #[.int .i64 n, v], .int .i64 a, .int .i64 b] w fun e w' => ∃ v', e = .returned (.tuple #[.agg #[.int .i64 n, v'], .bool (joinOk n adj a b)]) ∧ RIs w' v' n (jn n adj a b) ∧ Below w.heap.size w w' := by
  cases hj : joinOk n adj a b with
  | false =>
    refine (RJoin_no w v n adj a b h hj).mono ?_
    rintro e w' ⟨v', he, hR, hB⟩
    rw [hj] at he
    exact ⟨v', he, hR, hB⟩
  | true =>
    obtain ⟨x, y, rfl, rfl, hx, hy, hxy, hadj⟩ := joinOk_nat hj
    refine (RJoin_yes w v n adj x y h hx hy hxy hadj).mono ?_
    rintro e w' ⟨v', he, hR, hB⟩
    refine ⟨v', he, ?_, hB⟩
    unfold jn
    rw [hj]
    simpa using hR
end Go.Proofs.Ytfkmngmnnlgjdaa.Gr
