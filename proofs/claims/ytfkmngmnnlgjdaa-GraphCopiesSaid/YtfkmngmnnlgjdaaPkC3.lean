import Derived.Deep.Slices
import Derived.ChangeSame
import Derived.OpenShut
import Derived.Test.YtfkmngmnnlgjdaaPkC2
/- GraphNobody, walked. -/
namespace Go.Proofs.Ytfkmngmnnlgjdaa.Gr
open Go Go.RowKit Go.Proofs.Ytfkmngmnnlgjdaa.Gf Go.Proofs.Ytfkmngmnnlgjdaa.Pu Go.Proofs.Ytfkmngmnnlgjdaa.Pr Go.Proofs.Ytfkmngmnnlgjdaa.Mw Go.Proofs.YtfkmngmnnlgjdaaW.PrintWords Go.Proofs.YtfkmngmnnlgjdaaW.PrintLast Go.Proofs.YtfkmngmnnlgjdaaW.PrintMore
set_option linter.unusedVariables false
set_option linter.unusedSimpArgs false
set_option maxRecDepth 100000 in
set_option maxHeartbeats 1000000 in
theorem Nobody_is (w : World) (a b : Int) (hb0 : -9223372036854775808 ≤ b) (hb1 : b ≤ 9223372036854775807) :
    Calls Try.prog 8 #[.int .i64 a, .int .i64 b] w fun e w' => e = .returned (.bool true) ∧ Below w.heap.size w w' := by
  have HI := Lib.hid (And.intro hb0 hb1)
  clear hb0 hb1
  go_enter Try.func8, Try.ntmps8
  go_wp2_with (first
    | ((with_reducible refine gate_dst (N := 12) rfl ?_); refine box_event ?hg (N := 12) ?hd (cs := #[.slice none 0 0]) (t := 57) ?hr ?_; (case hd => rfl); (case hg => rfl); (case hr => first | (go_simp; done) | (go_simp; rfl)); intro g hg w1 hbox hb; have HG := Aside0.mk (GIs.empty hbox); have HB := Aside0.mk hb; clear hbox hb hg))
  have HL := Aside0.mk (World.alloc_heap_new w1 (Obj.cells #[.pointer none, .pointer (some ⟨g, 0, none⟩)] 23))
  have HB0 := Aside0.mk (below_alloc HB.out (Obj.cells #[.pointer none, .pointer (some ⟨g, 0, none⟩)] 23))
  have HG0 := Aside0.mk (HG.out.below (below_alloc (Below.refl _ _) (Obj.cells #[.pointer none, .pointer (some ⟨g, 0, none⟩)] 23)))
  clear HG HB
  generalize w1.heap.size = gl at HL ⊢
  generalize w1.alloc (Obj.cells #[.pointer none, .pointer (some ⟨g, 0, none⟩)] 23) = w2 at HL HB0 HG0 ⊢
  go_loopw [7] (fun v7 wr => ∃ i : Nat, i ≤ 2 ∧ v7 = .int .i64 i ∧ Aside0 (GIs wr g (.slice none 0 0) 0 no) ∧ Aside0 (wr.heap[gl]? = some (.cells #[.pointer none, .pointer (some ⟨g, 0, none⟩)] 23 (0, 0))) ∧ Aside0 (Below w.heap.size w wr)) (fun v7 _ => 2 - (intOf v7).toNat)
  case atStart => exact ⟨0, by omega, rfl, HG0, HL, HB0⟩
  case round =>
    clear HL HB0 HG0
    obtain ⟨i, hi, rfl, HG, HL, HB⟩ := hrel
    have hc0 : wr.cell? ⟨gl, 0, none⟩ = some (.pointer none) := (blk_cell HL.out 0).trans rfl
    have hc1 : wr.cell? ⟨gl, 1, none⟩ = some (.pointer (some ⟨g, 0, none⟩)) := (blk_cell HL.out 1).trans rfl
    have h3 : i = 0 ∨ i = 1 ∨ i = 2 := by omega
    rcases h3 with rfl | rfl | rfl
    · go_wp2_with (first
        | (go_at_call 11; refine (Len_nil _).mono ?_; rintro e w2 ⟨rfl, rfl⟩)
        | (go_at_call 14; refine (Join_nil _ a b).mono ?_; rintro e w2 ⟨rfl, rfl⟩)
        | (go_at_call 16; refine (Has_nil _ a b).mono ?_; rintro e w2 ⟨rfl, rfl⟩)
        | (go_at_call 19; refine (Near_nil _ a).mono ?_; rintro e w2 ⟨rfl, rfl⟩)
        | (go_at_call 22; refine (Parts_nil _).mono ?_; rintro e w3 ⟨rfl, hB⟩; have HB2 := Aside0.mk (below_then HB.out HB.out.size hB); have HG2 := Aside0.mk (HG.out.below hB); have HL2 := Aside0.mk (blk_below HL.out hB); clear HG HB HL; have HG := HG2; have HB := HB2; have HL := HL2; clear HG2 HB2 HL2 hB)
        | (go_at_call 26; refine (Shell_nil _).mono ?_; rintro e w4 ⟨rfl, hB⟩; have HB2 := Aside0.mk (below_then HB.out HB.out.size hB); have HG2 := Aside0.mk (HG.out.below hB); have HL2 := Aside0.mk (blk_below HL.out hB); clear HG HB HL; have HG := HG2; have HB := HB2; have HL := HL2; clear HG2 HB2 HL2 hB))
      exact ⟨⟨1, by omega, by go_num, HG, HL, HB⟩, by simp [intOf]⟩
    · go_wp2_with (first
        | (go_at_call 11; refine (Len0 _ g _ HG.out).mono ?_; rintro e w2 ⟨rfl, rfl⟩)
        | (go_at_call 14; refine (Join0 _ g _ a b HG.out).mono ?_; rintro e w3 ⟨rfl, hB⟩; have HB2 := Aside0.mk (below_then HB.out HB.out.size hB); have HG2 := Aside0.mk (HG.out.below hB); have HL2 := Aside0.mk (blk_below HL.out hB); clear HG HB HL; have HG := HG2; have HB := HB2; have HL := HL2; clear HG2 HB2 HL2 hB)
        | (go_at_call 16; refine (Has0 _ g _ a b HG.out HI.out.1 HI.out.2).mono ?_; rintro e w4 ⟨rfl, hB⟩; have HB2 := Aside0.mk (below_then HB.out HB.out.size hB); have HG2 := Aside0.mk (HG.out.below hB); have HL2 := Aside0.mk (blk_below HL.out hB); clear HG HB HL; have HG := HG2; have HB := HB2; have HL := HL2; clear HG2 HB2 HL2 hB)
        | (go_at_call 19; refine (Near0 _ g _ a HG.out).mono ?_; rintro e w5 ⟨A5, c5, rfl, hB⟩; have HB2 := Aside0.mk (below_then HB.out HB.out.size hB); have HG2 := Aside0.mk (HG.out.below hB); have HL2 := Aside0.mk (blk_below HL.out hB); clear HG HB HL; have HG := HG2; have HB := HB2; have HL := HL2; clear HG2 HB2 HL2 hB)
        | (go_at_call 22; refine (Parts0 _ g _ HG.out).mono ?_; rintro e w6 ⟨A6, c6, rfl, hB⟩; have HB2 := Aside0.mk (below_then HB.out HB.out.size hB); have HG2 := Aside0.mk (HG.out.below hB); have HL2 := Aside0.mk (blk_below HL.out hB); clear HG HB HL; have HG := HG2; have HB := HB2; have HL := HL2; clear HG2 HB2 HL2 hB)
        | (go_at_call 26; refine (Shell0 _ g _ HG.out).mono ?_; rintro e w7 ⟨A7, c7, rfl, hB⟩; have HB2 := Aside0.mk (below_then HB.out HB.out.size hB); have HG2 := Aside0.mk (HG.out.below hB); have HL2 := Aside0.mk (blk_below HL.out hB); clear HG HB HL; have HG := HG2; have HB := HB2; have HL := HL2; clear HG2 HB2 HL2 hB))
      exact ⟨⟨2, by omega, by go_num, HG, HL, HB⟩, by simp [intOf]⟩
    · go_wp2_with (first
        | (go_at_call 30; first | ((with_reducible refine (Copy_nil _).mono ?_); rintro e w2 ⟨rfl, rfl⟩) | (refine (Copy_is _ g 0 _ no HG.out).mono ?_; rintro e w3 ⟨gc, vc, rfl, hGc, _, _, hB⟩; have HC := Aside0.mk hGc; clear hGc; have HB2 := Aside0.mk (below_then HB.out HB.out.size hB); have HG2 := Aside0.mk (HG.out.below hB); have HL2 := Aside0.mk (blk_below HL.out hB); clear HG HB HL; have HG := HG2; have HB := HB2; have HL := HL2; clear HG2 HB2 HL2 hB))
        | (go_at_call 11; refine (Len0 _ gc _ HC.out).mono ?_; rintro e w4 ⟨rfl, rfl⟩)
        | (go_at_call 10; refine (heads_is _).mono ?_; rintro e w5 ⟨rfl, hB⟩; have HB2 := Aside0.mk (below_then HB.out HB.out.size hB); have HG2 := Aside0.mk (HG.out.below hB); have HL2 := Aside0.mk (blk_below HL.out hB); clear HG HB HL; have HG := HG2; have HB := HB2; have HL := HL2; clear HG2 HB2 HL2 hB))
      go_ret
      exact ⟨rfl, HB.out⟩
theorem i64_lo {a : Int} (h : (Lit.int .i64 a).wf = true) : -9223372036854775808 ≤ a := by
  simp [Lit.wf, IntKind.min, IntKind.max, IntKind.signed, IntKind.bits] at h
  omega
theorem i64_hi {a : Int} (h : (Lit.int .i64 a).wf = true) : a ≤ 9223372036854775807 := by
  simp [Lit.wf, IntKind.min, IntKind.max, IntKind.signed, IntKind.bits] at h
  omega
end Go.Proofs.Ytfkmngmnnlgjdaa.Gr

/- A row of joins among a law's arguments. -/
namespace Go.Proofs.Ytfkmngmnnlgjdaa.Gr
open Go Go.RowKit Go.ChangeShapes Go.WideShapes Go.Proofs.YtfkmngmnnlgjdaaW.PrintWords
set_option linter.unusedVariables false
set_option linter.unusedSimpArgs false

/-- l joins behind A: what they read as. -/
structure JIs (w : World) (A : Option Addr) (l : Nat) (js : List (Int × Int)) : Prop where
  len : js.length = l
  lo : ∀ i, i < l → -9223372036854775808 ≤ (js.getD i (0, 0)).2 ∧ (js.getD i (0, 0)).2 ≤ 9223372036854775807
  cells : ∀ i, i < l → ∃ ad, A = some ad ∧ w.cell? (ad.add (i * 2)) = some (.int .i64 (js.getD i (0, 0)).1) ∧ w.cell? (ad.add (i * 2 + 1)) = some (.int .i64 (js.getD i (0, 0)).2)
theorem JIs.below {w w' : World} {A : Option Addr} {l : Nat} {js : List (Int × Int)} (h : JIs w A l js) (hb : Below w.heap.size w w') : JIs w' A l js := by
  refine ⟨h.len, h.lo, fun i hi => ?_⟩
  obtain ⟨ad, rfl, h1, h2⟩ := h.cells i hi
  exact ⟨ad, rfl, pw_cell_below hb h1, pw_cell_below hb h2⟩
section
variable {H : Type} {enc : TypeId × Value → H} {P : Program} {w : World} {base : Nat} {spare : Nat → Bool} {held : Bool}
theorem pair_of {e it : TypeId} (he : P.underlying e = some (.array 2 it)) (hi : P.underlying it = some (.int .i64)) (ce : P.cellsOf e = 2) (ci : P.cellsOf it = 1) {n : Nat} {v0 v1 : Value} {x : DataW H × List MemPlace}
    (h : DataW.trod enc P w base spare held n e [v0, v1] = some x) : ∃ a b, v0 = .int .i64 a ∧ v1 = .int .i64 b ∧ (Lit.int .i64 b).wf = true := by
  cases n with
  | zero => simp [DataW.trod] at h
  | succ m =>
    rw [DataW.trod_step] at h
    unfold DataW.trodStep at h
    simp only [he] at h
    rw [if_pos (by rw [ce]; rfl)] at h
    simp only [Option.map_eq_some_iff] at h
    obtain ⟨ys, hy, _⟩ := h
    rw [show List.range 2 = [0, 1] from rfl, ci, List.mapM_cons, List.mapM_cons, List.mapM_nil] at hy
    simp only [bind, Option.bind_eq_some_iff, pure, Option.some.injEq] at hy
    obtain ⟨y0, h0, ys1, ⟨y1, h1, _⟩, _⟩ := hy
    obtain ⟨a, ea, _, wa⟩ := DataW.trod_int hi h0
    obtain ⟨b, eb, _, wb⟩ := DataW.trod_int hi h1
    refine ⟨a, b, ?_, ?_, wb⟩
    · simpa using ea
    · simpa using eb
theorem open_pairs {t e it : TypeId} (ht : P.underlying t = some (.slice e)) (he : P.underlying e = some (.array 2 it)) (hi : P.underlying it = some (.int .i64)) (ce : P.cellsOf e = 2) (ci : P.cellsOf it = 1) {A : Option Addr} {l c : Nat} {d : DataW H} {ps : List MemPlace}
    (h : DataW.Trod enc P w base spare held t (.slice A l c) d ps) : ∃ js, JIs w A l js := by
  obtain ⟨fuel, hf⟩ := h
  rcases Deep.open_slice ht hf with ⟨hcs, _⟩ | ⟨a, len, cap, m, n, D, Pl, hcs, hb, hl, hm, hmm, _, hx⟩
  · simp [Value.cells] at hcs
    obtain ⟨rfl, rfl, rfl⟩ := hcs
    exact ⟨[], rfl, fun i hi => by omega, fun i hi => by omega⟩
  · simp [Value.cells] at hcs
    obtain ⟨rfl, rfl, rfl⟩ := hcs
    have hlm : l ≤ m := by rw [hmm]; split <;> omega
    have key : ∀ i, i < l → ∃ p : Int × Int, w.cell? (a.add (i * 2)) = some (.int .i64 p.1) ∧ w.cell? (a.add (i * 2 + 1)) = some (.int .i64 p.2) ∧ (Lit.int .i64 p.2).wf = true := by
      intro i hi2
      obtain ⟨cs', h1, h2⟩ := hx i (by omega)
      rw [ce] at h1
      obtain ⟨_, hlen, hcell⟩ := World.cells?_some h1
      match cs', hlen with
      | [v0, v1], _ =>
        obtain ⟨p, q, rfl, rfl, wq⟩ := pair_of he hi ce ci h2
        have e0 := hcell 0 (by omega)
        have e1 := hcell 1 (by omega)
        rw [Deep.add_add] at e0 e1
        exact ⟨(p, q), by simpa using e0, by simpa using e1, wq⟩
    obtain ⟨q, hq⟩ := Deep.choose_lt key
    have hg : ∀ i, i < l → ((List.range l).map q).getD i (0, 0) = q i := by
      intro i hi2
      rw [List.getD_eq_getElem?_getD, List.getElem?_map, List.getElem?_range hi2]
      rfl
    refine ⟨(List.range l).map q, by simp, fun i hi2 => ?_, fun i hi2 => ?_⟩
    · rw [hg i hi2]
      exact ⟨i64_lo (hq i hi2).2.2, i64_hi (hq i hi2).2.2⟩
    · rw [hg i hi2]
      exact ⟨a, rfl, (hq i hi2).1, (hq i hi2).2.1⟩
end
theorem open_joins {H : Type} {enc : TypeId × Value → H} {w : World} {base : Nat} {spare : Nat → Bool} {held : Bool} {A : Option Addr} {l c : Nat} {d : DataW H} {ps : List MemPlace}
    (h : DataW.Trod enc Try.prog w base spare held 22 (.slice A l c) d ps) : ∃ js, JIs w A l js :=
  open_pairs Try.underlying22 Try.underlying33 Try.underlying3 (by kernel_rfl) (by kernel_rfl) h
end Go.Proofs.Ytfkmngmnnlgjdaa.Gr

/- like, walked: a graph and the document's with the same joins are alike. -/
namespace Go.Proofs.Ytfkmngmnnlgjdaa.Gr
open Go Go.RowKit Go.Proofs.Ytfkmngmnnlgjdaa.Gf Go.Proofs.Ytfkmngmnnlgjdaa.Pu Go.Proofs.Ytfkmngmnnlgjdaa.Pr Go.Proofs.Ytfkmngmnnlgjdaa.Mw Go.Proofs.YtfkmngmnnlgjdaaW.PrintWords Go.Proofs.YtfkmngmnnlgjdaaW.PrintLast Go.Proofs.YtfkmngmnnlgjdaaW.PrintMore
set_option linter.unusedVariables false
set_option linter.unusedSimpArgs false
theorem GIs.drew {w : World} {g n : Nat} {v : Value} {adj : Adj} (h : GIs w g v n adj) : GIs w.drew g v n adj := h.below (below_drew (Below.refl _ _))
theorem RIs.drew {w : World} {n : Nat} {v : Value} {adj : Adj} (h : RIs w v n adj) : RIs w.drew v n adj := h.below (below_drew (Below.refl _ _))
theorem HasB (w : World) (g : Nat) (v : Value) (n : Nat) (adj : Adj) (a b : Nat) (h : GIs w g v n adj) (hb : b < n) :
    Calls Try.prog 16 #[.pointer (some ⟨g, 0, none⟩), .int .i64 a, .int .i64 b] w fun e w' => e = .returned (.bool (hasN n adj a b)) ∧ Below w.heap.size w w' := by
  have hn := h.le
  refine (Has_is w g v n adj a b h (by omega) (by omega)).mono ?_
  rintro e w' ⟨he, hD⟩
  exact ⟨he, hD.below⟩
set_option maxRecDepth 100000 in
set_option maxHeartbeats 1000000 in
theorem like_is (w : World) (g : Nat) (v u : Value) (n : Nat) (adj : Adj) (hg : GIs w g v n adj) (hr : RIs w u n adj) :
    Calls Try.prog 15 #[.pointer (some ⟨g, 0, none⟩), .agg #[.int .i64 n, u]] w fun e w' => e = .returned (.bool true) ∧ Below w.heap.size w w' := by
  have hu29 := Try.underlying29
  have hn4 := hg.le
  have HG := Aside0.mk hg
  have HR := Aside0.mk hr
  clear hg hr
  have hne : ((n : Int) != (n : Int)) = false := by simp
  go_enter Try.func15, Try.ntmps15
  go_wp2_with (first
    | ((with_reducible refine gate_dst (N := 3) rfl ?_); refine box_event ?hg (N := 3) ?hd (cs := #[.int .i64 n, u]) (t := 29) ?hr ?_; (case hd => rfl); (case hg => rfl); (case hr => first | (go_simp; done) | (go_simp; rfl)); intro gb hgb w1 hbox hB; have BK := Aside0.mk hbox; have HB := Aside0.mk hB; have HG1 := Aside0.mk (HG.out.below hB); have HR1 := Aside0.mk (HR.out.below hB); have HW := Aside0.mk (show w.heap.size ≤ gb by rw [hgb]; exact Nat.le_refl _); clear hbox hB hgb HG HR; have hcz0 : w1.cell? ⟨gb, 0, none⟩ = some (.int .i64 n) := (blk_cell BK.out 0).trans rfl; have hcz1 : w1.cell? ⟨gb, 1, none⟩ = some u := (blk_cell BK.out 1).trans rfl))
  go_region_held3 (fun w' => w'.cell? ⟨gb, 0, none⟩ = some (.int .i64 n) ∧ w'.cell? ⟨gb, 1, none⟩ = some u) (first | exact ⟨hcz0, hcz1⟩) (first | (go_at_call 11; refine (Len_is _ g v n adj HG1.out.drew).mono ?_; rintro e w' ⟨rfl, rfl⟩))
  have BK2 : Aside0 (w1.drew.heap[gb]? = some (Obj.cells #[.int .i64 n, u] 29 (0, 0))) := BK
  have HB2 := Aside0.mk (below_drew HB.out)
  have HG2 := Aside0.mk HG1.out.drew
  have HR2 := Aside0.mk HR1.out.drew
  clear BK HB HG1 HR1 hcz0 hcz1
  generalize w1.drew = w2 at BK2 HB2 HG2 HR2 ⊢
  have hcz0 : w2.cell? ⟨gb, 0, none⟩ = some (.int .i64 n) := (blk_cell BK2.out 0).trans rfl
  go_wp2
  go_loopw [5] (fun v5 wr => ∃ a : Nat, a ≤ n ∧ v5 = .int .i64 a ∧ Aside0 (wr.heap[gb]? = some (Obj.cells #[.int .i64 n, u] 29 (0, 0))) ∧ Aside0 (Below w.heap.size w wr) ∧ Aside0 (GIs wr g v n adj) ∧ Aside0 (RIs wr u n adj)) (fun v5 _ => n - (intOf v5).toNat)
  case atStart => exact ⟨0, Nat.zero_le _, rfl, BK2, HB2, HG2, HR2⟩
  case round =>
    clear BK2 HB2 HG2 HR2 hcz0
    obtain ⟨a, ha, rfl, BK, HB, HG, HR⟩ := hrel
    have hcz0 : wr.cell? ⟨gb, 0, none⟩ = some (.int .i64 n) := (blk_cell BK.out 0).trans rfl
    have hcz1 : wr.cell? ⟨gb, 1, none⟩ = some u := (blk_cell BK.out 1).trans rfl
    by_cases hlt : a < n
    · go_wp2
      have BKd : Aside0 (wr.drew.heap[gb]? = some (Obj.cells #[.int .i64 n, u] 29 (0, 0))) := BK
      have HGd := Aside0.mk HG.out.drew
      have HRd := Aside0.mk HR.out.drew
      have HBd := Aside0.mk (below_drew HB.out)
      clear BK HG HR HB
      have BK := BKd
      have HG := HGd
      have HR := HRd
      have HB := HBd
      clear BKd HGd HRd HBd
      go_region_held3 (fun w' => w'.cell? ⟨gb, 0, none⟩ = some (.int .i64 n) ∧ w'.cell? ⟨gb, 1, none⟩ = some u) (first | exact ⟨hcz0, hcz1⟩) (first
        | (go_at_call 19; refine (Near_is _ g v n adj a HG.out).mono ?_; rintro e w3 ⟨v20, rfl, hR, hB⟩; have BK3 := Aside0.mk (blk_below BK.out hB); have HB3 := Aside0.mk (below_then HB.out HB.out.size hB); have HG3 := Aside0.mk (HG.out.below hB); have HR3 := Aside0.mk (HR.out.below hB); have HN3 := Aside0.mk hR; clear BK HB HG HR hcz0 hcz1; have BK := BK3; have HB := HB3; have HG := HG3; have HR := HR3; clear BK3 HB3 HG3 HR3 hB; have hcz0 : w3.cell? ⟨gb, 0, none⟩ = some (.int .i64 n) := (blk_cell BK.out 0).trans rfl; have hcz1 : w3.cell? ⟨gb, 1, none⟩ = some u := (blk_cell BK.out 1).trans rfl; clear hR)
        | (go_at_call 20; refine (RNear_is _ u n adj a HR.out).mono ?_; rintro e w4 ⟨v23, rfl, hR, hB⟩; have BK4 := Aside0.mk (blk_below BK.out hB); have HB4 := Aside0.mk (below_then HB.out HB.out.size hB); have HG4 := Aside0.mk (HG.out.below hB); have HR4 := Aside0.mk (HR.out.below hB); have HN4 := Aside0.mk hR; have HN5 := Aside0.mk (Kd.R_below HN3.out hB); clear HN3; clear BK HB HG HR hcz0 hcz1; have BK := BK4; have HB := HB4; have HG := HG4; have HR := HR4; clear BK4 HB4 HG4 HR4 hB; have hcz0 : w4.cell? ⟨gb, 0, none⟩ = some (.int .i64 n) := (blk_cell BK.out 0).trans rfl; have hcz1 : w4.cell? ⟨gb, 1, none⟩ = some u := (blk_cell BK.out 1).trans rfl; clear hR)
        | (go_at_call 18; refine (Ints_is _ _ _ (nearI n adj a) (nearI n adj a) HN5.out HN4.out).mono ?_; rintro e w5 ⟨rfl, hB⟩; rw [decide_eq_true (show nearI n adj a = nearI n adj a from rfl)]; have BK5 := Aside0.mk (blk_below BK.out hB); have HB5 := Aside0.mk (below_then HB.out HB.out.size hB); have HG5 := Aside0.mk (HG.out.below hB); have HR5 := Aside0.mk (HR.out.below hB); clear HN4 HN5; clear BK HB HG HR hcz0 hcz1; have BK := BK5; have HB := HB5; have HG := HG5; have HR := HR5; clear BK5 HB5 HG5 HR5 hB; have hcz0 : w5.cell? ⟨gb, 0, none⟩ = some (.int .i64 n) := (blk_cell BK.out 0).trans rfl; have hcz1 : w5.cell? ⟨gb, 1, none⟩ = some u := (blk_cell BK.out 1).trans rfl))
      go_wp2
      go_loopw [6] (fun v6 wr => ∃ b : Nat, b ≤ n ∧ v6 = .int .i64 b ∧ Aside0 (wr.heap[gb]? = some (Obj.cells #[.int .i64 n, u] 29 (0, 0))) ∧ Aside0 (Below w.heap.size w wr) ∧ Aside0 (GIs wr g v n adj) ∧ Aside0 (RIs wr u n adj)) (fun v6 _ => n - (intOf v6).toNat)
      case atStart => exact ⟨0, Nat.zero_le _, rfl, BK, HB, HG, HR⟩
      case round =>
        clear BK HB HG HR hcz0 hcz1
        obtain ⟨b, hb, rfl, BK, HB, HG, HR⟩ := hrel
        have hcz0 : wr.cell? ⟨gb, 0, none⟩ = some (.int .i64 n) := (blk_cell BK.out 0).trans rfl
        have hcz1 : wr.cell? ⟨gb, 1, none⟩ = some u := (blk_cell BK.out 1).trans rfl
        by_cases hltb : b < n
        · go_wp2
          have BKd : Aside0 (wr.drew.heap[gb]? = some (Obj.cells #[.int .i64 n, u] 29 (0, 0))) := BK
          have HGd := Aside0.mk HG.out.drew
          have HRd := Aside0.mk HR.out.drew
          have HBd := Aside0.mk (below_drew HB.out)
          clear BK HG HR HB
          have BK := BKd
          have HG := HGd
          have HR := HRd
          have HB := HBd
          clear BKd HGd HRd HBd
          have hnb : (hasN n adj a b != hasN n adj a b) = false := by simp
          go_region_held3 (fun w' => w'.cell? ⟨gb, 0, none⟩ = some (.int .i64 n) ∧ w'.cell? ⟨gb, 1, none⟩ = some u) (first | exact ⟨hcz0, hcz1⟩) (first
            | (go_at_call 16; refine (HasB _ g v n adj a b HG.out hltb).mono ?_; rintro e w3 ⟨rfl, hB⟩; have BK3 := Aside0.mk (blk_below BK.out hB); have HB3 := Aside0.mk (below_then HB.out HB.out.size hB); have HG3 := Aside0.mk (HG.out.below hB); have HR3 := Aside0.mk (HR.out.below hB); clear BK HB HG HR hcz0 hcz1; have BK := BK3; have HB := HB3; have HG := HG3; have HR := HR3; clear BK3 HB3 HG3 HR3 hB; have hcz0 : w3.cell? ⟨gb, 0, none⟩ = some (.int .i64 n) := (blk_cell BK.out 0).trans rfl; have hcz1 : w3.cell? ⟨gb, 1, none⟩ = some u := (blk_cell BK.out 1).trans rfl)
            | (go_at_call 17; refine (RHas_is _ u n adj a b HR.out).mono ?_; rintro e w4 ⟨rfl, hB⟩; have BK4 := Aside0.mk (blk_below BK.out hB); have HB4 := Aside0.mk (below_then HB.out HB.out.size hB); have HG4 := Aside0.mk (HG.out.below hB); have HR4 := Aside0.mk (HR.out.below hB); clear BK HB HG HR hcz0 hcz1; have BK := BK4; have HB := HB4; have HG := HG4; have HR := HR4; clear BK4 HB4 HG4 HR4 hB; have hcz0 : w4.cell? ⟨gb, 0, none⟩ = some (.int .i64 n) := (blk_cell BK.out 0).trans rfl; have hcz1 : w4.cell? ⟨gb, 1, none⟩ = some u := (blk_cell BK.out 1).trans rfl))
          go_wp2
          exact ⟨⟨b + 1, by omega, by go_num, BK, HB, HG, HR⟩, by simp [intOf]; omega⟩
        · obtain rfl : b = n := by omega
          go_wp2
          exact ⟨⟨a + 1, by omega, by go_num, BK, HB, HG, HR⟩, by simp [intOf]; omega⟩
    · obtain rfl : a = n := by omega
      go_wp2
      go_ret
      exact ⟨rfl, HB.out⟩
end Go.Proofs.Ytfkmngmnnlgjdaa.Gr

/- Made, walked. -/
namespace Go.Proofs.Ytfkmngmnnlgjdaa.Gr
open Go Go.RowKit Go.Proofs.Ytfkmngmnnlgjdaa.Gf Go.Proofs.Ytfkmngmnnlgjdaa.Pu Go.Proofs.Ytfkmngmnnlgjdaa.Pr Go.Proofs.Ytfkmngmnnlgjdaa.Mw Go.Proofs.YtfkmngmnnlgjdaaW.PrintWords Go.Proofs.YtfkmngmnnlgjdaaW.PrintLast Go.Proofs.YtfkmngmnnlgjdaaW.PrintMore
set_option linter.unusedVariables false
set_option linter.unusedSimpArgs false
/-- The joins behind the first k of a row of joins. -/
def jt (n : Nat) (js : List (Int × Int)) : Nat → Adj
  | 0 => fun _ _ => false
  | k + 1 => jn n (jt n js k) (js.getD k (0, 0)).1 (js.getD k (0, 0)).2
theorem jt_sane (n : Nat) (js : List (Int × Int)) (k : Nat) : Sane n (jt n js k) := by
  induction k with
  | zero => exact sane_none n
  | succ k ih => exact jn_sane ih _ _
/-- The numbers that Made looks at. -/
def madeOk (n : Int) (l : Nat) : Bool := decide (0 ≤ n) && decide (n ≤ 40) && decide (l ≤ 800)
set_option maxRecDepth 100000 in
set_option maxHeartbeats 1000000 in
theorem Made_no (w : World) (n : Int) (A : Option Addr) (l c : Nat) (h : madeOk n l = false) :
    Calls Try.prog 21 #[.int .i64 n, .slice A l c] w fun e w' => e = .returned (.tuple #[.pointer none, .agg #[.int .i64 0, .slice none 0 0]]) ∧ Below w.heap.size w w' := by
  have hu29 := Try.underlying29
  by_cases h1 : n < 0
  · have hd1 : decide (n < 0) = true := decide_eq_true h1
    clear h
    go_enter Try.func21, Try.ntmps21
    go_wp2_with (first | ((with_reducible refine gate_dst (N := 5) rfl ?_); refine box_event ?hg (N := 5) ?hd (cs := #[.int .i64 0, .slice none 0 0]) (t := 29) ?hr ?_; (case hd => rfl); (case hg => rfl); (case hr => first | (go_simp; done) | (go_simp; rfl)); intro ge hge w1 hbox hB; have BE := Aside0.mk hbox; have HB := Aside0.mk hB; have HE := Aside0.mk (show w.heap.size ≤ ge by rw [hge]; exact Nat.le_refl _); clear hbox hB hge; have hez0 : w1.cell? ⟨ge, 0, none⟩ = some (.int .i64 0) := (blk_cell BE.out 0).trans rfl; have hez1 : w1.cell? ⟨ge, 1, none⟩ = some (.slice none 0 0) := (blk_cell BE.out 1).trans rfl; have hefz0 := blk_frozen BE.out 0; have hefz1 := blk_frozen BE.out 1))
    have hE1 := blk_put (cs := #[.int .i64 0, .slice none 0 0]) BE.out 0 (.int .i64 0) (cs' := #[.int .i64 0, .slice none 0 0]) rfl
    refine bodyPost_ret (results_tc rfl _ _ ge 29 #[.int .i64 0, .slice none 0 0] (0, 0) _ rfl (blk_put (cs := #[.int .i64 0, .slice none 0 0]) hE1 1 _ rfl) hu29 rfl (by kernel_rfl)) rfl ?_
    exact ⟨rfl, (HB.out.setCell (p := ⟨ge, 0, none⟩) HE.out _).setCell (p := ⟨ge, 1, none⟩) HE.out _⟩
  · by_cases h2 : 40 < n
    · have hd1 : decide (n < 0) = false := decide_eq_false h1
      have hd2 : decide (40 < n) = true := decide_eq_true h2
      clear h
      go_enter Try.func21, Try.ntmps21
      go_wp2_with (first | ((with_reducible refine gate_dst (N := 5) rfl ?_); refine box_event ?hg (N := 5) ?hd (cs := #[.int .i64 0, .slice none 0 0]) (t := 29) ?hr ?_; (case hd => rfl); (case hg => rfl); (case hr => first | (go_simp; done) | (go_simp; rfl)); intro ge hge w1 hbox hB; have BE := Aside0.mk hbox; have HB := Aside0.mk hB; have HE := Aside0.mk (show w.heap.size ≤ ge by rw [hge]; exact Nat.le_refl _); clear hbox hB hge; have hez0 : w1.cell? ⟨ge, 0, none⟩ = some (.int .i64 0) := (blk_cell BE.out 0).trans rfl; have hez1 : w1.cell? ⟨ge, 1, none⟩ = some (.slice none 0 0) := (blk_cell BE.out 1).trans rfl; have hefz0 := blk_frozen BE.out 0; have hefz1 := blk_frozen BE.out 1))
      have hE1 := blk_put (cs := #[.int .i64 0, .slice none 0 0]) BE.out 0 (.int .i64 0) (cs' := #[.int .i64 0, .slice none 0 0]) rfl
      refine bodyPost_ret (results_tc rfl _ _ ge 29 #[.int .i64 0, .slice none 0 0] (0, 0) _ rfl (blk_put (cs := #[.int .i64 0, .slice none 0 0]) hE1 1 _ rfl) hu29 rfl (by kernel_rfl)) rfl ?_
      exact ⟨rfl, (HB.out.setCell (p := ⟨ge, 0, none⟩) HE.out _).setCell (p := ⟨ge, 1, none⟩) HE.out _⟩
    · have h3 : 800 < l := by
        unfold madeOk at h
        simp only [Bool.and_eq_false_iff, decide_eq_false_iff_not] at h
        omega
      have hd1 : decide (n < 0) = false := decide_eq_false h1
      have hd2 : decide (40 < n) = false := decide_eq_false h2
      have hd3 : decide ((800 : Int) < (l : Int)) = true := decide_eq_true (by omega)
      clear h
      go_enter Try.func21, Try.ntmps21
      go_wp2_with (first | ((with_reducible refine gate_dst (N := 5) rfl ?_); refine box_event ?hg (N := 5) ?hd (cs := #[.int .i64 0, .slice none 0 0]) (t := 29) ?hr ?_; (case hd => rfl); (case hg => rfl); (case hr => first | (go_simp; done) | (go_simp; rfl)); intro ge hge w1 hbox hB; have BE := Aside0.mk hbox; have HB := Aside0.mk hB; have HE := Aside0.mk (show w.heap.size ≤ ge by rw [hge]; exact Nat.le_refl _); clear hbox hB hge; have hez0 : w1.cell? ⟨ge, 0, none⟩ = some (.int .i64 0) := (blk_cell BE.out 0).trans rfl; have hez1 : w1.cell? ⟨ge, 1, none⟩ = some (.slice none 0 0) := (blk_cell BE.out 1).trans rfl; have hefz0 := blk_frozen BE.out 0; have hefz1 := blk_frozen BE.out 1))
      have hE1 := blk_put (cs := #[.int .i64 0, .slice none 0 0]) BE.out 0 (.int .i64 0) (cs' := #[.int .i64 0, .slice none 0 0]) rfl
      refine bodyPost_ret (results_tc rfl _ _ ge 29 #[.int .i64 0, .slice none 0 0] (0, 0) _ rfl (blk_put (cs := #[.int .i64 0, .slice none 0 0]) hE1 1 _ rfl) hu29 rfl (by kernel_rfl)) rfl ?_
      exact ⟨rfl, (HB.out.setCell (p := ⟨ge, 0, none⟩) HE.out _).setCell (p := ⟨ge, 1, none⟩) HE.out _⟩
end Go.Proofs.Ytfkmngmnnlgjdaa.Gr

/- Made, walked where it makes a graph. -/
namespace Go.Proofs.Ytfkmngmnnlgjdaa.Gr
open Go Go.RowKit Go.Proofs.Ytfkmngmnnlgjdaa.Gf Go.Proofs.Ytfkmngmnnlgjdaa.Pu Go.Proofs.Ytfkmngmnnlgjdaa.Pr Go.Proofs.Ytfkmngmnnlgjdaa.Mw Go.Proofs.YtfkmngmnnlgjdaaW.PrintWords Go.Proofs.YtfkmngmnnlgjdaaW.PrintLast Go.Proofs.YtfkmngmnnlgjdaaW.PrintMore
set_option linter.unusedVariables false
set_option linter.unusedSimpArgs false
theorem RIs.shape {w : World} {v : Value} {n : Nat} {adj : Adj} (h : RIs w v n adj) : ∃ A m c, v = .slice A m c := by
  obtain ⟨A, c, on, he, _⟩ := h.rd
  exact ⟨A, _, c, he⟩
theorem GIs.box {w : World} {g n : Nat} {v : Value} {adj : Adj} (h : GIs w g v n adj) {gw : Nat} {cs : Array Value} (hb : w.heap[gw]? = some (.cells cs 29 (0, 0))) (j : Nat) (x : Value) : GIs (w.setCell ⟨gw, j, none⟩ x) g v n adj := by
  obtain ⟨h1, rows, hR, hr⟩ := h
  exact ⟨blk_far h1 (p := ⟨gw, j, none⟩) (blk_ne h1 hb (by decide)) x, rows, Kd.R_set hR hb (by decide) j x, hr⟩
theorem RIs.box {w : World} {n : Nat} {v : Value} {adj : Adj} (h : RIs w v n adj) {gw : Nat} {cs : Array Value} (hb : w.heap[gw]? = some (.cells cs 29 (0, 0))) (j : Nat) (x : Value) : RIs (w.setCell ⟨gw, j, none⟩ x) v n adj := by
  obtain ⟨on, hO, hR⟩ := h.own
  exact ⟨on, Kd.R_set hO hb (by decide) j x, hR⟩
/-- What goes on in the loops that join: the graph, and the document's in a block. -/
structure JSt (w wr : World) (g : Nat) (v u : Value) (n : Nat) (adj adj' : Adj) (gw : Nat) : Prop where
  gr : GIs wr g v n adj
  rf : RIs wr u n adj'
  box : wr.heap[gw]? = some (Obj.cells #[.int .i64 n, u] 29 (0, 0))
  own : ∀ k, v.ownBlock = some k → w.heap.size ≤ k
  bel : Below w.heap.size w wr
theorem JSt.drew {w wr : World} {g : Nat} {v u : Value} {n : Nat} {adj adj' : Adj} {gw : Nat} (h : JSt w wr g v u n adj adj' gw) : JSt w wr.drew g v u n adj adj' gw :=
  ⟨h.gr.drew, h.rf.drew, h.box, h.own, below_drew h.bel⟩
theorem JSt.below {w wr w1 : World} {g : Nat} {v u : Value} {n : Nat} {adj adj' : Adj} {gw : Nat} (h : JSt w wr g v u n adj adj' gw) (hB : Below wr.heap.size wr w1) : JSt w w1 g v u n adj adj' gw :=
  ⟨h.gr.below hB, h.rf.below hB, blk_below h.box hB, h.own, below_then h.bel h.bel.size hB⟩
theorem GIs.ne_box {w : World} {g n gw : Nat} {v : Value} {adj : Adj} {cs : Array Value} (h : GIs w g v n adj) (hb : w.heap[gw]? = some (.cells cs 29 (0, 0))) : some gw ≠ v.ownBlock := by
  obtain ⟨_, rows, hR, _⟩ := h
  exact Kd.R_ne hR hb (by decide)
theorem JSt.joined {w wr w1 : World} {g : Nat} {v u : Value} {n : Nat} {adj adj' adj1 : Adj} {gw : Nat} (h : JSt w wr g v u n adj adj' gw) (hG : GIs w1 g v n adj1) (hg : wr.grownBy w1 v.ownBlock) : JSt w w1 g v u n adj1 adj' gw :=
  ⟨hG, h.rf.grown hg (h.gr.ne_ref h.rf), blk_grown h.box hg (h.gr.ne_box h.box), h.own, h.bel.grown hg h.bel.size h.own⟩
/-- The document's graph is laid into its block. -/
theorem JSt.put {w wr : World} {g : Nat} {v u' : Value} {n : Nat} {adj adj' : Adj} {gw : Nat} {x0 x1 : Value} (hG : GIs wr g v n adj) (hR : RIs wr u' n adj') (hb : wr.heap[gw]? = some (Obj.cells #[x0, x1] 29 (0, 0))) (hw : w.heap.size ≤ gw) (ho : ∀ k, v.ownBlock = some k → w.heap.size ≤ k) (hB : Below w.heap.size w wr) :
    JSt w ((wr.setCell ⟨gw, 0, none⟩ (.int .i64 n)).setCell ⟨gw, 1, none⟩ u') g v u' n adj adj' gw := by
  have h1 := blk_put (cs := #[x0, x1]) hb 0 (.int .i64 n) (cs' := #[.int .i64 n, x1]) rfl
  exact ⟨(hG.box hb 0 _).box h1 1 _, (hR.box hb 0 _).box h1 1 _, blk_put (cs := #[.int .i64 n, x1]) h1 1 u' rfl, ho, (hB.setCell (p := ⟨gw, 0, none⟩) hw _).setCell (p := ⟨gw, 1, none⟩) hw _⟩
theorem add_one_ (ad : Addr) (m : Nat) : (⟨(ad.add m).block, (ad.add m).off + 1, none⟩ : Addr) = ad.add (m + 1) := by
  rw [Addr.add_succ']
  unfold Addr.add
  by_cases h : m = 0
  · subst h; simp
  · simp [h]; omega
theorem JoinB (w : World) (g n : Nat) (v : Value) (adj : Adj) (a b : Int) (h : GIs w g v n adj) :
    Calls Try.prog 14 #[.pointer (some ⟨g, 0, none⟩), .int .i64 a, .int .i64 b] w fun e w' => e = .returned (.bool (joinOk n adj a b)) ∧ GIs w' g v n (jn n adj a b) ∧ w.grownBy w' v.ownBlock := Join_any w g n v adj a b h
theorem JIs.at_ {w : World} {ad : Addr} {l : Nat} {js : List (Int × Int)} (h : JIs w (some ad) l js) {i : Nat} (hi : i < l) {p q : Int} (hp : p = (js.getD i (0, 0)).1) (hq : q = (js.getD i (0, 0)).2) :
    w.cell? (ad.add (i * 2)) = some (.int .i64 p) ∧ w.cell? ⟨(ad.add (i * 2)).block, (ad.add (i * 2)).off + 1, none⟩ = some (.int .i64 q) := by
  obtain ⟨ad', e, h1, h2⟩ := h.cells i hi
  injection e with e
  subst e
  rw [add_one_, hp, hq]
  exact ⟨h1, h2⟩
-- TABLE
def MadeR.T8 : Bool × List (List Nat × List Nat) := (true, [([], []), ([], []), ([], []), ([1, 2], [1, 2]), ([3], [3]), ([4], [4]), ([], []), ([], []), ([6, 7], [6, 7]), ([8], [8]), ([9], [9]), ([0, 5, 10], [0, 5, 10]), ([11], [11]), ([12], [12]), ([12], [12]), ([13, 11, 0, 1, 2, 3, 4, 5, 6, 7, 8, 9, 10, 11, 12, 13], [13])])
def MadeR.B8 : List Nat := [0, 0, 0, 6, 14, 30, 0, 0, 192, 448, 960, 2047, 4095, 8191, 8191, 16383]
theorem MadeR.tab8 : rtab .any (opsOf Try.f21 8) = MadeR.T8 := by kernel_rfl
theorem MadeR.bits8 : waitsOk MadeR.T8.2 MadeR.B8 = true := by kernel_rfl
-- END TABLE
set_option maxRecDepth 100000 in
set_option maxHeartbeats 1000000 in
theorem Made_is (w : World) (n : Nat) (A : Option Addr) (l c : Nat) (js : List (Int × Int)) (hn : n ≤ 40) (hl : l ≤ 800) (hJ : JIs w A l js) :
    Calls Try.prog 21 #[.int .i64 n, .slice A l c] w fun e w' => ∃ g v u, e = .returned (.tuple #[.pointer (some ⟨g, 0, none⟩), .agg #[.int .i64 n, u]]) ∧ GIs w' g v n (jt n js l) ∧ RIs w' u n (jt n js l) ∧ (∀ k, v.ownBlock = some k → w.heap.size ≤ k) ∧ Below w.heap.size w w' := by
  have hu29 := Try.underlying29
  have HJ := Aside0.mk hJ
  clear hJ
  have hd1 : decide ((n : Int) < 0) = false := decide_eq_false (by omega)
  have hd2 : decide (40 < (n : Int)) = false := decide_eq_false (by omega)
  have hd3 : decide ((800 : Int) < (l : Int)) = false := decide_eq_false (by omega)
  go_enter Try.func21, Try.ntmps21
  go_wp2_with (first
    | ((with_reducible refine gate_dst (N := 5) rfl ?_); refine box_event ?hg (N := 5) ?hd (cs := #[.int .i64 0, .slice none 0 0]) (t := 29) ?hr ?_; (case hd => rfl); (case hg => rfl); (case hr => first | (go_simp; done) | (go_simp; rfl)); intro ge hge w1 hbox hB; have BE := Aside0.mk hbox; have HB := Aside0.mk hB; have HE := Aside0.mk (show w.heap.size ≤ ge by rw [hge]; exact Nat.le_refl _); clear hbox hB hge)
    | (go_at_call 9; refine (New_is _ n (by omega)).mono ?_; rintro e w2 ⟨g, v, rfl, hG, hgb, hvb, hB⟩; have HG := Aside0.mk hG; have HV := Aside0.mk (fun k hk => Nat.le_trans HB.out.size (hvb k hk) : ∀ k, v.ownBlock = some k → w.heap.size ≤ k); have BE2 := Aside0.mk (blk_below BE.out hB); have HB2 := Aside0.mk (below_then HB.out HB.out.size hB); clear hG hgb hvb hB BE HB)
    | (go_at_call 12; refine (RNew_is _ n (by omega)).mono ?_; rintro e w3 ⟨u, rfl, hR, hB⟩; obtain ⟨Au, mu, cu, rfl⟩ := hR.shape; have HR := Aside0.mk hR; have HG3 := Aside0.mk (HG.out.below hB); have BE3 := Aside0.mk (blk_below BE2.out hB); have HB3 := Aside0.mk (below_then HB2.out HB2.out.size hB); clear hR hB BE2 HB2 HG)
    | ((with_reducible refine gate_dst (N := 7) rfl ?_); refine box_event ?hg (N := 7) ?hd (cs := #[.int .i64 0, .slice none 0 0]) (t := 29) ?hr ?_; (case hd => rfl); (case hg => rfl); (case hr => first | (go_simp; done) | (go_simp; rfl)); intro gw hgw w4 hbox hB; have BW := Aside0.mk hbox; have HR4 := Aside0.mk (HR.out.below hB); have HG4 := Aside0.mk (HG3.out.below hB); have BE4 := Aside0.mk (blk_below BE3.out hB); have HW := Aside0.mk (show w.heap.size ≤ gw by rw [hgw]; exact HB3.out.size); have NE := Aside0.mk (show ge ≠ gw by rw [hgw]; exact Nat.ne_of_lt (blk_lt BE3.out)); have HB4 := Aside0.mk (below_then HB3.out HB3.out.size hB); clear hbox hB hgw HR HG3 BE3 HB3; have hz0 : w4.cell? ⟨gw, 0, none⟩ = some (.int .i64 0) := (blk_cell BW.out 0).trans rfl; have hz1 : w4.cell? ⟨gw, 1, none⟩ = some (.slice none 0 0) := (blk_cell BW.out 1).trans rfl; have hfz0 := blk_frozen BW.out 0; have hfz1 := blk_frozen BW.out 1))
  have hJ5 := Aside0.mk (JSt.put HG4.out HR4.out BW.out HW.out HV.out HB4.out)
  have hE5 := Aside0.mk (blk_far (blk_far BE4.out (p := ⟨gw, 0, none⟩) NE.out (.int .i64 n)) (p := ⟨gw, 1, none⟩) NE.out (.slice Au mu cu))
  clear HG4 HR4 BW HB4 BE4 hz0 hz1 hfz0 hfz1
  generalize (w4.setCell ⟨gw, 0, none⟩ (.int .i64 n)).setCell ⟨gw, 1, none⟩ (.slice Au mu cu) = w5 at hJ5 hE5 ⊢
  go_loopw [8] (fun v8 wr => ∃ (i : Nat) (A1 : Option Addr) (m1 c1 : Nat), i ≤ l ∧ v8 = .int .i64 i ∧ Aside0 (JSt w wr g v (.slice A1 m1 c1) n (jt n js i) (jt n js i) gw) ∧ Aside0 (wr.heap[ge]? = some (Obj.cells #[.int .i64 0, .slice none 0 0] 29 (0, 0)))) (fun v8 _ => l - (intOf v8).toNat)
  case atStart => exact ⟨0, Au, mu, cu, Nat.zero_le _, rfl, hJ5, hE5⟩
  case round =>
    clear hJ5 hE5
    obtain ⟨i, A1, m1, c1, hi, rfl, HS, BE⟩ := hrel
    by_cases hlt : i < l
    · obtain ⟨ad, hA, _, _⟩ := (HJ.out.below HS.out.bel).cells i hlt
      subst hA
      obtain ⟨p, hpe⟩ : ∃ p, p = (js.getD i (0, 0)).1 := ⟨_, rfl⟩
      obtain ⟨q, hqe⟩ : ∃ q, q = (js.getD i (0, 0)).2 := ⟨_, rfl⟩
      obtain ⟨hc0, hc2⟩ := (HJ.out.below HS.out.bel).at_ hlt hpe hqe
      have hli : (i : Int) < (l : Int) := by omega
      have HPQ := Aside0.mk (And.intro hpe hqe)
      clear hpe hqe
      go_wp2
      have HSd := Aside0.mk HS.out.drew
      have BEd : Aside0 (wr.drew.heap[ge]? = some (Obj.cells #[.int .i64 0, .slice none 0 0] 29 (0, 0))) := BE
      clear HS BE
      go_region_held3 (fun w' => w'.cell? (ad.add (i * 2)) = some (.int .i64 p) ∧ w'.cell? ⟨(ad.add (i * 2)).block, (ad.add (i * 2)).off + 1, none⟩ = some (.int .i64 q)) (first | exact ⟨hc0, hc2⟩) (first
        | (go_at_call 14; refine (JoinB _ g n v _ p q HSd.out.gr).mono ?_; rintro e w6 ⟨rfl, hG, hg⟩; have HS6 := Aside0.mk (HSd.out.joined hG hg); have BE6 := Aside0.mk (blk_grown BEd.out hg (HSd.out.gr.ne_box BEd.out)); clear HSd BEd hG hg hc0 hc2; obtain ⟨hc0, hc2⟩ := (HJ.out.below HS6.out.bel).at_ hlt HPQ.out.1 HPQ.out.2))
      have hz0 : w6.cell? ⟨gw, 0, none⟩ = some (.int .i64 n) := (blk_cell HS6.out.box 0).trans rfl
      have hz1 : w6.cell? ⟨gw, 1, none⟩ = some (.slice A1 m1 c1) := (blk_cell HS6.out.box 1).trans rfl
      go_wp2
      -- REGION
      refine start_ (n := 16) (S := (fun w' => w'.cell? ⟨gw, 0, none⟩ = some (.int .i64 n) ∧ w'.cell? ⟨gw, 1, none⟩ = some (.slice A1 m1 c1) ∧ w'.cell? (ad.add (i * 2)) = some (.int .i64 p) ∧ w'.cell? ⟨(ad.add (i * 2)).block, (ad.add (i * 2)).off + 1, none⟩ = some (.int .i64 q))) (ds := [15]) #[false, false, false, false, false, false, false, false, false, false, false, false, false, false, false, false] (by kernel_rfl) rfl rfl ⟨hz0, hz1, hc0, hc2⟩ (fun hHeld => ?_); refine with_tabW MadeR.tab8 MadeR.bits8 (fun HT_ HW_ => ?_)
      have HS7 := Aside0.mk HS6.out.drew
      have BE7 : Aside0 (w6.drew.heap[ge]? = some (Obj.cells #[.int .i64 0, .slice none 0 0] 29 (0, 0))) := BE6
      clear HS6 BE6 hz0 hz1 hc0 hc2
      generalize w6.drew = w7 at HS7 BE7 hHeld ⊢
      refine take_ (i := 0) (N := some 44) (v := ?_) (a' := ?_) #[true, false, false, false, false, false, false, false, false, false, false, false, false, false, false, false] rfl rfl (take_ofW HT_.out HW_.out (by kernel_rfl)) (fun _ _ _ h => h) (Or.inl ⟨by rfl, ?_⟩) hHeld ?_ ?_
      rotate_left
      · intro w' s0
        (obtain ⟨s0, s1, s2, s3⟩ := s0)
        go_simp
        with_reducible rfl
      rotate_left
      · simp only [Act.put, List.setIfInBounds_toArray, List.set_cons_zero, List.set_cons_succ, i64_w, i32_w]
        rfl
      refine pure_ (i := 1) (N := some 45) (v := ?_) (a' := ?_) #[true, true, false, false, false, false, false, false, false, false, false, false, false, false, false, false] rfl rfl (any_of HT_.out (by kernel_rfl)) (fun _ _ _ h => h) (Or.inl ⟨by rfl, ?_⟩) ?_ ?_
      rotate_left
      · intro w'
        go_simp
        with_reducible rfl
      rotate_left
      · simp only [Act.put, List.setIfInBounds_toArray, List.set_cons_zero, List.set_cons_succ, i64_w, i32_w]
        rfl
      refine pure_ (i := 2) (N := some 46) (v := ?_) (a' := ?_) #[true, true, true, false, false, false, false, false, false, false, false, false, false, false, false, false] rfl rfl (any_of HT_.out (by kernel_rfl)) (fun _ _ _ h => h) (Or.inl ⟨by rfl, ?_⟩) ?_ ?_
      rotate_left
      · intro w'
        go_simp
        with_reducible rfl
      rotate_left
      · simp only [Act.put, List.setIfInBounds_toArray, List.set_cons_zero, List.set_cons_succ, i64_w, i32_w]
        rfl
      refine pure_ (i := 3) (N := some 47) (v := ?_) (a' := ?_) #[true, true, true, true, false, false, false, false, false, false, false, false, false, false, false, false] rfl rfl (any_of HT_.out (by kernel_rfl)) (fun _ _ _ h => h) (Or.inl ⟨by rfl, ?_⟩) ?_ ?_
      rotate_left
      · intro w'
        go_simp
        with_reducible rfl
      rotate_left
      · simp only [Act.put, List.setIfInBounds_toArray, List.set_cons_zero, List.set_cons_succ, i64_w, i32_w]
        rfl
      refine pure_ (i := 4) (N := some 48) (v := ?_) (a' := ?_) #[true, true, true, true, true, false, false, false, false, false, false, false, false, false, false, false] rfl rfl (any_of HT_.out (by kernel_rfl)) (fun _ _ _ h => h) (Or.inl ⟨by rfl, ?_⟩) ?_ ?_
      rotate_left
      · intro w'
        go_simp
        with_reducible rfl
      rotate_left
      · simp only [Act.put, List.setIfInBounds_toArray, List.set_cons_zero, List.set_cons_succ, i64_w, i32_w]
        rfl
      refine take_ (i := 5) (N := some 49) (v := ?_) (a' := ?_) #[true, true, true, true, true, true, false, false, false, false, false, false, false, false, false, false] rfl rfl (take_ofW HT_.out HW_.out (by kernel_rfl)) (fun _ _ _ h => h) (Or.inl ⟨by rfl, ?_⟩) hHeld ?_ ?_
      rotate_left
      · intro w' s0
        (obtain ⟨s0, s1, s2, s3⟩ := s0)
        go_simp
        with_reducible rfl
      rotate_left
      · simp only [Act.put, List.setIfInBounds_toArray, List.set_cons_zero, List.set_cons_succ, i64_w, i32_w]
        rfl
      refine pure_ (i := 6) (N := some 50) (v := ?_) (a' := ?_) #[true, true, true, true, true, true, true, false, false, false, false, false, false, false, false, false] rfl rfl (any_of HT_.out (by kernel_rfl)) (fun _ _ _ h => h) (Or.inl ⟨by rfl, ?_⟩) ?_ ?_
      rotate_left
      · intro w'
        go_simp
        with_reducible rfl
      rotate_left
      · simp only [Act.put, List.setIfInBounds_toArray, List.set_cons_zero, List.set_cons_succ, i64_w, i32_w]
        rfl
      refine pure_ (i := 7) (N := some 51) (v := ?_) (a' := ?_) #[true, true, true, true, true, true, true, true, false, false, false, false, false, false, false, false] rfl rfl (any_of HT_.out (by kernel_rfl)) (fun _ _ _ h => h) (Or.inl ⟨by rfl, ?_⟩) ?_ ?_
      rotate_left
      · intro w'
        go_simp
        with_reducible rfl
      rotate_left
      · simp only [Act.put, List.setIfInBounds_toArray, List.set_cons_zero, List.set_cons_succ, i64_w, i32_w]
        rfl
      refine pure_ (i := 8) (N := some 52) (v := ?_) (a' := ?_) #[true, true, true, true, true, true, true, true, true, false, false, false, false, false, false, false] rfl rfl (any_of HT_.out (by kernel_rfl)) (fun _ _ _ h => h) (Or.inl ⟨by rfl, ?_⟩) ?_ ?_
      rotate_left
      · intro w'
        go_simp
        with_reducible rfl
      rotate_left
      · simp only [Act.put, List.setIfInBounds_toArray, List.set_cons_zero, List.set_cons_succ, i64_w, i32_w]
        rfl
      refine pure_ (i := 9) (N := some 53) (v := ?_) (a' := ?_) #[true, true, true, true, true, true, true, true, true, true, false, false, false, false, false, false] rfl rfl (any_of HT_.out (by kernel_rfl)) (fun _ _ _ h => h) (Or.inl ⟨by rfl, ?_⟩) ?_ ?_
      rotate_left
      · intro w'
        go_simp
        with_reducible rfl
      rotate_left
      · simp only [Act.put, List.setIfInBounds_toArray, List.set_cons_zero, List.set_cons_succ, i64_w, i32_w]
        rfl
      refine take_ (i := 10) (N := some 54) (v := ?_) (a' := ?_) #[true, true, true, true, true, true, true, true, true, true, true, false, false, false, false, false] rfl rfl (take_ofW HT_.out HW_.out (by kernel_rfl)) (fun _ _ _ h => h) (Or.inl ⟨by rfl, ?_⟩) hHeld ?_ ?_
      rotate_left
      · intro w' s0
        (obtain ⟨s0, s1, s2, s3⟩ := s0)
        go_simp
        with_reducible rfl
      rotate_left
      · simp only [Act.put, List.setIfInBounds_toArray, List.set_cons_zero, List.set_cons_succ, i64_w, i32_w]
        rfl
      refine one_ (i := 11) (N := some 55) #[true, true, true, true, true, true, true, true, true, true, true, true, false, false, false, false] rfl rfl (one_of HT_.out (by kernel_rfl)) (by decide) (fun K hK => ?_)
      refine goes_ Try.func13 (by kernel_rfl) rfl #[.agg #[.int .i64 n, .slice A1 m1 c1], .int .i64 p, .int .i64 q] (by rfl) rfl rfl (by (try simp only [List.map_toArray, List.map_cons, List.map_nil]); first | done | rfl) ?_
      refine (RJoin_is w7 (.slice A1 m1 c1) n _ p q HS7.out.rf).mono ?_
      rintro e w8 ⟨u', rfl, hR, hB⟩
      obtain ⟨A2, m2, c2, rfl⟩ := hR.shape
      have HR8 := Aside0.mk hR
      have HS8 := Aside0.mk (HS7.out.below hB)
      have BE8 := Aside0.mk (blk_below BE7.out hB)
      have hj8 := (HJ.out.below HS8.out.bel).at_ hlt HPQ.out.1 HPQ.out.2
      refine ⟨_, rfl, hK.out _ _ ⟨(blk_cell HS8.out.box 0).trans rfl, (blk_cell HS8.out.box 1).trans rfl, hj8.1, hj8.2⟩ (fun hHeld => ?_)⟩
      clear hK K HS7 BE7 hR hB hj8
      simp only [Act.put, List.setIfInBounds_toArray, List.set_cons_zero, List.set_cons_succ]
      have hz0 : w8.cell? ⟨gw, 0, none⟩ = some (.int .i64 n) := (blk_cell HS8.out.box 0).trans rfl
      have hz1 : w8.cell? ⟨gw, 1, none⟩ = some (.slice A1 m1 c1) := (blk_cell HS8.out.box 1).trans rfl
      have hfz0 := blk_frozen HS8.out.box 0
      have hfz1 := blk_frozen HS8.out.box 1
      refine pure_ (i := 12) (N := some 43) (v := ?_) (a' := ?_) #[true, true, true, true, true, true, true, true, true, true, true, true, true, false, false, false] rfl rfl (any_of HT_.out (by kernel_rfl)) (fun _ _ _ h => h) (Or.inl ⟨by rfl, ?_⟩) ?_ ?_
      rotate_left
      · intro w'
        go_simp
        with_reducible rfl
      rotate_left
      · simp only [Act.put, List.setIfInBounds_toArray, List.set_cons_zero, List.set_cons_succ, i64_w, i32_w]
        rfl
      refine pure_ (i := 13) (N := some 56) (v := ?_) (a' := ?_) #[true, true, true, true, true, true, true, true, true, true, true, true, true, true, false, false] rfl rfl (any_of HT_.out (by kernel_rfl)) (fun _ _ _ h => h) (Or.inl ⟨by rfl, ?_⟩) ?_ ?_
      rotate_left
      · intro w'
        go_simp
        with_reducible rfl
      rotate_left
      · simp only [Act.put, List.setIfInBounds_toArray, List.set_cons_zero, List.set_cons_succ, i64_w, i32_w]
        rfl
      refine pure_ (i := 14) (N := some 57) (v := ?_) (a' := ?_) #[true, true, true, true, true, true, true, true, true, true, true, true, true, true, true, false] rfl rfl (any_of HT_.out (by kernel_rfl)) (fun _ _ _ h => h) (Or.inl ⟨by rfl, ?_⟩) ?_ ?_
      rotate_left
      · intro w'
        go_simp
        with_reducible rfl
      rotate_left
      · simp only [Act.put, List.setIfInBounds_toArray, List.set_cons_zero, List.set_cons_succ, i64_w, i32_w]
        rfl
      refine last_ (i := 15) (N := none) #[true, true, true, true, true, true, true, true, true, true, true, true, true, true, true, true] rfl rfl (one_of HT_.out (by kernel_rfl)) (by decide) (fun K hK => ?_)
      refine skip_ (w1 := ?_) (by rfl) rfl ?_ ?_
      rotate_left
      · go_simp
        rfl
      refine hK.out _ _ ?_
      clear hK K
      refine done_ (done_of HT_.out (by kernel_rfl)) ?_
      -- END REGION
      go_wp2
      have hjt : jn n (jt n js i) p q = jt n js (i + 1) := by
        show _ = jn n (jt n js i) (js.getD i (0, 0)).1 (js.getD i (0, 0)).2
        rw [HPQ.out.1, HPQ.out.2]
      have hput := JSt.put HS8.out.gr HR8.out HS8.out.box HW.out HS8.out.own HS8.out.bel
      rw [hjt] at hput
      exact ⟨⟨i + 1, A2, m2, c2, by omega, by go_num, ⟨hput⟩, ⟨blk_far (blk_far BE8.out (p := ⟨gw, 0, none⟩) NE.out _) (p := ⟨gw, 1, none⟩) NE.out _⟩⟩, by simp [intOf]; omega⟩
    · obtain rfl : i = l := by omega
      go_wp2
      have HSd := Aside0.mk HS.out.drew
      have BEd : Aside0 (wr.drew.heap[ge]? = some (Obj.cells #[.int .i64 0, .slice none 0 0] 29 (0, 0))) := BE
      have hz0 : wr.cell? ⟨gw, 0, none⟩ = some (.int .i64 n) := (blk_cell HS.out.box 0).trans rfl
      have hz1 : wr.cell? ⟨gw, 1, none⟩ = some (.slice A1 m1 c1) := (blk_cell HS.out.box 1).trans rfl
      have hE1 := blk_put (cs := #[.int .i64 0, .slice none 0 0]) BEd.out 0 (.int .i64 n) (cs' := #[.int .i64 n, .slice none 0 0]) rfl
      have hE2 := blk_put (cs := #[.int .i64 n, .slice none 0 0]) hE1 1 (.slice A1 m1 c1) (cs' := #[.int .i64 n, .slice A1 m1 c1]) rfl
      have hG2 := (HSd.out.gr.box BEd.out 0 (.int .i64 n)).box hE1 1 (.slice A1 m1 c1)
      have hR2 := (HSd.out.rf.box BEd.out 0 (.int .i64 n)).box hE1 1 (.slice A1 m1 c1)
      have hB2 := (HSd.out.bel.setCell (p := ⟨ge, 0, none⟩) HE.out (.int .i64 n)).setCell (p := ⟨ge, 1, none⟩) HE.out (.slice A1 m1 c1)
      have hbx := blk_far (blk_far HSd.out.box (p := ⟨ge, 0, none⟩) (Ne.symm NE.out) (.int .i64 n)) (p := ⟨ge, 1, none⟩) (Ne.symm NE.out) (.slice A1 m1 c1)
      have hy0 := blk_cell hbx 0
      have hy1 := blk_cell hbx 1
      have HK := Aside0.mk (And.intro hE2 (And.intro hG2 (And.intro hR2 (And.intro hB2 (And.intro hy0 hy1)))))
      have hefz0 : wr.frozen? ⟨ge, 0, none⟩ = false := blk_frozen BE.out 0
      have hefz1 : wr.frozen? ⟨ge, 1, none⟩ = false := blk_frozen BE.out 1
      have hez0 : wr.cell? ⟨ge, 0, none⟩ = some (.int .i64 0) := (blk_cell BE.out 0).trans rfl
      have hez1 : wr.cell? ⟨ge, 1, none⟩ = some (.slice none 0 0) := (blk_cell BE.out 1).trans rfl
      have hov := HS.out.own
      have HO := Aside0.mk hov
      clear hE1 hE2 hG2 hR2 hB2 hbx hy0 hy1 hov
      go_region_held3 (fun w' => w'.cell? ⟨gw, 0, none⟩ = some (.int .i64 n) ∧ w'.cell? ⟨gw, 1, none⟩ = some (.slice A1 m1 c1)) (first | exact ⟨hz0, hz1⟩ | exact HK.out.2.2.2.2) (fail)
      go_wp2
      refine bodyPost_ret (results_tc rfl _ _ ge 29 #[.int .i64 n, .slice A1 m1 c1] (0, 0) _ rfl HK.out.1 hu29 rfl (by kernel_rfl)) rfl ?_
      exact ⟨g, v, _, rfl, HK.out.2.1, HK.out.2.2.1, HO.out, HK.out.2.2.2.1⟩
end Go.Proofs.Ytfkmngmnnlgjdaa.Gr

/- GraphTells, walked. -/
namespace Go.Proofs.Ytfkmngmnnlgjdaa.Gr
open Go Go.RowKit Go.Proofs.Ytfkmngmnnlgjdaa.Gf Go.Proofs.Ytfkmngmnnlgjdaa.Pu Go.Proofs.Ytfkmngmnnlgjdaa.Pr Go.Proofs.Ytfkmngmnnlgjdaa.Mw Go.Proofs.YtfkmngmnnlgjdaaW.PrintWords Go.Proofs.YtfkmngmnnlgjdaaW.PrintLast Go.Proofs.YtfkmngmnnlgjdaaW.PrintMore
set_option linter.unusedVariables false
set_option linter.unusedSimpArgs false
theorem madeOk_nat {a : Int} {l : Nat} (h : madeOk a l = true) : ∃ n : Nat, a = n ∧ n ≤ 40 ∧ l ≤ 800 := by
  simp only [madeOk, Bool.and_eq_true, decide_eq_true_eq] at h
  obtain ⟨⟨h0, h1⟩, h2⟩ := h
  obtain ⟨n, rfl⟩ := Int.eq_ofNat_of_zero_le h0
  exact ⟨n, rfl, by omega, h2⟩
theorem parts_len_in {n : Nat} (hn : n ≤ 40) (adj : Adj) : (((parts n adj).map nats).length ≤ 9223372036854775807) ∧ ∀ j, ((((parts n adj).map nats).getD j []).length ≤ 9223372036854775807) := by
  constructor
  · rw [List.length_map]
    have := partsTo_length n adj n
    unfold parts
    omega
  · intro j
    rw [List.getD_eq_getElem?_getD, List.getElem?_map]
    cases h : (parts n adj)[j]? with
    | none => simp
    | some x =>
      simp only [Option.map_some, Option.getD_some]
      rw [nats_length]
      have hm := List.mem_of_getElem? h
      unfold parts partsTo at hm
      obtain ⟨a, _, rfl⟩ := List.mem_map.1 hm
      unfold comp
      have := List.length_filter_le (fun b => @decide (Pu.Reach adj a b) (Classical.propDecidable _)) (List.range n)
      rw [List.length_range] at this
      omega
set_option maxRecDepth 100000 in
set_option maxHeartbeats 1000000 in
theorem Tells_is (w : World) (a : Int) (A : Option Addr) (l c : Nat) (js : List (Int × Int)) (hJ : JIs w A l js) :
    Calls Try.prog 5 #[.int .i64 a, .slice A l c] w fun e w' => e = .returned (.bool true) ∧ Below w.heap.size w w' := by
  have hu29 := Try.underlying29
  have HJ := Aside0.mk hJ
  clear hJ
  cases hok : madeOk a l with
  | false =>
    have HK := Aside0.mk hok
    clear hok
    go_enter Try.func5, Try.ntmps5
    go_wp2_with (first
      | (go_at_call 21; refine (Made_no _ a A l c HK.out).mono ?_; rintro e w1 ⟨rfl, hB⟩; have HB := Aside0.mk hB; clear hB)
      | ((with_reducible refine gate_dst (N := 6) rfl ?_); refine box_event ?hg (N := 6) ?hd (cs := #[.int .i64 0, .slice none 0 0]) (t := 29) ?hr ?_; (case hd => rfl); (case hg => rfl); (case hr => first | (go_simp; done) | (go_simp; rfl)); intro gw hgw w2 hbox hB; have BW := Aside0.mk hbox; have HW := Aside0.mk (show w.heap.size ≤ gw by rw [hgw]; exact HB.out.size); have HB2 := Aside0.mk (below_then HB.out HB.out.size hB); clear hbox hB hgw HB; have hz0 : w2.cell? ⟨gw, 0, none⟩ = some (.int .i64 0) := (blk_cell BW.out 0).trans rfl; have hz1 : w2.cell? ⟨gw, 1, none⟩ = some (.slice none 0 0) := (blk_cell BW.out 1).trans rfl; have hfz0 := blk_frozen BW.out 0; have hfz1 := blk_frozen BW.out 1)
      | (go_at_call 10; refine (heads_is _).mono ?_; rintro e w5 ⟨rfl, hB⟩; have HB3 := Aside0.mk (below_then ((HB2.out.setCell (p := ⟨gw, 0, none⟩) HW.out _).setCell (p := ⟨gw, 1, none⟩) HW.out _) ((HB2.out.setCell (p := ⟨gw, 0, none⟩) HW.out _).setCell (p := ⟨gw, 1, none⟩) HW.out _).size hB); clear hB))
    go_ret
    exact ⟨rfl, HB3.out⟩
  | true =>
    obtain ⟨n, rfl, hn, hl⟩ := madeOk_nat hok
    clear hok
    go_enter Try.func5, Try.ntmps5
    go_wp2_with (first
      | (go_at_call 21; refine (Made_is _ n A l c js hn hl HJ.out).mono ?_; rintro e w1 ⟨g, v, u, rfl, hG, hR, hV, hB⟩; obtain ⟨Au, mu, cu, rfl⟩ := hR.shape; have HG := Aside0.mk hG; have HR := Aside0.mk hR; have HV := Aside0.mk hV; have HB := Aside0.mk hB; clear hG hR hV hB)
      | ((with_reducible refine gate_dst (N := 6) rfl ?_); refine box_event ?hg (N := 6) ?hd (cs := #[.int .i64 0, .slice none 0 0]) (t := 29) ?hr ?_; (case hd => rfl); (case hg => rfl); (case hr => first | (go_simp; done) | (go_simp; rfl)); intro gw hgw w2 hbox hB; have BW := Aside0.mk hbox; have HG2 := Aside0.mk (HG.out.below hB); have HR2 := Aside0.mk (HR.out.below hB); have HW := Aside0.mk (show w.heap.size ≤ gw by rw [hgw]; exact HB.out.size); have HB2 := Aside0.mk (below_then HB.out HB.out.size hB); clear hbox hB hgw HB HG HR; have hz0 : w2.cell? ⟨gw, 0, none⟩ = some (.int .i64 0) := (blk_cell BW.out 0).trans rfl; have hz1 : w2.cell? ⟨gw, 1, none⟩ = some (.slice none 0 0) := (blk_cell BW.out 1).trans rfl; have hfz0 := blk_frozen BW.out 0; have hfz1 := blk_frozen BW.out 1))
    have HS := Aside0.mk (JSt.put HG2.out HR2.out BW.out HW.out HV.out HB2.out)
    clear HG2 HR2 BW HV HB2 hz0 hz1 hfz0 hfz1
    generalize (w2.setCell ⟨gw, 0, none⟩ (.int .i64 n)).setCell ⟨gw, 1, none⟩ (.slice Au mu cu) = w3 at HS ⊢
    have hz0 : w3.cell? ⟨gw, 0, none⟩ = some (.int .i64 n) := (blk_cell HS.out.box 0).trans rfl
    have hz1 : w3.cell? ⟨gw, 1, none⟩ = some (.slice Au mu cu) := (blk_cell HS.out.box 1).trans rfl
    have HS3 := Aside0.mk HS.out.drew
    clear HS
    go_wp2
    go_region_held3 (fun w' => w'.cell? ⟨gw, 0, none⟩ = some (.int .i64 n) ∧ w'.cell? ⟨gw, 1, none⟩ = some (.slice Au mu cu)) (first | exact ⟨hz0, hz1⟩) (first
      | (go_at_call 22; refine (Parts_is _ g n v _ HS3.out.gr).mono ?_; rintro e w4 ⟨v4, rfl, hR, hB⟩; have HS4 := Aside0.mk (HS3.out.below hB); have H4 := Aside0.mk hR; clear hR hB HS3 hz0 hz1; have hz0 : w4.cell? ⟨gw, 0, none⟩ = some (.int .i64 n) := (blk_cell HS4.out.box 0).trans rfl; have hz1 : w4.cell? ⟨gw, 1, none⟩ = some (.slice Au mu cu) := (blk_cell HS4.out.box 1).trans rfl)
      | (go_at_call 25; refine (RParts_is _ _ n _ HS4.out.rf).mono ?_; rintro e w5 ⟨v5, rfl, hR, hB⟩; have HS5 := Aside0.mk (HS4.out.below hB); have H5 := Aside0.mk (Kd.R_below H4.out hB); have H6 := Aside0.mk (Kd.S_R hR); clear hR hB HS4 H4 hz0 hz1; have hz0 : w5.cell? ⟨gw, 0, none⟩ = some (.int .i64 n) := (blk_cell HS5.out.box 0).trans rfl; have hz1 : w5.cell? ⟨gw, 1, none⟩ = some (.slice Au mu cu) := (blk_cell HS5.out.box 1).trans rfl)
      | (go_at_call 24; refine (Rows_is _ _ _ ((parts n (jt n js l)).map nats) ((parts n (jt n js l)).map nats) H5.out H6.out (parts_len_in hn _).1 (parts_len_in hn _).2).mono ?_; rintro e w6 ⟨rfl, hB⟩; rw [decide_eq_true (show (parts n (jt n js l)).map nats = (parts n (jt n js l)).map nats from rfl)]; have HS6 := Aside0.mk (HS5.out.below hB); clear hB HS5 H5 H6 hz0 hz1; have hz0 : w6.cell? ⟨gw, 0, none⟩ = some (.int .i64 n) := (blk_cell HS6.out.box 0).trans rfl; have hz1 : w6.cell? ⟨gw, 1, none⟩ = some (.slice Au mu cu) := (blk_cell HS6.out.box 1).trans rfl)
      | (go_at_call 26; refine (Shell_is _ g n v _ HS6.out.gr).mono ?_; rintro e w7 ⟨v7, rfl, hR, hB⟩; have HS7 := Aside0.mk (HS6.out.below hB); have H7 := Aside0.mk hR; clear hR hB HS6 hz0 hz1; have hz0 : w7.cell? ⟨gw, 0, none⟩ = some (.int .i64 n) := (blk_cell HS7.out.box 0).trans rfl; have hz1 : w7.cell? ⟨gw, 1, none⟩ = some (.slice Au mu cu) := (blk_cell HS7.out.box 1).trans rfl)
      | (go_at_call 27; refine (RShell_is _ _ n _ HS7.out.rf).mono ?_; rintro e w8 ⟨v8, rfl, hR, hB⟩; have HS8 := Aside0.mk (HS7.out.below hB); have H8 := Aside0.mk (Kd.R_below H7.out hB); have H9 := Aside0.mk hR; clear hR hB HS7 H7 hz0 hz1; have hz0 : w8.cell? ⟨gw, 0, none⟩ = some (.int .i64 n) := (blk_cell HS8.out.box 0).trans rfl; have hz1 : w8.cell? ⟨gw, 1, none⟩ = some (.slice Au mu cu) := (blk_cell HS8.out.box 1).trans rfl)
      | (go_at_call 18; refine (Ints_is _ _ _ (nats (shell n (jt n js l))) (nats (shell n (jt n js l))) H8.out H9.out).mono ?_; rintro e w9 ⟨rfl, hB⟩; rw [decide_eq_true (show nats (shell n (jt n js l)) = nats (shell n (jt n js l)) from rfl)]; have HS9 := Aside0.mk (HS8.out.below hB); clear hB HS8 H8 H9 hz0 hz1; have hz0 : w9.cell? ⟨gw, 0, none⟩ = some (.int .i64 n) := (blk_cell HS9.out.box 0).trans rfl; have hz1 : w9.cell? ⟨gw, 1, none⟩ = some (.slice Au mu cu) := (blk_cell HS9.out.box 1).trans rfl)
      | (go_at_call 10; refine (heads_is _).mono ?_; rintro e w10 ⟨rfl, hB⟩; have HS10 := Aside0.mk (HS9.out.below hB); clear hB HS9 hz0 hz1; have hz0 : w10.cell? ⟨gw, 0, none⟩ = some (.int .i64 n) := (blk_cell HS10.out.box 0).trans rfl; have hz1 : w10.cell? ⟨gw, 1, none⟩ = some (.slice Au mu cu) := (blk_cell HS10.out.box 1).trans rfl))
    go_wp2
    go_ret
    exact ⟨rfl, HS10.out.bel⟩
end Go.Proofs.Ytfkmngmnnlgjdaa.Gr

/- GraphCopies, walked. -/
namespace Go.Proofs.Ytfkmngmnnlgjdaa.Gr
open Go Go.RowKit Go.Proofs.Ytfkmngmnnlgjdaa.Gf Go.Proofs.Ytfkmngmnnlgjdaa.Pu Go.Proofs.Ytfkmngmnnlgjdaa.Pr Go.Proofs.Ytfkmngmnnlgjdaa.Mw Go.Proofs.YtfkmngmnnlgjdaaW.PrintWords Go.Proofs.YtfkmngmnnlgjdaaW.PrintLast Go.Proofs.YtfkmngmnnlgjdaaW.PrintMore
set_option linter.unusedVariables false
set_option linter.unusedSimpArgs false
theorem joinOk_comm {n : Nat} {adj : Adj} (hS : Sane n adj) (a b : Int) : joinOk n adj b a = joinOk n adj a b := by
  have key : ∀ x y : Int, joinOk n adj x y = true → joinOk n adj y x = true := by
    intro x y h
    obtain ⟨p, q, rfl, rfl, hp, hq, hpq, hadj⟩ := joinOk_nat h
    unfold joinOk isN
    rw [hasN_nat hq, hS.sym, hadj]
    simp [hp, hq]
    omega
  cases h1 : joinOk n adj a b with
  | true => exact key a b h1
  | false =>
    cases h2 : joinOk n adj b a with
    | false => rfl
    | true => rw [key b a h2] at h1; cases h1
theorem jn_comm {n : Nat} {adj : Adj} (hS : Sane n adj) (a b : Int) : jn n adj b a = jn n adj a b := by
  unfold jn
  rw [joinOk_comm hS]
  cases joinOk n adj a b with
  | true => simp [put_comm]
  | false => rfl
theorem GIs.ne_graph {w : World} {g n gw : Nat} {v : Value} {adj : Adj} {cs : Array Value} (h : GIs w g v n adj) (hb : w.heap[gw]? = some (.cells cs 57 (0, 0))) : some gw ≠ v.ownBlock := by
  obtain ⟨_, rows, hR, _⟩ := h
  exact Kd.R_ne hR hb (by decide)
/-- Another graph's rows' block has been written. -/
theorem GIs.other {w w1 : World} {g n g' m : Nat} {v v' : Value} {adj adj' : Adj} (h : GIs w g v n adj) (h' : GIs w g' v' m adj') (hg : w.grownBy w1 v'.ownBlock) (hne : ∀ k, v'.ownBlock = some k → some k ≠ v.ownBlock) : GIs w1 g v n adj := by
  have hb := GIs.ne_graph h' h.1
  obtain ⟨h1, rows, hR, hr⟩ := h
  refine ⟨blk_grown h1 hg hb, rows, ?_, hr⟩
  obtain ⟨h0, inner, ho, hrep⟩ := hR
  refine ⟨h0, inner, own_move ho (fun k hk => hg.block k (own_lt ho k hk) (fun e => hne k e.symm hk.symm)), hrep.imp_ (fun p c hp => ?_)⟩
  refine (Kd.slice 71 (Kd.int .u64)).M_mono (ok := fun k => (True ∧ some k ≠ v.ownBlock) ∧ some k ≠ v'.ownBlock) (fun k hk => hk.1) (Kd.M_grown (d := Kd.slice 71 (Kd.int .u64)) ((Kd.slice 71 (Kd.int .u64)).M_mono (fun k hk => ⟨hk.1, fun e => ?_⟩) ((Kd.slice 71 (Kd.int .u64)).M_bound hp)) hg (fun k hk => hk.2))
  obtain ⟨_, rows', hR', _⟩ := h'
  obtain ⟨i2, o2⟩ := Kd.R_own hR'
  obtain ⟨c2, hc2⟩ := own_typed o2 k e.symm
  obtain ⟨_, _, _, q, hq, cells, hc⟩ := hk
  rw [hc] at hc2
  injection hc2 with hc2
  injection hc2 with _ hc2
  subst hc2
  exact absurd hq (by decide)
end Go.Proofs.Ytfkmngmnnlgjdaa.Gr

/- GraphCopies, walked. -/
namespace Go.Proofs.Ytfkmngmnnlgjdaa.Gr
open Go Go.RowKit Go.Proofs.Ytfkmngmnnlgjdaa.Gf Go.Proofs.Ytfkmngmnnlgjdaa.Pu Go.Proofs.Ytfkmngmnnlgjdaa.Pr Go.Proofs.Ytfkmngmnnlgjdaa.Mw Go.Proofs.YtfkmngmnnlgjdaaW.PrintWords Go.Proofs.YtfkmngmnnlgjdaaW.PrintLast Go.Proofs.YtfkmngmnnlgjdaaW.PrintMore
set_option linter.unusedVariables false
set_option linter.unusedSimpArgs false
/-- The graph, its copy, and two of the document's in their blocks. -/
structure CSt (w wr : World) (g gc : Nat) (v vc u u2 : Value) (n : Nat) (ag ac ar ar2 : Adj) (gw gx : Nat) : Prop where
  gr : GIs wr g v n ag
  cp : GIs wr gc vc n ac
  rf : RIs wr u n ar
  rx : RIs wr u2 n ar2
  box : wr.heap[gw]? = some (Obj.cells #[.int .i64 n, u] 29 (0, 0))
  bxx : wr.heap[gx]? = some (Obj.cells #[.int .i64 n, u2] 29 (0, 0))
  own : ∀ k, v.ownBlock = some k → w.heap.size ≤ k
  owc : ∀ k, vc.ownBlock = some k → w.heap.size ≤ k
  ne : ∀ k, v.ownBlock = some k → some k ≠ vc.ownBlock
  bel : Below w.heap.size w wr
theorem CSt.below {w wr w1 : World} {g gc : Nat} {v vc u u2 : Value} {n : Nat} {ag ac ar ar2 : Adj} {gw gx : Nat} (h : CSt w wr g gc v vc u u2 n ag ac ar ar2 gw gx) (hB : Below wr.heap.size wr w1) : CSt w w1 g gc v vc u u2 n ag ac ar ar2 gw gx :=
  ⟨h.gr.below hB, h.cp.below hB, h.rf.below hB, h.rx.below hB, blk_below h.box hB, blk_below h.bxx hB, h.own, h.owc, h.ne, below_then h.bel h.bel.size hB⟩
theorem CSt.joinC {w wr w1 : World} {g gc : Nat} {v vc u u2 : Value} {n : Nat} {ag ac ar ar2 a1 : Adj} {gw gx : Nat} (h : CSt w wr g gc v vc u u2 n ag ac ar ar2 gw gx) (hG : GIs w1 gc vc n a1) (hg : wr.grownBy w1 vc.ownBlock) : CSt w w1 g gc v vc u u2 n ag a1 ar ar2 gw gx :=
  ⟨h.gr.other h.cp hg (fun k hk e => h.ne k e.symm hk.symm), hG, h.rf.grown hg (h.cp.ne_ref h.rf), h.rx.grown hg (h.cp.ne_ref h.rx), blk_grown h.box hg (h.cp.ne_box h.box), blk_grown h.bxx hg (h.cp.ne_box h.bxx), h.own, h.owc, h.ne, h.bel.grown hg h.bel.size h.owc⟩
theorem CSt.joinG {w wr w1 : World} {g gc : Nat} {v vc u u2 : Value} {n : Nat} {ag ac ar ar2 a1 : Adj} {gw gx : Nat} (h : CSt w wr g gc v vc u u2 n ag ac ar ar2 gw gx) (hG : GIs w1 g v n a1) (hg : wr.grownBy w1 v.ownBlock) : CSt w w1 g gc v vc u u2 n a1 ac ar ar2 gw gx :=
  ⟨hG, h.cp.other h.gr hg h.ne, h.rf.grown hg (h.gr.ne_ref h.rf), h.rx.grown hg (h.gr.ne_ref h.rx), blk_grown h.box hg (h.gr.ne_box h.box), blk_grown h.bxx hg (h.gr.ne_box h.bxx), h.own, h.owc, h.ne, h.bel.grown hg h.bel.size h.own⟩
theorem GIs.own_lt {w : World} {g n : Nat} {v : Value} {adj : Adj} (h : GIs w g v n adj) (k : Nat) (hk : v.ownBlock = some k) : k < w.heap.size := by
  obtain ⟨_, rows, hR, _⟩ := h
  exact Kd.R_lt hR k hk
/-- The second of the document's is laid into its block. -/
theorem CSt.lay {w wr : World} {g gc : Nat} {v vc u u2 : Value} {n : Nat} {adj ar2 : Adj} {gw gx : Nat} {x0 x1 : Value} (h : JSt w wr g v u n adj adj gw) (hc : GIs wr gc vc n adj) (hx : RIs wr u2 n ar2) (hb : wr.heap[gx]? = some (Obj.cells #[x0, x1] 29 (0, 0))) (hwx : gw ≠ gx) (hw : w.heap.size ≤ gx)
    (hvc : ∀ k, vc.ownBlock = some k → w.heap.size ≤ k) (hne : ∀ k, v.ownBlock = some k → some k ≠ vc.ownBlock) :
    CSt w ((wr.setCell ⟨gx, 0, none⟩ (.int .i64 n)).setCell ⟨gx, 1, none⟩ u2) g gc v vc u u2 n adj adj adj ar2 gw gx := by
  have h1 := blk_put (cs := #[x0, x1]) hb 0 (.int .i64 n) (cs' := #[.int .i64 n, x1]) rfl
  exact ⟨(h.gr.box hb 0 _).box h1 1 _, (hc.box hb 0 _).box h1 1 _, (h.rf.box hb 0 _).box h1 1 _, (hx.box hb 0 _).box h1 1 _, blk_far (blk_far h.box (p := ⟨gx, 0, none⟩) hwx _) (p := ⟨gx, 1, none⟩) hwx _, blk_put (cs := #[.int .i64 n, x1]) h1 1 u2 rfl, h.own, hvc, hne, (h.bel.setCell (p := ⟨gx, 0, none⟩) hw _).setCell (p := ⟨gx, 1, none⟩) hw _⟩
set_option maxRecDepth 100000 in
set_option maxHeartbeats 2000000 in
theorem Copies_is (w : World) (a : Int) (A : Option Addr) (l c : Nat) (js : List (Int × Int)) (p q : Int) (hJ : JIs w A l js) :
    Calls Try.prog 7 #[.int .i64 a, .slice A l c, .int .i64 p, .int .i64 q] w fun e w' => e = .returned (.bool true) ∧ Below w.heap.size w w' := by
  have hu29 := Try.underlying29
  have HJ := Aside0.mk hJ
  clear hJ
  cases hok : madeOk a l with
  | false =>
    have HK := Aside0.mk hok
    clear hok
    go_enter Try.func7, Try.ntmps7
    go_wp2_with (first
      | (go_at_call 21; refine (Made_no _ a A l c HK.out).mono ?_; rintro e w1 ⟨rfl, hB⟩; have HB := Aside0.mk hB; clear hB)
      | ((with_reducible refine gate_dst (N := 10) rfl ?_); refine box_event ?hg (N := 10) ?hd (cs := #[.int .i64 0, .slice none 0 0]) (t := 29) ?hr ?_; (case hd => rfl); (case hg => rfl); (case hr => first | (go_simp; done) | (go_simp; rfl)); intro gw hgw w2 hbox hB; have BW := Aside0.mk hbox; have HW := Aside0.mk (show w.heap.size ≤ gw by rw [hgw]; exact HB.out.size); have HB2 := Aside0.mk (below_then HB.out HB.out.size hB); clear hbox hB hgw HB; have hz0 : w2.cell? ⟨gw, 0, none⟩ = some (.int .i64 0) := (blk_cell BW.out 0).trans rfl; have hz1 : w2.cell? ⟨gw, 1, none⟩ = some (.slice none 0 0) := (blk_cell BW.out 1).trans rfl; have hfz0 := blk_frozen BW.out 0; have hfz1 := blk_frozen BW.out 1)
      | (go_at_call 10; refine (heads_is _).mono ?_; rintro e w5 ⟨rfl, hB⟩; have HB3 := Aside0.mk (below_then ((HB2.out.setCell (p := ⟨gw, 0, none⟩) HW.out _).setCell (p := ⟨gw, 1, none⟩) HW.out _) ((HB2.out.setCell (p := ⟨gw, 0, none⟩) HW.out _).setCell (p := ⟨gw, 1, none⟩) HW.out _).size hB); clear hB))
    go_ret
    exact ⟨rfl, HB3.out⟩
  | true =>
    obtain ⟨n, rfl, hn, hl⟩ := madeOk_nat hok
    clear hok
    have hS := jt_sane n js l
    have hcm := jn_comm hS p q
    have HCM := Aside0.mk hcm
    clear hcm
    have hne : (joinOk n (jt n js l) p q != joinOk n (jt n js l) p q) = false := by simp
    go_enter Try.func7, Try.ntmps7
    go_wp2_with (first
      | (go_at_call 21; refine (Made_is _ n A l c js hn hl HJ.out).mono ?_; rintro e w1 ⟨g, v, u, rfl, hG, hR, hV, hB⟩; obtain ⟨Au, mu, cu, rfl⟩ := hR.shape; have HG := Aside0.mk hG; have HR := Aside0.mk hR; have HV := Aside0.mk hV; have HB := Aside0.mk hB; clear hG hR hV hB)
      | ((with_reducible refine gate_dst (N := 10) rfl ?_); refine box_event ?hg (N := 10) ?hd (cs := #[.int .i64 0, .slice none 0 0]) (t := 29) ?hr ?_; (case hd => rfl); (case hg => rfl); (case hr => first | (go_simp; done) | (go_simp; rfl)); intro gw hgw w2 hbox hB; have BW := Aside0.mk hbox; have HG2 := Aside0.mk (HG.out.below hB); have HR2 := Aside0.mk (HR.out.below hB); have HW := Aside0.mk (show w.heap.size ≤ gw by rw [hgw]; exact HB.out.size); have HB2 := Aside0.mk (below_then HB.out HB.out.size hB); clear hbox hB hgw HB HG HR; have hz0 : w2.cell? ⟨gw, 0, none⟩ = some (.int .i64 0) := (blk_cell BW.out 0).trans rfl; have hz1 : w2.cell? ⟨gw, 1, none⟩ = some (.slice none 0 0) := (blk_cell BW.out 1).trans rfl; have hfz0 := blk_frozen BW.out 0; have hfz1 := blk_frozen BW.out 1)
      | (go_at_call 30; have hP := JSt.put HG2.out HR2.out BW.out HW.out HV.out HB2.out; refine (Copy_is _ g n v _ hP.gr).mono ?_; rintro e w4 ⟨gc, vc, rfl, hGc, _, hVc, hB⟩; have HP := Aside0.mk (hP.below hB); have HC := Aside0.mk hGc; have HVc := Aside0.mk (fun k hk => Nat.le_trans hP.bel.size (hVc k hk) : ∀ k, vc.ownBlock = some k → w.heap.size ≤ k); have HNe := Aside0.mk (fun k hk e => by have h1 := hP.gr.own_lt k hk; have h2 := hVc k e.symm; omega : ∀ k, v.ownBlock = some k → some k ≠ vc.ownBlock); clear hP hGc hVc hB HG2 HR2 BW HV HB2 hz0 hz1 hfz0 hfz1; have hz0 : w4.cell? ⟨gw, 0, none⟩ = some (.int .i64 n) := (blk_cell HP.out.box 0).trans rfl; have hz1 : w4.cell? ⟨gw, 1, none⟩ = some (.slice Au mu cu) := (blk_cell HP.out.box 1).trans rfl)
      | (go_at_call 15; (with_reducible refine (like_is _ gc vc (.slice Au mu cu) n _ HC.out HP.out.rf).mono ?_); rintro e w5 ⟨rfl, hB⟩; have HP5 := Aside0.mk (HP.out.below hB); have HC5 := Aside0.mk (HC.out.below hB); clear HP HC hB hz0 hz1; have hz0 : w5.cell? ⟨gw, 0, none⟩ = some (.int .i64 n) := (blk_cell HP5.out.box 0).trans rfl; have hz1 : w5.cell? ⟨gw, 1, none⟩ = some (.slice Au mu cu) := (blk_cell HP5.out.box 1).trans rfl)
      | (go_at_call 13; refine (RJoin_is _ (.slice Au mu cu) n _ p q HP5.out.rf).mono ?_; rintro e w6 ⟨u2, rfl, hR, hB⟩; obtain ⟨A2, m2, c2, rfl⟩ := hR.shape; have HX := Aside0.mk hR; have HP6 := Aside0.mk (HP5.out.below hB); have HC6 := Aside0.mk (HC5.out.below hB); clear HP5 HC5 hB hR hz0 hz1)
      | ((with_reducible refine gate_dst (N := 12) rfl ?_); refine box_event ?hg (N := 12) ?hd (cs := #[.int .i64 0, .slice none 0 0]) (t := 29) ?hr ?_; (case hd => rfl); (case hg => rfl); (case hr => first | (go_simp; done) | (go_simp; rfl)); intro gx hgx w7 hbox hB; have BX := Aside0.mk hbox; have HP7 := Aside0.mk (HP6.out.below hB); have HC7 := Aside0.mk (HC6.out.below hB); have HX7 := Aside0.mk (HX.out.below hB); have HXW := Aside0.mk (show w.heap.size ≤ gx by rw [hgx]; exact HP6.out.bel.size); have HNX := Aside0.mk (show gw ≠ gx by rw [hgx]; exact Nat.ne_of_lt (blk_lt HP6.out.box)); clear hbox hB hgx HP6 HC6 HX; have hx0 : w7.cell? ⟨gx, 0, none⟩ = some (.int .i64 0) := (blk_cell BX.out 0).trans rfl; have hx1 : w7.cell? ⟨gx, 1, none⟩ = some (.slice none 0 0) := (blk_cell BX.out 1).trans rfl; have hxf0 := blk_frozen BX.out 0; have hxf1 := blk_frozen BX.out 1)
      | (go_at_call 14; have hL := CSt.lay HP7.out HC7.out HX7.out BX.out HNX.out HXW.out HVc.out HNe.out; refine (JoinB _ gc n vc _ p q hL.cp).mono ?_; rintro e w8 ⟨rfl, hG, hg⟩; have HS8 := Aside0.mk (hL.joinC hG hg); clear hL hG hg HP7 HC7 HX7 BX hx0 hx1 hxf0 hxf1; have hz0 : w8.cell? ⟨gw, 0, none⟩ = some (.int .i64 n) := (blk_cell HS8.out.box 0).trans rfl; have hz1 : w8.cell? ⟨gw, 1, none⟩ = some (.slice Au mu cu) := (blk_cell HS8.out.box 1).trans rfl; have hx0 : w8.cell? ⟨gx, 0, none⟩ = some (.int .i64 n) := (blk_cell HS8.out.bxx 0).trans rfl; have hx1 : w8.cell? ⟨gx, 1, none⟩ = some (.slice A2 m2 c2) := (blk_cell HS8.out.bxx 1).trans rfl)
      | (go_at_call 15; (with_reducible refine (like_is _ gc vc (.slice A2 m2 c2) n _ HS8.out.cp HS8.out.rx).mono ?_); rintro e w9 ⟨rfl, hB⟩; have HS9 := Aside0.mk (HS8.out.below hB); clear HS8 hB hz0 hz1 hx0 hx1; have hz0 : w9.cell? ⟨gw, 0, none⟩ = some (.int .i64 n) := (blk_cell HS9.out.box 0).trans rfl; have hz1 : w9.cell? ⟨gw, 1, none⟩ = some (.slice Au mu cu) := (blk_cell HS9.out.box 1).trans rfl; have hx0 : w9.cell? ⟨gx, 0, none⟩ = some (.int .i64 n) := (blk_cell HS9.out.bxx 0).trans rfl; have hx1 : w9.cell? ⟨gx, 1, none⟩ = some (.slice A2 m2 c2) := (blk_cell HS9.out.bxx 1).trans rfl)
      | (go_at_call 15; (with_reducible refine (like_is _ g v (.slice Au mu cu) n _ HS9.out.gr HS9.out.rf).mono ?_); rintro e w10 ⟨rfl, hB⟩; have HS10 := Aside0.mk (HS9.out.below hB); clear HS9 hB hz0 hz1 hx0 hx1; have hz0 : w10.cell? ⟨gw, 0, none⟩ = some (.int .i64 n) := (blk_cell HS10.out.box 0).trans rfl; have hz1 : w10.cell? ⟨gw, 1, none⟩ = some (.slice Au mu cu) := (blk_cell HS10.out.box 1).trans rfl; have hx0 : w10.cell? ⟨gx, 0, none⟩ = some (.int .i64 n) := (blk_cell HS10.out.bxx 0).trans rfl; have hx1 : w10.cell? ⟨gx, 1, none⟩ = some (.slice A2 m2 c2) := (blk_cell HS10.out.bxx 1).trans rfl)
      | (go_at_call 14; refine (JoinB _ g n v _ q p HS10.out.gr).mono ?_; rintro e w11 ⟨rfl, hG, hg⟩; rw [HCM.out] at hG; have HS11 := Aside0.mk (HS10.out.joinG hG hg); clear hG hg HS10 hz0 hz1 hx0 hx1)
      | (go_at_call 19; refine (Near_is _ gc vc n _ p HS11.out.cp).mono ?_; rintro e w12 ⟨v14, rfl, hR, hB⟩; have HN := Aside0.mk hR; have HB12 := Aside0.mk hB; clear hR hB))
    obtain ⟨A14, c14, rfl⟩ := Kd.R_slice HN.out
    have hnl : (nearI n (jn n (jt n js l) p q) p).length ≤ 40 := by
      unfold nearI
      by_cases h : isN n p = true
      · rw [if_pos h, nats_length]
        have := near_len n (jn n (jt n js l) p q) p.toNat
        omega
      · rw [if_neg h]
        simp
    generalize nearI n (jn n (jt n js l) p q) p = L at HN hnl ⊢
    obtain ⟨m, hm⟩ : ∃ m, m = L.length := ⟨_, rfl⟩
    have HM := Aside0.mk hm
    rw [← hm] at HN hnl ⊢
    clear hm
    go_loopw [15] (fun v15 wr => ∃ (i : Nat) (L' : List Int), i ≤ m ∧ v15 = .int .i64 i ∧ Aside0 (L'.length = m) ∧ Aside0 ((Kd.int .i64).R 3 wr w11.heap.size (fun _ => True) (.slice A14 m c14) L') ∧ Aside0 (Below w11.heap.size w11 wr)) (fun v15 _ => m - (intOf v15).toNat)
    case atStart => exact ⟨0, L, Nat.zero_le _, rfl, ⟨HM.out.symm⟩, HN, HB12⟩
    case round =>
      clear HN HB12
      obtain ⟨i, L', hi, rfl, HLl, HN, HB⟩ := hrel
      by_cases hlt : i < m
      · have hi2 : (i : Int) < (m : Int) := by omega
        have hRn := HN.out
        rw [← HLl.out] at hRn
        obtain ⟨gl, cl, he⟩ := R_full hRn (by have := HLl.out; omega)
        injection he with he1 he2 he3
        subst he1
        subst he3
        have hcell := Kd.R_cell (0 : Int) hRn (i : Int) (by omega) (by have := HLl.out; omega)
        have hput := Kd.R_put hRn (i : Int) (-1 : Int)
        have hb := Kd.R_base hRn gl (by simp [Value.ownBlock])
        rw [Int.toNat_natCast] at hcell hput
        rw [HLl.out] at hput
        obtain ⟨hc1, hc2⟩ := hcell
        have HP := Aside0.mk hput.1
        have HGB := Aside0.mk hb
        clear hRn hput hb
        go_wp2
        have hl2 : (L'.set i (-1)).length = m := by rw [List.length_set]; exact HLl.out
        exact ⟨⟨i + 1, L'.set i (-1), by omega, by go_num, ⟨hl2⟩, HP, ⟨HB.out.setCell (p := ⟨gl, i, none⟩) HGB.out _⟩⟩, by simp [intOf]; omega⟩
      · obtain rfl : i = m := by omega
        have HSr := Aside0.mk (HS11.out.below HB.out)
        have hx0 : wr.cell? ⟨gx, 0, none⟩ = some (.int .i64 n) := (blk_cell HSr.out.bxx 0).trans rfl
        have hx1 : wr.cell? ⟨gx, 1, none⟩ = some (.slice A2 m2 c2) := (blk_cell HSr.out.bxx 1).trans rfl
        go_wp2_with (first
          | (go_at_call 15; (with_reducible refine (like_is _ gc vc (.slice A2 m2 c2) n _ HSr.out.cp HSr.out.rx).mono ?_); rintro e w13 ⟨rfl, hB⟩; have HS13 := Aside0.mk (HSr.out.below hB); clear HSr hB hx0 hx1; have hx0 : w13.cell? ⟨gx, 0, none⟩ = some (.int .i64 n) := (blk_cell HS13.out.bxx 0).trans rfl; have hx1 : w13.cell? ⟨gx, 1, none⟩ = some (.slice A2 m2 c2) := (blk_cell HS13.out.bxx 1).trans rfl)
          | (go_at_call 15; (with_reducible refine (like_is _ g v (.slice A2 m2 c2) n _ HS13.out.gr HS13.out.rx).mono ?_); rintro e w14 ⟨rfl, hB⟩; have HS14 := Aside0.mk (HS13.out.below hB); clear HS13 hB hx0 hx1)
          | (go_at_call 10; refine (heads_is _).mono ?_; rintro e w15 ⟨rfl, hB⟩; have HS15 := Aside0.mk (HS14.out.below hB); clear HS14 hB))
        go_ret
        exact ⟨rfl, HS15.out.bel⟩
end Go.Proofs.Ytfkmngmnnlgjdaa.Gr
