import Derived.Deep.Slices
import Derived.ChangeSame
import Derived.OpenShut
import Derived.Test.YtfkmngmnnlgjdaaPkJ2
/- GraphNobody, walked. -/
namespace Go.Proofs.Ytfkmngmnnlgjdaa.Gr
open Go Go.RowKit Go.Proofs.Ytfkmngmnnlgjdaa.Gf Go.Proofs.Ytfkmngmnnlgjdaa.Pu Go.Proofs.Ytfkmngmnnlgjdaa.Pr Go.Proofs.Ytfkmngmnnlgjdaa.Mw Go.Proofs.YtfkmngmnnlgjdaaW.PrintWords Go.Proofs.YtfkmngmnnlgjdaaW.PrintLast Go.Proofs.YtfkmngmnnlgjdaaW.PrintMore
set_option linter.unusedVariables false
set_option linter.unusedSimpArgs false
set_option maxRecDepth 100000 in
set_option maxHeartbeats 1000000 in
theorem Nobody_is (w : World) (a b : Int) (hb0 : -9223372036854775808 ≤ b) (hb1 : b ≤ 9223372036854775807) :
    Calls Try.prog 8 #[.int .i64 a, .int .i64 b] w fun e w' => e = .returned (.bool true) ∧ Below w.heap.size w w' := by
  have HI := Lib.hid (And.intro hb0 hb1)
  clear hb0 hb1
  go_enter Try.func8, Try.ntmps8
  go_wp2_with (first
    | ((with_reducible refine gate_dst (N := 12) rfl ?_); refine box_event ?hg (N := 12) ?hd (cs := #[.slice none 0 0]) (t := 57) ?hr ?_; (case hd => rfl); (case hg => rfl); (case hr => first | (go_simp; done) | (go_simp; rfl)); intro g hg w1 hbox hb; have HG := Aside0.mk (GIs.empty hbox); have HB := Aside0.mk hb; clear hbox hb hg))
  have HL := Aside0.mk (World.alloc_heap_new w1 (Obj.cells #[.pointer none, .pointer (some ⟨g, 0, none⟩)] 23))
  have HB0 := Aside0.mk (below_alloc HB.out (Obj.cells #[.pointer none, .pointer (some ⟨g, 0, none⟩)] 23))
  have HG0 := Aside0.mk (HG.out.below (below_alloc (Below.refl _ _) (Obj.cells #[.pointer none, .pointer (some ⟨g, 0, none⟩)] 23)))
  clear HG HB
  generalize w1.heap.size = gl at HL ⊢
  generalize w1.alloc (Obj.cells #[.pointer none, .pointer (some ⟨g, 0, none⟩)] 23) = w2 at HL HB0 HG0 ⊢
  go_loopw [7] (fun v7 wr => ∃ i : Nat, i ≤ 2 ∧ v7 = .int .i64 i ∧ Aside0 (GIs wr g (.slice none 0 0) 0 no) ∧ Aside0 (wr.heap[gl]? = some (.cells #[.pointer none, .pointer (some ⟨g, 0, none⟩)] 23 (0, 0))) ∧ Aside0 (Below w.heap.size w wr)) (fun v7 _ => 2 - (intOf v7).toNat)
  case atStart => exact ⟨0, by omega, rfl, HG0, HL, HB0⟩
  case round =>
    clear HL HB0 HG0
    obtain ⟨i, hi, rfl, HG, HL, HB⟩ := hrel
    have hc0 : wr.cell? ⟨gl, 0, none⟩ = some (.pointer none) := (blk_cell HL.out 0).trans rfl
    have hc1 : wr.cell? ⟨gl, 1, none⟩ = some (.pointer (some ⟨g, 0, none⟩)) := (blk_cell HL.out 1).trans rfl
    have h3 : i = 0 ∨ i = 1 ∨ i = 2 := by omega
    rcases h3 with rfl | rfl | rfl
    · go_wp2_with (first
        | (go_at_call 11; refine (Len_nil _).mono ?_; rintro e w2 ⟨rfl, rfl⟩)
        | (go_at_call 14; refine (Join_nil _ a b).mono ?_; rintro e w2 ⟨rfl, rfl⟩)
        | (go_at_call 16; refine (Has_nil _ a b).mono ?_; rintro e w2 ⟨rfl, rfl⟩)
        | (go_at_call 19; refine (Near_nil _ a).mono ?_; rintro e w2 ⟨rfl, rfl⟩)
        | (go_at_call 22; refine (Parts_nil _).mono ?_; rintro e w3 ⟨rfl, hB⟩; have HB2 := Aside0.mk (below_then HB.out HB.out.size hB); have HG2 := Aside0.mk (HG.out.below hB); have HL2 := Aside0.mk (blk_below HL.out hB); clear HG HB HL; have HG := HG2; have HB := HB2; have HL := HL2; clear HG2 HB2 HL2 hB)
        | (go_at_call 26; refine (Shell_nil _).mono ?_; rintro e w4 ⟨rfl, hB⟩; have HB2 := Aside0.mk (below_then HB.out HB.out.size hB); have HG2 := Aside0.mk (HG.out.below hB); have HL2 := Aside0.mk (blk_below HL.out hB); clear HG HB HL; have HG := HG2; have HB := HB2; have HL := HL2; clear HG2 HB2 HL2 hB))
      exact ⟨⟨1, by omega, by go_num, HG, HL, HB⟩, by simp [intOf]⟩
    · go_wp2_with (first
        | (go_at_call 11; refine (Len0 _ g _ HG.out).mono ?_; rintro e w2 ⟨rfl, rfl⟩)
        | (go_at_call 14; refine (Join0 _ g _ a b HG.out).mono ?_; rintro e w3 ⟨rfl, hB⟩; have HB2 := Aside0.mk (below_then HB.out HB.out.size hB); have HG2 := Aside0.mk (HG.out.below hB); have HL2 := Aside0.mk (blk_below HL.out hB); clear HG HB HL; have HG := HG2; have HB := HB2; have HL := HL2; clear HG2 HB2 HL2 hB)
        | (go_at_call 16; refine (Has0 _ g _ a b HG.out HI.out.1 HI.out.2).mono ?_; rintro e w4 ⟨rfl, hB⟩; have HB2 := Aside0.mk (below_then HB.out HB.out.size hB); have HG2 := Aside0.mk (HG.out.below hB); have HL2 := Aside0.mk (blk_below HL.out hB); clear HG HB HL; have HG := HG2; have HB := HB2; have HL := HL2; clear HG2 HB2 HL2 hB)
        | (go_at_call 19; refine (Near0 _ g _ a HG.out).mono ?_; rintro e w5 ⟨A5, c5, rfl, hB⟩; have HB2 := Aside0.mk (below_then HB.out HB.out.size hB); have HG2 := Aside0.mk (HG.out.below hB); have HL2 := Aside0.mk (blk_below HL.out hB); clear HG HB HL; have HG := HG2; have HB := HB2; have HL := HL2; clear HG2 HB2 HL2 hB)
        | (go_at_call 22; refine (Parts0 _ g _ HG.out).mono ?_; rintro e w6 ⟨A6, c6, rfl, hB⟩; have HB2 := Aside0.mk (below_then HB.out HB.out.size hB); have HG2 := Aside0.mk (HG.out.below hB); have HL2 := Aside0.mk (blk_below HL.out hB); clear HG HB HL; have HG := HG2; have HB := HB2; have HL := HL2; clear HG2 HB2 HL2 hB)
        | (go_at_call 26; refine (Shell0 _ g _ HG.out).mono ?_; rintro e w7 ⟨A7, c7, rfl, hB⟩; have HB2 := Aside0.mk (below_then HB.out HB.out.size hB); have HG2 := Aside0.mk (HG.out.below hB); have HL2 := Aside0.mk (blk_below HL.out hB); clear HG HB HL; have HG := HG2; have HB := HB2; have HL := HL2; clear HG2 HB2 HL2 hB))
      exact ⟨⟨2, by omega, by go_num, HG, HL, HB⟩, by simp [intOf]⟩
    · go_wp2_with (first
        | (go_at_call 30; first | ((with_reducible refine (Copy_nil _).mono ?_); rintro e w2 ⟨rfl, rfl⟩) | (refine (Copy_is _ g 0 _ no HG.out).mono ?_; rintro e w3 ⟨gc, vc, rfl, hGc, _, _, hB⟩; have HC := Aside0.mk hGc; clear hGc; have HB2 := Aside0.mk (below_then HB.out HB.out.size hB); have HG2 := Aside0.mk (HG.out.below hB); have HL2 := Aside0.mk (blk_below HL.out hB); clear HG HB HL; have HG := HG2; have HB := HB2; have HL := HL2; clear HG2 HB2 HL2 hB))
        | (go_at_call 11; refine (Len0 _ gc _ HC.out).mono ?_; rintro e w4 ⟨rfl, rfl⟩)
        | (go_at_call 10; refine (heads_is _).mono ?_; rintro e w5 ⟨rfl, hB⟩; have HB2 := Aside0.mk (below_then HB.out HB.out.size hB); have HG2 := Aside0.mk (HG.out.below hB); have HL2 := Aside0.mk (blk_below HL.out hB); clear HG HB HL; have HG := HG2; have HB := HB2; have HL := HL2; clear HG2 HB2 HL2 hB))
      go_ret
      exact ⟨rfl, HB.out⟩
theorem i64_lo {a : Int} (h : (Lit.int .i64 a).wf = true) : -9223372036854775808 ≤ a := by
  simp [Lit.wf, IntKind.min, IntKind.max, IntKind.signed, IntKind.bits] at h
  omega
theorem i64_hi {a : Int} (h : (Lit.int .i64 a).wf = true) : a ≤ 9223372036854775807 := by
  simp [Lit.wf, IntKind.min, IntKind.max, IntKind.signed, IntKind.bits] at h
  omega
end Go.Proofs.Ytfkmngmnnlgjdaa.Gr

/- A row of joins among a law's arguments. -/
namespace Go.Proofs.Ytfkmngmnnlgjdaa.Gr
open Go Go.RowKit Go.ChangeShapes Go.WideShapes Go.Proofs.YtfkmngmnnlgjdaaW.PrintWords
set_option linter.unusedVariables false
set_option linter.unusedSimpArgs false

/-- l joins behind A: what they read as. -/
structure JIs (w : World) (A : Option Addr) (l : Nat) (js : List (Int × Int)) : Prop where
  len : js.length = l
  lo : ∀ i, i < l → -9223372036854775808 ≤ (js.getD i (0, 0)).2 ∧ (js.getD i (0, 0)).2 ≤ 9223372036854775807
  cells : ∀ i, i < l → ∃ ad, A = some ad ∧ w.cell? (ad.add (i * 2)) = some (.int .i64 (js.getD i (0, 0)).1) ∧ w.cell? (ad.add (i * 2 + 1)) = some (.int .i64 (js.getD i (0, 0)).2)
theorem JIs.below {w w' : World} {A : Option Addr} {l : Nat} {js : List (Int × Int)} (h : JIs w A l js) (hb : Below w.heap.size w w') : JIs w' A l js := by
  refine ⟨h.len, h.lo, fun i hi => ?_⟩
  obtain ⟨ad, rfl, h1, h2⟩ := h.cells i hi
  exact ⟨ad, rfl, pw_cell_below hb h1, pw_cell_below hb h2⟩
section
variable {H : Type} {enc : TypeId × Value → H} {P : Program} {w : World} {base : Nat} {spare : Nat → Bool} {held : Bool}
theorem pair_of {e it : TypeId} (he : P.underlying e = some (.array 2 it)) (hi : P.underlying it = some (.int .i64)) (ce : P.cellsOf e = 2) (ci : P.cellsOf it = 1) {n : Nat} {v0 v1 : Value} {x : DataW H × List MemPlace}
    (h : DataW.trod enc P w base spare held n e [v0, v1] = some x) : ∃ a b, v0 = .int .i64 a ∧ v1 = .int .i64 b ∧ (Lit.int .i64 b).wf = true := by
  cases n with
  | zero => simp [DataW.trod] at h
  | succ m =>
    rw [DataW.trod_step] at h
    unfold DataW.trodStep at h
    simp only [he] at h
    rw [if_pos (by rw [ce]; rfl)] at h
    simp only [Option.map_eq_some_iff] at h
    obtain ⟨ys, hy, _⟩ := h
    rw [show List.range 2 = [0, 1] from rfl, ci, List.mapM_cons, List.mapM_cons, List.mapM_nil] at hy
    simp only [bind, Option.bind_eq_some_iff, pure, Option.some.injEq] at hy
    obtain ⟨y0, h0, ys1, ⟨y1, h1, _⟩, _⟩ := hy
    obtain ⟨a, ea, _, wa⟩ := DataW.trod_int hi h0
    obtain ⟨b, eb, _, wb⟩ := DataW.trod_int hi h1
    refine ⟨a, b, ?_, ?_, wb⟩
    · simpa using ea
    · simpa using eb
theorem open_pairs {t e it : TypeId} (ht : P.underlying t = some (.slice e)) (he : P.underlying e = some (.array 2 it)) (hi : P.underlying it = some (.int .i64)) (ce : P.cellsOf e = 2) (ci : P.cellsOf it = 1) {A : Option Addr} {l c : Nat} {d : DataW H} {ps : List MemPlace}
    (h : DataW.Trod enc P w base spare held t (.slice A l c) d ps) : ∃ js, JIs w A l js := by
  obtain ⟨fuel, hf⟩ := h
  rcases Deep.open_slice ht hf with ⟨hcs, _⟩ | ⟨a, len, cap, m, n, D, Pl, hcs, hb, hl, hm, hmm, _, hx⟩
  · simp [Value.cells] at hcs
    obtain ⟨rfl, rfl, rfl⟩ := hcs
    exact ⟨[], rfl, fun i hi => by omega, fun i hi => by omega⟩
  · simp [Value.cells] at hcs
    obtain ⟨rfl, rfl, rfl⟩ := hcs
    have hlm : l ≤ m := by rw [hmm]; split <;> omega
    have key : ∀ i, i < l → ∃ p : Int × Int, w.cell? (a.add (i * 2)) = some (.int .i64 p.1) ∧ w.cell? (a.add (i * 2 + 1)) = some (.int .i64 p.2) ∧ (Lit.int .i64 p.2).wf = true := by
      intro i hi2
      obtain ⟨cs', h1, h2⟩ := hx i (by omega)
      rw [ce] at h1
      obtain ⟨_, hlen, hcell⟩ := World.cells?_some h1
      match cs', hlen with
      | [v0, v1], _ =>
        obtain ⟨p, q, rfl, rfl, wq⟩ := pair_of he hi ce ci h2
        have e0 := hcell 0 (by omega)
        have e1 := hcell 1 (by omega)
        rw [Deep.add_add] at e0 e1
        exact ⟨(p, q), by simpa using e0, by simpa using e1, wq⟩
    obtain ⟨q, hq⟩ := Deep.choose_lt key
    have hg : ∀ i, i < l → ((List.range l).map q).getD i (0, 0) = q i := by
      intro i hi2
      rw [List.getD_eq_getElem?_getD, List.getElem?_map, List.getElem?_range hi2]
      rfl
    refine ⟨(List.range l).map q, by simp, fun i hi2 => ?_, fun i hi2 => ?_⟩
    · rw [hg i hi2]
      exact ⟨i64_lo (hq i hi2).2.2, i64_hi (hq i hi2).2.2⟩
    · rw [hg i hi2]
      exact ⟨a, rfl, (hq i hi2).1, (hq i hi2).2.1⟩
end
theorem open_joins {H : Type} {enc : TypeId × Value → H} {w : World} {base : Nat} {spare : Nat → Bool} {held : Bool} {A : Option Addr} {l c : Nat} {d : DataW H} {ps : List MemPlace}
    (h : DataW.Trod enc Try.prog w base spare held 22 (.slice A l c) d ps) : ∃ js, JIs w A l js :=
  open_pairs Try.underlying22 Try.underlying33 Try.underlying3 (by kernel_rfl) (by kernel_rfl) h
end Go.Proofs.Ytfkmngmnnlgjdaa.Gr

/- like, walked: a graph and the document's with the same joins are alike. -/
namespace Go.Proofs.Ytfkmngmnnlgjdaa.Gr
open Go Go.RowKit Go.Proofs.Ytfkmngmnnlgjdaa.Gf Go.Proofs.Ytfkmngmnnlgjdaa.Pu Go.Proofs.Ytfkmngmnnlgjdaa.Pr Go.Proofs.Ytfkmngmnnlgjdaa.Mw Go.Proofs.YtfkmngmnnlgjdaaW.PrintWords Go.Proofs.YtfkmngmnnlgjdaaW.PrintLast Go.Proofs.YtfkmngmnnlgjdaaW.PrintMore
set_option linter.unusedVariables false
set_option linter.unusedSimpArgs false
theorem GIs.drew {w : World} {g n : Nat} {v : Value} {adj : Adj} (h : GIs w g v n adj) : GIs w.drew g v n adj := h.below (below_drew (Below.refl _ _))
theorem RIs.drew {w : World} {n : Nat} {v : Value} {adj : Adj} (h : RIs w v n adj) : RIs w.drew v n adj := h.below (below_drew (Below.refl _ _))
theorem HasB (w : World) (g : Nat) (v : Value) (n : Nat) (adj : Adj) (a b : Nat) (h : GIs w g v n adj) (hb : b < n) :
    Calls Try.prog 16 #[.pointer (some ⟨g, 0, none⟩), .int .i64 a, .int .i64 b] w fun e w' => e = .returned (.bool (hasN n adj a b)) ∧ Below w.heap.size w w' := by
  have hn := h.le
  refine (Has_is w g v n adj a b h (by omega) (by omega)).mono ?_
  rintro e w' ⟨he, hD⟩
  exact ⟨he, hD.below⟩
set_option maxRecDepth 100000 in
set_option maxHeartbeats 1000000 in
theorem like_is (w : World) (g : Nat) (v u : Value) (n : Nat) (adj : Adj) (hg : GIs w g v n adj) (hr : RIs w u n adj) :
    Calls Try.prog 15 #[.pointer (some ⟨g, 0, none⟩), .agg #[.int .i64 n, u]] w fun e w' => e = .returned (.bool true) ∧ Below w.heap.size w w' := by
  have hu29 := Try.underlying29
  have hn4 := hg.le
  have HG := Aside0.mk hg
  have HR := Aside0.mk hr
  clear hg hr
  have hne : ((n : Int) != (n : Int)) = false := by simp
  go_enter Try.func15, Try.ntmps15
  go_wp2_with (first
    | ((with_reducible refine gate_dst (N := 3) rfl ?_); refine box_event ?hg (N := 3) ?hd (cs := #[.int .i64 n, u]) (t := 29) ?hr ?_; (case hd => rfl); (case hg => rfl); (case hr => first | (go_simp; done) | (go_simp; rfl)); intro gb hgb w1 hbox hB; have BK := Aside0.mk hbox; have HB := Aside0.mk hB; have HG1 := Aside0.mk (HG.out.below hB); have HR1 := Aside0.mk (HR.out.below hB); have HW := Aside0.mk (show w.heap.size ≤ gb by rw [hgb]; exact Nat.le_refl _); clear hbox hB hgb HG HR; have hcz0 : w1.cell? ⟨gb, 0, none⟩ = some (.int .i64 n) := (blk_cell BK.out 0).trans rfl; have hcz1 : w1.cell? ⟨gb, 1, none⟩ = some u := (blk_cell BK.out 1).trans rfl))
  go_region_held3 (fun w' => w'.cell? ⟨gb, 0, none⟩ = some (.int .i64 n) ∧ w'.cell? ⟨gb, 1, none⟩ = some u) (first | exact ⟨hcz0, hcz1⟩) (first | (go_at_call 11; refine (Len_is _ g v n adj HG1.out.drew).mono ?_; rintro e w' ⟨rfl, rfl⟩))
  have BK2 : Aside0 (w1.drew.heap[gb]? = some (Obj.cells #[.int .i64 n, u] 29 (0, 0))) := BK
  have HB2 := Aside0.mk (below_drew HB.out)
  have HG2 := Aside0.mk HG1.out.drew
  have HR2 := Aside0.mk HR1.out.drew
  clear BK HB HG1 HR1 hcz0 hcz1
  generalize w1.drew = w2 at BK2 HB2 HG2 HR2 ⊢
  have hcz0 : w2.cell? ⟨gb, 0, none⟩ = some (.int .i64 n) := (blk_cell BK2.out 0).trans rfl
  go_wp2
  go_loopw [5] (fun v5 wr => ∃ a : Nat, a ≤ n ∧ v5 = .int .i64 a ∧ Aside0 (wr.heap[gb]? = some (Obj.cells #[.int .i64 n, u] 29 (0, 0))) ∧ Aside0 (Below w.heap.size w wr) ∧ Aside0 (GIs wr g v n adj) ∧ Aside0 (RIs wr u n adj)) (fun v5 _ => n - (intOf v5).toNat)
  case atStart => exact ⟨0, Nat.zero_le _, rfl, BK2, HB2, HG2, HR2⟩
  case round =>
    clear BK2 HB2 HG2 HR2 hcz0
    obtain ⟨a, ha, rfl, BK, HB, HG, HR⟩ := hrel
    have hcz0 : wr.cell? ⟨gb, 0, none⟩ = some (.int .i64 n) := (blk_cell BK.out 0).trans rfl
    have hcz1 : wr.cell? ⟨gb, 1, none⟩ = some u := (blk_cell BK.out 1).trans rfl
    by_cases hlt : a < n
    · go_wp2
      have BKd : Aside0 (wr.drew.heap[gb]? = some (Obj.cells #[.int .i64 n, u] 29 (0, 0))) := BK
      have HGd := Aside0.mk HG.out.drew
      have HRd := Aside0.mk HR.out.drew
      have HBd := Aside0.mk (below_drew HB.out)
      clear BK HG HR HB
      have BK := BKd
      have HG := HGd
      have HR := HRd
      have HB := HBd
      clear BKd HGd HRd HBd
      go_region_held3 (fun w' => w'.cell? ⟨gb, 0, none⟩ = some (.int .i64 n) ∧ w'.cell? ⟨gb, 1, none⟩ = some u) (first | exact ⟨hcz0, hcz1⟩) (first
        | (go_at_call 19; refine (Near_is _ g v n adj a HG.out).mono ?_; rintro e w3 ⟨v20, rfl, hR, hB⟩; have BK3 := Aside0.mk (blk_below BK.out hB); have HB3 := Aside0.mk (below_then HB.out HB.out.size hB); have HG3 := Aside0.mk (HG.out.below hB); have HR3 := Aside0.mk (HR.out.below hB); have HN3 := Aside0.mk hR; clear BK HB HG HR hcz0 hcz1; have BK := BK3; have HB := HB3; have HG := HG3; have HR := HR3; clear BK3 HB3 HG3 HR3 hB; have hcz0 : w3.cell? ⟨gb, 0, none⟩ = some (.int .i64 n) := (blk_cell BK.out 0).trans rfl; have hcz1 : w3.cell? ⟨gb, 1, none⟩ = some u := (blk_cell BK.out 1).trans rfl; clear hR)
        | (go_at_call 20; refine (RNear_is _ u n adj a HR.out).mono ?_; rintro e w4 ⟨v23, rfl, hR, hB⟩; have BK4 := Aside0.mk (blk_below BK.out hB); have HB4 := Aside0.mk (below_then HB.out HB.out.size hB); have HG4 := Aside0.mk (HG.out.below hB); have HR4 := Aside0.mk (HR.out.below hB); have HN4 := Aside0.mk hR; have HN5 := Aside0.mk (Kd.R_below HN3.out hB); clear HN3; clear BK HB HG HR hcz0 hcz1; have BK := BK4; have HB := HB4; have HG := HG4; have HR := HR4; clear BK4 HB4 HG4 HR4 hB; have hcz0 : w4.cell? ⟨gb, 0, none⟩ = some (.int .i64 n) := (blk_cell BK.out 0).trans rfl; have hcz1 : w4.cell? ⟨gb, 1, none⟩ = some u := (blk_cell BK.out 1).trans rfl; clear hR)
        | (go_at_call 18; refine (Ints_is _ _ _ (nearI n adj a) (nearI n adj a) HN5.out HN4.out).mono ?_; rintro e w5 ⟨rfl, hB⟩; rw [decide_eq_true (show nearI n adj a = nearI n adj a from rfl)]; have BK5 := Aside0.mk (blk_below BK.out hB); have HB5 := Aside0.mk (below_then HB.out HB.out.size hB); have HG5 := Aside0.mk (HG.out.below hB); have HR5 := Aside0.mk (HR.out.below hB); clear HN4 HN5; clear BK HB HG HR hcz0 hcz1; have BK := BK5; have HB := HB5; have HG := HG5; have HR := HR5; clear BK5 HB5 HG5 HR5 hB; have hcz0 : w5.cell? ⟨gb, 0, none⟩ = some (.int .i64 n) := (blk_cell BK.out 0).trans rfl; have hcz1 : w5.cell? ⟨gb, 1, none⟩ = some u := (blk_cell BK.out 1).trans rfl))
      go_wp2
      go_loopw [6] (fun v6 wr => ∃ b : Nat, b ≤ n ∧ v6 = .int .i64 b ∧ Aside0 (wr.heap[gb]? = some (Obj.cells #[.int .i64 n, u] 29 (0, 0))) ∧ Aside0 (Below w.heap.size w wr) ∧ Aside0 (GIs wr g v n adj) ∧ Aside0 (RIs wr u n adj)) (fun v6 _ => n - (intOf v6).toNat)
      case atStart => exact ⟨0, Nat.zero_le _, rfl, BK, HB, HG, HR⟩
      case round =>
        clear BK HB HG HR hcz0 hcz1
        obtain ⟨b, hb, rfl, BK, HB, HG, HR⟩ := hrel
        have hcz0 : wr.cell? ⟨gb, 0, none⟩ = some (.int .i64 n) := (blk_cell BK.out 0).trans rfl
        have hcz1 : wr.cell? ⟨gb, 1, none⟩ = some u := (blk_cell BK.out 1).trans rfl
        by_cases hltb : b < n
        · go_wp2
          have BKd : Aside0 (wr.drew.heap[gb]? = some (Obj.cells #[.int .i64 n, u] 29 (0, 0))) := BK
          have HGd := Aside0.mk HG.out.drew
          have HRd := Aside0.mk HR.out.drew
          have HBd := Aside0.mk (below_drew HB.out)
          clear BK HG HR HB
          have BK := BKd
          have HG := HGd
          have HR := HRd
          have HB := HBd
          clear BKd HGd HRd HBd
          have hnb : (hasN n adj a b != hasN n adj a b) = false := by simp
          go_region_held3 (fun w' => w'.cell? ⟨gb, 0, none⟩ = some (.int .i64 n) ∧ w'.cell? ⟨gb, 1, none⟩ = some u) (first | exact ⟨hcz0, hcz1⟩) (first
            | (go_at_call 16; refine (HasB _ g v n adj a b HG.out hltb).mono ?_; rintro e w3 ⟨rfl, hB⟩; have BK3 := Aside0.mk (blk_below BK.out hB); have HB3 := Aside0.mk (below_then HB.out HB.out.size hB); have HG3 := Aside0.mk (HG.out.below hB); have HR3 := Aside0.mk (HR.out.below hB); clear BK HB HG HR hcz0 hcz1; have BK := BK3; have HB := HB3; have HG := HG3; have HR := HR3; clear BK3 HB3 HG3 HR3 hB; have hcz0 : w3.cell? ⟨gb, 0, none⟩ = some (.int .i64 n) := (blk_cell BK.out 0).trans rfl; have hcz1 : w3.cell? ⟨gb, 1, none⟩ = some u := (blk_cell BK.out 1).trans rfl)
            | (go_at_call 17; refine (RHas_is _ u n adj a b HR.out).mono ?_; rintro e w4 ⟨rfl, hB⟩; have BK4 := Aside0.mk (blk_below BK.out hB); have HB4 := Aside0.mk (below_then HB.out HB.out.size hB); have HG4 := Aside0.mk (HG.out.below hB); have HR4 := Aside0.mk (HR.out.below hB); clear BK HB HG HR hcz0 hcz1; have BK := BK4; have HB := HB4; have HG := HG4; have HR := HR4; clear BK4 HB4 HG4 HR4 hB; have hcz0 : w4.cell? ⟨gb, 0, none⟩ = some (.int .i64 n) := (blk_cell BK.out 0).trans rfl; have hcz1 : w4.cell? ⟨gb, 1, none⟩ = some u := (blk_cell BK.out 1).trans rfl))
          go_wp2
          exact ⟨⟨b + 1, by omega, by go_num, BK, HB, HG, HR⟩, by simp [intOf]; omega⟩
        · obtain rfl : b = n := by omega
          go_wp2
          exact ⟨⟨a + 1, by omega, by go_num, BK, HB, HG, HR⟩, by simp [intOf]; omega⟩
    · obtain rfl : a = n := by omega
      go_wp2
      go_ret
      exact ⟨rfl, HB.out⟩
end Go.Proofs.Ytfkmngmnnlgjdaa.Gr

/- Made, walked. -/
namespace Go.Proofs.Ytfkmngmnnlgjdaa.Gr
open Go Go.RowKit Go.Proofs.Ytfkmngmnnlgjdaa.Gf Go.Proofs.Ytfkmngmnnlgjdaa.Pu Go.Proofs.Ytfkmngmnnlgjdaa.Pr Go.Proofs.Ytfkmngmnnlgjdaa.Mw Go.Proofs.YtfkmngmnnlgjdaaW.PrintWords Go.Proofs.YtfkmngmnnlgjdaaW.PrintLast Go.Proofs.YtfkmngmnnlgjdaaW.PrintMore
set_option linter.unusedVariables false
set_option linter.unusedSimpArgs false
/-- The joins behind the first k of a row of joins. -/
def jt (n : Nat) (js : List (Int × Int)) : Nat → Adj
  | 0 => fun _ _ => false
  | k + 1 => jn n (jt n js k) (js.getD k (0, 0)).1 (js.getD k (0, 0)).2
theorem jt_sane (n : Nat) (js : List (Int × Int)) (k : Nat) : Sane n (jt n js k) := by
  induction k with
  | zero => exact sane_none n
  | succ k ih => exact jn_sane ih _ _
/-- The numbers that Made looks at. -/
def madeOk (n : Int) (l : Nat) : Bool := decide (0 ≤ n) && decide (n ≤ 40) && decide (l ≤ 800)
set_option maxRecDepth 100000 in
set_option maxHeartbeats 1000000 in
theorem Made_no (w : World) (n : Int) (A : Option Addr) (l c : Nat) (h : madeOk n l = false) :
    Calls Try.prog 21 #[.int .i64 n, .slice A l c] w fun e w' => e = .returned (.tuple #[.pointer none, .agg #[.int .i64 0, .slice none 0 0]]) ∧ Below w.heap.size w w' := by
  have hu29 := Try.underlying29
  by_cases h1 : n < 0
  · have hd1 : decide (n < 0) = true := decide_eq_true h1
    clear h
    go_enter Try.func21, Try.ntmps21
    go_wp2_with (first | ((with_reducible refine gate_dst (N := 5) rfl ?_); refine box_event ?hg (N := 5) ?hd (cs := #[.int .i64 0, .slice none 0 0]) (t := 29) ?hr ?_; (case hd => rfl); (case hg => rfl); (case hr => first | (go_simp; done) | (go_simp; rfl)); intro ge hge w1 hbox hB; have BE := Aside0.mk hbox; have HB := Aside0.mk hB; have HE := Aside0.mk (show w.heap.size ≤ ge by rw [hge]; exact Nat.le_refl _); clear hbox hB hge; have hez0 : w1.cell? ⟨ge, 0, none⟩ = some (.int .i64 0) := (blk_cell BE.out 0).trans rfl; have hez1 : w1.cell? ⟨ge, 1, none⟩ = some (.slice none 0 0) := (blk_cell BE.out 1).trans rfl; have hefz0 := blk_frozen BE.out 0; have hefz1 := blk_frozen BE.out 1))
    have hE1 := blk_put (cs := #[.int .i64 0, .slice none 0 0]) BE.out 0 (.int .i64 0) (cs' := #[.int .i64 0, .slice none 0 0]) rfl
    refine bodyPost_ret (results_tc rfl _ _ ge 29 #[.int .i64 0, .slice none 0 0] (0, 0) _ rfl (blk_put (cs := #[.int .i64 0, .slice none 0 0]) hE1 1 _ rfl) hu29 rfl (by kernel_rfl)) rfl ?_
    exact ⟨rfl, (HB.out.setCell (p := ⟨ge, 0, none⟩) HE.out _).setCell (p := ⟨ge, 1, none⟩) HE.out _⟩
  · by_cases h2 : 40 < n
    · have hd1 : decide (n < 0) = false := decide_eq_false h1
      have hd2 : decide (40 < n) = true := decide_eq_true h2
      clear h
      go_enter Try.func21, Try.ntmps21
      go_wp2_with (first | ((with_reducible refine gate_dst (N := 5) rfl ?_); refine box_event ?hg (N := 5) ?hd (cs := #[.int .i64 0, .slice none 0 0]) (t := 29) ?hr ?_; (case hd => rfl); (case hg => rfl); (case hr => first | (go_simp; done) | (go_simp; rfl)); intro ge hge w1 hbox hB; have BE := Aside0.mk hbox; have HB := Aside0.mk hB; have HE := Aside0.mk (show w.heap.size ≤ ge by rw [hge]; exact Nat.le_refl _); clear hbox hB hge; have hez0 : w1.cell? ⟨ge, 0, none⟩ = some (.int .i64 0) := (blk_cell BE.out 0).trans rfl; have hez1 : w1.cell? ⟨ge, 1, none⟩ = some (.slice none 0 0) := (blk_cell BE.out 1).trans rfl; have hefz0 := blk_frozen BE.out 0; have hefz1 := blk_frozen BE.out 1))
      have hE1 := blk_put (cs := #[.int .i64 0, .slice none 0 0]) BE.out 0 (.int .i64 0) (cs' := #[.int .i64 0, .slice none 0 0]) rfl
      refine bodyPost_ret (results_tc rfl _ _ ge 29 #[.int .i64 0, .slice none 0 0] (0, 0) _ rfl (blk_put (cs := #[.int .i64 0, .slice none 0 0]) hE1 1 _ rfl) hu29 rfl (by kernel_rfl)) rfl ?_
      exact ⟨rfl, (HB.out.setCell (p := ⟨ge, 0, none⟩) HE.out _).setCell (p := ⟨ge, 1, none⟩) HE.out _⟩
    · have h3 : 800 < l := by
        unfold madeOk at h
        simp only [Bool.and_eq_false_iff, decide_eq_false_iff_not] at h
        omega
      have hd1 : decide (n < 0) = false := decide_eq_false h1
      have hd2 : decide (40 < n) = false := decide_eq_false h2
      have hd3 : decide ((800 : Int) < (l : Int)) = true := decide_eq_true (by omega)
      clear h
      go_enter Try.func21, Try.ntmps21
      go_wp2_with (first | ((with_reducible refine gate_dst (N := 5) rfl ?_); refine box_event ?hg (N := 5) ?hd (cs := #[.int .i64 0, .slice none 0 0]) (t := 29) ?hr ?_; (case hd => rfl); (case hg => rfl); (case hr => first | (go_simp; done) | (go_simp; rfl)); intro ge hge w1 hbox hB; have BE := Aside0.mk hbox; have HB := Aside0.mk hB; have HE := Aside0.mk (show w.heap.size ≤ ge by rw [hge]; exact Nat.le_refl _); clear hbox hB hge; have hez0 : w1.cell? ⟨ge, 0, none⟩ = some (.int .i64 0) := (blk_cell BE.out 0).trans rfl; have hez1 : w1.cell? ⟨ge, 1, none⟩ = some (.slice none 0 0) := (blk_cell BE.out 1).trans rfl; have hefz0 := blk_frozen BE.out 0; have hefz1 := blk_frozen BE.out 1))
      have hE1 := blk_put (cs := #[.int .i64 0, .slice none 0 0]) BE.out 0 (.int .i64 0) (cs' := #[.int .i64 0, .slice none 0 0]) rfl
      refine bodyPost_ret (results_tc rfl _ _ ge 29 #[.int .i64 0, .slice none 0 0] (0, 0) _ rfl (blk_put (cs := #[.int .i64 0, .slice none 0 0]) hE1 1 _ rfl) hu29 rfl (by kernel_rfl)) rfl ?_
      exact ⟨rfl, (HB.out.setCell (p := ⟨ge, 0, none⟩) HE.out _).setCell (p := ⟨ge, 1, none⟩) HE.out _⟩
end Go.Proofs.Ytfkmngmnnlgjdaa.Gr

/- Made, walked where it makes a graph. -/
namespace Go.Proofs.Ytfkmngmnnlgjdaa.Gr
open Go Go.RowKit Go.Proofs.Ytfkmngmnnlgjdaa.Gf Go.Proofs.Ytfkmngmnnlgjdaa.Pu Go.Proofs.Ytfkmngmnnlgjdaa.Pr Go.Proofs.Ytfkmngmnnlgjdaa.Mw Go.Proofs.YtfkmngmnnlgjdaaW.PrintWords Go.Proofs.YtfkmngmnnlgjdaaW.PrintLast Go.Proofs.YtfkmngmnnlgjdaaW.PrintMore
set_option linter.unusedVariables false
set_option linter.unusedSimpArgs false
theorem RIs.shape {w : World} {v : Value} {n : Nat} {adj : Adj} (h : RIs w v n adj) : ∃ A m c, v = .slice A m c := by
  obtain ⟨A, c, on, he, _⟩ := h.rd
  exact ⟨A, _, c, he⟩
theorem GIs.box {w : World} {g n : Nat} {v : Value} {adj : Adj} (h : GIs w g v n adj) {gw : Nat} {cs : Array Value} (hb : w.heap[gw]? = some (.cells cs 29 (0, 0))) (j : Nat) (x : Value) : GIs (w.setCell ⟨gw, j, none⟩ x) g v n adj := by
  obtain ⟨h1, rows, hR, hr⟩ := h
  exact ⟨blk_far h1 (p := ⟨gw, j, none⟩) (blk_ne h1 hb (by decide)) x, rows, Kd.R_set hR hb (by decide) j x, hr⟩
theorem RIs.box {w : World} {n : Nat} {v : Value} {adj : Adj} (h : RIs w v n adj) {gw : Nat} {cs : Array Value} (hb : w.heap[gw]? = some (.cells cs 29 (0, 0))) (j : Nat) (x : Value) : RIs (w.setCell ⟨gw, j, none⟩ x) v n adj := by
  obtain ⟨on, hO, hR⟩ := h.own
  exact ⟨on, Kd.R_set hO hb (by decide) j x, hR⟩
/-- What goes on in the loops that join: the graph, and the document's in a block. -/
structure JSt (w wr : World) (g : Nat) (v u : Value) (n : Nat) (adj adj' : Adj) (gw : Nat) : Prop where
  gr : GIs wr g v n adj
  rf : RIs wr u n adj'
  box : wr.heap[gw]? = some (Obj.cells #[.int .i64 n, u] 29 (0, 0))
  own : ∀ k, v.ownBlock = some k → w.heap.size ≤ k
  bel : Below w.heap.size w wr
theorem JSt.drew {w wr : World} {g : Nat} {v u : Value} {n : Nat} {adj adj' : Adj} {gw : Nat} (h : JSt w wr g v u n adj adj' gw) : JSt w wr.drew g v u n adj adj' gw :=
  ⟨h.gr.drew, h.rf.drew, h.box, h.own, below_drew h.bel⟩
theorem JSt.below {w wr w1 : World} {g : Nat} {v u : Value} {n : Nat} {adj adj' : Adj} {gw : Nat} (h : JSt w wr g v u n adj adj' gw) (hB : Below wr.heap.size wr w1) : JSt w w1 g v u n adj adj' gw :=
  ⟨h.gr.below hB, h.rf.below hB, blk_below h.box hB, h.own, below_then h.bel h.bel.size hB⟩
theorem GIs.ne_box {w : World} {g n gw : Nat} {v : Value} {adj : Adj} {cs : Array Value} (h : GIs w g v n adj) (hb : w.heap[gw]? = some (.cells cs 29 (0, 0))) : some gw ≠ v.ownBlock := by
  obtain ⟨_, rows, hR, _⟩ := h
  exact Kd.R_ne hR hb (by decide)
theorem JSt.joined {w wr w1 : World} {g : Nat} {v u : Value} {n : Nat} {adj adj' adj1 : Adj} {gw : Nat} (h : JSt w wr g v u n adj adj' gw) (hG : GIs w1 g v n adj1) (hg : wr.grownBy w1 v.ownBlock) : JSt w w1 g v u n adj1 adj' gw :=
  ⟨hG, h.rf.grown hg (h.gr.ne_ref h.rf), blk_grown h.box hg (h.gr.ne_box h.box), h.own, h.bel.grown hg h.bel.size h.own⟩
/-- The document's graph is laid into its block. -/
theorem JSt.put {w wr : World} {g : Nat} {v u' : Value} {n : Nat} {adj adj' : Adj} {gw : Nat} {x0 x1 : Value} (hG : GIs wr g v n adj) (hR : RIs wr u' n adj') (hb : wr.heap[gw]? = some (Obj.cells #[x0, x1] 29 (0, 0))) (hw : w.heap.size ≤ gw) (ho : ∀ k, v.ownBlock = some k → w.heap.size ≤ k) (hB : Below w.heap.size w wr) :
    JSt w ((wr.setCell ⟨gw, 0, none⟩ (.int .i64 n)).setCell ⟨gw, 1, none⟩ u') g v u' n adj adj' gw := by
  have h1 := blk_put (cs := #[x0, x1]) hb 0 (.int .i64 n) (cs' := #[.int .i64 n, x1]) rfl
  exact ⟨(hG.box hb 0 _).box h1 1 _, (hR.box hb 0 _).box h1 1 _, blk_put (cs := #[.int .i64 n, x1]) h1 1 u' rfl, ho, (hB.setCell (p := ⟨gw, 0, none⟩) hw _).setCell (p := ⟨gw, 1, none⟩) hw _⟩
theorem add_one_ (ad : Addr) (m : Nat) : (⟨(ad.add m).block, (ad.add m).off + 1, none⟩ : Addr) = ad.add (m + 1) := by
  rw [Addr.add_succ']
  unfold Addr.add
  by_cases h : m = 0
  · subst h; simp
  · simp [h]; omega
theorem JoinB (w : World) (g n : Nat) (v : Value) (adj : Adj) (a b : Int) (h : GIs w g v n adj) :
    Calls Try.prog 14 #[.pointer (some ⟨g, 0, none⟩), .int .i64 a, .int .i64 b] w fun e w' => e = .returned (.bool (joinOk n adj a b)) ∧ GIs w' g v n (jn n adj a b) ∧ w.grownBy w' v.ownBlock := Join_any w g n v adj a b h
theorem JIs.at_ {w : World} {ad : Addr} {l : Nat} {js : List (Int × Int)} (h : JIs w (some ad) l js) {i : Nat} (hi : i < l) {p q : Int} (hp : p = (js.getD i (0, 0)).1) (hq : q = (js.getD i (0, 0)).2) :
    w.cell? (ad.add (i * 2)) = some (.int .i64 p) ∧ w.cell? ⟨(ad.add (i * 2)).block, (ad.add (i * 2)).off + 1, none⟩ = some (.int .i64 q) := by
  obtain ⟨ad', e, h1, h2⟩ := h.cells i hi
  injection e with e
  subst e
  rw [add_one_, hp, hq]
  exact ⟨h1, h2⟩
-- TABLE
def MadeR.T8 : Bool × List (List Nat × List Nat) := (true, [([], []), ([], []), ([], []), ([1, 2], [1, 2]), ([3], [3]), ([4], [4]), ([], []), ([], []), ([6, 7], [6, 7]), ([8], [8]), ([9], [9]), ([0, 5, 10], [0, 5, 10]), ([11], [11]), ([12], [12]), ([12], [12]), ([13, 11, 0, 1, 2, 3, 4, 5, 6, 7, 8, 9, 10, 11, 12, 13], [13])])
def MadeR.B8 : List Nat := [0, 0, 0, 6, 14, 30, 0, 0, 192, 448, 960, 2047, 4095, 8191, 8191, 16383]
theorem MadeR.tab8 : rtab .any (opsOf Try.f21 8) = MadeR.T8 := by kernel_rfl
theorem MadeR.bits8 : waitsOk MadeR.T8.2 MadeR.B8 = true := by kernel_rfl
-- END TABLE
set_option maxRecDepth 100000 in
set_option maxHeartbeats 1000000 in
theorem Made_is (w : World) (n : Nat) (A : Option Addr) (l c : Nat) (js : List (Int × Int)) (hn : n ≤ 40) (hl : l ≤ 800) (hJ : JIs w A l js) :
    Calls Try.prog 21 #[.int .i64 n, .slice A l c] w fun e w' => ∃ g v u, e = .returned (.tuple #[.pointer (some ⟨g, 0, none⟩), .agg #[.int .i64 n, u]]) ∧ GIs w' g v n (jt n js l) ∧ RIs w' u n (jt n js l) ∧ (∀ k, v.ownBlock = some k → w.heap.size ≤ k) ∧ Below w.heap.size w w' := by
  have hu29 := Try.underlying29
  have HJ := Aside0.mk hJ
  clear hJ
  have hd1 : decide ((n : Int) < 0) = false := decide_eq_false (by omega)
  have hd2 : decide (40 < (n : Int)) = false := decide_eq_false (by omega)
  have hd3 : decide ((800 : Int) < (l : Int)) = false := decide_eq_false (by omega)
  go_enter Try.func21, Try.ntmps21
  go_wp2_with (first
    | ((with_reducible refine gate_dst (N := 5) rfl ?_); refine box_event ?hg (N := 5) ?hd (cs := #[.int .i64 0, .slice none 0 0]) (t := 29) ?hr ?_; (case hd => rfl); (case hg => rfl); (case hr => first | (go_simp; done) | (go_simp; rfl)); intro ge hge w1 hbox hB; have BE := Aside0.mk hbox; have HB := Aside0.mk hB; have HE := Aside0.mk (show w.heap.size ≤ ge by rw [hge]; exact Nat.le_refl _); clear hbox hB hge)
    | (go_at_call 9; refine (New_is _ n (by omega)).mono ?_; rintro e w2 ⟨g, v, rfl, hG, hgb, hvb, hB⟩; have HG := Aside0.mk hG; have HV := Aside0.mk (fun k hk => Nat.le_trans HB.out.size (hvb k hk) : ∀ k, v.ownBlock = some k → w.heap.size ≤ k); have BE2 := Aside0.mk (blk_below BE.out hB); have HB2 := Aside0.mk (below_then HB.out HB.out.size hB); clear hG hgb hvb hB BE HB)
    | (go_at_call 12; refine (RNew_is _ n (by omega)).mono ?_; rintro e w3 ⟨u, rfl, hR, hB⟩; obtain ⟨Au, mu, cu, rfl⟩ := hR.shape; have HR := Aside0.mk hR; have HG3 := Aside0.mk (HG.out.below hB); have BE3 := Aside0.mk (blk_below BE2.out hB); have HB3 := Aside0.mk (below_then HB2.out HB2.out.size hB); clear hR hB BE2 HB2 HG)
    | ((with_reducible refine gate_dst (N := 7) rfl ?_); refine box_event ?hg (N := 7) ?hd (cs := #[.int .i64 0, .slice none 0 0]) (t := 29) ?hr ?_; (case hd => rfl); (case hg => rfl); (case hr => first | (go_simp; done) | (go_simp; rfl)); intro gw hgw w4 hbox hB; have BW := Aside0.mk hbox; have HR4 := Aside0.mk (HR.out.below hB); have HG4 := Aside0.mk (HG3.out.below hB); have BE4 := Aside0.mk (blk_below BE3.out hB); have HW := Aside0.mk (show w.heap.size ≤ gw by rw [hgw]; exact HB3.out.size); have NE := Aside0.mk (show ge ≠ gw by rw [hgw]; exact Nat.ne_of_lt (blk_lt BE3.out)); have HB4 := Aside0.mk (below_then HB3.out HB3.out.size hB); clear hbox hB hgw HR HG3 BE3 HB3; have hz0 : w4.cell? ⟨gw, 0, none⟩ = some (.int .i64 0) := (blk_cell BW.out 0).trans rfl; have hz1 : w4.cell? ⟨gw, 1, none⟩ = some (.slice none 0 0) := (blk_cell BW.out 1).trans rfl; have hfz0 := blk_frozen BW.out 0; have hfz1 := blk_frozen BW.out 1))
  have hJ5 := Aside0.mk (JSt.put HG4.out HR4.out BW.out HW.out HV.out HB4.out)
  have hE5 := Aside0.mk (blk_far (blk_far BE4.out (p := ⟨gw, 0, none⟩) NE.out (.int .i64 n)) (p := ⟨gw, 1, none⟩) NE.out (.slice Au mu cu))
  clear HG4 HR4 BW HB4 BE4 hz0 hz1 hfz0 hfz1
  generalize (w4.setCell ⟨gw, 0, none⟩ (.int .i64 n)).setCell ⟨gw, 1, none⟩ (.slice Au mu cu) = w5 at hJ5 hE5 ⊢
  go_loopw [8] (fun v8 wr => ∃ (i : Nat) (A1 : Option Addr) (m1 c1 : Nat), i ≤ l ∧ v8 = .int .i64 i ∧ Aside0 (JSt w wr g v (.slice A1 m1 c1) n (jt n js i) (jt n js i) gw) ∧ Aside0 (wr.heap[ge]? = some (Obj.cells #[.int .i64 0, .slice none 0 0] 29 (0, 0)))) (fun v8 _ => l - (intOf v8).toNat)
  case atStart => exact ⟨0, Au, mu, cu, Nat.zero_le _, rfl, hJ5, hE5⟩
  case round =>
    clear hJ5 hE5
    obtain ⟨i, A1, m1, c1, hi, rfl, HS, BE⟩ := hrel
    by_cases hlt : i < l
    · obtain ⟨ad, hA, _, _⟩ := (HJ.out.below HS.out.bel).cells i hlt
      subst hA
      obtain ⟨p, hpe⟩ : ∃ p, p = (js.getD i (0, 0)).1 := ⟨_, rfl⟩
      obtain ⟨q, hqe⟩ : ∃ q, q = (js.getD i (0, 0)).2 := ⟨_, rfl⟩
      obtain ⟨hc0, hc2⟩ := (HJ.out.below HS.out.bel).at_ hlt hpe hqe
      have hli : (i : Int) < (l : Int) := by omega
      have HPQ := Aside0.mk (And.intro hpe hqe)
      clear hpe hqe
      go_wp2
      have HSd := Aside0.mk HS.out.drew
      have BEd : Aside0 (wr.drew.heap[ge]? = some (Obj.cells #[.int .i64 0, .slice none 0 0] 29 (0, 0))) := BE
      clear HS BE
      go_region_held3 (fun w' => w'.cell? (ad.add (i * 2)) = some (.int .i64 p) ∧ w'.cell? ⟨(ad.add (i * 2)).block, (ad.add (i * 2)).off + 1, none⟩ = some (.int .i64 q)) (first | exact ⟨hc0, hc2⟩) (first
        | (go_at_call 14; refine (JoinB _ g n v _ p q HSd.out.gr).mono ?_; rintro e w6 ⟨rfl, hG, hg⟩; have HS6 := Aside0.mk (HSd.out.joined hG hg); have BE6 := Aside0.mk (blk_grown BEd.out hg (HSd.out.gr.ne_box BEd.out)); clear HSd BEd hG hg hc0 hc2; obtain ⟨hc0, hc2⟩ := (HJ.out.below HS6.out.bel).at_ hlt HPQ.out.1 HPQ.out.2))
      have hz0 : w6.cell? ⟨gw, 0, none⟩ = some (.int .i64 n) := (blk_cell HS6.out.box 0).trans rfl
      have hz1 : w6.cell? ⟨gw, 1, none⟩ = some (.slice A1 m1 c1) := (blk_cell HS6.out.box 1).trans rfl
      go_wp2
      -- REGION
      refine start_ (n := 16) (S := (fun w' => w'.cell? ⟨gw, 0, none⟩ = some (.int .i64 n) ∧ w'.cell? ⟨gw, 1, none⟩ = some (.slice A1 m1 c1) ∧ w'.cell? (ad.add (i * 2)) = some (.int .i64 p) ∧ w'.cell? ⟨(ad.add (i * 2)).block, (ad.add (i * 2)).off + 1, none⟩ = some (.int .i64 q))) (ds := [15]) #[false, false, false, false, false, false, false, false, false, false, false, false, false, false, false, false] (by kernel_rfl) rfl rfl ⟨hz0, hz1, hc0, hc2⟩ (fun hHeld => ?_); refine with_tabW MadeR.tab8 MadeR.bits8 (fun HT_ HW_ => ?_)
      have HS7 := Aside0.mk HS6.out.drew
      have BE7 : Aside0 (w6.drew.heap[ge]? = some (Obj.cells #[.int .i64 0, .slice none 0 0] 29 (0, 0))) := BE6
      clear HS6 BE6 hz0 hz1 hc0 hc2
      generalize w6.drew = w7 at HS7 BE7 hHeld ⊢
      refine take_ (i := 0) (N := some 44) (v := ?_) (a' := ?_) #[true, false, false, false, false, false, false, false, false, false, false, false, false, false, false, false] rfl rfl (take_ofW HT_.out HW_.out (by kernel_rfl)) (fun _ _ _ h => h) (Or.inl ⟨by rfl, ?_⟩) hHeld ?_ ?_
      rotate_left
      · intro w' s0
        (obtain ⟨s0, s1, s2, s3⟩ := s0)
        go_simp
        with_reducible rfl
      rotate_left
      · simp only [Act.put, List.setIfInBounds_toArray, List.set_cons_zero, List.set_cons_succ, i64_w, i32_w]
        rfl
      refine pure_ (i := 1) (N := some 45) (v := ?_) (a' := ?_) #[true, true, false, false, false, false, false, false, false, false, false, false, false, false, false, false] rfl rfl (any_of HT_.out (by kernel_rfl)) (fun _ _ _ h => h) (Or.inl ⟨by rfl, ?_⟩) ?_ ?_
      rotate_left
      · intro w'
        go_simp
        with_reducible rfl
      rotate_left
      · simp only [Act.put, List.setIfInBounds_toArray, List.set_cons_zero, List.set_cons_succ, i64_w, i32_w]
        rfl
      refine pure_ (i := 2) (N := some 46) (v := ?_) (a' := ?_) #[true, true, true, false, false, false, false, false, false, false, false, false, false, false, false, false] rfl rfl (any_of HT_.out (by kernel_rfl)) (fun _ _ _ h => h) (Or.inl ⟨by rfl, ?_⟩) ?_ ?_
      rotate_left
      · intro w'
        go_simp
        with_reducible rfl
      rotate_left
      · simp only [Act.put, List.setIfInBounds_toArray, List.set_cons_zero, List.set_cons_succ, i64_w, i32_w]
        rfl
      refine pure_ (i := 3) (N := some 47) (v := ?_) (a' := ?_) #[true, true, true, true, false, false, false, false, false, false, false, false, false, false, false, false] rfl rfl (any_of HT_.out (by kernel_rfl)) (fun _ _ _ h => h) (Or.inl ⟨by rfl, ?_⟩) ?_ ?_
      rotate_left
      · intro w'
        go_simp
        with_reducible rfl
      rotate_left
      · simp only [Act.put, List.setIfInBounds_toArray, List.set_cons_zero, List.set_cons_succ, i64_w, i32_w]
        rfl
      refine pure_ (i := 4) (N := some 48) (v := ?_) (a' := ?_) #[true, true, true, true, true, false, false, false, false, false, false, false, false, false, false, false] rfl rfl (any_of HT_.out (by kernel_rfl)) (fun _ _ _ h => h) (Or.inl ⟨by rfl, ?_⟩) ?_ ?_
      rotate_left
      · intro w'
        go_simp
        with_reducible rfl
      rotate_left
      · simp only [Act.put, List.setIfInBounds_toArray, List.set_cons_zero, List.set_cons_succ, i64_w, i32_w]
        rfl
      refine take_ (i := 5) (N := some 49) (v := ?_) (a' := ?_) #[true, true, true, true, true, true, false, false, false, false, false, false, false, false, false, false] rfl rfl (take_ofW HT_.out HW_.out (by kernel_rfl)) (fun _ _ _ h => h) (Or.inl ⟨by rfl, ?_⟩) hHeld ?_ ?_
      rotate_left
      · intro w' s0
        (obtain ⟨s0, s1, s2, s3⟩ := s0)
        go_simp
        with_reducible rfl
      rotate_left
      · simp only [Act.put, List.setIfInBounds_toArray, List.set_cons_zero, List.set_cons_succ, i64_w, i32_w]
        rfl
      refine pure_ (i := 6) (N := some 50) (v := ?_) (a' := ?_) #[true, true, true, true, true, true, true, false, false, false, false, false, false, false, false, false] rfl rfl (any_of HT_.out (by kernel_rfl)) (fun _ _ _ h => h) (Or.inl ⟨by rfl, ?_⟩) ?_ ?_
      rotate_left
      · intro w'
        go_simp
        with_reducible rfl
      rotate_left
      · simp only [Act.put, List.setIfInBounds_toArray, List.set_cons_zero, List.set_cons_succ, i64_w, i32_w]
        rfl
      refine pure_ (i := 7) (N := some 51) (v := ?_) (a' := ?_) #[true, true, true, true, true, true, true, true, false, false, false, false, false, false, false, false] rfl rfl (any_of HT_.out (by kernel_rfl)) (fun _ _ _ h => h) (Or.inl ⟨by rfl, ?_⟩) ?_ ?_
      rotate_left
      · intro w'
        go_simp
        with_reducible rfl
      rotate_left
      · simp only [Act.put, List.setIfInBounds_toArray, List.set_cons_zero, List.set_cons_succ, i64_w, i32_w]
        rfl
      refine pure_ (i := 8) (N := some 52) (v := ?_) (a' := ?_) #[true, true, true, true, true, true, true, true, true, false, false, false, false, false, false, false] rfl rfl (any_of HT_.out (by kernel_rfl)) (fun _ _ _ h => h) (Or.inl ⟨by rfl, ?_⟩) ?_ ?_
      rotate_left
      · intro w'
        go_simp
        with_reducible rfl
      rotate_left
      · simp only [Act.put, List.setIfInBounds_toArray, List.set_cons_zero, List.set_cons_succ, i64_w, i32_w]
        rfl
      refine pure_ (i := 9) (N := some 53) (v := ?_) (a' := ?_) #[true, true, true, true, true, true, true, true, true, true, false, false, false, false, false, false] rfl rfl (any_of HT_.out (by kernel_rfl)) (fun _ _ _ h => h) (Or.inl ⟨by rfl, ?_⟩) ?_ ?_
      rotate_left
      · intro w'
        go_simp
        with_reducible rfl
      rotate_left
      · simp only [Act.put, List.setIfInBounds_toArray, List.set_cons_zero, List.set_cons_succ, i64_w, i32_w]
        rfl
      refine take_ (i := 10) (N := some 54) (v := ?_) (a' := ?_) #[true, true, true, true, true, true, true, true, true, true, true, false, false, false, false, false] rfl rfl (take_ofW HT_.out HW_.out (by kernel_rfl)) (fun _ _ _ h => h) (Or.inl ⟨by rfl, ?_⟩) hHeld ?_ ?_
      rotate_left
      · intro w' s0
        (obtain ⟨s0, s1, s2, s3⟩ := s0)
        go_simp
        with_reducible rfl
      rotate_left
      · simp only [Act.put, List.setIfInBounds_toArray, List.set_cons_zero, List.set_cons_succ, i64_w, i32_w]
        rfl
      refine one_ (i := 11) (N := some 55) #[true, true, true, true, true, true, true, true, true, true, true, true, false, false, false, false] rfl rfl (one_of HT_.out (by kernel_rfl)) (by decide) (fun K hK => ?_)
      refine goes_ Try.func13 (by kernel_rfl) rfl #[.agg #[.int .i64 n, .slice A1 m1 c1], .int .i64 p, .int .i64 q] (by rfl) rfl rfl (by (try simp only [List.map_toArray, List.map_cons, List.map_nil]); first | done | rfl) ?_
      refine (RJoin_is w7 (.slice A1 m1 c1) n _ p q HS7.out.rf).mono ?_
      rintro e w8 ⟨u', rfl, hR, hB⟩
      obtain ⟨A2, m2, c2, rfl⟩ := hR.shape
      have HR8 := Aside0.mk hR
      have HS8 := Aside0.mk (HS7.out.below hB)
      have BE8 := Aside0.mk (blk_below BE7.out hB)
      have hj8 := (HJ.out.below HS8.out.bel).at_ hlt HPQ.out.1 HPQ.out.2
      refine ⟨_, rfl, hK.out _ _ ⟨(blk_cell HS8.out.box 0).trans rfl, (blk_cell HS8.out.box 1).trans rfl, hj8.1, hj8.2⟩ (fun hHeld => ?_)⟩
      clear hK K HS7 BE7 hR hB hj8
      simp only [Act.put, List.setIfInBounds_toArray, List.set_cons_zero, List.set_cons_succ]
      have hz0 : w8.cell? ⟨gw, 0, none⟩ = some (.int .i64 n) := (blk_cell HS8.out.box 0).trans rfl
      have hz1 : w8.cell? ⟨gw, 1, none⟩ = some (.slice A1 m1 c1) := (blk_cell HS8.out.box 1).trans rfl
      have hfz0 := blk_frozen HS8.out.box 0
      have hfz1 := blk_frozen HS8.out.box 1
      refine pure_ (i := 12) (N := some 43) (v := ?_) (a' := ?_) #[true, true, true, true, true, true, true, true, true, true, true, true, true, false, false, false] rfl rfl (any_of HT_.out (by kernel_rfl)) (fun _ _ _ h => h) (Or.inl ⟨by rfl, ?_⟩) ?_ ?_
      rotate_left
      · intro w'
        go_simp
        with_reducible rfl
      rotate_left
      · simp only [Act.put, List.setIfInBounds_toArray, List.set_cons_zero, List.set_cons_succ, i64_w, i32_w]
        rfl
      refine pure_ (i := 13) (N := some 56) (v := ?_) (a' := ?_) #[true, true, true, true, true, true, true, true, true, true, true, true, true, true, false, false] rfl rfl (any_of HT_.out (by kernel_rfl)) (fun _ _ _ h => h) (Or.inl ⟨by rfl, ?_⟩) ?_ ?_
      rotate_left
      · intro w'
        go_simp
        with_reducible rfl
      rotate_left
      · simp only [Act.put, List.setIfInBounds_toArray, List.set_cons_zero, List.set_cons_succ, i64_w, i32_w]
        rfl
      refine pure_ (i := 14) (N := some 57) (v := ?_) (a' := ?_) #[true, true, true, true, true, true, true, true, true, true, true, true, true, true, true, false] rfl rfl (any_of HT_.out (by kernel_rfl)) (fun _ _ _ h => h) (Or.inl ⟨by rfl, ?_⟩) ?_ ?_
      rotate_left
      · intro w'
        go_simp
        with_reducible rfl
      rotate_left
      · simp only [Act.put, List.setIfInBounds_toArray, List.set_cons_zero, List.set_cons_succ, i64_w, i32_w]
        rfl
      refine last_ (i := 15) (N := none) #[true, true, true, true, true, true, true, true, true, true, true, true, true, true, true, true] rfl rfl (one_of HT_.out (by kernel_rfl)) (by decide) (fun K hK => ?_)
      refine skip_ (w1 := ?_) (by rfl) rfl ?_ ?_
      rotate_left
      · go_simp
        rfl
      refine hK.out _ _ ?_
      clear hK K
      refine done_ (done_of HT_.out (by kernel_rfl)) ?_
      -- END REGION
      go_wp2
      have hjt : jn n (jt n js i) p q = jt n js (i + 1) := by
        show _ = jn n (jt n js i) (js.getD i (0, 0)).1 (js.getD i (0, 0)).2
        rw [HPQ.out.1, HPQ.out.2]
      have hput := JSt.put HS8.out.gr HR8.out HS8.out.box HW.out HS8.out.own HS8.out.bel
      rw [hjt] at hput
      exact ⟨⟨i + 1, A2, m2, c2, by omega, by go_num, ⟨hput⟩, ⟨blk_far (blk_far BE8.out (p := ⟨gw, 0, none⟩) NE.out _) (p := ⟨gw, 1, none⟩) NE.out _⟩⟩, by simp [intOf]; omega⟩
    · obtain rfl : i = l := by omega
      go_wp2
      have HSd := Aside0.mk HS.out.drew
      have BEd : Aside0 (wr.drew.heap[ge]? = some (Obj.cells #[.int .i64 0, .slice none 0 0] 29 (0, 0))) := BE
      have hz0 : wr.cell? ⟨gw, 0, none⟩ = some (.int .i64 n) := (blk_cell HS.out.box 0).trans rfl
      have hz1 : wr.cell? ⟨gw, 1, none⟩ = some (.slice A1 m1 c1) := (blk_cell HS.out.box 1).trans rfl
      have hE1 := blk_put (cs := #[.int .i64 0, .slice none 0 0]) BEd.out 0 (.int .i64 n) (cs' := #[.int .i64 n, .slice none 0 0]) rfl
      have hE2 := blk_put (cs := #[.int .i64 n, .slice none 0 0]) hE1 1 (.slice A1 m1 c1) (cs' := #[.int .i64 n, .slice A1 m1 c1]) rfl
      have hG2 := (HSd.out.gr.box BEd.out 0 (.int .i64 n)).box hE1 1 (.slice A1 m1 c1)
      have hR2 := (HSd.out.rf.box BEd.out 0 (.int .i64 n)).box hE1 1 (.slice A1 m1 c1)
      have hB2 := (HSd.out.bel.setCell (p := ⟨ge, 0, none⟩) HE.out (.int .i64 n)).setCell (p := ⟨ge, 1, none⟩) HE.out (.slice A1 m1 c1)
      have hbx := blk_far (blk_far HSd.out.box (p := ⟨ge, 0, none⟩) (Ne.symm NE.out) (.int .i64 n)) (p := ⟨ge, 1, none⟩) (Ne.symm NE.out) (.slice A1 m1 c1)
      have hy0 := blk_cell hbx 0
      have hy1 := blk_cell hbx 1
      have HK := Aside0.mk (And.intro hE2 (And.intro hG2 (And.intro hR2 (And.intro hB2 (And.intro hy0 hy1)))))
      have hefz0 : wr.frozen? ⟨ge, 0, none⟩ = false := blk_frozen BE.out 0
      have hefz1 : wr.frozen? ⟨ge, 1, none⟩ = false := blk_frozen BE.out 1
      have hez0 : wr.cell? ⟨ge, 0, none⟩ = some (.int .i64 0) := (blk_cell BE.out 0).trans rfl
      have hez1 : wr.cell? ⟨ge, 1, none⟩ = some (.slice none 0 0) := (blk_cell BE.out 1).trans rfl
      have hov := HS.out.own
      have HO := Aside0.mk hov
      clear hE1 hE2 hG2 hR2 hB2 hbx hy0 hy1 hov
      go_region_held3 (fun w' => w'.cell? ⟨gw, 0, none⟩ = some (.int .i64 n) ∧ w'.cell? ⟨gw, 1, none⟩ = some (.slice A1 m1 c1)) (first | exact ⟨hz0, hz1⟩ | exact HK.out.2.2.2.2) (fail)
      go_wp2
      refine bodyPost_ret (results_tc rfl _ _ ge 29 #[.int .i64 n, .slice A1 m1 c1] (0, 0) _ rfl HK.out.1 hu29 rfl (by kernel_rfl)) rfl ?_
      exact ⟨g, v, _, rfl, HK.out.2.1, HK.out.2.2.1, HO.out, HK.out.2.2.2.1⟩
end Go.Proofs.Ytfkmngmnnlgjdaa.Gr

/- GraphTells, walked. -/
namespace Go.Proofs.Ytfkmngmnnlgjdaa.Gr
open Go Go.RowKit Go.Proofs.Ytfkmngmnnlgjdaa.Gf Go.Proofs.Ytfkmngmnnlgjdaa.Pu Go.Proofs.Ytfkmngmnnlgjdaa.Pr Go.Proofs.Ytfkmngmnnlgjdaa.Mw Go.Proofs.YtfkmngmnnlgjdaaW.PrintWords Go.Proofs.YtfkmngmnnlgjdaaW.PrintLast Go.Proofs.YtfkmngmnnlgjdaaW.PrintMore
set_option linter.unusedVariables false
set_option linter.unusedSimpArgs false
theorem madeOk_nat {a : Int} {l : Nat} (h : madeOk a l = true) : ∃ n : Nat, a = n ∧ n ≤ 40 ∧ l ≤ 800 := by
  simp only [madeOk, Bool.and_eq_true, decide_eq_true_eq] at h
  obtain ⟨⟨h0, h1⟩, h2⟩ := h
  obtain ⟨n, rfl⟩ := Int.eq_ofNat_of_zero_le h0
  exact ⟨n, rfl, by omega, h2⟩
theorem parts_len_in {n : Nat} (hn : n ≤ 40) (adj : Adj) : (((parts n adj).map nats).length ≤ 9223372036854775807) ∧ ∀ j, ((((parts n adj).map nats).getD j []).length ≤ 9223372036854775807) := by
  constructor
  · rw [List.length_map]
    have := partsTo_length n adj n
    unfold parts
    omega
  · intro j
    rw [List.getD_eq_getElem?_getD, List.getElem?_map]
    cases h : (parts n adj)[j]? with
    | none => simp
    | some x =>
      simp only [Option.map_some, Option.getD_some]
      rw [nats_length]
      have hm := List.mem_of_getElem? h
      unfold parts partsTo at hm
      obtain ⟨a, _, rfl⟩ := List.mem_map.1 hm
      unfold comp
      have := List.length_filter_le (fun b => @decide (Pu.Reach adj a b) (Classical.propDecidable _)) (List.range n)
      rw [List.length_range] at this
      omega
set_option maxRecDepth 100000 in
set_option maxHeartbeats 1000000 in
theorem Tells_is (w : World) (a : Int) (A : Option Addr) (l c : Nat) (js : List (Int × Int)) (hJ : JIs w A l js) :
    Calls Try.prog 5 #[.int .i64 a, .slice A l c] w fun e w' => e = .returned (.bool true) ∧ Below w.heap.size w w' := by
  have hu29 := Try.underlying29
  have HJ := Aside0.mk hJ
  clear hJ
  cases hok : madeOk a l with
  | false =>
    have HK := Aside0.mk hok
    clear hok
    go_enter Try.func5, Try.ntmps5
    go_wp2_with (first
      | (go_at_call 21; refine (Made_no _ a A l c HK.out).mono ?_; rintro e w1 ⟨rfl, hB⟩; have HB := Aside0.mk hB; clear hB)
      | ((with_reducible refine gate_dst (N := 6) rfl ?_); refine box_event ?hg (N := 6) ?hd (cs := #[.int .i64 0, .slice none 0 0]) (t := 29) ?hr ?_; (case hd => rfl); (case hg => rfl); (case hr => first | (go_simp; done) | (go_simp; rfl)); intro gw hgw w2 hbox hB; have BW := Aside0.mk hbox; have HW := Aside0.mk (show w.heap.size ≤ gw by rw [hgw]; exact HB.out.size); have HB2 := Aside0.mk (below_then HB.out HB.out.size hB); clear hbox hB hgw HB; have hz0 : w2.cell? ⟨gw, 0, none⟩ = some (.int .i64 0) := (blk_cell BW.out 0).trans rfl; have hz1 : w2.cell? ⟨gw, 1, none⟩ = some (.slice none 0 0) := (blk_cell BW.out 1).trans rfl; have hfz0 := blk_frozen BW.out 0; have hfz1 := blk_frozen BW.out 1)
      | (go_at_call 10; refine (heads_is _).mono ?_; rintro e w5 ⟨rfl, hB⟩; have HB3 := Aside0.mk (below_then ((HB2.out.setCell (p := ⟨gw, 0, none⟩) HW.out _).setCell (p := ⟨gw, 1, none⟩) HW.out _) ((HB2.out.setCell (p := ⟨gw, 0, none⟩) HW.out _).setCell (p := ⟨gw, 1, none⟩) HW.out _).size hB); clear hB))
    go_ret
    exact ⟨rfl, HB3.out⟩
  | true =>
    obtain ⟨n, rfl, hn, hl⟩ := madeOk_nat hok
    clear hok
    go_enter Try.func5, Try.ntmps5
    go_wp2_with (first
      | (go_at_call 21; refine (Made_is _ n A l c js hn hl HJ.out).mono ?_; rintro e w1 ⟨g, v, u, rfl, hG, hR, hV, hB⟩; obtain ⟨Au, mu, cu, rfl⟩ := hR.shape; have HG := Aside0.mk hG; have HR := Aside0.mk hR; have HV := Aside0.mk hV; have HB := Aside0.mk hB; clear hG hR hV hB)
      | ((with_reducible refine gate_dst (N := 6) rfl ?_); refine box_event ?hg (N := 6) ?hd (cs := #[.int .i64 0, .slice none 0 0]) (t := 29) ?hr ?_; (case hd => rfl); (case hg => rfl); (case hr => first | (go_simp; done) | (go_simp; rfl)); intro gw hgw w2 hbox hB; have BW := Aside0.mk hbox; have HG2 := Aside0.mk (HG.out.below hB); have HR2 := Aside0.mk (HR.out.below hB); have HW := Aside0.mk (show w.heap.size ≤ gw by rw [hgw]; exact HB.out.size); have HB2 := Aside0.mk (below_then HB.out HB.out.size hB); clear hbox hB hgw HB HG HR; have hz0 : w2.cell? ⟨gw, 0, none⟩ = some (.int .i64 0) := (blk_cell BW.out 0).trans rfl; have hz1 : w2.cell? ⟨gw, 1, none⟩ = some (.slice none 0 0) := (blk_cell BW.out 1).trans rfl; have hfz0 := blk_frozen BW.out 0; have hfz1 := blk_frozen BW.out 1))
    have HS := Aside0.mk (JSt.put HG2.out HR2.out BW.out HW.out HV.out HB2.out)
    clear HG2 HR2 BW HV HB2 hz0 hz1 hfz0 hfz1
    generalize (w2.setCell ⟨gw, 0, none⟩ (.int .i64 n)).setCell ⟨gw, 1, none⟩ (.slice Au mu cu) = w3 at HS ⊢
    have hz0 : w3.cell? ⟨gw, 0, none⟩ = some (.int .i64 n) := (blk_cell HS.out.box 0).trans rfl
    have hz1 : w3.cell? ⟨gw, 1, none⟩ = some (.slice Au mu cu) := (blk_cell HS.out.box 1).trans rfl
    have HS3 := Aside0.mk HS.out.drew
    clear HS
    go_wp2
    go_region_held3 (fun w' => w'.cell? ⟨gw, 0, none⟩ = some (.int .i64 n) ∧ w'.cell? ⟨gw, 1, none⟩ = some (.slice Au mu cu)) (first | exact ⟨hz0, hz1⟩) (first
      | (go_at_call 22; refine (Parts_is _ g n v _ HS3.out.gr).mono ?_; rintro e w4 ⟨v4, rfl, hR, hB⟩; have HS4 := Aside0.mk (HS3.out.below hB); have H4 := Aside0.mk hR; clear hR hB HS3 hz0 hz1; have hz0 : w4.cell? ⟨gw, 0, none⟩ = some (.int .i64 n) := (blk_cell HS4.out.box 0).trans rfl; have hz1 : w4.cell? ⟨gw, 1, none⟩ = some (.slice Au mu cu) := (blk_cell HS4.out.box 1).trans rfl)
      | (go_at_call 25; refine (RParts_is _ _ n _ HS4.out.rf).mono ?_; rintro e w5 ⟨v5, rfl, hR, hB⟩; have HS5 := Aside0.mk (HS4.out.below hB); have H5 := Aside0.mk (Kd.R_below H4.out hB); have H6 := Aside0.mk (Kd.S_R hR); clear hR hB HS4 H4 hz0 hz1; have hz0 : w5.cell? ⟨gw, 0, none⟩ = some (.int .i64 n) := (blk_cell HS5.out.box 0).trans rfl; have hz1 : w5.cell? ⟨gw, 1, none⟩ = some (.slice Au mu cu) := (blk_cell HS5.out.box 1).trans rfl)
      | (go_at_call 24; refine (Rows_is _ _ _ ((parts n (jt n js l)).map nats) ((parts n (jt n js l)).map nats) H5.out H6.out (parts_len_in hn _).1 (parts_len_in hn _).2).mono ?_; rintro e w6 ⟨rfl, hB⟩; rw [decide_eq_true (show (parts n (jt n js l)).map nats = (parts n (jt n js l)).map nats from rfl)]; have HS6 := Aside0.mk (HS5.out.below hB); clear hB HS5 H5 H6 hz0 hz1; have hz0 : w6.cell? ⟨gw, 0, none⟩ = some (.int .i64 n) := (blk_cell HS6.out.box 0).trans rfl; have hz1 : w6.cell? ⟨gw, 1, none⟩ = some (.slice Au mu cu) := (blk_cell HS6.out.box 1).trans rfl)
      | (go_at_call 26; refine (Shell_is _ g n v _ HS6.out.gr).mono ?_; rintro e w7 ⟨v7, rfl, hR, hB⟩; have HS7 := Aside0.mk (HS6.out.below hB); have H7 := Aside0.mk hR; clear hR hB HS6 hz0 hz1; have hz0 : w7.cell? ⟨gw, 0, none⟩ = some (.int .i64 n) := (blk_cell HS7.out.box 0).trans rfl; have hz1 : w7.cell? ⟨gw, 1, none⟩ = some (.slice Au mu cu) := (blk_cell HS7.out.box 1).trans rfl)
      | (go_at_call 27; refine (RShell_is _ _ n _ HS7.out.rf).mono ?_; rintro e w8 ⟨v8, rfl, hR, hB⟩; have HS8 := Aside0.mk (HS7.out.below hB); have H8 := Aside0.mk (Kd.R_below H7.out hB); have H9 := Aside0.mk hR; clear hR hB HS7 H7 hz0 hz1; have hz0 : w8.cell? ⟨gw, 0, none⟩ = some (.int .i64 n) := (blk_cell HS8.out.box 0).trans rfl; have hz1 : w8.cell? ⟨gw, 1, none⟩ = some (.slice Au mu cu) := (blk_cell HS8.out.box 1).trans rfl)
      | (go_at_call 18; refine (Ints_is _ _ _ (nats (shell n (jt n js l))) (nats (shell n (jt n js l))) H8.out H9.out).mono ?_; rintro e w9 ⟨rfl, hB⟩; rw [decide_eq_true (show nats (shell n (jt n js l)) = nats (shell n (jt n js l)) from rfl)]; have HS9 := Aside0.mk (HS8.out.below hB); clear hB HS8 H8 H9 hz0 hz1; have hz0 : w9.cell? ⟨gw, 0, none⟩ = some (.int .i64 n) := (blk_cell HS9.out.box 0).trans rfl; have hz1 : w9.cell? ⟨gw, 1, none⟩ = some (.slice Au mu cu) := (blk_cell HS9.out.box 1).trans rfl)
      | (go_at_call 10; refine (heads_is _).mono ?_; rintro e w10 ⟨rfl, hB⟩; have HS10 := Aside0.mk (HS9.out.below hB); clear hB HS9 hz0 hz1; have hz0 : w10.cell? ⟨gw, 0, none⟩ = some (.int .i64 n) := (blk_cell HS10.out.box 0).trans rfl; have hz1 : w10.cell? ⟨gw, 1, none⟩ = some (.slice Au mu cu) := (blk_cell HS10.out.box 1).trans rfl))
    go_wp2
    go_ret
    exact ⟨rfl, HS10.out.bel⟩
end Go.Proofs.Ytfkmngmnnlgjdaa.Gr

/- GraphJoins, walked. -/
namespace Go.Proofs.Ytfkmngmnnlgjdaa.Gr
open Go Go.RowKit Go.Proofs.Ytfkmngmnnlgjdaa.Gf Go.Proofs.Ytfkmngmnnlgjdaa.Pu Go.Proofs.Ytfkmngmnnlgjdaa.Pr Go.Proofs.Ytfkmngmnnlgjdaa.Mw Go.Proofs.YtfkmngmnnlgjdaaW.PrintWords Go.Proofs.YtfkmngmnnlgjdaaW.PrintLast Go.Proofs.YtfkmngmnnlgjdaaW.PrintMore
set_option linter.unusedVariables false
set_option linter.unusedSimpArgs false
theorem HasI (w : World) (g : Nat) (v : Value) (n : Nat) (adj : Adj) (a b : Int) (h : GIs w g v n adj) (hb0 : -9223372036854775808 ≤ b) (hb1 : b ≤ 9223372036854775807) :
    Calls Try.prog 16 #[.pointer (some ⟨g, 0, none⟩), .int .i64 a, .int .i64 b] w fun e w' => e = .returned (.bool (hasN n adj a b)) ∧ Below w.heap.size w w' := by
  refine (Has_is w g v n adj a b h hb0 hb1).mono ?_
  rintro e w' ⟨he, hD⟩
  exact ⟨he, hD.below⟩
/-- The cells that a round's first statement loads. -/
def JCells (w' : World) (gw n : Nat) (x1 : Value) (ad : Addr) (i : Nat) (x y : Int) : Prop := w'.cell? ⟨gw, 0, none⟩ = some (.int .i64 n) ∧ w'.cell? ⟨gw, 1, none⟩ = some x1 ∧ w'.cell? (ad.add (i * 2)) = some (.int .i64 x) ∧ w'.cell? ⟨(ad.add (i * 2)).block, (ad.add (i * 2)).off + 1, none⟩ = some (.int .i64 y)
theorem JCells.below {w w' : World} {gw n i : Nat} {x1 : Value} {ad : Addr} {x y : Int} (h : JCells w gw n x1 ad i x y) (hB : Below w.heap.size w w') : JCells w' gw n x1 ad i x y :=
  ⟨pw_cell_below hB h.1, pw_cell_below hB h.2.1, pw_cell_below hB h.2.2.1, pw_cell_below hB h.2.2.2⟩
set_option maxRecDepth 100000 in
set_option maxHeartbeats 2000000 in
theorem Joins_out (w : World) (a p q : Int) (A : Option Addr) (l c : Nat) (h : a < 0 ∨ 400 < a) :
    Calls Try.prog 3 #[.int .i64 a, .slice A l c, .int .i64 p, .int .i64 q] w fun e w' => e = .returned (.bool true) ∧ Below w.heap.size w w' := by
  have H := Aside0.mk h
  by_cases h1 : a < 0
  · have hd1 : decide (a < 0) = true := decide_eq_true h1
    clear h
    go_enter Try.func3, Try.ntmps3
    go_wp2_with (first
      | (go_at_call 9; refine (New_none _ a H.out).mono ?_; rintro e w1 ⟨rfl, rfl⟩)
      | (go_at_call 10; refine (heads_is _).mono ?_; rintro e w5 ⟨rfl, hB⟩; have HB := Aside0.mk hB; clear hB))
    go_ret
    exact ⟨rfl, HB.out⟩
  · have h2 : 400 < a := by omega
    have hd1 : decide (a < 0) = false := decide_eq_false h1
    have hd2 : decide (400 < a) = true := decide_eq_true h2
    clear h
    go_enter Try.func3, Try.ntmps3
    go_wp2_with (first
      | (go_at_call 9; refine (New_none _ a H.out).mono ?_; rintro e w1 ⟨rfl, rfl⟩)
      | (go_at_call 10; refine (heads_is _).mono ?_; rintro e w5 ⟨rfl, hB⟩; have HB := Aside0.mk hB; clear hB))
    go_ret
    exact ⟨rfl, HB.out⟩
set_option maxRecDepth 100000 in
set_option maxHeartbeats 2000000 in
theorem Joins_large (w : World) (n : Nat) (p q : Int) (A : Option Addr) (l c : Nat) (h1 : 40 < n) (h2 : n ≤ 400) :
    Calls Try.prog 3 #[.int .i64 n, .slice A l c, .int .i64 p, .int .i64 q] w fun e w' => e = .returned (.bool true) ∧ Below w.heap.size w w' := by
  have hd1 : decide ((n : Int) < 0) = false := decide_eq_false (by omega)
  have hd2 : decide (400 < (n : Int)) = false := decide_eq_false (by omega)
  have hd3 : decide (40 < (n : Int)) = true := decide_eq_true (by omega)
  have hne : ((n : Int) != (n : Int)) = false := by simp
  go_enter Try.func3, Try.ntmps3
  go_wp2_with (first
    | (go_at_call 9; refine (New_is _ n h2).mono ?_; rintro e w1 ⟨g, v, rfl, hG, _, _, hB⟩; have HG := Aside0.mk hG; have HB := Aside0.mk hB; clear hG hB)
    | (go_at_call 11; refine (Len_is _ g v n _ HG.out).mono ?_; rintro e w' ⟨rfl, rfl⟩)
    | (go_at_call 10; refine (heads_is _).mono ?_; rintro e w5 ⟨rfl, hB⟩; have HB2 := Aside0.mk (below_then HB.out HB.out.size hB); clear hB))
  go_ret
  exact ⟨rfl, HB2.out⟩
set_option maxRecDepth 100000 in
set_option maxHeartbeats 2000000 in
theorem Joins_is (w : World) (n : Nat) (p q : Int) (A : Option Addr) (l c : Nat) (js : List (Int × Int)) (hn : n ≤ 40) (hJ : JIs w A l js) (hq0 : -9223372036854775808 ≤ q) (hq1 : q ≤ 9223372036854775807) :
    Calls Try.prog 3 #[.int .i64 n, .slice A l c, .int .i64 p, .int .i64 q] w fun e w' => e = .returned (.bool true) ∧ Below w.heap.size w w' := by
  have HJ := Aside0.mk hJ
  have HQ := Aside0.mk (And.intro hq0 hq1)
  clear hJ hq0 hq1
  have hu29 := Try.underlying29
  have hd1 : decide ((n : Int) < 0) = false := decide_eq_false (by omega)
  have hd2 : decide (400 < (n : Int)) = false := decide_eq_false (by omega)
  have hd3 : decide (40 < (n : Int)) = false := decide_eq_false (by omega)
  have hne : ((n : Int) != (n : Int)) = false := by simp
  go_enter Try.func3, Try.ntmps3
  go_wp2_with (first
    | (go_at_call 9; refine (New_is _ n (by omega)).mono ?_; rintro e w1 ⟨g, v, rfl, hG, _, hV, hB⟩; have HG := Aside0.mk hG; have HV := Aside0.mk hV; have HB := Aside0.mk hB; clear hG hV hB)
    | (go_at_call 11; refine (Len_is _ g v n _ HG.out).mono ?_; rintro e w' ⟨rfl, rfl⟩)
    | (go_at_call 12; refine (RNew_is _ n (by omega)).mono ?_; rintro e w3 ⟨u, rfl, hR, hB⟩; obtain ⟨Au, mu, cu, rfl⟩ := hR.shape; have HR := Aside0.mk hR; have HG3 := Aside0.mk (HG.out.below hB); have HB3 := Aside0.mk (below_then HB.out HB.out.size hB); clear hR hB HB HG)
    | ((with_reducible refine gate_dst (N := 10) rfl ?_); refine box_event ?hg (N := 10) ?hd (cs := #[.int .i64 0, .slice none 0 0]) (t := 29) ?hr ?_; (case hd => rfl); (case hg => rfl); (case hr => first | (go_simp; done) | (go_simp; rfl)); intro gw hgw w4 hbox hB; have BW := Aside0.mk hbox; have HR4 := Aside0.mk (HR.out.below hB); have HG4 := Aside0.mk (HG3.out.below hB); have HW := Aside0.mk (show w.heap.size ≤ gw by rw [hgw]; exact HB3.out.size); have HB4 := Aside0.mk (below_then HB3.out HB3.out.size hB); clear hbox hB hgw HR HG3 HB3; have hz0 : w4.cell? ⟨gw, 0, none⟩ = some (.int .i64 0) := (blk_cell BW.out 0).trans rfl; have hz1 : w4.cell? ⟨gw, 1, none⟩ = some (.slice none 0 0) := (blk_cell BW.out 1).trans rfl; have hfz0 := blk_frozen BW.out 0; have hfz1 := blk_frozen BW.out 1))
  have HS := Aside0.mk (JSt.put HG4.out HR4.out BW.out HW.out HV.out HB4.out)
  clear HG4 HR4 BW HB4 hz0 hz1 hfz0 hfz1
  generalize (w4.setCell ⟨gw, 0, none⟩ (.int .i64 n)).setCell ⟨gw, 1, none⟩ (.slice Au mu cu) = w5 at HS ⊢
  go_loopw [11] (fun v11 wr => ∃ (i : Nat) (A1 : Option Addr) (m1 c1 : Nat), i ≤ l ∧ v11 = .int .i64 i ∧ Aside0 (JSt w wr g v (.slice A1 m1 c1) n (jt n js i) (jt n js i) gw)) (fun v11 _ => l - (intOf v11).toNat)
  case atStart => exact ⟨0, Au, mu, cu, Nat.zero_le _, rfl, HS⟩
  case round =>
    clear HS
    obtain ⟨i, A1, m1, c1, hi, rfl, HS⟩ := hrel
    by_cases hlt : i < l ∧ i < 300
    · obtain ⟨hlt, hi3⟩ := hlt
      obtain ⟨ad, hA, _, _⟩ := (HJ.out.below HS.out.bel).cells i hlt
      subst hA
      obtain ⟨x, hxe⟩ : ∃ x, x = (js.getD i (0, 0)).1 := ⟨_, rfl⟩
      obtain ⟨y, hye⟩ : ∃ y, y = (js.getD i (0, 0)).2 := ⟨_, rfl⟩
      obtain ⟨hc0, hc2⟩ := (HJ.out.below HS.out.bel).at_ hlt hxe hye
      have hli : decide ((i : Int) < (l : Int)) = true := decide_eq_true (by omega)
      have hl3 : decide ((i : Int) < 300) = true := decide_eq_true (by omega)
      have hli2 : (i : Int) < (l : Int) := by omega
      have HXY := Aside0.mk (And.intro hxe hye)
      clear hxe hye
      have hz0 : wr.cell? ⟨gw, 0, none⟩ = some (.int .i64 n) := (blk_cell HS.out.box 0).trans rfl
      have hz1 : wr.cell? ⟨gw, 1, none⟩ = some (.slice A1 m1 c1) := (blk_cell HS.out.box 1).trans rfl
      have hJC : JCells wr gw n (.slice A1 m1 c1) ad i x y := ⟨hz0, hz1, hc0, hc2⟩
      have HJC := Aside0.mk (JCells.below hJC (below_drew (Below.refl _ _)))
      have HSd := Aside0.mk HS.out.drew
      have HSa := Aside0.mk (HS.out.below (below_alloc (Below.refl _ _) (Obj.cells #[.int .i64 0, .slice none 0 0] 29))).drew
      have HXa : Aside0 ((wr.alloc (Obj.cells #[.int .i64 0, .slice none 0 0] 29)).drew.heap[wr.heap.size]? = some (Obj.cells #[.int .i64 0, .slice none 0 0] 29 (0, 0))) := ⟨World.alloc_heap_new wr (Obj.cells #[.int .i64 0, .slice none 0 0] 29)⟩
      have HJa : Aside0 (JCells (wr.alloc (Obj.cells #[.int .i64 0, .slice none 0 0] 29)).drew gw n (.slice A1 m1 c1) ad i x y) := ⟨(hJC.below (below_alloc (Below.refl _ _) _)).below (below_drew (Below.refl _ _))⟩
      have HJ0 := Aside0.mk hJC
      have HNW := Aside0.mk (show gw ≠ wr.heap.size from Nat.ne_of_lt (blk_lt HS.out.box))
      have HWR := Aside0.mk HS.out.bel.size
      clear hJC HS
      go_wp2
      go_region_held3 (fun w' => w'.cell? ⟨gw, 0, none⟩ = some (.int .i64 n) ∧ w'.cell? ⟨gw, 1, none⟩ = some (.slice A1 m1 c1) ∧ w'.cell? (ad.add (i * 2)) = some (.int .i64 x) ∧ w'.cell? ⟨(ad.add (i * 2)).block, (ad.add (i * 2)).off + 1, none⟩ = some (.int .i64 y)) (first | exact HJC.out | exact HJa.out | exact HJ8.out | exact HJ8.out.below (below_alloc (Below.refl _ _) _) | exact HJ8.out.below (((below_alloc (Below.refl _ _) _).setCell (p := ⟨_, 0, none⟩) (Nat.le_refl _) _).setCell (p := ⟨_, 1, none⟩) (Nat.le_refl _) _) | exact HJ0.out.below ((HB9.out.setCell (p := ⟨wr.heap.size, 0, none⟩) (Nat.le_refl _) _).setCell (p := ⟨wr.heap.size, 1, none⟩) (Nat.le_refl _) _)) (first
        | (go_at_call 13; (with_reducible refine (RJoin_is _ (.slice A1 m1 c1) n _ x y HSd.out.rf).mono ?_); rintro e w8 ⟨u2, rfl, hR, hB⟩; obtain ⟨A2, m2, c2, rfl⟩ := hR.shape; have HX := Aside0.mk hR; have HS8 := Aside0.mk (HSd.out.below hB); have HJ8 := Aside0.mk (HJC.out.below hB); clear hR hB hz0 hz1 hc0 hc2)
        | (go_at_call 13; (with_reducible refine (RJoin_is _ (.slice A1 m1 c1) n _ x y HSa.out.rf).mono ?_); rintro e w8 ⟨u2, rfl, hR, hB⟩; obtain ⟨A2, m2, c2, rfl⟩ := hR.shape; have HX := Aside0.mk hR; have HS8 := Aside0.mk (HSa.out.below hB); have HB8 := Aside0.mk (blk_below HXa.out hB); have HJ8 := Aside0.mk (HJa.out.below hB); have HB9 := Aside0.mk (below_then (below_drew (below_alloc (Below.refl wr.heap.size wr) (Obj.cells #[.int .i64 0, .slice none 0 0] 29))) (below_size (below_drew (below_alloc (Below.refl wr.heap.size wr) _))) hB); have hx0 : w8.cell? ⟨wr.heap.size, 0, none⟩ = some (.int .i64 0) := (blk_cell HB8.out 0).trans rfl; have hx1 : w8.cell? ⟨wr.heap.size, 1, none⟩ = some (.slice none 0 0) := (blk_cell HB8.out 1).trans rfl; have hxf0 := blk_frozen HB8.out 0; have hxf1 := blk_frozen HB8.out 1; clear hR hB hz0 hz1 hc0 hc2))
      · have HS9 := Aside0.mk (HS8.out.below (below_alloc (Below.refl _ _) (Obj.cells #[.int .i64 n, .slice A2 m2 c2] 29)))
        have HR9 := Aside0.mk (HX.out.below (below_alloc (Below.refl _ _) (Obj.cells #[.int .i64 n, .slice A2 m2 c2] 29)))
        have HX9 := Aside0.mk (World.alloc_heap_new w8 (Obj.cells #[.int .i64 n, .slice A2 m2 c2] 29))
        have HNX := Aside0.mk (show gw ≠ w8.heap.size from Nat.ne_of_lt (blk_lt HS8.out.box))
        clear HJ8 HX HS8 HJC HJ0 HJa HSd HSa HXa
        generalize w8.heap.size = gx at HX9 HNX ⊢
        generalize w8.alloc (Obj.cells #[.int .i64 n, .slice A2 m2 c2] 29) = w9 at HS9 HR9 HX9 ⊢
        have hu0 : w9.cell? ⟨gx, 0, none⟩ = some (.int .i64 n) := (blk_cell HX9.out 0).trans rfl
        have hu1 : w9.cell? ⟨gx, 1, none⟩ = some (.slice A2 m2 c2) := (blk_cell HX9.out 1).trans rfl
        have hv0 : w9.cell? ⟨gw, 0, none⟩ = some (.int .i64 n) := (blk_cell HS9.out.box 0).trans rfl
        have hv1 : w9.cell? ⟨gw, 1, none⟩ = some (.slice A1 m1 c1) := (blk_cell HS9.out.box 1).trans rfl
        have hvf0 := blk_frozen HS9.out.box 0
        have hvf1 := blk_frozen HS9.out.box 1
        have hput := JSt.put HS9.out.gr HR9.out HS9.out.box HW.out HS9.out.own HS9.out.bel
        obtain ⟨w10, hw10⟩ : ∃ w', w' = (w9.setCell ⟨gw, 0, none⟩ (.int .i64 n)).setCell ⟨gw, 1, none⟩ (.slice A2 m2 c2) := ⟨_, rfl⟩
        rw [← hw10] at hput
        have HP := Aside0.mk hput
        have HW10 := Aside0.mk hw10
        clear hput hw10
        go_wp2
        rw [← HW10.out]
        clear HW10 HS9 HR9 HX9 hu0 hu1 hv0 hv1 hvf0 hvf1
        have HPd := Aside0.mk HP.out.drew
        obtain ⟨hc0, hc2⟩ := (HJ.out.below HP.out.bel).at_ hlt HXY.out.1 HXY.out.2
        have hnj : (joinOk n (jt n js i) x y != joinOk n (jt n js i) x y) = false := by simp
        clear HP
        go_region_held3 (fun w' => w'.cell? (ad.add (i * 2)) = some (.int .i64 x) ∧ w'.cell? ⟨(ad.add (i * 2)).block, (ad.add (i * 2)).off + 1, none⟩ = some (.int .i64 y)) (first | exact ⟨hc0, hc2⟩) (first
          | (go_at_call 14; refine (JoinB _ g n v _ x y HPd.out.gr).mono ?_; rintro e w11 ⟨rfl, hG, hg⟩; have HS11 := Aside0.mk (HPd.out.joined hG hg); clear HPd hG hg hc0 hc2; obtain ⟨hc0, hc2⟩ := (HJ.out.below HS11.out.bel).at_ hlt HXY.out.1 HXY.out.2))
        go_wp2
        have hjt : jn n (jt n js i) x y = jt n js (i + 1) := by
          show _ = jn n (jt n js i) (js.getD i (0, 0)).1 (js.getD i (0, 0)).2
          rw [HXY.out.1, HXY.out.2]
        have hfin := HS11.out
        rw [hjt] at hfin
        exact ⟨⟨i + 1, A2, m2, c2, by omega, by go_num, ⟨hfin⟩⟩, by simp [intOf]; omega⟩
      · have hA1 := blk_put (cs := #[.int .i64 0, .slice none 0 0]) HB8.out 0 (.int .i64 n) (cs' := #[.int .i64 n, .slice none 0 0]) rfl
        have hA2 := blk_put (cs := #[.int .i64 n, .slice none 0 0]) hA1 1 (.slice A2 m2 c2) (cs' := #[.int .i64 n, .slice A2 m2 c2]) rfl
        have hne0 : gw ≠ wr.heap.size := HNW.out
        have hle0 : w.heap.size ≤ wr.heap.size := HWR.out
        have HS9 := Aside0.mk (JSt.mk ((HS8.out.gr.box HB8.out 0 (.int .i64 n)).box hA1 1 (.slice A2 m2 c2)) ((HS8.out.rf.box HB8.out 0 (.int .i64 n)).box hA1 1 (.slice A2 m2 c2)) (blk_far (blk_far HS8.out.box (p := ⟨wr.heap.size, 0, none⟩) hne0 (.int .i64 n)) (p := ⟨wr.heap.size, 1, none⟩) hne0 (.slice A2 m2 c2)) HS8.out.own ((HS8.out.bel.setCell (p := ⟨wr.heap.size, 0, none⟩) hle0 (.int .i64 n)).setCell (p := ⟨wr.heap.size, 1, none⟩) hle0 (.slice A2 m2 c2)))
        have HR9 := Aside0.mk ((HX.out.box HB8.out 0 (.int .i64 n)).box hA1 1 (.slice A2 m2 c2))
        have HX9 := Aside0.mk hA2
        clear hA1 hA2 hne0 hle0 HJ8 HX HS8 HJC HJ0 HJa HSd HSa HXa HB8 HB9 hx0 hx1 hxf0 hxf1
        generalize wr.heap.size = gx at HX9 HS9 HR9 HNW HWR ⊢
        generalize (w8.setCell ⟨gx, 0, none⟩ (.int .i64 n)).setCell ⟨gx, 1, none⟩ (.slice A2 m2 c2) = w9 at HS9 HR9 HX9 ⊢
        have hu0 : w9.cell? ⟨gx, 0, none⟩ = some (.int .i64 n) := (blk_cell HX9.out 0).trans rfl
        have hu1 : w9.cell? ⟨gx, 1, none⟩ = some (.slice A2 m2 c2) := (blk_cell HX9.out 1).trans rfl
        have hv0 : w9.cell? ⟨gw, 0, none⟩ = some (.int .i64 n) := (blk_cell HS9.out.box 0).trans rfl
        have hv1 : w9.cell? ⟨gw, 1, none⟩ = some (.slice A1 m1 c1) := (blk_cell HS9.out.box 1).trans rfl
        have hvf0 := blk_frozen HS9.out.box 0
        have hvf1 := blk_frozen HS9.out.box 1
        have hput := JSt.put HS9.out.gr HR9.out HS9.out.box HW.out HS9.out.own HS9.out.bel
        obtain ⟨w10, hw10⟩ : ∃ w', w' = (w9.setCell ⟨gw, 0, none⟩ (.int .i64 n)).setCell ⟨gw, 1, none⟩ (.slice A2 m2 c2) := ⟨_, rfl⟩
        rw [← hw10] at hput
        have HP := Aside0.mk hput
        have HW10 := Aside0.mk hw10
        clear hput hw10
        go_wp2
        rw [← HW10.out]
        clear HW10 HS9 HR9 HX9 hu0 hu1 hv0 hv1 hvf0 hvf1
        have HPd := Aside0.mk HP.out.drew
        obtain ⟨hc0, hc2⟩ := (HJ.out.below HP.out.bel).at_ hlt HXY.out.1 HXY.out.2
        have hnj : (joinOk n (jt n js i) x y != joinOk n (jt n js i) x y) = false := by simp
        clear HP
        go_region_held3 (fun w' => w'.cell? (ad.add (i * 2)) = some (.int .i64 x) ∧ w'.cell? ⟨(ad.add (i * 2)).block, (ad.add (i * 2)).off + 1, none⟩ = some (.int .i64 y)) (first | exact ⟨hc0, hc2⟩) (first
          | (go_at_call 14; refine (JoinB _ g n v _ x y HPd.out.gr).mono ?_; rintro e w11 ⟨rfl, hG, hg⟩; have HS11 := Aside0.mk (HPd.out.joined hG hg); clear HPd hG hg hc0 hc2; obtain ⟨hc0, hc2⟩ := (HJ.out.below HS11.out.bel).at_ hlt HXY.out.1 HXY.out.2))
        go_wp2
        have hjt : jn n (jt n js i) x y = jt n js (i + 1) := by
          show _ = jn n (jt n js i) (js.getD i (0, 0)).1 (js.getD i (0, 0)).2
          rw [HXY.out.1, HXY.out.2]
        have hfin := HS11.out
        rw [hjt] at hfin
        exact ⟨⟨i + 1, A2, m2, c2, by omega, by go_num, ⟨hfin⟩⟩, by simp [intOf]; omega⟩
    · have hz0 : wr.cell? ⟨gw, 0, none⟩ = some (.int .i64 n) := (blk_cell HS.out.box 0).trans rfl
      have hz1 : wr.cell? ⟨gw, 1, none⟩ = some (.slice A1 m1 c1) := (blk_cell HS.out.box 1).trans rfl
      have HSd := Aside0.mk HS.out.drew
      have hbb : (hasN n (jt n js i) p q == hasN n (jt n js i) p q) = true := by simp
      clear HS
      by_cases hl1 : i < l
      · have hli : decide ((i : Int) < (l : Int)) = true := decide_eq_true (by omega)
        have hl3 : decide ((i : Int) < 300) = false := decide_eq_false (by omega)
        have hl4 : decide (i < l) = true := decide_eq_true hl1
        clear hlt hl1
        go_wp2
        go_region_held3 (fun w' => w'.cell? ⟨gw, 0, none⟩ = some (.int .i64 n) ∧ w'.cell? ⟨gw, 1, none⟩ = some (.slice A1 m1 c1)) (first | exact ⟨hz0, hz1⟩) (first
          | (go_at_call 15; refine (like_is _ g v (.slice A1 m1 c1) n _ HSd.out.gr HSd.out.rf).mono ?_; rintro e w3 ⟨rfl, hB⟩; have HS3 := Aside0.mk (HSd.out.below hB); clear HSd hB hz0 hz1; have hz0 : w3.cell? ⟨gw, 0, none⟩ = some (.int .i64 n) := (blk_cell HS3.out.box 0).trans rfl; have hz1 : w3.cell? ⟨gw, 1, none⟩ = some (.slice A1 m1 c1) := (blk_cell HS3.out.box 1).trans rfl)
          | (go_at_call 16; refine (HasI _ g v n _ p q HS3.out.gr HQ.out.1 HQ.out.2).mono ?_; rintro e w4 ⟨rfl, hB⟩; have HS4 := Aside0.mk (HS3.out.below hB); clear HS3 hB hz0 hz1; have hz0 : w4.cell? ⟨gw, 0, none⟩ = some (.int .i64 n) := (blk_cell HS4.out.box 0).trans rfl; have hz1 : w4.cell? ⟨gw, 1, none⟩ = some (.slice A1 m1 c1) := (blk_cell HS4.out.box 1).trans rfl)
          | (go_at_call 17; refine (RHas_is _ (.slice A1 m1 c1) n _ p q HS4.out.rf).mono ?_; rintro e w5 ⟨rfl, hB⟩; have HS5 := Aside0.mk (HS4.out.below hB); clear HS4 hB hz0 hz1; have hz0 : w5.cell? ⟨gw, 0, none⟩ = some (.int .i64 n) := (blk_cell HS5.out.box 0).trans rfl; have hz1 : w5.cell? ⟨gw, 1, none⟩ = some (.slice A1 m1 c1) := (blk_cell HS5.out.box 1).trans rfl)
          | (go_at_call 19; refine (Near_is _ g v n _ p HS5.out.gr).mono ?_; rintro e w6 ⟨v6, rfl, hR, hB⟩; have HS6 := Aside0.mk (HS5.out.below hB); have HN6 := Aside0.mk hR; clear hR; clear HS5 hB hz0 hz1; have hz0 : w6.cell? ⟨gw, 0, none⟩ = some (.int .i64 n) := (blk_cell HS6.out.box 0).trans rfl; have hz1 : w6.cell? ⟨gw, 1, none⟩ = some (.slice A1 m1 c1) := (blk_cell HS6.out.box 1).trans rfl)
          | (go_at_call 20; refine (RNear_is _ (.slice A1 m1 c1) n _ p HS6.out.rf).mono ?_; rintro e w7 ⟨v7, rfl, hR, hB⟩; have HS7 := Aside0.mk (HS6.out.below hB); have HN7 := Aside0.mk (Kd.R_below HN6.out hB); have HN8 := Aside0.mk hR; clear hR HN6; clear HS6 hB hz0 hz1; have hz0 : w7.cell? ⟨gw, 0, none⟩ = some (.int .i64 n) := (blk_cell HS7.out.box 0).trans rfl; have hz1 : w7.cell? ⟨gw, 1, none⟩ = some (.slice A1 m1 c1) := (blk_cell HS7.out.box 1).trans rfl)
          | (go_at_call 18; refine (Ints_is _ _ _ (nearI n (jt n js i) p) (nearI n (jt n js i) p) HN7.out HN8.out).mono ?_; rintro e w8 ⟨rfl, hB⟩; rw [decide_eq_true (show nearI n (jt n js i) p = nearI n (jt n js i) p from rfl)]; have HS8 := Aside0.mk (HS7.out.below hB); clear HN7 HN8; clear HS7 hB hz0 hz1; have hz0 : w8.cell? ⟨gw, 0, none⟩ = some (.int .i64 n) := (blk_cell HS8.out.box 0).trans rfl; have hz1 : w8.cell? ⟨gw, 1, none⟩ = some (.slice A1 m1 c1) := (blk_cell HS8.out.box 1).trans rfl)
          | (go_at_call 10; refine (heads_is _).mono ?_; rintro e w9 ⟨rfl, hB⟩; have HS9 := Aside0.mk (HS8.out.below hB); clear HS8 hB hz0 hz1; have hz0 : w9.cell? ⟨gw, 0, none⟩ = some (.int .i64 n) := (blk_cell HS9.out.box 0).trans rfl; have hz1 : w9.cell? ⟨gw, 1, none⟩ = some (.slice A1 m1 c1) := (blk_cell HS9.out.box 1).trans rfl))
        go_wp2
        go_ret
        exact ⟨rfl, HS9.out.bel⟩
      · have hli : decide ((i : Int) < (l : Int)) = false := decide_eq_false (by omega)
        have hl4 : decide (i < l) = false := decide_eq_false hl1
        clear hlt hl1
        go_wp2
        go_region_held3 (fun w' => w'.cell? ⟨gw, 0, none⟩ = some (.int .i64 n) ∧ w'.cell? ⟨gw, 1, none⟩ = some (.slice A1 m1 c1)) (first | exact ⟨hz0, hz1⟩) (first
          | (go_at_call 15; refine (like_is _ g v (.slice A1 m1 c1) n _ HSd.out.gr HSd.out.rf).mono ?_; rintro e w3 ⟨rfl, hB⟩; have HS3 := Aside0.mk (HSd.out.below hB); clear HSd hB hz0 hz1; have hz0 : w3.cell? ⟨gw, 0, none⟩ = some (.int .i64 n) := (blk_cell HS3.out.box 0).trans rfl; have hz1 : w3.cell? ⟨gw, 1, none⟩ = some (.slice A1 m1 c1) := (blk_cell HS3.out.box 1).trans rfl)
          | (go_at_call 16; refine (HasI _ g v n _ p q HS3.out.gr HQ.out.1 HQ.out.2).mono ?_; rintro e w4 ⟨rfl, hB⟩; have HS4 := Aside0.mk (HS3.out.below hB); clear HS3 hB hz0 hz1; have hz0 : w4.cell? ⟨gw, 0, none⟩ = some (.int .i64 n) := (blk_cell HS4.out.box 0).trans rfl; have hz1 : w4.cell? ⟨gw, 1, none⟩ = some (.slice A1 m1 c1) := (blk_cell HS4.out.box 1).trans rfl)
          | (go_at_call 17; refine (RHas_is _ (.slice A1 m1 c1) n _ p q HS4.out.rf).mono ?_; rintro e w5 ⟨rfl, hB⟩; have HS5 := Aside0.mk (HS4.out.below hB); clear HS4 hB hz0 hz1; have hz0 : w5.cell? ⟨gw, 0, none⟩ = some (.int .i64 n) := (blk_cell HS5.out.box 0).trans rfl; have hz1 : w5.cell? ⟨gw, 1, none⟩ = some (.slice A1 m1 c1) := (blk_cell HS5.out.box 1).trans rfl)
          | (go_at_call 19; refine (Near_is _ g v n _ p HS5.out.gr).mono ?_; rintro e w6 ⟨v6, rfl, hR, hB⟩; have HS6 := Aside0.mk (HS5.out.below hB); have HN6 := Aside0.mk hR; clear hR; clear HS5 hB hz0 hz1; have hz0 : w6.cell? ⟨gw, 0, none⟩ = some (.int .i64 n) := (blk_cell HS6.out.box 0).trans rfl; have hz1 : w6.cell? ⟨gw, 1, none⟩ = some (.slice A1 m1 c1) := (blk_cell HS6.out.box 1).trans rfl)
          | (go_at_call 20; refine (RNear_is _ (.slice A1 m1 c1) n _ p HS6.out.rf).mono ?_; rintro e w7 ⟨v7, rfl, hR, hB⟩; have HS7 := Aside0.mk (HS6.out.below hB); have HN7 := Aside0.mk (Kd.R_below HN6.out hB); have HN8 := Aside0.mk hR; clear hR HN6; clear HS6 hB hz0 hz1; have hz0 : w7.cell? ⟨gw, 0, none⟩ = some (.int .i64 n) := (blk_cell HS7.out.box 0).trans rfl; have hz1 : w7.cell? ⟨gw, 1, none⟩ = some (.slice A1 m1 c1) := (blk_cell HS7.out.box 1).trans rfl)
          | (go_at_call 18; refine (Ints_is _ _ _ (nearI n (jt n js i) p) (nearI n (jt n js i) p) HN7.out HN8.out).mono ?_; rintro e w8 ⟨rfl, hB⟩; rw [decide_eq_true (show nearI n (jt n js i) p = nearI n (jt n js i) p from rfl)]; have HS8 := Aside0.mk (HS7.out.below hB); clear HN7 HN8; clear HS7 hB hz0 hz1; have hz0 : w8.cell? ⟨gw, 0, none⟩ = some (.int .i64 n) := (blk_cell HS8.out.box 0).trans rfl; have hz1 : w8.cell? ⟨gw, 1, none⟩ = some (.slice A1 m1 c1) := (blk_cell HS8.out.box 1).trans rfl)
          | (go_at_call 10; refine (heads_is _).mono ?_; rintro e w9 ⟨rfl, hB⟩; have HS9 := Aside0.mk (HS8.out.below hB); clear HS8 hB hz0 hz1; have hz0 : w9.cell? ⟨gw, 0, none⟩ = some (.int .i64 n) := (blk_cell HS9.out.box 0).trans rfl; have hz1 : w9.cell? ⟨gw, 1, none⟩ = some (.slice A1 m1 c1) := (blk_cell HS9.out.box 1).trans rfl))
        go_wp2
        go_ret
        exact ⟨rfl, HS9.out.bel⟩
theorem Joins_all (w : World) (a p q : Int) (A : Option Addr) (l c : Nat) (js : List (Int × Int)) (hJ : JIs w A l js) (hq0 : -9223372036854775808 ≤ q) (hq1 : q ≤ 9223372036854775807) :
    Calls Try.prog 3 #[.int .i64 a, .slice A l c, .int .i64 p, .int .i64 q] w fun e w' => e = .returned (.bool true) ∧ Below w.heap.size w w' := by
  by_cases h : a < 0 ∨ 400 < a
  · exact Joins_out w a p q A l c h
  · obtain ⟨n, rfl⟩ := Int.eq_ofNat_of_zero_le (show 0 ≤ a by omega)
    by_cases h2 : n ≤ 40
    · exact Joins_is w n p q A l c js h2 hJ hq0 hq1
    · exact Joins_large w n p q A l c (by omega) (by omega)
end Go.Proofs.Ytfkmngmnnlgjdaa.Gr
