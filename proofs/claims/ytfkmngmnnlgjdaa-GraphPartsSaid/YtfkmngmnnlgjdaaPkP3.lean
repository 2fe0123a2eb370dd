import Derived.Deep.Slices
import Derived.ChangeSame
import Derived.OpenShut
import Derived.Test.YtfkmngmnnlgjdaaPkP2
/- GraphNobody, walked. -/
namespace Go.Proofs.Ytfkmngmnnlgjdaa.Gr
open Go Go.RowKit Go.Proofs.Ytfkmngmnnlgjdaa.Gf Go.Proofs.Ytfkmngmnnlgjdaa.Pu Go.Proofs.Ytfkmngmnnlgjdaa.Pr Go.Proofs.Ytfkmngmnnlgjdaa.Mw Go.Proofs.YtfkmngmnnlgjdaaW.PrintWords Go.Proofs.YtfkmngmnnlgjdaaW.PrintLast Go.Proofs.YtfkmngmnnlgjdaaW.PrintMore
set_option linter.unusedVariables false
set_option linter.unusedSimpArgs false
set_option maxRecDepth 100000 in
set_option maxHeartbeats 1000000 in
theorem Nobody_is (w : World) (a b : Int) (hb0 : -9223372036854775808 ≤ b) (hb1 : b ≤ 9223372036854775807) :
    Calls Try.prog 8 #[.int .i64 a, .int .i64 b] w fun e w' => e = .returned (.bool true) ∧ Below w.heap.size w w' := by
  have HI := Lib.hid (And.intro hb0 hb1)
  clear hb0 hb1
  go_enter Try.func8, Try.ntmps8
  go_wp2_with (first
    | ((with_reducible refine gate_dst (N := 12) rfl ?_); refine box_event ?hg (N := 12) ?hd (cs := #[.slice none 0 0]) (t := 57) ?hr ?_; (case hd => rfl); (case hg => rfl); (case hr => first | (go_simp; done) | (go_simp; rfl)); intro g hg w1 hbox hb; have HG := Aside0.mk (GIs.empty hbox); have HB := Aside0.mk hb; clear hbox hb hg))
  have HL := Aside0.mk (World.alloc_heap_new w1 (Obj.cells #[.pointer none, .pointer (some ⟨g, 0, none⟩)] 23))
  have HB0 := Aside0.mk (below_alloc HB.out (Obj.cells #[.pointer none, .pointer (some ⟨g, 0, none⟩)] 23))
  have HG0 := Aside0.mk (HG.out.below (below_alloc (Below.refl _ _) (Obj.cells #[.pointer none, .pointer (some ⟨g, 0, none⟩)] 23)))
  clear HG HB
  generalize w1.heap.size = gl at HL ⊢
  generalize w1.alloc (Obj.cells #[.pointer none, .pointer (some ⟨g, 0, none⟩)] 23) = w2 at HL HB0 HG0 ⊢
  go_loopw [7] (fun v7 wr => ∃ i : Nat, i ≤ 2 ∧ v7 = .int .i64 i ∧ Aside0 (GIs wr g (.slice none 0 0) 0 no) ∧ Aside0 (wr.heap[gl]? = some (.cells #[.pointer none, .pointer (some ⟨g, 0, none⟩)] 23 (0, 0))) ∧ Aside0 (Below w.heap.size w wr)) (fun v7 _ => 2 - (intOf v7).toNat)
  case atStart => exact ⟨0, by omega, rfl, HG0, HL, HB0⟩
  case round =>
    clear HL HB0 HG0
    obtain ⟨i, hi, rfl, HG, HL, HB⟩ := hrel
    have hc0 : wr.cell? ⟨gl, 0, none⟩ = some (.pointer none) := (blk_cell HL.out 0).trans rfl
    have hc1 : wr.cell? ⟨gl, 1, none⟩ = some (.pointer (some ⟨g, 0, none⟩)) := (blk_cell HL.out 1).trans rfl
    have h3 : i = 0 ∨ i = 1 ∨ i = 2 := by omega
    rcases h3 with rfl | rfl | rfl
    · go_wp2_with (first
        | (go_at_call 11; refine (Len_nil _).mono ?_; rintro e w2 ⟨rfl, rfl⟩)
        | (go_at_call 14; refine (Join_nil _ a b).mono ?_; rintro e w2 ⟨rfl, rfl⟩)
        | (go_at_call 16; refine (Has_nil _ a b).mono ?_; rintro e w2 ⟨rfl, rfl⟩)
        | (go_at_call 19; refine (Near_nil _ a).mono ?_; rintro e w2 ⟨rfl, rfl⟩)
        | (go_at_call 22; refine (Parts_nil _).mono ?_; rintro e w3 ⟨rfl, hB⟩; have HB2 := Aside0.mk (below_then HB.out HB.out.size hB); have HG2 := Aside0.mk (HG.out.below hB); have HL2 := Aside0.mk (blk_below HL.out hB); clear HG HB HL; have HG := HG2; have HB := HB2; have HL := HL2; clear HG2 HB2 HL2 hB)
        | (go_at_call 26; refine (Shell_nil _).mono ?_; rintro e w4 ⟨rfl, hB⟩; have HB2 := Aside0.mk (below_then HB.out HB.out.size hB); have HG2 := Aside0.mk (HG.out.below hB); have HL2 := Aside0.mk (blk_below HL.out hB); clear HG HB HL; have HG := HG2; have HB := HB2; have HL := HL2; clear HG2 HB2 HL2 hB))
      exact ⟨⟨1, by omega, by go_num, HG, HL, HB⟩, by simp [intOf]⟩
    · go_wp2_with (first
        | (go_at_call 11; refine (Len0 _ g _ HG.out).mono ?_; rintro e w2 ⟨rfl, rfl⟩)
        | (go_at_call 14; refine (Join0 _ g _ a b HG.out).mono ?_; rintro e w3 ⟨rfl, hB⟩; have HB2 := Aside0.mk (below_then HB.out HB.out.size hB); have HG2 := Aside0.mk (HG.out.below hB); have HL2 := Aside0.mk (blk_below HL.out hB); clear HG HB HL; have HG := HG2; have HB := HB2; have HL := HL2; clear HG2 HB2 HL2 hB)
        | (go_at_call 16; refine (Has0 _ g _ a b HG.out HI.out.1 HI.out.2).mono ?_; rintro e w4 ⟨rfl, hB⟩; have HB2 := Aside0.mk (below_then HB.out HB.out.size hB); have HG2 := Aside0.mk (HG.out.below hB); have HL2 := Aside0.mk (blk_below HL.out hB); clear HG HB HL; have HG := HG2; have HB := HB2; have HL := HL2; clear HG2 HB2 HL2 hB)
        | (go_at_call 19; refine (Near0 _ g _ a HG.out).mono ?_; rintro e w5 ⟨A5, c5, rfl, hB⟩; have HB2 := Aside0.mk (below_then HB.out HB.out.size hB); have HG2 := Aside0.mk (HG.out.below hB); have HL2 := Aside0.mk (blk_below HL.out hB); clear HG HB HL; have HG := HG2; have HB := HB2; have HL := HL2; clear HG2 HB2 HL2 hB)
        | (go_at_call 22; refine (Parts0 _ g _ HG.out).mono ?_; rintro e w6 ⟨A6, c6, rfl, hB⟩; have HB2 := Aside0.mk (below_then HB.out HB.out.size hB); have HG2 := Aside0.mk (HG.out.below hB); have HL2 := Aside0.mk (blk_below HL.out hB); clear HG HB HL; have HG := HG2; have HB := HB2; have HL := HL2; clear HG2 HB2 HL2 hB)
        | (go_at_call 26; refine (Shell0 _ g _ HG.out).mono ?_; rintro e w7 ⟨A7, c7, rfl, hB⟩; have HB2 := Aside0.mk (below_then HB.out HB.out.size hB); have HG2 := Aside0.mk (HG.out.below hB); have HL2 := Aside0.mk (blk_below HL.out hB); clear HG HB HL; have HG := HG2; have HB := HB2; have HL := HL2; clear HG2 HB2 HL2 hB))
      exact ⟨⟨2, by omega, by go_num, HG, HL, HB⟩, by simp [intOf]⟩
    · go_wp2_with (first
        | (go_at_call 30; first | ((with_reducible refine (Copy_nil _).mono ?_); rintro e w2 ⟨rfl, rfl⟩) | (refine (Copy_is _ g 0 _ no HG.out).mono ?_; rintro e w3 ⟨gc, vc, rfl, hGc, _, _, hB⟩; have HC := Aside0.mk hGc; clear hGc; have HB2 := Aside0.mk (below_then HB.out HB.out.size hB); have HG2 := Aside0.mk (HG.out.below hB); have HL2 := Aside0.mk (blk_below HL.out hB); clear HG HB HL; have HG := HG2; have HB := HB2; have HL := HL2; clear HG2 HB2 HL2 hB))
        | (go_at_call 11; refine (Len0 _ gc _ HC.out).mono ?_; rintro e w4 ⟨rfl, rfl⟩)
        | (go_at_call 10; refine (heads_is _).mono ?_; rintro e w5 ⟨rfl, hB⟩; have HB2 := Aside0.mk (below_then HB.out HB.out.size hB); have HG2 := Aside0.mk (HG.out.below hB); have HL2 := Aside0.mk (blk_below HL.out hB); clear HG HB HL; have HG := HG2; have HB := HB2; have HL := HL2; clear HG2 HB2 HL2 hB))
      go_ret
      exact ⟨rfl, HB.out⟩
theorem i64_lo {a : Int} (h : (Lit.int .i64 a).wf = true) : -9223372036854775808 ≤ a := by
  simp [Lit.wf, IntKind.min, IntKind.max, IntKind.signed, IntKind.bits] at h
  omega
theorem i64_hi {a : Int} (h : (Lit.int .i64 a).wf = true) : a ≤ 9223372036854775807 := by
  simp [Lit.wf, IntKind.min, IntKind.max, IntKind.signed, IntKind.bits] at h
  omega
end Go.Proofs.Ytfkmngmnnlgjdaa.Gr

/- A row of joins among a law's arguments. -/
namespace Go.Proofs.Ytfkmngmnnlgjdaa.Gr
open Go Go.RowKit Go.ChangeShapes Go.WideShapes Go.Proofs.YtfkmngmnnlgjdaaW.PrintWords
set_option linter.unusedVariables false
set_option linter.unusedSimpArgs false

/-- l joins behind A: what they read as. -/
structure JIs (w : World) (A : Option Addr) (l : Nat) (js : List (Int × Int)) : Prop where
  len : js.length = l
  lo : ∀ i, i < l → -9223372036854775808 ≤ (js.getD i (0, 0)).2 ∧ (js.getD i (0, 0)).2 ≤ 9223372036854775807
  cells : ∀ i, i < l → ∃ ad, A = some ad ∧ w.cell? (ad.add (i * 2)) = some (.int .i64 (js.getD i (0, 0)).1) ∧ w.cell? (ad.add (i * 2 + 1)) = some (.int .i64 (js.getD i (0, 0)).2)
theorem JIs.below {w w' : World} {A : Option Addr} {l : Nat} {js : List (Int × Int)} (h : JIs w A l js) (hb : Below w.heap.size w w') : JIs w' A l js := by
  refine ⟨h.len, h.lo, fun i hi => ?_⟩
  obtain ⟨ad, rfl, h1, h2⟩ := h.cells i hi
  exact ⟨ad, rfl, pw_cell_below hb h1, pw_cell_below hb h2⟩
section
variable {H : Type} {enc : TypeId × Value → H} {P : Program} {w : World} {base : Nat} {spare : Nat → Bool} {held : Bool}
theorem pair_of {e it : TypeId} (he : P.underlying e = some (.array 2 it)) (hi : P.underlying it = some (.int .i64)) (ce : P.cellsOf e = 2) (ci : P.cellsOf it = 1) {n : Nat} {v0 v1 : Value} {x : DataW H × List MemPlace}
    (h : DataW.trod enc P w base spare held n e [v0, v1] = some x) : ∃ a b, v0 = .int .i64 a ∧ v1 = .int .i64 b ∧ (Lit.int .i64 b).wf = true := by
  cases n with
  | zero => simp [DataW.trod] at h
  | succ m =>
    rw [DataW.trod_step] at h
    unfold DataW.trodStep at h
    simp only [he] at h
    rw [if_pos (by rw [ce]; rfl)] at h
    simp only [Option.map_eq_some_iff] at h
    obtain ⟨ys, hy, _⟩ := h
    rw [show List.range 2 = [0, 1] from rfl, ci, List.mapM_cons, List.mapM_cons, List.mapM_nil] at hy
    simp only [bind, Option.bind_eq_some_iff, pure, Option.some.injEq] at hy
    obtain ⟨y0, h0, ys1, ⟨y1, h1, _⟩, _⟩ := hy
    obtain ⟨a, ea, _, wa⟩ := DataW.trod_int hi h0
    obtain ⟨b, eb, _, wb⟩ := DataW.trod_int hi h1
    refine ⟨a, b, ?_, ?_, wb⟩
    · simpa using ea
    · simpa using eb
theorem open_pairs {t e it : TypeId} (ht : P.underlying t = some (.slice e)) (he : P.underlying e = some (.array 2 it)) (hi : P.underlying it = some (.int .i64)) (ce : P.cellsOf e = 2) (ci : P.cellsOf it = 1) {A : Option Addr} {l c : Nat} {d : DataW H} {ps : List MemPlace}
    (h : DataW.Trod enc P w base spare held t (.slice A l c) d ps) : ∃ js, JIs w A l js := by
  obtain ⟨fuel, hf⟩ := h
  rcases Deep.open_slice ht hf with ⟨hcs, _⟩ | ⟨a, len, cap, m, n, D, Pl, hcs, hb, hl, hm, hmm, _, hx⟩
  · simp [Value.cells] at hcs
    obtain ⟨rfl, rfl, rfl⟩ := hcs
    exact ⟨[], rfl, fun i hi => by omega, fun i hi => by omega⟩
  · simp [Value.cells] at hcs
    obtain ⟨rfl, rfl, rfl⟩ := hcs
    have hlm : l ≤ m := by rw [hmm]; split <;> omega
    have key : ∀ i, i < l → ∃ p : Int × Int, w.cell? (a.add (i * 2)) = some (.int .i64 p.1) ∧ w.cell? (a.add (i * 2 + 1)) = some (.int .i64 p.2) ∧ (Lit.int .i64 p.2).wf = true := by
      intro i hi2
      obtain ⟨cs', h1, h2⟩ := hx i (by omega)
      rw [ce] at h1
      obtain ⟨_, hlen, hcell⟩ := World.cells?_some h1
      match cs', hlen with
      | [v0, v1], _ =>
        obtain ⟨p, q, rfl, rfl, wq⟩ := pair_of he hi ce ci h2
        have e0 := hcell 0 (by omega)
        have e1 := hcell 1 (by omega)
        rw [Deep.add_add] at e0 e1
        exact ⟨(p, q), by simpa using e0, by simpa using e1, wq⟩
    obtain ⟨q, hq⟩ := Deep.choose_lt key
    have hg : ∀ i, i < l → ((List.range l).map q).getD i (0, 0) = q i := by
      intro i hi2
      rw [List.getD_eq_getElem?_getD, List.getElem?_map, List.getElem?_range hi2]
      rfl
    refine ⟨(List.range l).map q, by simp, fun i hi2 => ?_, fun i hi2 => ?_⟩
    · rw [hg i hi2]
      exact ⟨i64_lo (hq i hi2).2.2, i64_hi (hq i hi2).2.2⟩
    · rw [hg i hi2]
      exact ⟨a, rfl, (hq i hi2).1, (hq i hi2).2.1⟩
end
theorem open_joins {H : Type} {enc : TypeId × Value → H} {w : World} {base : Nat} {spare : Nat → Bool} {held : Bool} {A : Option Addr} {l c : Nat} {d : DataW H} {ps : List MemPlace}
    (h : DataW.Trod enc Try.prog w base spare held 22 (.slice A l c) d ps) : ∃ js, JIs w A l js :=
  open_pairs Try.underlying22 Try.underlying33 Try.underlying3 (by kernel_rfl) (by kernel_rfl) h
end Go.Proofs.Ytfkmngmnnlgjdaa.Gr

/- like, walked: a graph and the document's with the same joins are alike. -/
namespace Go.Proofs.Ytfkmngmnnlgjdaa.Gr
open Go Go.RowKit Go.Proofs.Ytfkmngmnnlgjdaa.Gf Go.Proofs.Ytfkmngmnnlgjdaa.Pu Go.Proofs.Ytfkmngmnnlgjdaa.Pr Go.Proofs.Ytfkmngmnnlgjdaa.Mw Go.Proofs.YtfkmngmnnlgjdaaW.PrintWords Go.Proofs.YtfkmngmnnlgjdaaW.PrintLast Go.Proofs.YtfkmngmnnlgjdaaW.PrintMore
set_option linter.unusedVariables false
set_option linter.unusedSimpArgs false
theorem GIs.drew {w : World} {g n : Nat} {v : Value} {adj : Adj} (h : GIs w g v n adj) : GIs w.drew g v n adj := h.below (below_drew (Below.refl _ _))
theorem RIs.drew {w : World} {n : Nat} {v : Value} {adj : Adj} (h : RIs w v n adj) : RIs w.drew v n adj := h.below (below_drew (Below.refl _ _))
theorem HasB (w : World) (g : Nat) (v : Value) (n : Nat) (adj : Adj) (a b : Nat) (h : GIs w g v n adj) (hb : b < n) :
    Calls Try.prog 16 #[.pointer (some ⟨g, 0, none⟩), .int .i64 a, .int .i64 b] w fun e w' => e = .returned (.bool (hasN n adj a b)) ∧ Below w.heap.size w w' := by
  have hn := h.le
  refine (Has_is w g v n adj a b h (by omega) (by omega)).mono ?_
  rintro e w' ⟨he, hD⟩
  exact ⟨he, hD.below⟩
set_option maxRecDepth 100000 in
set_option maxHeartbeats 1000000 in
theorem like_is (w : World) (g : Nat) (v u : Value) (n : Nat) (adj : Adj) (hg : GIs w g v n adj) (hr : RIs w u n adj) :
    Calls Try.prog 15 #[.pointer (some ⟨g, 0, none⟩), .agg #[.int .i64 n, u]] w fun e w' => e = .returned (.bool true) ∧ Below w.heap.size w w' := by
  have hu29 := Try.underlying29
  have hn4 := hg.le
  have HG := Aside0.mk hg
  have HR := Aside0.mk hr
  clear hg hr
  have hne : ((n : Int) != (n : Int)) = false := by simp
  go_enter Try.func15, Try.ntmps15
  go_wp2_with (first
    | ((with_reducible refine gate_dst (N := 3) rfl ?_); refine box_event ?hg (N := 3) ?hd (cs := #[.int .i64 n, u]) (t := 29) ?hr ?_; (case hd => rfl); (case hg => rfl); (case hr => first | (go_simp; done) | (go_simp; rfl)); intro gb hgb w1 hbox hB; have BK := Aside0.mk hbox; have HB := Aside0.mk hB; have HG1 := Aside0.mk (HG.out.below hB); have HR1 := Aside0.mk (HR.out.below hB); have HW := Aside0.mk (show w.heap.size ≤ gb by rw [hgb]; exact Nat.le_refl _); clear hbox hB hgb HG HR; have hcz0 : w1.cell? ⟨gb, 0, none⟩ = some (.int .i64 n) := (blk_cell BK.out 0).trans rfl; have hcz1 : w1.cell? ⟨gb, 1, none⟩ = some u := (blk_cell BK.out 1).trans rfl))
  go_region_held3 (fun w' => w'.cell? ⟨gb, 0, none⟩ = some (.int .i64 n) ∧ w'.cell? ⟨gb, 1, none⟩ = some u) (first | exact ⟨hcz0, hcz1⟩) (first | (go_at_call 11; refine (Len_is _ g v n adj HG1.out.drew).mono ?_; rintro e w' ⟨rfl, rfl⟩))
  have BK2 : Aside0 (w1.drew.heap[gb]? = some (Obj.cells #[.int .i64 n, u] 29 (0, 0))) := BK
  have HB2 := Aside0.mk (below_drew HB.out)
  have HG2 := Aside0.mk HG1.out.drew
  have HR2 := Aside0.mk HR1.out.drew
  clear BK HB HG1 HR1 hcz0 hcz1
  generalize w1.drew = w2 at BK2 HB2 HG2 HR2 ⊢
  have hcz0 : w2.cell? ⟨gb, 0, none⟩ = some (.int .i64 n) := (blk_cell BK2.out 0).trans rfl
  go_wp2
  go_loopw [5] (fun v5 wr => ∃ a : Nat, a ≤ n ∧ v5 = .int .i64 a ∧ Aside0 (wr.heap[gb]? = some (Obj.cells #[.int .i64 n, u] 29 (0, 0))) ∧ Aside0 (Below w.heap.size w wr) ∧ Aside0 (GIs wr g v n adj) ∧ Aside0 (RIs wr u n adj)) (fun v5 _ => n - (intOf v5).toNat)
  case atStart => exact ⟨0, Nat.zero_le _, rfl, BK2, HB2, HG2, HR2⟩
  case round =>
    clear BK2 HB2 HG2 HR2 hcz0
    obtain ⟨a, ha, rfl, BK, HB, HG, HR⟩ := hrel
    have hcz0 : wr.cell? ⟨gb, 0, none⟩ = some (.int .i64 n) := (blk_cell BK.out 0).trans rfl
    have hcz1 : wr.cell? ⟨gb, 1, none⟩ = some u := (blk_cell BK.out 1).trans rfl
    by_cases hlt : a < n
    · go_wp2
      have BKd : Aside0 (wr.drew.heap[gb]? = some (Obj.cells #[.int .i64 n, u] 29 (0, 0))) := BK
      have HGd := Aside0.mk HG.out.drew
      have HRd := Aside0.mk HR.out.drew
      have HBd := Aside0.mk (below_drew HB.out)
      clear BK HG HR HB
      have BK := BKd
      have HG := HGd
      have HR := HRd
      have HB := HBd
      clear BKd HGd HRd HBd
      go_region_held3 (fun w' => w'.cell? ⟨gb, 0, none⟩ = some (.int .i64 n) ∧ w'.cell? ⟨gb, 1, none⟩ = some u) (first | exact ⟨hcz0, hcz1⟩) (first
        | (go_at_call 19; refine (Near_is _ g v n adj a HG.out).mono ?_; rintro e w3 ⟨v20, rfl, hR, hB⟩; have BK3 := Aside0.mk (blk_below BK.out hB); have HB3 := Aside0.mk (below_then HB.out HB.out.size hB); have HG3 := Aside0.mk (HG.out.below hB); have HR3 := Aside0.mk (HR.out.below hB); have HN3 := Aside0.mk hR; clear BK HB HG HR hcz0 hcz1; have BK := BK3; have HB := HB3; have HG := HG3; have HR := HR3; clear BK3 HB3 HG3 HR3 hB; have hcz0 : w3.cell? ⟨gb, 0, none⟩ = some (.int .i64 n) := (blk_cell BK.out 0).trans rfl; have hcz1 : w3.cell? ⟨gb, 1, none⟩ = some u := (blk_cell BK.out 1).trans rfl; clear hR)
        | (go_at_call 20; refine (RNear_is _ u n adj a HR.out).mono ?_; rintro e w4 ⟨v23, rfl, hR, hB⟩; have BK4 := Aside0.mk (blk_below BK.out hB); have HB4 := Aside0.mk (below_then HB.out HB.out.size hB); have HG4 := Aside0.mk (HG.out.below hB); have HR4 := Aside0.mk (HR.out.below hB); have HN4 := Aside0.mk hR; have HN5 := Aside0.mk (Kd.R_below HN3.out hB); clear HN3; clear BK HB HG HR hcz0 hcz1; have BK := BK4; have HB := HB4; have HG := HG4; have HR := HR4; clear BK4 HB4 HG4 HR4 hB; have hcz0 : w4.cell? ⟨gb, 0, none⟩ = some (.int .i64 n) := (blk_cell BK.out 0).trans rfl; have hcz1 : w4.cell? ⟨gb, 1, none⟩ = some u := (blk_cell BK.out 1).trans rfl; clear hR)
        | (go_at_call 18; refine (Ints_is _ _ _ (nearI n adj a) (nearI n adj a) HN5.out HN4.out).mono ?_; rintro e w5 ⟨rfl, hB⟩; rw [decide_eq_true (show nearI n adj a = nearI n adj a from rfl)]; have BK5 := Aside0.mk (blk_below BK.out hB); have HB5 := Aside0.mk (below_then HB.out HB.out.size hB); have HG5 := Aside0.mk (HG.out.below hB); have HR5 := Aside0.mk (HR.out.below hB); clear HN4 HN5; clear BK HB HG HR hcz0 hcz1; have BK := BK5; have HB := HB5; have HG := HG5; have HR := HR5; clear BK5 HB5 HG5 HR5 hB; have hcz0 : w5.cell? ⟨gb, 0, none⟩ = some (.int .i64 n) := (blk_cell BK.out 0).trans rfl; have hcz1 : w5.cell? ⟨gb, 1, none⟩ = some u := (blk_cell BK.out 1).trans rfl))
      go_wp2
      go_loopw [6] (fun v6 wr => ∃ b : Nat, b ≤ n ∧ v6 = .int .i64 b ∧ Aside0 (wr.heap[gb]? = some (Obj.cells #[.int .i64 n, u] 29 (0, 0))) ∧ Aside0 (Below w.heap.size w wr) ∧ Aside0 (GIs wr g v n adj) ∧ Aside0 (RIs wr u n adj)) (fun v6 _ => n - (intOf v6).toNat)
      case atStart => exact ⟨0, Nat.zero_le _, rfl, BK, HB, HG, HR⟩
      case round =>
        clear BK HB HG HR hcz0 hcz1
        obtain ⟨b, hb, rfl, BK, HB, HG, HR⟩ := hrel
        have hcz0 : wr.cell? ⟨gb, 0, none⟩ = some (.int .i64 n) := (blk_cell BK.out 0).trans rfl
        have hcz1 : wr.cell? ⟨gb, 1, none⟩ = some u := (blk_cell BK.out 1).trans rfl
        by_cases hltb : b < n
        · go_wp2
          have BKd : Aside0 (wr.drew.heap[gb]? = some (Obj.cells #[.int .i64 n, u] 29 (0, 0))) := BK
          have HGd := Aside0.mk HG.out.drew
          have HRd := Aside0.mk HR.out.drew
          have HBd := Aside0.mk (below_drew HB.out)
          clear BK HG HR HB
          have BK := BKd
          have HG := HGd
          have HR := HRd
          have HB := HBd
          clear BKd HGd HRd HBd
          have hnb : (hasN n adj a b != hasN n adj a b) = false := by simp
          go_region_held3 (fun w' => w'.cell? ⟨gb, 0, none⟩ = some (.int .i64 n) ∧ w'.cell? ⟨gb, 1, none⟩ = some u) (first | exact ⟨hcz0, hcz1⟩) (first
            | (go_at_call 16; refine (HasB _ g v n adj a b HG.out hltb).mono ?_; rintro e w3 ⟨rfl, hB⟩; have BK3 := Aside0.mk (blk_below BK.out hB); have HB3 := Aside0.mk (below_then HB.out HB.out.size hB); have HG3 := Aside0.mk (HG.out.below hB); have HR3 := Aside0.mk (HR.out.below hB); clear BK HB HG HR hcz0 hcz1; have BK := BK3; have HB := HB3; have HG := HG3; have HR := HR3; clear BK3 HB3 HG3 HR3 hB; have hcz0 : w3.cell? ⟨gb, 0, none⟩ = some (.int .i64 n) := (blk_cell BK.out 0).trans rfl; have hcz1 : w3.cell? ⟨gb, 1, none⟩ = some u := (blk_cell BK.out 1).trans rfl)
            | (go_at_call 17; refine (RHas_is _ u n adj a b HR.out).mono ?_; rintro e w4 ⟨rfl, hB⟩; have BK4 := Aside0.mk (blk_below BK.out hB); have HB4 := Aside0.mk (below_then HB.out HB.out.size hB); have HG4 := Aside0.mk (HG.out.below hB); have HR4 := Aside0.mk (HR.out.below hB); clear BK HB HG HR hcz0 hcz1; have BK := BK4; have HB := HB4; have HG := HG4; have HR := HR4; clear BK4 HB4 HG4 HR4 hB; have hcz0 : w4.cell? ⟨gb, 0, none⟩ = some (.int .i64 n) := (blk_cell BK.out 0).trans rfl; have hcz1 : w4.cell? ⟨gb, 1, none⟩ = some u := (blk_cell BK.out 1).trans rfl))
          go_wp2
          exact ⟨⟨b + 1, by omega, by go_num, BK, HB, HG, HR⟩, by simp [intOf]; omega⟩
        · obtain rfl : b = n := by omega
          go_wp2
          exact ⟨⟨a + 1, by omega, by go_num, BK, HB, HG, HR⟩, by simp [intOf]; omega⟩
    · obtain rfl : a = n := by omega
      go_wp2
      go_ret
      exact ⟨rfl, HB.out⟩
end Go.Proofs.Ytfkmngmnnlgjdaa.Gr

/- Made, walked. -/
namespace Go.Proofs.Ytfkmngmnnlgjdaa.Gr
open Go Go.RowKit Go.Proofs.Ytfkmngmnnlgjdaa.Gf Go.Proofs.Ytfkmngmnnlgjdaa.Pu Go.Proofs.Ytfkmngmnnlgjdaa.Pr Go.Proofs.Ytfkmngmnnlgjdaa.Mw Go.Proofs.YtfkmngmnnlgjdaaW.PrintWords Go.Proofs.YtfkmngmnnlgjdaaW.PrintLast Go.Proofs.YtfkmngmnnlgjdaaW.PrintMore
set_option linter.unusedVariables false
set_option linter.unusedSimpArgs false
/-- The joins behind the first k of a row of joins. -/
def jt (n : Nat) (js : List (Int × Int)) : Nat → Adj
  | 0 => fun _ _ => false
  | k + 1 => jn n (jt n js k) (js.getD k (0, 0)).1 (js.getD k (0, 0)).2
theorem jt_sane (n : Nat) (js : List (Int × Int)) (k : Nat) : Sane n (jt n js k) := by
  induction k with
  | zero => exact sane_none n
  | succ k ih => exact jn_sane ih _ _
/-- The numbers that Made looks at. -/
def madeOk (n : Int) (l : Nat) : Bool := decide (0 ≤ n) && decide (n ≤ 40) && decide (l ≤ 800)
set_option maxRecDepth 100000 in
set_option maxHeartbeats 1000000 in
theorem Made_no (w : World) (n : Int) (A : Option Addr) (l c : Nat) (h : madeOk n l = false) :
    Calls Try.prog 21 #[.int .i64 n, .slice A l c] w fun e w' => e = .returned (.tuple #[.pointer none, .agg #[.int .i64 0, .slice none 0 0]]) ∧ Below w.heap.size w w' := by
  have hu29 := Try.underlying29
  by_cases h1 : n < 0
  · have hd1 : decide (n < 0) = true := decide_eq_true h1
    clear h
    go_enter Try.func21, Try.ntmps21
    go_wp2_with (first | ((with_reducible refine gate_dst (N := 5) rfl ?_); refine box_event ?hg (N := 5) ?hd (cs := #[.int .i64 0, .slice none 0 0]) (t := 29) ?hr ?_; (case hd => rfl); (case hg => rfl); (case hr => first | (go_simp; done) | (go_simp; rfl)); intro ge hge w1 hbox hB; have BE := Aside0.mk hbox; have HB := Aside0.mk hB; have HE := Aside0.mk (show w.heap.size ≤ ge by rw [hge]; exact Nat.le_refl _); clear hbox hB hge; have hez0 : w1.cell? ⟨ge, 0, none⟩ = some (.int .i64 0) := (blk_cell BE.out 0).trans rfl; have hez1 : w1.cell? ⟨ge, 1, none⟩ = some (.slice none 0 0) := (blk_cell BE.out 1).trans rfl; have hefz0 := blk_frozen BE.out 0; have hefz1 := blk_frozen BE.out 1))
    have hE1 := blk_put (cs := #[.int .i64 0, .slice none 0 0]) BE.out 0 (.int .i64 0) (cs' := #[.int .i64 0, .slice none 0 0]) rfl
    refine bodyPost_ret (results_tc rfl _ _ ge 29 #[.int .i64 0, .slice none 0 0] (0, 0) _ rfl (blk_put (cs := #[.int .i64 0, .slice none 0 0]) hE1 1 _ rfl) hu29 rfl (by kernel_rfl)) rfl ?_
    exact ⟨rfl, (HB.out.setCell (p := ⟨ge, 0, none⟩) HE.out _).setCell (p := ⟨ge, 1, none⟩) HE.out _⟩
  · by_cases h2 : 40 < n
    · have hd1 : decide (n < 0) = false := decide_eq_false h1
      have hd2 : decide (40 < n) = true := decide_eq_true h2
      clear h
      go_enter Try.func21, Try.ntmps21
      go_wp2_with (first | ((with_reducible refine gate_dst (N := 5) rfl ?_); refine box_event ?hg (N := 5) ?hd (cs := #[.int .i64 0, .slice none 0 0]) (t := 29) ?hr ?_; (case hd => rfl); (case hg => rfl); (case hr => first | (go_simp; done) | (go_simp; rfl)); intro ge hge w1 hbox hB; have BE := Aside0.mk hbox; have HB := Aside0.mk hB; have HE := Aside0.mk (show w.heap.size ≤ ge by rw [hge]; exact Nat.le_refl _); clear hbox hB hge; have hez0 : w1.cell? ⟨ge, 0, none⟩ = some (.int .i64 0) := (blk_cell BE.out 0).trans rfl; have hez1 : w1.cell? ⟨ge, 1, none⟩ = some (.slice none 0 0) := (blk_cell BE.out 1).trans rfl; have hefz0 := blk_frozen BE.out 0; have hefz1 := blk_frozen BE.out 1))
      have hE1 := blk_put (cs := #[.int .i64 0, .slice none 0 0]) BE.out 0 (.int .i64 0) (cs' := #[.int .i64 0, .slice none 0 0]) rfl
      refine bodyPost_ret (results_tc rfl _ _ ge 29 #[.int .i64 0, .slice none 0 0] (0, 0) _ rfl (blk_put (cs := #[.int .i64 0, .slice none 0 0]) hE1 1 _ rfl) hu29 rfl (by kernel_rfl)) rfl ?_
      exact ⟨rfl, (HB.out.setCell (p := ⟨ge, 0, none⟩) HE.out _).setCell (p := ⟨ge, 1, none⟩) HE.out _⟩
    · have h3 : 800 < l := by
        unfold madeOk at h
        simp only [Bool.and_eq_false_iff, decide_eq_false_iff_not] at h
        omega
      have hd1 : decide (n < 0) = false := decide_eq_false h1
      have hd2 : decide (40 < n) = false := decide_eq_false h2
      have hd3 : decide ((800 : Int) < (l : Int)) = true := decide_eq_true (by omega)
      clear h
      go_enter Try.func21, Try.ntmps21
      go_wp2_with (first | ((with_reducible refine gate_dst (N := 5) rfl ?_); refine box_event ?hg (N := 5) ?hd (cs := #[.int .i64 0, .slice none 0 0]) (t := 29) ?hr ?_; (case hd => rfl); (case hg => rfl); (case hr => first | (go_simp; done) | (go_simp; rfl)); intro ge hge w1 hbox hB; have BE := Aside0.mk hbox; have HB := Aside0.mk hB; have HE := Aside0.mk (show w.heap.size ≤ ge by rw [hge]; exact Nat.le_refl _); clear hbox hB hge; have hez0 : w1.cell? ⟨ge, 0, none⟩ = some (.int .i64 0) := (blk_cell BE.out 0).trans rfl; have hez1 : w1.cell? ⟨ge, 1, none⟩ = some (.slice none 0 0) := (blk_cell BE.out 1).trans rfl; have hefz0 := blk_frozen BE.out 0; have hefz1 := blk_frozen BE.out 1))
      have hE1 := blk_put (cs := #[.int .i64 0, .slice none 0 0]) BE.out 0 (.int .i64 0) (cs' := #[.int .i64 0, .slice none 0 0]) rfl
      refine bodyPost_ret (results_tc rfl _ _ ge 29 #[.int .i64 0, .slice none 0 0] (0, 0) _ rfl (blk_put (cs := #[.int .i64 0, .slice none 0 0]) hE1 1 _ rfl) hu29 rfl (by kernel_rfl)) rfl ?_
      exact ⟨rfl, (HB.out.setCell (p := ⟨ge, 0, none⟩) HE.out _).setCell (p := ⟨ge, 1, none⟩) HE.out _⟩
end Go.Proofs.Ytfkmngmnnlgjdaa.Gr

/- Made, walked where it makes a graph. -/
namespace Go.Proofs.Ytfkmngmnnlgjdaa.Gr
open Go Go.RowKit Go.Proofs.Ytfkmngmnnlgjdaa.Gf Go.Proofs.Ytfkmngmnnlgjdaa.Pu Go.Proofs.Ytfkmngmnnlgjdaa.Pr Go.Proofs.Ytfkmngmnnlgjdaa.Mw Go.Proofs.YtfkmngmnnlgjdaaW.PrintWords Go.Proofs.YtfkmngmnnlgjdaaW.PrintLast Go.Proofs.YtfkmngmnnlgjdaaW.PrintMore
set_option linter.unusedVariables false
set_option linter.unusedSimpArgs false
theorem RIs.shape {w : World} {v : Value} {n : Nat} {adj : Adj} (h : RIs w v n adj) : ∃ A m c, v = .slice A m c := by
  obtain ⟨A, c, on, he, _⟩ := h.rd
  exact ⟨A, _, c, he⟩
theorem GIs.box {w : World} {g n : Nat} {v : Value} {adj : Adj} (h : GIs w g v n adj) {gw : Nat} {cs : Array Value} (hb : w.heap[gw]? = some (.cells cs 29 (0, 0))) (j : Nat) (x : Value) : GIs (w.setCell ⟨gw, j, none⟩ x) g v n adj := by
  obtain ⟨h1, rows, hR, hr⟩ := h
  exact ⟨blk_far h1 (p := ⟨gw, j, none⟩) (blk_ne h1 hb (by decide)) x, rows, Kd.R_set hR hb (by decide) j x, hr⟩
theorem RIs.box {w : World} {n : Nat} {v : Value} {adj : Adj} (h : RIs w v n adj) {gw : Nat} {cs : Array Value} (hb : w.heap[gw]? = some (.cells cs 29 (0, 0))) (j : Nat) (x : Value) : RIs (w.setCell ⟨gw, j, none⟩ x) v n adj := by
  obtain ⟨on, hO, hR⟩ := h.own
  exact ⟨on, Kd.R_set hO hb (by decide) j x, hR⟩
/-- What goes on in the loops that join: the graph, and the document's in a block. -/
structure JSt (w wr : World) (g : Nat) (v u : Value) (n : Nat) (adj adj' : Adj) (gw : Nat) : Prop where
  gr : GIs wr g v n adj
  rf : RIs wr u n adj'
  box : wr.heap[gw]? = some (Obj.cells #[.int .i64 n, u] 29 (0, 0))
  own : ∀ k, v.ownBlock = some k → w.heap.size ≤ k
  bel : Below w.heap.size w wr
theorem JSt.drew {w wr : World} {g : Nat} {v u : Value} {n : Nat} {adj adj' : Adj} {gw : Nat} (h : JSt w wr g v u n adj adj' gw) : JSt w wr.drew g v u n adj adj' gw :=
  ⟨h.gr.drew, h.rf.drew, h.box, h.own, below_drew h.bel⟩
theorem JSt.below {w wr w1 : World} {g : Nat} {v u : Value} {n : Nat} {adj adj' : Adj} {gw : Nat} (h : JSt w wr g v u n adj adj' gw) (hB : Below wr.heap.size wr w1) : JSt w w1 g v u n adj adj' gw :=
  ⟨h.gr.below hB, h.rf.below hB, blk_below h.box hB, h.own, below_then h.bel h.bel.size hB⟩
theorem GIs.ne_box {w : World} {g n gw : Nat} {v : Value} {adj : Adj} {cs : Array Value} (h : GIs w g v n adj) (hb : w.heap[gw]? = some (.cells cs 29 (0, 0))) : some gw ≠ v.ownBlock := by
  obtain ⟨_, rows, hR, _⟩ := h
  exact Kd.R_ne hR hb (by decide)
theorem JSt.joined {w wr w1 : World} {g : Nat} {v u : Value} {n : Nat} {adj adj' adj1 : Adj} {gw : Nat} (h : JSt w wr g v u n adj adj' gw) (hG : GIs w1 g v n adj1) (hg : wr.grownBy w1 v.ownBlock) : JSt w w1 g v u n adj1 adj' gw :=
  ⟨hG, h.rf.grown hg (h.gr.ne_ref h.rf), blk_grown h.box hg (h.gr.ne_box h.box), h.own, h.bel.grown hg h.bel.size h.own⟩
/-- The document's graph is laid into its block. -/
theorem JSt.put {w wr : World} {g : Nat} {v u' : Value} {n : Nat} {adj adj' : Adj} {gw : Nat} {x0 x1 : Value} (hG : GIs wr g v n adj) (hR : RIs wr u' n adj') (hb : wr.heap[gw]? = some (Obj.cells #[x0, x1] 29 (0, 0))) (hw : w.heap.size ≤ gw) (ho : ∀ k, v.ownBlock = some k → w.heap.size ≤ k) (hB : Below w.heap.size w wr) :
    JSt w ((wr.setCell ⟨gw, 0, none⟩ (.int .i64 n)).setCell ⟨gw, 1, none⟩ u') g v u' n adj adj' gw := by
  have h1 := blk_put (cs := #[x0, x1]) hb 0 (.int .i64 n) (cs' := #[.int .i64 n, x1]) rfl
  exact ⟨(hG.box hb 0 _).box h1 1 _, (hR.box hb 0 _).box h1 1 _, blk_put (cs := #[.int .i64 n, x1]) h1 1 u' rfl, ho, (hB.setCell (p := ⟨gw, 0, none⟩) hw _).setCell (p := ⟨gw, 1, none⟩) hw _⟩
theorem add_one_ (ad : Addr) (m : Nat) : (⟨(ad.add m).block, (ad.add m).off + 1, none⟩ : Addr) = ad.add (m + 1) := by
  rw [Addr.add_succ']
  unfold Addr.add
  by_cases h : m = 0
  · subst h; simp
  · simp [h]; omega
theorem JoinB (w : World) (g n : Nat) (v : Value) (adj : Adj) (a b : Int) (h : GIs w g v n adj) :
    Calls Try.prog 14 #[.pointer (some ⟨g, 0, none⟩), .int .i64 a, .int .i64 b] w fun e w' => e = .returned (.bool (joinOk n adj a b)) ∧ GIs w' g v n (jn n adj a b) ∧ w.grownBy w' v.ownBlock := Join_any w g n v adj a b h
theorem JIs.at_ {w : World} {ad : Addr} {l : Nat} {js : List (Int × Int)} (h : JIs w (some ad) l js) {i : Nat} (hi : i < l) {p q : Int} (hp : p = (js.getD i (0, 0)).1) (hq : q = (js.getD i (0, 0)).2) :
    w.cell? (ad.add (i * 2)) = some (.int .i64 p) ∧ w.cell? ⟨(ad.add (i * 2)).block, (ad.add (i * 2)).off + 1, none⟩ = some (.int .i64 q) := by
  obtain ⟨ad', e, h1, h2⟩ := h.cells i hi
  injection e with e
  subst e
  rw [add_one_, hp, hq]
  exact ⟨h1, h2⟩
-- TABLE
def MadeR.T8 : Bool × List (List Nat × List Nat) := (true, [([], []), ([], []), ([], []), ([1, 2], [1, 2]), ([3], [3]), ([4], [4]), ([], []), ([], []), ([6, 7], [6, 7]), ([8], [8]), ([9], [9]), ([0, 5, 10], [0, 5, 10]), ([11], [11]), ([12], [12]), ([12], [12]), ([13, 11, 0, 1, 2, 3, 4, 5, 6, 7, 8, 9, 10, 11, 12, 13], [13])])
def MadeR.B8 : List Nat := [0, 0, 0, 6, 14, 30, 0, 0, 192, 448, 960, 2047, 4095, 8191, 8191, 16383]
theorem MadeR.tab8 : rtab .any (opsOf Try.f21 8) = MadeR.T8 := by kernel_rfl
theorem MadeR.bits8 : waitsOk MadeR.T8.2 MadeR.B8 = true := by kernel_rfl
-- END TABLE
set_option maxRecDepth 100000 in
set_option maxHeartbeats 1000000 in
theorem Made_is (w : World) (n : Nat) (A : Option Addr) (l c : Nat) (js : List (Int × Int)) (hn : n ≤ 40) (hl : l ≤ 800) (hJ : JIs w A l js) :
    Calls Try.prog 21 #[.int .i64 n, .slice A l c] w fun e w' => ∃ g v u, e = .returned (.tuple #[.pointer (some ⟨g, 0, none⟩), .agg #[.int .i64 n, u]]) ∧ GIs w' g v n (jt n js l) ∧ RIs w' u n (jt n js l) ∧ (∀ k, v.ownBlock = some k → w.heap.size ≤ k) ∧ Below w.heap.size w w' := by
  have hu29 := Try.underlying29
  have HJ := Aside0.mk hJ
  clear hJ
  have hd1 : decide ((n : Int) < 0) = false := decide_eq_false (by omega)
  have hd2 : decide (40 < (n : Int)) = false := decide_eq_false (by omega)
  have hd3 : decide ((800 : Int) < (l : Int)) = false := decide_eq_false (by omega)
  go_enter Try.func21, Try.ntmps21
  go_wp2_with (first
    | ((with_reducible refine gate_dst (N := 5) rfl ?_); refine box_event ?hg (N := 5) ?hd (cs := #[.int .i64 0, .slice none 0 0]) (t := 29) ?hr ?_; (case hd => rfl); (case hg => rfl); (case hr => first | (go_simp; done) | (go_simp; rfl)); intro ge hge w1 hbox hB; have BE := Aside0.mk hbox; have HB := Aside0.mk hB; have HE := Aside0.mk (show w.heap.size ≤ ge by rw [hge]; exact Nat.le_refl _); clear hbox hB hge)
    | (go_at_call 9; refine (New_is _ n (by omega)).mono ?_; rintro e w2 ⟨g, v, rfl, hG, hgb, hvb, hB⟩; have HG := Aside0.mk hG; have HV := Aside0.mk (fun k hk => Nat.le_trans HB.out.size (hvb k hk) : ∀ k, v.ownBlock = some k → w.heap.size ≤ k); have BE2 := Aside0.mk (blk_below BE.out hB); have HB2 := Aside0.mk (below_then HB.out HB.out.size hB); clear hG hgb hvb hB BE HB)
    | (go_at_call 12; refine (RNew_is _ n (by omega)).mono ?_; rintro e w3 ⟨u, rfl, hR, hB⟩; obtain ⟨Au, mu, cu, rfl⟩ := hR.shape; have HR := Aside0.mk hR; have HG3 := Aside0.mk (HG.out.below hB); have BE3 := Aside0.mk (blk_below BE2.out hB); have HB3 := Aside0.mk (below_then HB2.out HB2.out.size hB); clear hR hB BE2 HB2 HG)
    | ((with_reducible refine gate_dst (N := 7) rfl ?_); refine box_event ?hg (N := 7) ?hd (cs := #[.int .i64 0, .slice none 0 0]) (t := 29) ?hr ?_; (case hd => rfl); (case hg => rfl); (case hr => first | (go_simp; done) | (go_simp; rfl)); intro gw hgw w4 hbox hB; have BW := Aside0.mk hbox; have HR4 := Aside0.mk (HR.out.below hB); have HG4 := Aside0.mk (HG3.out.below hB); have BE4 := Aside0.mk (blk_below BE3.out hB); have HW := Aside0.mk (show w.heap.size ≤ gw by rw [hgw]; exact HB3.out.size); have NE := Aside0.mk (show ge ≠ gw by rw [hgw]; exact Nat.ne_of_lt (blk_lt BE3.out)); have HB4 := Aside0.mk (below_then HB3.out HB3.out.size hB); clear hbox hB hgw HR HG3 BE3 HB3; have hz0 : w4.cell? ⟨gw, 0, none⟩ = some (.int .i64 0) := (blk_cell BW.out 0).trans rfl; have hz1 : w4.cell? ⟨gw, 1, none⟩ = some (.slice none 0 0) := (blk_cell BW.out 1).trans rfl; have hfz0 := blk_frozen BW.out 0; have hfz1 := blk_frozen BW.out 1))
  have hJ5 := Aside0.mk (JSt.put HG4.out HR4.out BW.out HW.out HV.out HB4.out)
  have hE5 := Aside0.mk (blk_far (blk_far BE4.out (p := ⟨gw, 0, none⟩) NE.out (.int .i64 n)) (p := ⟨gw, 1, none⟩) NE.out (.slice Au mu cu))
  clear HG4 HR4 BW HB4 BE4 hz0 hz1 hfz0 hfz1
  generalize (w4.setCell ⟨gw, 0, none⟩ (.int .i64 n)).setCell ⟨gw, 1, none⟩ (.slice Au mu cu) = w5 at hJ5 hE5 ⊢
  go_loopw [8] (fun v8 wr => ∃ (i : Nat) (A1 : Option Addr) (m1 c1 : Nat), i ≤ l ∧ v8 = .int .i64 i ∧ Aside0 (JSt w wr g v (.slice A1 m1 c1) n (jt n js i) (jt n js i) gw) ∧ Aside0 (wr.heap[ge]? = some (Obj.cells #[.int .i64 0, .slice none 0 0] 29 (0, 0)))) (fun v8 _ => l - (intOf v8).toNat)
  case atStart => exact ⟨0, Au, mu, cu, Nat.zero_le _, rfl, hJ5, hE5⟩
  case round =>
    clear hJ5 hE5
    obtain ⟨i, A1, m1, c1, hi, rfl, HS, BE⟩ := hrel
    by_cases hlt : i < l
    · obtain ⟨ad, hA, _, _⟩ := (HJ.out.below HS.out.bel).cells i hlt
      subst hA
      obtain ⟨p, hpe⟩ : ∃ p, p = (js.getD i (0, 0)).1 := ⟨_, rfl⟩
      obtain ⟨q, hqe⟩ : ∃ q, q = (js.getD i (0, 0)).2 := ⟨_, rfl⟩
      obtain ⟨hc0, hc2⟩ := (HJ.out.below HS.out.bel).at_ hlt hpe hqe
      have hli : (i : Int) < (l : Int) := by omega
      have HPQ := Aside0.mk (And.intro hpe hqe)
      clear hpe hqe
      go_wp2
      have HSd := Aside0.mk HS.out.drew
      have BEd : Aside0 (wr.drew.heap[ge]? = some (Obj.cells #[.int .i64 0, .slice none 0 0] 29 (0, 0))) := BE
      clear HS BE
      go_region_held3 (fun w' => w'.cell? (ad.add (i * 2)) = some (.int .i64 p) ∧ w'.cell? ⟨(ad.add (i * 2)).block, (ad.add (i * 2)).off + 1, none⟩ = some (.int .i64 q)) (first | exact ⟨hc0, hc2⟩) (first
        | (go_at_call 14; refine (JoinB _ g n v _ p q HSd.out.gr).mono ?_; rintro e w6 ⟨rfl, hG, hg⟩; have HS6 := Aside0.mk (HSd.out.joined hG hg); have BE6 := Aside0.mk (blk_grown BEd.out hg (HSd.out.gr.ne_box BEd.out)); clear HSd BEd hG hg hc0 hc2; obtain ⟨hc0, hc2⟩ := (HJ.out.below HS6.out.bel).at_ hlt HPQ.out.1 HPQ.out.2))
      have hz0 : w6.cell? ⟨gw, 0, none⟩ = some (.int .i64 n) := (blk_cell HS6.out.box 0).trans rfl
      have hz1 : w6.cell? ⟨gw, 1, none⟩ = some (.slice A1 m1 c1) := (blk_cell HS6.out.box 1).trans rfl
      go_wp2
      -- REGION
      refine start_ (n := 16) (S := (fun w' => w'.cell? ⟨gw, 0, none⟩ = some (.int .i64 n) ∧ w'.cell? ⟨gw, 1, none⟩ = some (.slice A1 m1 c1) ∧ w'.cell? (ad.add (i * 2)) = some (.int .i64 p) ∧ w'.cell? ⟨(ad.add (i * 2)).block, (ad.add (i * 2)).off + 1, none⟩ = some (.int .i64 q))) (ds := [15]) #[false, false, false, false, false, false, false, false, false, false, false, false, false, false, false, false] (by kernel_rfl) rfl rfl ⟨hz0, hz1, hc0, hc2⟩ (fun hHeld => ?_); refine with_tabW MadeR.tab8 MadeR.bits8 (fun HT_ HW_ => ?_)
      have HS7 := Aside0.mk HS6.out.drew
      have BE7 : Aside0 (w6.drew.heap[ge]? = some (Obj.cells #[.int .i64 0, .slice none 0 0] 29 (0, 0))) := BE6
      clear HS6 BE6 hz0 hz1 hc0 hc2
      generalize w6.drew = w7 at HS7 BE7 hHeld ⊢
      refine take_ (i := 0) (N := some 44) (v := ?_) (a' := ?_) #[true, false, false, false, false, false, false, false, false, false, false, false, false, false, false, false] rfl rfl (take_ofW HT_.out HW_.out (by kernel_rfl)) (fun _ _ _ h => h) (Or.inl ⟨by rfl, ?_⟩) hHeld ?_ ?_
      rotate_left
      · intro w' s0
        (obtain ⟨s0, s1, s2, s3⟩ := s0)
        go_simp
        with_reducible rfl
      rotate_left
      · simp only [Act.put, List.setIfInBounds_toArray, List.set_cons_zero, List.set_cons_succ, i64_w, i32_w]
        rfl
      refine pure_ (i := 1) (N := some 45) (v := ?_) (a' := ?_) #[true, true, false, false, false, false, false, false, false, false, false, false, false, false, false, false] rfl rfl (any_of HT_.out (by kernel_rfl)) (fun _ _ _ h => h) (Or.inl ⟨by rfl, ?_⟩) ?_ ?_
      rotate_left
      · intro w'
        go_simp
        with_reducible rfl
      rotate_left
      · simp only [Act.put, List.setIfInBounds_toArray, List.set_cons_zero, List.set_cons_succ, i64_w, i32_w]
        rfl
      refine pure_ (i := 2) (N := some 46) (v := ?_) (a' := ?_) #[true, true, true, false, false, false, false, false, false, false, false, false, false, false, false, false] rfl rfl (any_of HT_.out (by kernel_rfl)) (fun _ _ _ h => h) (Or.inl ⟨by rfl, ?_⟩) ?_ ?_
      rotate_left
      · intro w'
        go_simp
        with_reducible rfl
      rotate_left
      · simp only [Act.put, List.setIfInBounds_toArray, List.set_cons_zero, List.set_cons_succ, i64_w, i32_w]
        rfl
      refine pure_ (i := 3) (N := some 47) (v := ?_) (a' := ?_) #[true, true, true, true, false, false, false, false, false, false, false, false, false, false, false, false] rfl rfl (any_of HT_.out (by kernel_rfl)) (fun _ _ _ h => h) (Or.inl ⟨by rfl, ?_⟩) ?_ ?_
      rotate_left
      · intro w'
        go_simp
        with_reducible rfl
      rotate_left
      · simp only [Act.put, List.setIfInBounds_toArray, List.set_cons_zero, List.set_cons_succ, i64_w, i32_w]
        rfl
      refine pure_ (i := 4) (N := some 48) (v := ?_) (a' := ?_) #[true, true, true, true, true, false, false, false, false, false, false, false, false, false, false, false] rfl rfl (any_of HT_.out (by kernel_rfl)) (fun _ _ _ h => h) (Or.inl ⟨by rfl, ?_⟩) ?_ ?_
      rotate_left
      · intro w'
        go_simp
        with_reducible rfl
      rotate_left
      · simp only [Act.put, List.setIfInBounds_toArray, List.set_cons_zero, List.set_cons_succ, i64_w, i32_w]
        rfl
      refine take_ (i := 5) (N := some 49) (v := ?_) (a' := ?_) #[true, true, true, true, true, true, false, false, false, false, false, false, false, false, false, false] rfl rfl (take_ofW HT_.out HW_.out (by kernel_rfl)) (fun _ _ _ h => h) (Or.inl ⟨by rfl, ?_⟩) hHeld ?_ ?_
      rotate_left
      · intro w' s0
        (obtain ⟨s0, s1, s2, s3⟩ := s0)
        go_simp
        with_reducible rfl
      rotate_left
      · simp only [Act.put, List.setIfInBounds_toArray, List.set_cons_zero, List.set_cons_succ, i64_w, i32_w]
        rfl
      refine pure_ (i := 6) (N := some 50) (v := ?_) (a' := ?_) #[true, true, true, true, true, true, true, false, false, false, false, false, false, false, false, false] rfl rfl (any_of HT_.out (by kernel_rfl)) (fun _ _ _ h => h) (Or.inl ⟨by rfl, ?_⟩) ?_ ?_
      rotate_left
      · intro w'
        go_simp
        with_reducible rfl
      rotate_left
      · simp only [Act.put, List.setIfInBounds_toArray, List.set_cons_zero, List.set_cons_succ, i64_w, i32_w]
        rfl
      refine pure_ (i := 7) (N := some 51) (v := ?_) (a' := ?_) #[true, true, true, true, true, true, true, true, false, false, false, false, false, false, false, false] rfl rfl (any_of HT_.out (by kernel_rfl)) (fun _ _ _ h => h) (Or.inl ⟨by rfl, ?_⟩) ?_ ?_
      rotate_left
      · intro w'
        go_simp
        with_reducible rfl
      rotate_left
      · simp only [Act.put, List.setIfInBounds_toArray, List.set_cons_zero, List.set_cons_succ, i64_w, i32_w]
        rfl
      refine pure_ (i := 8) (N := some 52) (v := ?_) (a' := ?_) #[true, true, true, true, true, true, true, true, true, false, false, false, false, false, false, false] rfl rfl (any_of HT_.out (by kernel_rfl)) (fun _ _ _ h => h) (Or.inl ⟨by rfl, ?_⟩) ?_ ?_
      rotate_left
      · intro w'
        go_simp
        with_reducible rfl
      rotate_left
      · simp only [Act.put, List.setIfInBounds_toArray, List.set_cons_zero, List.set_cons_succ, i64_w, i32_w]
        rfl
      refine pure_ (i := 9) (N := some 53) (v := ?_) (a' := ?_) #[true, true, true, true, true, true, true, true, true, true, false, false, false, false, false, false] rfl rfl (any_of HT_.out (by kernel_rfl)) (fun _ _ _ h => h) (Or.inl ⟨by rfl, ?_⟩) ?_ ?_
      rotate_left
      · intro w'
        go_simp
        with_reducible rfl
      rotate_left
      · simp only [Act.put, List.setIfInBounds_toArray, List.set_cons_zero, List.set_cons_succ, i64_w, i32_w]
        rfl
      refine take_ (i := 10) (N := some 54) (v := ?_) (a' := ?_) #[true, true, true, true, true, true, true, true, true, true, true, false, false, false, false, false] rfl rfl (take_ofW HT_.out HW_.out (by kernel_rfl)) (fun _ _ _ h => h) (Or.inl ⟨by rfl, ?_⟩) hHeld ?_ ?_
      rotate_left
      · intro w' s0
        (obtain ⟨s0, s1, s2, s3⟩ := s0)
        go_simp
        with_reducible rfl
      rotate_left
      · simp only [Act.put, List.setIfInBounds_toArray, List.set_cons_zero, List.set_cons_succ, i64_w, i32_w]
        rfl
      refine one_ (i := 11) (N := some 55) #[true, true, true, true, true, true, true, true, true, true, true, true, false, false, false, false] rfl rfl (one_of HT_.out (by kernel_rfl)) (by decide) (fun K hK => ?_)
      refine goes_ Try.func13 (by kernel_rfl) rfl #[.agg #[.int .i64 n, .slice A1 m1 c1], .int .i64 p, .int .i64 q] (by rfl) rfl rfl (by (try simp only [List.map_toArray, List.map_cons, List.map_nil]); first | done | rfl) ?_
      refine (RJoin_is w7 (.slice A1 m1 c1) n _ p q HS7.out.rf).mono ?_
      rintro e w8 ⟨u', rfl, hR, hB⟩
      obtain ⟨A2, m2, c2, rfl⟩ := hR.shape
      have HR8 := Aside0.mk hR
      have HS8 := Aside0.mk (HS7.out.below hB)
      have BE8 := Aside0.mk (blk_below BE7.out hB)
      have hj8 := (HJ.out.below HS8.out.bel).at_ hlt HPQ.out.1 HPQ.out.2
      refine ⟨_, rfl, hK.out _ _ ⟨(blk_cell HS8.out.box 0).trans rfl, (blk_cell HS8.out.box 1).trans rfl, hj8.1, hj8.2⟩ (fun hHeld => ?_)⟩
      clear hK K HS7 BE7 hR hB hj8
      simp only [Act.put, List.setIfInBounds_toArray, List.set_cons_zero, List.set_cons_succ]
      have hz0 : w8.cell? ⟨gw, 0, none⟩ = some (.int .i64 n) := (blk_cell HS8.out.box 0).trans rfl
      have hz1 : w8.cell? ⟨gw, 1, none⟩ = some (.slice A1 m1 c1) := (blk_cell HS8.out.box 1).trans rfl
      have hfz0 := blk_frozen HS8.out.box 0
      have hfz1 := blk_frozen HS8.out.box 1
      refine pure_ (i := 12) (N := some 43) (v := ?_) (a' := ?_) #[true, true, true, true, true, true, true, true, true, true, true, true, true, false, false, false] rfl rfl (any_of HT_.out (by kernel_rfl)) (fun _ _ _ h => h) (Or.inl ⟨by rfl, ?_⟩) ?_ ?_
      rotate_left
      · intro w'
        go_simp
        with_reducible rfl
      rotate_left
      · simp only [Act.put, List.setIfInBounds_toArray, List.set_cons_zero, List.set_cons_succ, i64_w, i32_w]
        rfl
      refine pure_ (i := 13) (N := some 56) (v := ?_) (a' := ?_) #[true, true, true, true, true, true, true, true, true, true, true, true, true, true, false, false] rfl rfl (any_of HT_.out (by kernel_rfl)) (fun _ _ _ h => h) (Or.inl ⟨by rfl, ?_⟩) ?_ ?_
      rotate_left
      · intro w'
        go_simp
        with_reducible rfl
      rotate_left
      · simp only [Act.put, List.setIfInBounds_toArray, List.set_cons_zero, List.set_cons_succ, i64_w, i32_w]
        rfl
      refine pure_ (i := 14) (N := some 57) (v := ?_) (a' := ?_) #[true, true, true, true, true, true, true, true, true, true, true, true, true, true, true, false] rfl rfl (any_of HT_.out (by kernel_rfl)) (fun _ _ _ h => h) (Or.inl ⟨by rfl, ?_⟩) ?_ ?_
      rotate_left
      · intro w'
        go_simp
        with_reducible rfl
      rotate_left
      · simp only [Act.put, List.setIfInBounds_toArray, List.set_cons_zero, List.set_cons_succ, i64_w, i32_w]
        rfl
      refine last_ (i := 15) (N := none) #[true, true, true, true, true, true, true, true, true, true, true, true, true, true, true, true] rfl rfl (one_of HT_.out (by kernel_rfl)) (by decide) (fun K hK => ?_)
      refine skip_ (w1 := ?_) (by rfl) rfl ?_ ?_
      rotate_left
      · go_simp
        rfl
      refine hK.out _ _ ?_
      clear hK K
      refine done_ (done_of HT_.out (by kernel_rfl)) ?_
      -- END REGION
      go_wp2
      have hjt : jn n (jt n js i) p q = jt n js (i + 1) := by
        show _ = jn n (jt n js i) (js.getD i (0, 0)).1 (js.getD i (0, 0)).2
        rw [HPQ.out.1, HPQ.out.2]
      have hput := JSt.put HS8.out.gr HR8.out HS8.out.box HW.out HS8.out.own HS8.out.bel
      rw [hjt] at hput
      exact ⟨⟨i + 1, A2, m2, c2, by omega, by go_num, ⟨hput⟩, ⟨blk_far (blk_far BE8.out (p := ⟨gw, 0, none⟩) NE.out _) (p := ⟨gw, 1, none⟩) NE.out _⟩⟩, by simp [intOf]; omega⟩
    · obtain rfl : i = l := by omega
      go_wp2
      have HSd := Aside0.mk HS.out.drew
      have BEd : Aside0 (wr.drew.heap[ge]? = some (Obj.cells #[.int .i64 0, .slice none 0 0] 29 (0, 0))) := BE
      have hz0 : wr.cell? ⟨gw, 0, none⟩ = some (.int .i64 n) := (blk_cell HS.out.box 0).trans rfl
      have hz1 : wr.cell? ⟨gw, 1, none⟩ = some (.slice A1 m1 c1) := (blk_cell HS.out.box 1).trans rfl
      have hE1 := blk_put (cs := #[.int .i64 0, .slice none 0 0]) BEd.out 0 (.int .i64 n) (cs' := #[.int .i64 n, .slice none 0 0]) rfl
      have hE2 := blk_put (cs := #[.int .i64 n, .slice none 0 0]) hE1 1 (.slice A1 m1 c1) (cs' := #[.int .i64 n, .slice A1 m1 c1]) rfl
      have hG2 := (HSd.out.gr.box BEd.out 0 (.int .i64 n)).box hE1 1 (.slice A1 m1 c1)
      have hR2 := (HSd.out.rf.box BEd.out 0 (.int .i64 n)).box hE1 1 (.slice A1 m1 c1)
      have hB2 := (HSd.out.bel.setCell (p := ⟨ge, 0, none⟩) HE.out (.int .i64 n)).setCell (p := ⟨ge, 1, none⟩) HE.out (.slice A1 m1 c1)
      have hbx := blk_far (blk_far HSd.out.box (p := ⟨ge, 0, none⟩) (Ne.symm NE.out) (.int .i64 n)) (p := ⟨ge, 1, none⟩) (Ne.symm NE.out) (.slice A1 m1 c1)
      have hy0 := blk_cell hbx 0
      have hy1 := blk_cell hbx 1
      have HK := Aside0.mk (And.intro hE2 (And.intro hG2 (And.intro hR2 (And.intro hB2 (And.intro hy0 hy1)))))
      have hefz0 : wr.frozen? ⟨ge, 0, none⟩ = false := blk_frozen BE.out 0
      have hefz1 : wr.frozen? ⟨ge, 1, none⟩ = false := blk_frozen BE.out 1
      have hez0 : wr.cell? ⟨ge, 0, none⟩ = some (.int .i64 0) := (blk_cell BE.out 0).trans rfl
      have hez1 : wr.cell? ⟨ge, 1, none⟩ = some (.slice none 0 0) := (blk_cell BE.out 1).trans rfl
      have hov := HS.out.own
      have HO := Aside0.mk hov
      clear hE1 hE2 hG2 hR2 hB2 hbx hy0 hy1 hov
      go_region_held3 (fun w' => w'.cell? ⟨gw, 0, none⟩ = some (.int .i64 n) ∧ w'.cell? ⟨gw, 1, none⟩ = some (.slice A1 m1 c1)) (first | exact ⟨hz0, hz1⟩ | exact HK.out.2.2.2.2) (fail)
      go_wp2
      refine bodyPost_ret (results_tc rfl _ _ ge 29 #[.int .i64 n, .slice A1 m1 c1] (0, 0) _ rfl HK.out.1 hu29 rfl (by kernel_rfl)) rfl ?_
      exact ⟨g, v, _, rfl, HK.out.2.1, HK.out.2.2.1, HO.out, HK.out.2.2.2.1⟩
end Go.Proofs.Ytfkmngmnnlgjdaa.Gr

/- GraphTells, walked. -/
namespace Go.Proofs.Ytfkmngmnnlgjdaa.Gr
open Go Go.RowKit Go.Proofs.Ytfkmngmnnlgjdaa.Gf Go.Proofs.Ytfkmngmnnlgjdaa.Pu Go.Proofs.Ytfkmngmnnlgjdaa.Pr Go.Proofs.Ytfkmngmnnlgjdaa.Mw Go.Proofs.YtfkmngmnnlgjdaaW.PrintWords Go.Proofs.YtfkmngmnnlgjdaaW.PrintLast Go.Proofs.YtfkmngmnnlgjdaaW.PrintMore
set_option linter.unusedVariables false
set_option linter.unusedSimpArgs false
theorem madeOk_nat {a : Int} {l : Nat} (h : madeOk a l = true) : ∃ n : Nat, a = n ∧ n ≤ 40 ∧ l ≤ 800 := by
  simp only [madeOk, Bool.and_eq_true, decide_eq_true_eq] at h
  obtain ⟨⟨h0, h1⟩, h2⟩ := h
  obtain ⟨n, rfl⟩ := Int.eq_ofNat_of_zero_le h0
  exact ⟨n, rfl, by omega, h2⟩
theorem parts_len_in {n : Nat} (hn : n ≤ 40) (adj : Adj) : (((parts n adj).map nats).length ≤ 9223372036854775807) ∧ ∀ j, ((((parts n adj).map nats).getD j []).length ≤ 9223372036854775807) := by
  constructor
  · rw [List.length_map]
    have := partsTo_length n adj n
    unfold parts
    omega
  · intro j
    rw [List.getD_eq_getElem?_getD, List.getElem?_map]
    cases h : (parts n adj)[j]? with
    | none => simp
    | some x =>
      simp only [Option.map_some, Option.getD_some]
      rw [nats_length]
      have hm := List.mem_of_getElem? h
      unfold parts partsTo at hm
      obtain ⟨a, _, rfl⟩ := List.mem_map.1 hm
      unfold comp
      have := List.length_filter_le (fun b => @decide (Pu.Reach adj a b) (Classical.propDecidable _)) (List.range n)
      rw [List.length_range] at this
      omega
set_option maxRecDepth 100000 in
set_option maxHeartbeats 1000000 in
theorem Tells_is (w : World) (a : Int) (A : Option Addr) (l c : Nat) (js : List (Int × Int)) (hJ : JIs w A l js) :
    Calls Try.prog 5 #[.int .i64 a, .slice A l c] w fun e w' => e = .returned (.bool true) ∧ Below w.heap.size w w' := by
  have hu29 := Try.underlying29
  have HJ := Aside0.mk hJ
  clear hJ
  cases hok : madeOk a l with
  | false =>
    have HK := Aside0.mk hok
    clear hok
    go_enter Try.func5, Try.ntmps5
    go_wp2_with (first
      | (go_at_call 21; refine (Made_no _ a A l c HK.out).mono ?_; rintro e w1 ⟨rfl, hB⟩; have HB := Aside0.mk hB; clear hB)
      | ((with_reducible refine gate_dst (N := 6) rfl ?_); refine box_event ?hg (N := 6) ?hd (cs := #[.int .i64 0, .slice none 0 0]) (t := 29) ?hr ?_; (case hd => rfl); (case hg => rfl); (case hr => first | (go_simp; done) | (go_simp; rfl)); intro gw hgw w2 hbox hB; have BW := Aside0.mk hbox; have HW := Aside0.mk (show w.heap.size ≤ gw by rw [hgw]; exact HB.out.size); have HB2 := Aside0.mk (below_then HB.out HB.out.size hB); clear hbox hB hgw HB; have hz0 : w2.cell? ⟨gw, 0, none⟩ = some (.int .i64 0) := (blk_cell BW.out 0).trans rfl; have hz1 : w2.cell? ⟨gw, 1, none⟩ = some (.slice none 0 0) := (blk_cell BW.out 1).trans rfl; have hfz0 := blk_frozen BW.out 0; have hfz1 := blk_frozen BW.out 1)
      | (go_at_call 10; refine (heads_is _).mono ?_; rintro e w5 ⟨rfl, hB⟩; have HB3 := Aside0.mk (below_then ((HB2.out.setCell (p := ⟨gw, 0, none⟩) HW.out _).setCell (p := ⟨gw, 1, none⟩) HW.out _) ((HB2.out.setCell (p := ⟨gw, 0, none⟩) HW.out _).setCell (p := ⟨gw, 1, none⟩) HW.out _).size hB); clear hB))
    go_ret
    exact ⟨rfl, HB3.out⟩
  | true =>
    obtain ⟨n, rfl, hn, hl⟩ := madeOk_nat hok
    clear hok
    go_enter Try.func5, Try.ntmps5
    go_wp2_with (first
      | (go_at_call 21; refine (Made_is _ n A l c js hn hl HJ.out).mono ?_; rintro e w1 ⟨g, v, u, rfl, hG, hR, hV, hB⟩; obtain ⟨Au, mu, cu, rfl⟩ := hR.shape; have HG := Aside0.mk hG; have HR := Aside0.mk hR; have HV := Aside0.mk hV; have HB := Aside0.mk hB; clear hG hR hV hB)
      | ((with_reducible refine gate_dst (N := 6) rfl ?_); refine box_event ?hg (N := 6) ?hd (cs := #[.int .i64 0, .slice none 0 0]) (t := 29) ?hr ?_; (case hd => rfl); (case hg => rfl); (case hr => first | (go_simp; done) | (go_simp; rfl)); intro gw hgw w2 hbox hB; have BW := Aside0.mk hbox; have HG2 := Aside0.mk (HG.out.below hB); have HR2 := Aside0.mk (HR.out.below hB); have HW := Aside0.mk (show w.heap.size ≤ gw by rw [hgw]; exact HB.out.size); have HB2 := Aside0.mk (below_then HB.out HB.out.size hB); clear hbox hB hgw HB HG HR; have hz0 : w2.cell? ⟨gw, 0, none⟩ = some (.int .i64 0) := (blk_cell BW.out 0).trans rfl; have hz1 : w2.cell? ⟨gw, 1, none⟩ = some (.slice none 0 0) := (blk_cell BW.out 1).trans rfl; have hfz0 := blk_frozen BW.out 0; have hfz1 := blk_frozen BW.out 1))
    have HS := Aside0.mk (JSt.put HG2.out HR2.out BW.out HW.out HV.out HB2.out)
    clear HG2 HR2 BW HV HB2 hz0 hz1 hfz0 hfz1
    generalize (w2.setCell ⟨gw, 0, none⟩ (.int .i64 n)).setCell ⟨gw, 1, none⟩ (.slice Au mu cu) = w3 at HS ⊢
    have hz0 : w3.cell? ⟨gw, 0, none⟩ = some (.int .i64 n) := (blk_cell HS.out.box 0).trans rfl
    have hz1 : w3.cell? ⟨gw, 1, none⟩ = some (.slice Au mu cu) := (blk_cell HS.out.box 1).trans rfl
    have HS3 := Aside0.mk HS.out.drew
    clear HS
    go_wp2
    go_region_held3 (fun w' => w'.cell? ⟨gw, 0, none⟩ = some (.int .i64 n) ∧ w'.cell? ⟨gw, 1, none⟩ = some (.slice Au mu cu)) (first | exact ⟨hz0, hz1⟩) (first
      | (go_at_call 22; refine (Parts_is _ g n v _ HS3.out.gr).mono ?_; rintro e w4 ⟨v4, rfl, hR, hB⟩; have HS4 := Aside0.mk (HS3.out.below hB); have H4 := Aside0.mk hR; clear hR hB HS3 hz0 hz1; have hz0 : w4.cell? ⟨gw, 0, none⟩ = some (.int .i64 n) := (blk_cell HS4.out.box 0).trans rfl; have hz1 : w4.cell? ⟨gw, 1, none⟩ = some (.slice Au mu cu) := (blk_cell HS4.out.box 1).trans rfl)
      | (go_at_call 25; refine (RParts_is _ _ n _ HS4.out.rf).mono ?_; rintro e w5 ⟨v5, rfl, hR, hB⟩; have HS5 := Aside0.mk (HS4.out.below hB); have H5 := Aside0.mk (Kd.R_below H4.out hB); have H6 := Aside0.mk (Kd.S_R hR); clear hR hB HS4 H4 hz0 hz1; have hz0 : w5.cell? ⟨gw, 0, none⟩ = some (.int .i64 n) := (blk_cell HS5.out.box 0).trans rfl; have hz1 : w5.cell? ⟨gw, 1, none⟩ = some (.slice Au mu cu) := (blk_cell HS5.out.box 1).trans rfl)
      | (go_at_call 24; refine (Rows_is _ _ _ ((parts n (jt n js l)).map nats) ((parts n (jt n js l)).map nats) H5.out H6.out (parts_len_in hn _).1 (parts_len_in hn _).2).mono ?_; rintro e w6 ⟨rfl, hB⟩; rw [decide_eq_true (show (parts n (jt n js l)).map nats = (parts n (jt n js l)).map nats from rfl)]; have HS6 := Aside0.mk (HS5.out.below hB); clear hB HS5 H5 H6 hz0 hz1; have hz0 : w6.cell? ⟨gw, 0, none⟩ = some (.int .i64 n) := (blk_cell HS6.out.box 0).trans rfl; have hz1 : w6.cell? ⟨gw, 1, none⟩ = some (.slice Au mu cu) := (blk_cell HS6.out.box 1).trans rfl)
      | (go_at_call 26; refine (Shell_is _ g n v _ HS6.out.gr).mono ?_; rintro e w7 ⟨v7, rfl, hR, hB⟩; have HS7 := Aside0.mk (HS6.out.below hB); have H7 := Aside0.mk hR; clear hR hB HS6 hz0 hz1; have hz0 : w7.cell? ⟨gw, 0, none⟩ = some (.int .i64 n) := (blk_cell HS7.out.box 0).trans rfl; have hz1 : w7.cell? ⟨gw, 1, none⟩ = some (.slice Au mu cu) := (blk_cell HS7.out.box 1).trans rfl)
      | (go_at_call 27; refine (RShell_is _ _ n _ HS7.out.rf).mono ?_; rintro e w8 ⟨v8, rfl, hR, hB⟩; have HS8 := Aside0.mk (HS7.out.below hB); have H8 := Aside0.mk (Kd.R_below H7.out hB); have H9 := Aside0.mk hR; clear hR hB HS7 H7 hz0 hz1; have hz0 : w8.cell? ⟨gw, 0, none⟩ = some (.int .i64 n) := (blk_cell HS8.out.box 0).trans rfl; have hz1 : w8.cell? ⟨gw, 1, none⟩ = some (.slice Au mu cu) := (blk_cell HS8.out.box 1).trans rfl)
      | (go_at_call 18; refine (Ints_is _ _ _ (nats (shell n (jt n js l))) (nats (shell n (jt n js l))) H8.out H9.out).mono ?_; rintro e w9 ⟨rfl, hB⟩; rw [decide_eq_true (show nats (shell n (jt n js l)) = nats (shell n (jt n js l)) from rfl)]; have HS9 := Aside0.mk (HS8.out.below hB); clear hB HS8 H8 H9 hz0 hz1; have hz0 : w9.cell? ⟨gw, 0, none⟩ = some (.int .i64 n) := (blk_cell HS9.out.box 0).trans rfl; have hz1 : w9.cell? ⟨gw, 1, none⟩ = some (.slice Au mu cu) := (blk_cell HS9.out.box 1).trans rfl)
      | (go_at_call 10; refine (heads_is _).mono ?_; rintro e w10 ⟨rfl, hB⟩; have HS10 := Aside0.mk (HS9.out.below hB); clear hB HS9 hz0 hz1; have hz0 : w10.cell? ⟨gw, 0, none⟩ = some (.int .i64 n) := (blk_cell HS10.out.box 0).trans rfl; have hz1 : w10.cell? ⟨gw, 1, none⟩ = some (.slice Au mu cu) := (blk_cell HS10.out.box 1).trans rfl))
    go_wp2
    go_ret
    exact ⟨rfl, HS10.out.bel⟩
end Go.Proofs.Ytfkmngmnnlgjdaa.Gr

/- joined, walked. -/
namespace Go.Proofs.Ytfkmngmnnlgjdaa.Gr
open Go Go.RowKit Go.Proofs.Ytfkmngmnnlgjdaa.Gf Go.Proofs.Ytfkmngmnnlgjdaa.Pu Go.Proofs.Ytfkmngmnnlgjdaa.Pr Go.Proofs.Ytfkmngmnnlgjdaa.Mw Go.Proofs.YtfkmngmnnlgjdaaW.PrintWords Go.Proofs.YtfkmngmnnlgjdaaW.PrintLast Go.Proofs.YtfkmngmnnlgjdaaW.PrintMore
set_option linter.unusedVariables false
set_option linter.unusedSimpArgs false
/-- To how many of a row a node is joined. -/
def jcount (adj : Adj) (l : List Nat) (a : Nat) : Nat := (l.filter (adj a)).length
theorem jcount_succ (adj : Adj) (l : List Nat) (a i : Nat) (hi : i < l.length) : jcount adj (l.take (i + 1)) a = jcount adj (l.take i) a + (if adj a (l.getD i 0) then 1 else 0) := by
  unfold jcount
  rw [take_succ_getD l i hi, List.filter_append, List.length_append]
  generalize l.getD i 0 = b
  cases h : adj a b <;> simp [h]
theorem jcount_le (adj : Adj) (l : List Nat) (a i : Nat) : jcount adj (l.take i) a ≤ i := by
  unfold jcount
  refine Nat.le_trans (List.length_filter_le _ _) ?_
  rw [List.length_take]
  exact Nat.min_le_left _ _
set_option maxRecDepth 100000 in
set_option maxHeartbeats 1000000 in
theorem joined_is (w : World) (g n : Nat) (v : Value) (adj : Adj) (A : Option Addr) (c : Nat) (l : List Nat) (a : Nat) (hg : GIs w g v n adj) (hC : (Kd.int .i64).C w A l.length (nats l)) (hl : l.length ≤ 400) (ha : a < n) (hlt : ∀ x ∈ l, x < n) :
    Calls Try.prog 29 #[.pointer (some ⟨g, 0, none⟩), .slice A l.length c, .int .i64 a] w fun e w' => e = .returned (.int .i64 (jcount adj l a : Nat)) ∧ Below w.heap.size w w' := by
  have HG := Aside0.mk hg
  have HC := Aside0.mk hC
  clear hg hC
  go_enter Try.func29, Try.ntmps29
  go_wp2
  go_loopw [7, 8] (fun v7 v8 wr => ∃ i : Nat, i ≤ l.length ∧ v8 = .int .i64 i ∧ v7 = .int .i64 (jcount adj (l.take i) a : Nat) ∧ Aside0 (Below w.heap.size w wr)) (fun _ v8 _ => l.length - (intOf v8).toNat)
  case atStart => exact ⟨0, Nat.zero_le _, rfl, rfl, ⟨Below.refl _ _⟩⟩
  case round =>
    obtain ⟨i, hi, rfl, rfl, HB⟩ := hrel
    by_cases hil : i < l.length
    · obtain ⟨ad, rfl, hcell⟩ := Kd.at_int (Kd.C_below HC.out HB.out) (i : Int) (by omega) (by omega)
      rw [rd_nat, getD_nats l i hil, Int.toNat_natCast] at hcell
      have hbn := hlt _ (getD_mem l i hil)
      have hs := jcount_succ adj l a i hil
      have hle := jcount_le adj l a i
      generalize l.getD i 0 = b at hcell hbn hs
      have hi2 : (i : Int) < (l.length : Int) := by omega
      cases hab : adj a b with
      | true =>
        rw [hab] at hs
        have HS := Aside0.mk hs
        have HH := Aside0.mk (show hasN n adj a b = true by rw [hasN_nat ha]; exact hab)
        clear hs hab
        generalize jcount adj (l.take i) a = m at HS hle ⊢
        go_wp2_with (first
          | (go_at_call 16; refine (HasB _ g v n adj a b (HG.out.below HB.out) hbn).mono ?_; rintro e w2 ⟨rfl, hB⟩; rw [HH.out]; have HB2 := Aside0.mk (below_then HB.out HB.out.size hB); clear hB))
        exact ⟨⟨i + 1, by omega, by go_num, by rw [HS.out]; go_num, HB2⟩, by simp [intOf]; omega⟩
      | false =>
        rw [hab] at hs
        have HS := Aside0.mk hs
        have HH := Aside0.mk (show hasN n adj a b = false by rw [hasN_nat ha]; exact hab)
        clear hs hab
        generalize jcount adj (l.take i) a = m at HS hle ⊢
        go_wp2_with (first
          | (go_at_call 16; refine (HasB _ g v n adj a b (HG.out.below HB.out) hbn).mono ?_; rintro e w2 ⟨rfl, hB⟩; rw [HH.out]; have HB2 := Aside0.mk (below_then HB.out HB.out.size hB); clear hB))
        exact ⟨⟨i + 1, by omega, by go_num, by rw [HS.out]; simp, HB2⟩, by simp [intOf]; omega⟩
    · obtain rfl : i = l.length := by omega
      go_wp2
      go_ret
      rw [List.take_length]
      exact ⟨rfl, HB.out⟩
/-! ### what the shell's nodes are joined to -/
theorem shl_take (n : Nat) (adj : Adj) : ∀ d k : Nat, (shl n adj (k + d)).take k = shl n adj k := by
  intro d
  induction d with
  | zero => intro k; rw [Nat.add_zero]; exact List.take_of_length_le (by rw [shl_length]; exact Nat.le_refl _)
  | succ d ih =>
    intro k
    show ((shl n adj (k + d)) ++ [_]).take k = _
    rw [List.take_append_of_le_length (by rw [shl_length]; omega)]
    exact ih k
theorem shell_take {n : Nat} {adj : Adj} {i : Nat} (hi : i ≤ n) : (shell n adj).take i = shl n adj i := by
  have := shl_take n adj (n - i) i
  rw [show i + (n - i) = n by omega] at this
  exact this
theorem shell_mem {n : Nat} {adj : Adj} {b : Nat} (hb : b < n) : b ∈ shell n adj := by
  obtain ⟨hn, hl⟩ := shl_nodup (adj := adj) (Nat.le_refl n)
  have hlen := shl_length n adj n
  refine Decidable.byContradiction fun hnot => ?_
  have h2 : (b :: shell n adj).Nodup := List.nodup_cons.2 ⟨hnot, hn⟩
  have := nodup_le h2 (fun x hx => by
    rcases List.mem_cons.1 hx with rfl | hx
    · exact hb
    · exact hl x hx)
  rw [List.length_cons] at this
  unfold shell at this
  omega
theorem jcount_deg {n : Nat} {adj : Adj} (hS : Sane n adj) (i a : Nat) (hi : i ≤ n) : jcount adj ((shell n adj).drop i) a = deg n adj (shl n adj i) a := by
  obtain ⟨hn, hl⟩ := shl_nodup (adj := adj) (Nat.le_refl n)
  have hsplit := List.take_append_drop i (shell n adj)
  have hnd : ((shell n adj).take i ++ (shell n adj).drop i).Nodup := by rw [hsplit]; exact hn
  rw [List.nodup_append] at hnd
  have hmem : ∀ b, b ∈ (shell n adj).drop i ↔ b < n ∧ b ∉ shl n adj i := by
    intro b
    rw [← shell_take (n := n) (adj := adj) hi]
    constructor
    · intro h
      exact ⟨hl b (List.mem_of_mem_drop h), fun h2 => hnd.2.2 b h2 b h rfl⟩
    · rintro ⟨h1, h2⟩
      have := shell_mem (adj := adj) h1
      rw [← hsplit] at this
      rcases List.mem_append.1 this with h3 | h3
      · exact absurd h3 h2
      · exact h3
  unfold jcount deg
  apply Nat.le_antisymm
  · refine nodup_sub _ _ (List.Nodup.sublist (List.filter_sublist ..) hnd.2.1) (fun x hx => ?_)
    rw [List.mem_filter] at hx ⊢
    obtain ⟨h1, h2⟩ := (hmem x).1 hx.1
    exact ⟨List.mem_range.2 h1, by simp [hx.2, h2]⟩
  · refine nodup_sub _ _ (List.Pairwise.filter _ List.nodup_range) (fun x hx => ?_)
    rw [List.mem_filter] at hx ⊢
    have h1 := List.mem_range.1 hx.1
    have h2 := hx.2
    simp only [Bool.and_eq_true, Bool.not_eq_true', List.contains_eq_mem, decide_eq_false_iff_not] at h2
    exact ⟨(hmem x).2 ⟨h1, h2.2⟩, h2.1⟩
theorem shell_least {n : Nat} {adj : Adj} (hS : Sane n adj) {i k : Nat} (hik : i < k) (hk : k < n) : jcount adj ((shell n adj).drop i) ((shell n adj).getD i 0) ≤ jcount adj ((shell n adj).drop i) ((shell n adj).getD k 0) := by
  obtain ⟨hn, hl⟩ := shl_nodup (adj := adj) (Nat.le_refl n)
  have hlen := shl_length n adj n
  obtain ⟨q, hs, hb⟩ := shl_succ (adj := adj) (show i < n by omega)
  have hqi : (shell n adj).getD i 0 = q := by
    have h1 := shell_take (n := n) (adj := adj) (i := i + 1) (by omega)
    rw [take_succ_getD _ _ (by unfold shell; omega), shell_take (by omega), hs] at h1
    have h2 := List.append_cancel_left h1
    injection h2
  obtain ⟨h1, h2, h3⟩ := bst_some hb
  rw [jcount_deg hS i _ (by omega), jcount_deg hS i _ (by omega), hqi]
  have hkl : k < (shell n adj).length := by unfold shell; omega
  refine h3 _ (hl _ (getD_mem _ _ hkl)) ?_
  rw [← shell_take (n := n) (adj := adj) (i := i) (by omega)]
  rw [List.contains_eq_mem]
  refine decide_eq_false (fun hm => ?_)
  have hnd : ((shell n adj).take i ++ (shell n adj).drop i).Nodup := by rw [List.take_append_drop]; exact hn
  rw [List.nodup_append] at hnd
  refine hnd.2.2 _ hm ((shell n adj).getD k 0) ?_ rfl
  rw [List.getD_eq_getElem?_getD, List.getElem?_eq_getElem hkl, Option.getD_some]
  have : (shell n adj)[k] = ((shell n adj).drop i)[k - i]'(by rw [List.length_drop]; omega) := by
    rw [List.getElem_drop]
    congr 1
    omega
  rw [this]
  exact List.getElem_mem _
end Go.Proofs.Ytfkmngmnnlgjdaa.Gr

/- GraphShells, walked. -/
namespace Go.Proofs.Ytfkmngmnnlgjdaa.Gr
open Go Go.RowKit Go.Proofs.Ytfkmngmnnlgjdaa.Gf Go.Proofs.Ytfkmngmnnlgjdaa.Pu Go.Proofs.Ytfkmngmnnlgjdaa.Pr Go.Proofs.Ytfkmngmnnlgjdaa.Mw Go.Proofs.YtfkmngmnnlgjdaaW.PrintWords Go.Proofs.YtfkmngmnnlgjdaaW.PrintLast Go.Proofs.YtfkmngmnnlgjdaaW.PrintMore
set_option linter.unusedVariables false
set_option linter.unusedSimpArgs false
theorem cutT (A : Option Addr) (n c i : Nat) (hi : i ≤ n) (hc : n ≤ c) (W : World) : (Instr.slice 38 (.slice A n c) none (some (.int .i64 (i : Int))) none).run Try.prog W = .ok (.slice A i c) W := by
  obtain ⟨i0, hi0, hz0, hz1, hz2⟩ := info_parts infoI
  exact cut_to 38 3 .i64 Try.underlying38 hi0 A n c (i : Int) (by omega) (by omega) hc W
theorem cutF (A : Option Addr) (n c i : Nat) (hi : i ≤ n) (hc : n ≤ c) : ∃ A', (∀ W : World, (Instr.slice 38 (.slice A n c) (some (.int .i64 (i : Int))) none none).run Try.prog W = .ok (.slice A' (n - i) (c - i)) W) ∧
    ∀ (W : World) (l : List Nat), l.length = n → (Kd.int .i64).C W A l.length (nats l) → (Kd.int .i64).C W A' (l.drop i).length (nats (l.drop i)) := by
  obtain ⟨i0, hi0, hz0, hz1, hz2⟩ := info_parts infoI
  refine ⟨_, fun W => cut_from 38 3 .i64 Try.underlying38 hi0 1 hz1 A n c (i : Int) (by omega) (by omega) W, fun W l hl hC => ?_⟩
  have h1 : (nats l).length = l.length := nats_length l
  rw [← h1] at hC
  have := Kd.C_drop (m := i) (c := c) hC (by omega) (by omega)
  have e : (nats l).drop i = nats (l.drop i) := by unfold nats; rw [List.map_drop]
  rw [e, nats_length] at this
  exact this
theorem Amg_is (w : World) (A : Option Addr) (m c : Nat) (l : List Nat) (x : Nat) (hm : l.length = m) (hC : (Kd.int .i64).C w A l.length (nats l)) (hc : l.length ≤ c) :
    Calls Try.prog 28 #[.slice A m c, .int .i64 x] w fun e w' => e = .returned (.bool (l.contains x)) ∧ Below w.heap.size w w' := by
  subst hm
  rw [← nats_length l] at hC hc ⊢
  obtain ⟨k, hk⟩ := (among_f (nats l) (x : Int) (Kd.C_max hC)).rounds
  rw [contains_nats] at hk
  refine (horariumref14_Has.calls k A c (nats l) x _ w hC hc hk).mono ?_
  rintro e w' ⟨he, hD⟩
  exact ⟨he, hD.below⟩
theorem joined_at (w : World) (g n : Nat) (v : Value) (adj : Adj) (A : Option Addr) (m c : Nat) (l : List Nat) (a r : Nat) (hm : l.length = m) (hg : GIs w g v n adj) (hC : (Kd.int .i64).C w A l.length (nats l)) (hl : l.length ≤ 400) (ha : a < n) (hlt : ∀ x ∈ l, x < n) (hr : jcount adj l a = r) :
    Calls Try.prog 29 #[.pointer (some ⟨g, 0, none⟩), .slice A m c, .int .i64 a] w fun e w' => e = .returned (.int .i64 r) ∧ Below w.heap.size w w' := by
  subst hm
  subst hr
  exact joined_is w g n v adj A c l a hg hC hl ha hlt
/-- The shell's row in hand. -/
structure ShSt (w wr : World) (g : Nat) (v : Value) (n : Nat) (adj : Adj) (A : Option Addr) (c : Nat) : Prop where
  gr : GIs wr g v n adj
  row : (Kd.int .i64).C wr A (shell n adj).length (nats (shell n adj))
  bel : Below w.heap.size w wr
theorem ShSt.below {w wr w1 : World} {g : Nat} {v : Value} {n : Nat} {adj : Adj} {A : Option Addr} {c : Nat} (h : ShSt w wr g v n adj A c) (hB : Below wr.heap.size wr w1) : ShSt w w1 g v n adj A c :=
  ⟨h.gr.below hB, Kd.C_below h.row hB, below_then h.bel h.bel.size hB⟩
theorem ShSt.drew {w wr : World} {g : Nat} {v : Value} {n : Nat} {adj : Adj} {A : Option Addr} {c : Nat} (h : ShSt w wr g v n adj A c) : ShSt w wr.drew g v n adj A c := h.below (below_drew (Below.refl _ _))
theorem ShSt.cell {w wr : World} {g : Nat} {v : Value} {n : Nat} {adj : Adj} {ad : Addr} {c : Nat} (h : ShSt w wr g v n adj (some ad) c) {i x : Nat} (hi : i < n) (hx : x = (shell n adj).getD i 0) : wr.cell? (ad.add i) = some (.int .i64 x) := by
  have hl := shl_length n adj n
  obtain ⟨ad', e, hcell⟩ := Kd.at_int h.row (i : Int) (by omega) (by unfold shell; omega)
  injection e with e
  subst e
  rw [rd_nat, getD_nats _ i (by unfold shell; omega), Int.toNat_natCast, ← hx] at hcell
  exact hcell
theorem ShSt.some {w wr : World} {g : Nat} {v : Value} {n : Nat} {adj : Adj} {A : Option Addr} {c : Nat} (h : ShSt w wr g v n adj A c) (hn : 0 < n) : ∃ ad, A = Option.some ad := by
  have hl := shl_length n adj n
  obtain ⟨ad', e, hcell⟩ := Kd.at_int h.row 0 (by omega) (by unfold shell; omega)
  exact ⟨ad', e⟩
set_option maxRecDepth 100000 in
set_option maxHeartbeats 2000000 in
theorem Shells_is (w : World) (a : Int) (A : Option Addr) (l c : Nat) (js : List (Int × Int)) (hJ : JIs w A l js) :
    Calls Try.prog 6 #[.int .i64 a, .slice A l c] w fun e w' => e = .returned (.bool true) ∧ Below w.heap.size w w' := by
  have HJ := Aside0.mk hJ
  clear hJ
  cases hok : madeOk a l with
  | false =>
    have HK := Aside0.mk hok
    clear hok
    go_enter Try.func6, Try.ntmps6
    go_wp2_with (first
      | (go_at_call 21; refine (Made_no _ a A l c HK.out).mono ?_; rintro e w1 ⟨rfl, hB⟩; have HB := Aside0.mk hB; clear hB)
      | ((with_reducible refine gate_dst (N := 6) rfl ?_); refine box_event ?hg (N := 6) ?hd (cs := #[.int .i64 0, .slice none 0 0]) (t := 29) ?hr ?_; (case hd => rfl); (case hg => rfl); (case hr => first | (go_simp; done) | (go_simp; rfl)); intro gw hgw w2 hbox hB; have BW := Aside0.mk hbox; have HW := Aside0.mk (show w.heap.size ≤ gw by rw [hgw]; exact HB.out.size); have HB2 := Aside0.mk (below_then HB.out HB.out.size hB); clear hbox hB hgw HB; have hz0 : w2.cell? ⟨gw, 0, none⟩ = some (.int .i64 0) := (blk_cell BW.out 0).trans rfl; have hz1 : w2.cell? ⟨gw, 1, none⟩ = some (.slice none 0 0) := (blk_cell BW.out 1).trans rfl; have hfz0 := blk_frozen BW.out 0; have hfz1 := blk_frozen BW.out 1)
      | (go_at_call 10; refine (heads_is _).mono ?_; rintro e w5 ⟨rfl, hB⟩; have HB3 := Aside0.mk (below_then ((HB2.out.setCell (p := ⟨gw, 0, none⟩) HW.out _).setCell (p := ⟨gw, 1, none⟩) HW.out _) ((HB2.out.setCell (p := ⟨gw, 0, none⟩) HW.out _).setCell (p := ⟨gw, 1, none⟩) HW.out _).size hB); clear hB))
    go_ret
    exact ⟨rfl, HB3.out⟩
  | true =>
    obtain ⟨n, rfl, hn, hl⟩ := madeOk_nat hok
    clear hok
    have hsl : (shell n (jt n js l)).length = n := shl_length n (jt n js l) n
    have hss : (shell n (jt n js l)).Nodup ∧ ∀ x ∈ shell n (jt n js l), x < n := shl_nodup (adj := jt n js l) (Nat.le_refl n)
    have hS := jt_sane n js l
    have HSL := Aside0.mk (And.intro hsl hss)
    clear hsl hss
    go_enter Try.func6, Try.ntmps6
    go_wp2_with (first
      | (go_at_call 21; refine (Made_is _ n A l c js hn hl HJ.out).mono ?_; rintro e w1 ⟨g, v, u, rfl, hG, hR, hV, hB⟩; obtain ⟨Au, mu, cu, rfl⟩ := hR.shape; have HG := Aside0.mk hG; have HR := Aside0.mk hR; have HV := Aside0.mk hV; have HB := Aside0.mk hB; clear hG hR hV hB)
      | ((with_reducible refine gate_dst (N := 6) rfl ?_); refine box_event ?hg (N := 6) ?hd (cs := #[.int .i64 0, .slice none 0 0]) (t := 29) ?hr ?_; (case hd => rfl); (case hg => rfl); (case hr => first | (go_simp; done) | (go_simp; rfl)); intro gw hgw w2 hbox hB; have BW := Aside0.mk hbox; have HG2 := Aside0.mk (HG.out.below hB); have HR2 := Aside0.mk (HR.out.below hB); have HW := Aside0.mk (show w.heap.size ≤ gw by rw [hgw]; exact HB.out.size); have HB2 := Aside0.mk (below_then HB.out HB.out.size hB); clear hbox hB hgw HB HG HR; have hz0 : w2.cell? ⟨gw, 0, none⟩ = some (.int .i64 0) := (blk_cell BW.out 0).trans rfl; have hz1 : w2.cell? ⟨gw, 1, none⟩ = some (.slice none 0 0) := (blk_cell BW.out 1).trans rfl; have hfz0 := blk_frozen BW.out 0; have hfz1 := blk_frozen BW.out 1)
      | (go_at_call 26; have hP := JSt.put HG2.out HR2.out BW.out HW.out HV.out HB2.out; refine (Shell_is _ g n v _ hP.gr).mono ?_; rintro e w4 ⟨v4, rfl, hR, hB⟩; obtain ⟨A4, c4, rfl, hc4, hC4⟩ := Kd.R_reads hR; rw [nats_length] at hC4 hc4 ⊢; have HS := Aside0.mk (ShSt.mk (c := c4) (hP.gr.below hB) hC4 (below_then hP.bel hP.bel.size hB)); have HC4 := Aside0.mk hc4; clear hP hR hB hC4 hc4 HG2 HR2 BW HV HB2 hz0 hz1 hfz0 hfz1; rw [show (shell n (jt n js l)).length = n from HSL.out.1] at HC4 ⊢))
    go_loopw [8] (fun v8 wr => ∃ i : Nat, i ≤ n ∧ v8 = .int .i64 i ∧ Aside0 (ShSt w wr g v n (jt n js l) A4 c4)) (fun v8 _ => n - (intOf v8).toNat)
    case atStart => exact ⟨0, Nat.zero_le _, rfl, HS⟩
    case round =>
      clear HS
      obtain ⟨i, hi, rfl, HS⟩ := hrel
      by_cases hil : i < n
      · obtain ⟨ad, rfl⟩ := HS.out.some (by omega)
        obtain ⟨x, hx⟩ : ∃ x, x = (shell n (jt n js l)).getD i 0 := ⟨_, rfl⟩
        have hc0 := HS.out.cell hil hx
        have hxn : x < n := by rw [hx]; exact HSL.out.2.2 _ (getD_mem _ _ (by have := HSL.out.1;  omega))
        have hnc : ((shell n (jt n js l)).take i).contains x = false := by rw [hx]; exact not_in_take HSL.out.2.1 (by have := HSL.out.1;  omega)
        have hcut := cutT (some ad) n c4 i hi HC4.out
        have hi2 : (i : Int) < (n : Int) := by omega
        have hx0 : decide ((x : Int) < 0) = false := decide_eq_false (by omega)
        have hx1 : decide ((n : Int) ≤ (x : Int)) = false := decide_eq_false (by omega)
        have HT := Aside0.mk (show ((shell n (jt n js l)).take i).length = i by rw [List.length_take]; have := HSL.out.1; omega)
        have HTc := Aside0.mk (show ∀ W, (Kd.int .i64).C W (some ad) (shell n (jt n js l)).length (nats (shell n (jt n js l))) → (Kd.int .i64).C W (some ad) ((shell n (jt n js l)).take i).length (nats ((shell n (jt n js l)).take i)) from fun W h => by
          rw [← nats_length] at h
          have h2 := Kd.C_take (m := i) h (by rw [nats_length]; have := HSL.out.1; omega)
          have e : (nats (shell n (jt n js l))).take i = nats ((shell n (jt n js l)).take i) := by unfold nats; rw [List.map_take]
          rw [e, nats_length] at h2
          exact h2)
        have HTl := Aside0.mk (show ((shell n (jt n js l)).take i).length ≤ c4 by have := HT.out; have := HC4.out; omega)
        have hx2 : decide (n ≤ x) = false := decide_eq_false (by omega)
        have HX := Aside0.mk hx
        have HN := Aside0.mk hnc
        clear hx hnc
        have HSd := Aside0.mk HS.out.drew
        clear HS
        go_wp2
        go_region_held3 (fun w' => w'.cell? (ad.add i) = some (.int .i64 x)) (first | exact hc0) (first
          | (go_at_call 28; refine (Amg_is _ _ i c4 ((shell n (jt n js l)).take i) x HT.out (HTc.out _ HSd.out.row) HTl.out).mono ?_; rintro e w5 ⟨rfl, hB⟩; rw [HN.out]; have HS5 := Aside0.mk (HSd.out.below hB); clear HSd hB hc0; have hc0 := HS5.out.cell hil HX.out))
        go_wp2
        go_loopw [9] (fun v9 wr => ∃ k : Nat, i < k ∧ k ≤ n ∧ v9 = .int .i64 k ∧ Aside0 (ShSt w wr g v n (jt n js l) (some ad) c4)) (fun v9 _ => n - (intOf v9).toNat)
        case atStart => exact ⟨i + 1, by omega, by omega, by go_num, HS5⟩
        case round =>
          clear HS5 hc0 hcut
          obtain ⟨k, hik, hk, rfl, HS⟩ := hrel
          by_cases hkn : k < n
          · obtain ⟨y, hy⟩ : ∃ y, y = (shell n (jt n js l)).getD k 0 := ⟨_, rfl⟩
            have hc0 := HS.out.cell hil HX.out
            have hc1 := HS.out.cell hkn hy
            have hyn : y < n := by rw [hy]; exact HSL.out.2.2 _ (getD_mem _ _ (by have := HSL.out.1;  omega))
            obtain ⟨A', hcut, hrd⟩ := cutF (some ad) n c4 i hi HC4.out
            have hk2 : (k : Int) < (n : Int) := by omega
            have hle := shell_least (n := n) (adj := jt n js l) hS hik hkn
            rw [← HX.out, ← hy] at hle
            obtain ⟨r1, hr1⟩ : ∃ r, jcount (jt n js l) ((shell n (jt n js l)).drop i) y = r := ⟨_, rfl⟩
            obtain ⟨r2, hr2⟩ : ∃ r, jcount (jt n js l) ((shell n (jt n js l)).drop i) x = r := ⟨_, rfl⟩
            rw [hr1, hr2] at hle
            have hcmp : decide ((r1 : Int) < (r2 : Int)) = false := decide_eq_false (by omega)
            have hcmp2 : decide (r1 < r2) = false := decide_eq_false (by omega)
            have HL := Aside0.mk (show ((shell n (jt n js l)).drop i).length = n - i by rw [List.length_drop]; have := HSL.out.1;  omega)
            have HL4 := Aside0.mk (show ((shell n (jt n js l)).drop i).length ≤ 400 by have := HL.out; omega)
            have HM := Aside0.mk (fun z (hz : z ∈ (shell n (jt n js l)).drop i) => HSL.out.2.2 z (List.mem_of_mem_drop hz))
            have HR := Aside0.mk (And.intro hr1 hr2)
            have HY := Aside0.mk hy
            have HD := Aside0.mk hrd
            clear hr1 hr2 hy hrd
            have HSd := Aside0.mk HS.out.drew
            clear HS
            go_wp2
            go_region_held3 (fun w' => w'.cell? (ad.add i) = some (.int .i64 x) ∧ w'.cell? (ad.add k) = some (.int .i64 y)) (first | exact ⟨hc0, hc1⟩) (first
              | (go_at_call 29; (with_reducible refine (joined_at _ g n v _ A' (n - i) (c4 - i) ((shell n (jt n js l)).drop i) y r1 HL.out HSd.out.gr (HD.out _ _ HSL.out.1 HSd.out.row) HL4.out hyn HM.out HR.out.1).mono ?_); rintro e w6 ⟨rfl, hB⟩; have HS6 := Aside0.mk (HSd.out.below hB); clear HSd hB hc0 hc1; have hc0 := HS6.out.cell hil HX.out; have hc1 := HS6.out.cell hkn HY.out)
              | (go_at_call 29; (with_reducible refine (joined_at _ g n v _ A' (n - i) (c4 - i) ((shell n (jt n js l)).drop i) x r2 HL.out HS6.out.gr (HD.out _ _ HSL.out.1 HS6.out.row) HL4.out hxn HM.out HR.out.2).mono ?_); rintro e w7 ⟨rfl, hB⟩; have HS7 := Aside0.mk (HS6.out.below hB); clear HS6 hB hc0 hc1; have hc0 := HS7.out.cell hil HX.out; have hc1 := HS7.out.cell hkn HY.out))
            go_wp2
            exact ⟨⟨k + 1, by omega, by omega, by go_num, HS7⟩, by simp [intOf]; omega⟩
          · obtain rfl : k = n := by omega
            go_wp2
            exact ⟨⟨i + 1, by omega, by go_num, HS⟩, by simp [intOf]; omega⟩
      · obtain rfl : i = n := by omega
        go_wp2_with (first
          | (go_at_call 10; refine (heads_is _).mono ?_; rintro e w5 ⟨rfl, hB⟩; have HS5 := Aside0.mk (HS.out.below hB); clear hB))
        go_ret
        exact ⟨rfl, HS5.out.bel⟩
end Go.Proofs.Ytfkmngmnnlgjdaa.Gr

/- grown, walked: all of a part can be come to from its first node. -/
namespace Go.Proofs.Ytfkmngmnnlgjdaa.Gr
open Go Go.RowKit Go.Proofs.Ytfkmngmnnlgjdaa.Gf Go.Proofs.Ytfkmngmnnlgjdaa.Pu Go.Proofs.Ytfkmngmnnlgjdaa.Pr Go.Proofs.Ytfkmngmnnlgjdaa.Mw Go.Proofs.YtfkmngmnnlgjdaaW.PrintWords Go.Proofs.YtfkmngmnnlgjdaaW.PrintLast Go.Proofs.YtfkmngmnnlgjdaaW.PrintMore
set_option linter.unusedVariables false
set_option linter.unusedSimpArgs false
theorem Srch_snoc {n : Nat} {adj : Adj} (hS : Sane n adj) {a : Nat} {L : List Nat} {i : Nat} (h : Srch n adj a L i) {x b : Nat} (hx : x ∈ L) (hxb : adj x b = true) (hb : b ∉ L) : Srch n adj a (L ++ [b]) i where
  here := List.mem_append_left _ h.here
  nodup := by
    rw [List.nodup_append]
    refine ⟨h.nodup, by simp, fun y hy z hz => ?_⟩
    rw [List.mem_singleton] at hz
    rintro rfl
    exact hb (hz ▸ hy)
  reach y hy := by
    rcases List.mem_append.1 hy with h1 | h1
    · exact h.reach y h1
    · rw [List.mem_singleton.1 h1]; exact (h.reach _ hx).step hxb
  lt y hy := by
    rcases List.mem_append.1 hy with h1 | h1
    · exact h.lt y h1
    · rw [List.mem_singleton.1 h1]; exact hS.lt2 hxb
  le := by rw [List.length_append]; have := h.le; omega
  shut j hj y hy := by
    have := h.le
    rw [getD_app L b j (by omega)] at hy
    exact List.mem_append_left _ (h.shut j hj y hy)
/-- One node of the search is being looked at; the first k of the row have been tried. -/
structure SrchK (n : Nat) (adj : Adj) (a : Nat) (L : List Nat) (i : Nat) (cs : List Nat) (k : Nat) : Prop where
  s : Srch n adj a L i
  lt : i < L.length
  upto : ∀ y ∈ cs.take k, adj (L.getD i 0) y = true → y ∈ L
theorem SrchK.over {n : Nat} {adj : Adj} {a : Nat} {L : List Nat} {i : Nat} {cs : List Nat} (h : SrchK n adj a L i cs cs.length) (hcs : ∀ y, y ∈ cs ↔ Pu.Reach adj a y) : Srch n adj a L (i + 1) where
  here := h.s.here
  nodup := h.s.nodup
  reach := h.s.reach
  lt := h.s.lt
  le := h.lt
  shut j hj y hy := by
    by_cases e : j = i
    · subst e
      refine h.upto y ?_ hy
      rw [List.take_length]
      exact (hcs y).2 ((h.s.reach _ (getD_mem L j h.lt)).step hy)
    · exact h.s.shut j (by omega) y hy
theorem SrchK.skip {n : Nat} {adj : Adj} {a : Nat} {L : List Nat} {i : Nat} {cs : List Nat} {k : Nat} (h : SrchK n adj a L i cs k) (hk : k < cs.length) (hno : adj (L.getD i 0) (cs.getD k 0) = false ∨ cs.getD k 0 ∈ L) : SrchK n adj a L i cs (k + 1) := by
  refine ⟨h.s, h.lt, fun y hy hay => ?_⟩
  rw [take_succ_getD cs k hk] at hy
  rcases List.mem_append.1 hy with h1 | h1
  · exact h.upto y h1 hay
  · rw [List.mem_singleton.1 h1] at hay ⊢
    rcases hno with h2 | h2
    · rw [h2] at hay; cases hay
    · exact h2
theorem SrchK.new {n : Nat} {adj : Adj} (hS : Sane n adj) {a : Nat} {L : List Nat} {i : Nat} {cs : List Nat} {k : Nat} (h : SrchK n adj a L i cs k) (hk : k < cs.length) (hyes : adj (L.getD i 0) (cs.getD k 0) = true) (hnot : cs.getD k 0 ∉ L) : SrchK n adj a (L ++ [cs.getD k 0]) i cs (k + 1) := by
  refine ⟨Srch_snoc hS h.s (getD_mem L i h.lt) hyes hnot, by rw [List.length_append]; have := h.lt; omega, fun y hy hay => ?_⟩
  rw [getD_app L _ i h.lt] at hay
  rw [take_succ_getD cs k hk] at hy
  rcases List.mem_append.1 hy with h1 | h1
  · exact List.mem_append_left _ (h.upto y h1 hay)
  · exact List.mem_append_right _ h1
theorem Srch_done {n : Nat} {adj : Adj} {a : Nat} {L : List Nat} (h : Srch n adj a L L.length) {cs : List Nat} (hn : cs.Nodup) (hcs : ∀ y, y ∈ cs ↔ Pu.Reach adj a y) : L.length = cs.length := by
  apply Nat.le_antisymm
  · exact nodup_sub _ _ h.nodup (fun x hx => (hcs x).2 ((h.all x).1 hx))
  · exact nodup_sub _ _ hn (fun x hx => (h.all x).2 ((hcs x).1 hx))
end Go.Proofs.Ytfkmngmnnlgjdaa.Gr

/- grown, walked. -/
namespace Go.Proofs.Ytfkmngmnnlgjdaa.Gr
open Go Go.RowKit Go.Proofs.Ytfkmngmnnlgjdaa.Gf Go.Proofs.Ytfkmngmnnlgjdaa.Pu Go.Proofs.Ytfkmngmnnlgjdaa.Pr Go.Proofs.Ytfkmngmnnlgjdaa.Mw Go.Proofs.YtfkmngmnnlgjdaaW.PrintWords Go.Proofs.YtfkmngmnnlgjdaaW.PrintLast Go.Proofs.YtfkmngmnnlgjdaaW.PrintMore
set_option linter.unusedVariables false
set_option linter.unusedSimpArgs false
/-- A cell of a row of nodes. -/
theorem nat_cell {w : World} {ad : Addr} {l : List Nat} (hC : (Kd.int .i64).C w (some ad) l.length (nats l)) {i x : Nat} (hi : i < l.length) (hx : x = l.getD i 0) : w.cell? (ad.add i) = some (.int .i64 x) := by
  obtain ⟨ad', e, hcell⟩ := Kd.at_int hC (i : Int) (by omega) (by omega)
  injection e with e
  subst e
  rw [rd_nat, getD_nats l i hi, Int.toNat_natCast, ← hx] at hcell
  exact hcell
theorem nat_some {w : World} {A : Option Addr} {l : List Nat} (hC : (Kd.int .i64).C w A l.length (nats l)) (hl : 0 < l.length) : ∃ ad, A = some ad := by
  obtain ⟨ad', e, _⟩ := Kd.at_int hC 0 (by omega) (by omega)
  exact ⟨ad', e⟩
theorem HasQ (w : World) (g : Nat) (v : Value) (n : Nat) (adj : Adj) (a b : Nat) (r : Bool) (h : GIs w g v n adj) (hb : b < n) (hr : hasN n adj a b = r) (k : Nat) :
    Calls Try.prog 16 #[.pointer (some ⟨g, 0, none⟩), .int .i64 a, .int .i64 b] (w.drewN k) fun e w' => e = .returned (.bool r) ∧ ∃ m, w' = (w.drewN k).drewN m := by
  have hn := h.le
  refine (Has_is (w.drewN k) g v n adj a b (h.below (pw_below_drewN (Below.refl _ _) k)) (by omega) (by omega)).mono ?_
  rintro e w' ⟨he, hD⟩
  rw [hr] at he
  exact ⟨he, hD.out⟩
set_option maxRecDepth 100000 in
set_option maxHeartbeats 2000000 in
theorem grown_is (w : World) (g n : Nat) (v : Value) (adj : Adj) (ad : Addr) (m c : Nat) (cs : List Nat) (a : Nat) (hg : GIs w g v n adj) (ha : a < n) (hm : cs.length = m) (hC : (Kd.int .i64).C w (some ad) cs.length (nats cs)) (hc : m ≤ c) (hh : a = cs.getD 0 0) (hpos : 0 < m) (hn : cs.Nodup) (hcs : ∀ y, y ∈ cs ↔ Pu.Reach adj a y) :
    Calls Try.prog 23 #[.pointer (some ⟨g, 0, none⟩), .slice (some ad) m c] w fun e w' => e = .returned (.bool true) ∧ Below w.heap.size w w' := by
  have hn4 := hg.le
  have hS := hg.sane
  have HG := Aside0.mk hg
  have HC := Aside0.mk hC
  have HM := Aside0.mk hm
  have hc0 : w.cell? ad = some (.int .i64 a) := by
    have := nat_cell hC (i := 0) (by omega) hh
    simpa [Addr.add] using this
  have hlt : ∀ x ∈ cs, x < n := fun x hx => ((hcs x).1 hx).lt hS ha
  have hml : m ≤ n := by rw [← hm]; exact nodup_le hn hlt
  have HN := Aside0.mk (And.intro hn (And.intro hcs hlt))
  have hs0 : Srch n adj a [a] 0 := ⟨by simp, by simp, fun x hx => by rw [List.mem_singleton.1 hx]; exact .refl, fun x hx => by rw [List.mem_singleton.1 hx]; exact ha, by simp, fun j hj => by omega⟩
  have HS0 := Aside0.mk hs0
  clear hg hC hm hn hcs hlt hs0 hh
  go_enter Try.func23, Try.ntmps23
  go_wp2_with (first
    | ((with_reducible refine gate_dst (N := 11) rfl ?_); refine Kd.R_lit (Kd.int .i64) _ 3 ?hg (N := 11) ?hd (xs := ([(a : Int)] : List Int)) (inner := [.int .i64 a]) (ok := fun _ => True) (okp := fun _ => True) ?hr ?hp (fun _ hk => hk) trivial (Below.refl _ _) (Nat.le_refl _) (by simp) ?_; (case hd => rfl); (case hg => rfl); (case hr => first | (go_simp; done) | (go_simp; rfl)); (case hp => exact (Reps.one (show Kd.M (Kd.int .i64) _ _ _ (a : Int) [.int .i64 a] from rfl) (Reps.none _ _))); intro v11 w1 hR1 hB1 hg1 hnew1; obtain ⟨A11, c11, rfl⟩ := Kd.R_slice hR1; have HR1 := Aside0.mk hR1; have HB1 := Aside0.mk hB1; clear hR1 hB1 hg1 hnew1))
  go_loopg [5, 6] (n + 1) (fun q v5 v6 wr => ∃ (L : List Nat) (i k5 : Nat) (A5 : Option Addr) (c5 : Nat), v6 = .int .i64 i ∧ v5 = .slice A5 k5 c5 ∧ Aside0 (L.length = k5) ∧ Aside0 (Srch n adj a L i) ∧ Aside0 (n + 1 ≤ q + i) ∧ Aside0 ((Kd.int .i64).R 3 wr w.heap.size (fun _ => True) (.slice A5 k5 c5) (nats L)) ∧ Aside0 (Below w.heap.size w wr))
  case atStart => exact ⟨[a], 0, 1, A11, c11, rfl, rfl, ⟨rfl⟩, HS0, ⟨by omega⟩, HR1, HB1⟩
  case round =>
    clear HS0 HR1 HB1 hc0
    obtain ⟨L, i, k5, A5, c5, rfl, rfl, HK, HS, HQ, HR, HB⟩ := hrel
    have hLn := nodup_le HS.out.nodup HS.out.lt
    have hle := HS.out.le
    have hk5 := HK.out
    by_cases hi : i < k5
    · cases gk with
      | zero => exact absurd HQ.out (by omega)
      | succ k1 =>
      have HSK := Aside0.mk (SrchK.mk HS.out (by omega) (fun y hy _ => by simp at hy) : SrchK n adj a L i cs 0)
      have hi2 : (i : Int) < (k5 : Int) := by omega
      have HKL := Aside0.mk (And.intro hk5 (And.intro hLn hle))
      clear HS hk5 hLn hle HK
      go_wp2
      go_loopw [5, 7] (fun v5 v7 wr => ∃ (L : List Nat) (k k5 : Nat) (A5 : Option Addr) (c5 : Nat), k ≤ m ∧ v7 = .int .i64 k ∧ v5 = .slice A5 k5 c5 ∧ Aside0 (L.length = k5) ∧ Aside0 (SrchK n adj a L i cs k) ∧ Aside0 ((Kd.int .i64).R 3 wr w.heap.size (fun _ => True) (.slice A5 k5 c5) (nats L)) ∧ Aside0 (Below w.heap.size w wr)) (fun _ v7 _ => m - (intOf v7).toNat)
      case atStart => exact ⟨L, 0, k5, A5, c5, Nat.zero_le _, rfl, rfl, ⟨HKL.out.1⟩, HSK, HR, HB⟩
      case round =>
        clear HSK HR HB HKL hi2 hi
        obtain ⟨L, k, k5, A5, c5, hk, rfl, rfl, HK, HSK, HR, HB⟩ := hrel
        by_cases hkm : k < m
        · have hiL := HSK.out.lt
          have hLn := nodup_le HSK.out.s.nodup HSK.out.s.lt
          have hk5 := HK.out
          have hkcs : k < cs.length := by have := HM.out; omega
          have hRC := (Kd.R_reads' HR.out).2.2
          rw [nats_length] at hRC
          obtain ⟨ad5, rfl⟩ := nat_some hRC (by omega)
          obtain ⟨x, hx⟩ : ∃ x, x = L.getD i 0 := ⟨_, rfl⟩
          obtain ⟨b, hb⟩ : ∃ b, b = cs.getD k 0 := ⟨_, rfl⟩
          have hc5 : wr.cell? (ad5.add i) = some (.int .i64 x) := nat_cell hRC hiL hx
          have hck : wr.cell? (ad.add k) = some (.int .i64 b) := nat_cell (Kd.C_below HC.out HB.out) hkcs hb
          have hxn : x < n := by rw [hx]; exact HSK.out.s.lt _ (getD_mem L i hiL)
          have hbn : b < n := by rw [hb]; exact HN.out.2.2 _ (getD_mem cs k hkcs)
          have HKI := Aside0.mk (And.intro hiL (And.intro hx (And.intro hkcs hb)))
          have hi5 : (i : Int) < (k5 : Int) := by omega
          have hkm2 : (k : Int) < (m : Int) := by omega
          have HRd := Aside0.mk (Kd.R_drew HR.out)
          have HBd := Aside0.mk (below_drew HB.out)
          have HR0 := HR
          have HB0 := HB
          clear hRC hk5 hkcs hx hb HR HB
          cases hab : adj x b with
          | false =>
            have HA := Aside0.mk (show hasN n adj x b = false by rw [hasN_nat hxn]; exact hab)
            have HSK2 := Aside0.mk (HSK.out.skip HKI.out.2.2.1 (Or.inl (by rw [← HKI.out.2.1, ← HKI.out.2.2.2]; exact hab)))
            clear hab
            have HGr := Aside0.mk (HG.out.below HB0.out)
            go_wp2
            go_quiet (first | (go_at_call 16; exact Calls.quiet_of (HasQ _ g v n adj x b false HGr.out hbn HA.out _)))
            go_wp2
            have HRq := Aside0.mk (Kd.R_drewN HR0.out nq)
            have HBq := Aside0.mk (pw_below_drewN HB0.out nq)
            exact ⟨⟨L, k + 1, k5, some ad5, c5, by omega, by go_num, rfl, HK, HSK2, HRq, HBq⟩, by simp [intOf]; omega⟩
          | true =>
            have HA := Aside0.mk (show hasN n adj x b = true by rw [hasN_nat hxn]; exact hab)
            cases hin : L.contains b with
            | true =>
              have HIn := Aside0.mk hin
              have HSK2 := Aside0.mk (HSK.out.skip HKI.out.2.2.1 (Or.inr (by rw [← HKI.out.2.2.2]; simpa using hin)))
              clear hab hin
              go_wp2
              go_region_held3 (fun w' => w'.cell? (ad5.add i) = some (.int .i64 x) ∧ w'.cell? (ad.add k) = some (.int .i64 b)) (first | exact ⟨hc5, hck⟩) (first
              | (go_at_call 16; refine (HasB _ g v n adj x b (HG.out.below HBd.out) hbn).mono ?_; rintro e w6 ⟨rfl, hB⟩; rw [HA.out]; have HR6 := Aside0.mk (Kd.R_below HRd.out hB); have HB6 := Aside0.mk (below_then HBd.out HBd.out.size hB); clear HRd HBd hB hc5 hck; have HRd := HR6; have HBd := HB6; clear HR6 HB6; have hc5 : w6.cell? (ad5.add i) = some (.int .i64 x) := nat_cell (by have h := (Kd.R_reads' HRd.out).2.2; rw [nats_length] at h; exact h) HKI.out.1 HKI.out.2.1; have hck : w6.cell? (ad.add k) = some (.int .i64 b) := nat_cell (Kd.C_below HC.out HBd.out) HKI.out.2.2.1 HKI.out.2.2.2)
              | (go_at_call 28; refine (Amg_is _ (some ad5) k5 c5 L b HK.out (by have h := (Kd.R_reads' HRd.out).2.2; rw [nats_length] at h; exact h) (by have h := (Kd.R_reads' HRd.out).2.1; have := HK.out; omega)).mono ?_; rintro e w7 ⟨rfl, hB⟩; rw [HIn.out]; have HR7 := Aside0.mk (Kd.R_below HRd.out hB); have HB7 := Aside0.mk (below_then HBd.out HBd.out.size hB); clear HRd HBd hB hc5 hck; have HRd := HR7; have HBd := HB7; clear HR7 HB7; have hc5 : w7.cell? (ad5.add i) = some (.int .i64 x) := nat_cell (by have h := (Kd.R_reads' HRd.out).2.2; rw [nats_length] at h; exact h) HKI.out.1 HKI.out.2.1; have hck : w7.cell? (ad.add k) = some (.int .i64 b) := nat_cell (Kd.C_below HC.out HBd.out) HKI.out.2.2.1 HKI.out.2.2.2))
              go_wp2
              exact ⟨⟨L, k + 1, k5, some ad5, c5, by omega, by go_num, rfl, HK, HSK2, HRd, HBd⟩, by simp [intOf]; omega⟩
            | false =>
              have HIn := Aside0.mk hin
              have HSK2 := Aside0.mk (HSK.out.new hS HKI.out.2.2.1 (by rw [← HKI.out.2.1, ← HKI.out.2.2.2]; exact hab) (by rw [← HKI.out.2.2.2]; simpa using hin))
              rw [← HKI.out.2.2.2] at HSK2
              clear hab hin
              go_wp2
              go_region_held3 (fun w' => w'.cell? (ad5.add i) = some (.int .i64 x) ∧ w'.cell? (ad.add k) = some (.int .i64 b)) (first | exact ⟨hc5, hck⟩) (first
              | (go_at_call 16; refine (HasB _ g v n adj x b (HG.out.below HBd.out) hbn).mono ?_; rintro e w6 ⟨rfl, hB⟩; rw [HA.out]; have HR6 := Aside0.mk (Kd.R_below HRd.out hB); have HB6 := Aside0.mk (below_then HBd.out HBd.out.size hB); clear HRd HBd hB hc5 hck; have HRd := HR6; have HBd := HB6; clear HR6 HB6; have hc5 : w6.cell? (ad5.add i) = some (.int .i64 x) := nat_cell (by have h := (Kd.R_reads' HRd.out).2.2; rw [nats_length] at h; exact h) HKI.out.1 HKI.out.2.1; have hck : w6.cell? (ad.add k) = some (.int .i64 b) := nat_cell (Kd.C_below HC.out HBd.out) HKI.out.2.2.1 HKI.out.2.2.2)
              | (go_at_call 28; refine (Amg_is _ (some ad5) k5 c5 L b HK.out (by have h := (Kd.R_reads' HRd.out).2.2; rw [nats_length] at h; exact h) (by have h := (Kd.R_reads' HRd.out).2.1; have := HK.out; omega)).mono ?_; rintro e w7 ⟨rfl, hB⟩; rw [HIn.out]; have HR7 := Aside0.mk (Kd.R_below HRd.out hB); have HB7 := Aside0.mk (below_then HBd.out HBd.out.size hB); clear HRd HBd hB hc5 hck; have HRd := HR7; have HBd := HB7; clear HR7 HB7; have hc5 : w7.cell? (ad5.add i) = some (.int .i64 x) := nat_cell (by have h := (Kd.R_reads' HRd.out).2.2; rw [nats_length] at h; exact h) HKI.out.1 HKI.out.2.1; have hck : w7.cell? (ad.add k) = some (.int .i64 b) := nat_cell (Kd.C_below HC.out HBd.out) HKI.out.2.2.1 HKI.out.2.2.2))
              go_wp2_with (first
                | ((with_reducible refine gate_builtin (b := .append) (xs := #[.tmp 43, .tmp 48]) rfl ?_); refine Kd.R_append (Kd.int .i64) (w0 := w) w.heap.size rfl (.tmp 43) (.tmp 48) 38 3 (.int .i64 0) 8 rfl Try.underlying38 infoI rfl (by decide) (by omega) (.slice (some ad5) k5 c5) (nats L) (b : Int) [.int .i64 b] (fun _ => True) (fun _ => False) rfl rfl rfl (fun _ hk => hk.elim) (fun _ _ => trivial) (by (with_reducible repeat (first | apply Kd.R_alloc | apply Kd.R_drewN | apply Kd.R_drew)); exact HRd.out) (by repeat (first | (with_reducible first | exact HBd.out | apply below_alloc | apply pw_below_drewN | apply below_drew1) | exact HBd.out)) (below_size (by repeat (first | (with_reducible first | exact HBd.out | apply below_alloc | apply pw_below_drewN | apply below_drew1) | exact HBd.out))) (by rw [nats_length]; omega) ?_; intro v49 w8 hR8 hB8 hg8 hat8; have HR8 := Aside0.mk hR8; have HB8 := Aside0.mk hB8; clear hR8 hB8 hg8 hat8))
              have hR8 := HR8.out
              rw [show nats L ++ [(b : Int)] = nats (L ++ [b]) by simp [nats]] at hR8
              obtain ⟨A8, c8, rfl⟩ := Kd.R_slice hR8
              rw [nats_length] at hR8 ⊢
              exact ⟨⟨L ++ [b], k + 1, _, A8, c8, by omega, by go_num, rfl, ⟨rfl⟩, HSK2, ⟨hR8⟩, HB8⟩, by simp [intOf]; omega⟩
        · obtain rfl : k = m := by omega
          have hiL := HSK.out.lt
          have hLn := nodup_le HSK.out.s.nodup HSK.out.s.lt
          go_wp2
          go_roundg k1
          case measure => omega
          case rel => exact ⟨L, i + 1, k5, A5, c5, by go_num, rfl, HK, ⟨(by have h := HSK.out; rw [← HM.out] at h; exact h.over HN.out.2.1)⟩, ⟨by have := HQ.out; omega⟩, HR, HB⟩
    · obtain rfl : i = k5 := by omega
      have HD := Aside0.mk (Srch_done (cs := cs) (by rw [hk5]; exact HS.out) HN.out.1 HN.out.2.1)
      have hkm : i = m := by have := HD.out; have := HM.out; omega
      subst hkm
      have hz : ((i : Int) == (i : Int)) = true := by simp
      go_wp2
      go_ret
      exact ⟨rfl, HB.out⟩
end Go.Proofs.Ytfkmngmnnlgjdaa.Gr

/- Plain facts: the parts cover the nodes, each rises, their first nodes rise; a row that numbers each node by its part. -/
namespace Go.Proofs.Ytfkmngmnnlgjdaa.Pu
open Go.Proofs.Ytfkmngmnnlgjdaa.Pr
open Classical in
/-- The first nodes of the parts. -/
noncomputable def hds (n : Nat) (adj : Adj) : List Nat := (List.range n).filter (fun a => decide (Least adj a))
open Classical in
theorem hds_mem {n : Nat} {adj : Adj} {a : Nat} : a ∈ hds n adj ↔ a < n ∧ Least adj a := by
  unfold hds
  rw [List.mem_filter, List.mem_range, decide_eq_true_iff]
theorem parts_eq (n : Nat) (adj : Adj) : parts n adj = (hds n adj).map (comp n adj) := rfl
theorem parts_len (n : Nat) (adj : Adj) : (parts n adj).length = (hds n adj).length := by rw [parts_eq, List.length_map]
theorem gD_at {α : Type} (l : List α) (d : α) {i : Nat} (h : i < l.length) : l.getD i d = l[i] := by
  rw [List.getD_eq_getElem?_getD, List.getElem?_eq_getElem h]; rfl
theorem gD_mem {l : List Nat} {i : Nat} (hi : i < l.length) : l.getD i 0 ∈ l := by
  rw [gD_at l 0 hi]; exact List.getElem_mem hi
theorem parts_at {n : Nat} {adj : Adj} {i : Nat} (hi : i < (parts n adj).length) : (parts n adj)[i] = comp n adj ((hds n adj).getD i 0) := by
  have h2 : i < (hds n adj).length := by rw [parts_len] at hi; exact hi
  rw [gD_at _ 0 h2]
  simp only [parts_eq, List.getElem_map]
theorem rising_filter (n : Nat) (f : Nat → Bool) : ((List.range n).filter f).Pairwise (· < ·) := List.Pairwise.filter _ List.pairwise_lt_range
theorem rising_getD {l : List Nat} (h : l.Pairwise (· < ·)) {i k : Nat} (hik : i < k) (hk : k < l.length) : l.getD i 0 < l.getD k 0 := by
  rw [gD_at l 0 hk, gD_at l 0 (by omega)]
  exact List.pairwise_iff_getElem.1 h i k (by omega) hk hik
theorem hds_at {n : Nat} {adj : Adj} {i : Nat} (hi : i < (hds n adj).length) : (hds n adj).getD i 0 < n ∧ Least adj ((hds n adj).getD i 0) := hds_mem.1 (gD_mem hi)
theorem hds_rise {n : Nat} {adj : Adj} {i k : Nat} (hik : i < k) (hk : k < (hds n adj).length) : (hds n adj).getD i 0 < (hds n adj).getD k 0 := rising_getD (rising_filter _ _) hik hk
theorem comp_rise {n : Nat} {adj : Adj} {a i k : Nat} (hik : i < k) (hk : k < (comp n adj a).length) : (comp n adj a).getD i 0 < (comp n adj a).getD k 0 := rising_getD (rising_filter _ _) hik hk
theorem comp_nodup (n : Nat) (adj : Adj) (a : Nat) : (comp n adj a).Nodup := List.Pairwise.filter _ List.nodup_range
theorem comp_head {n : Nat} {adj : Adj} (hS : Sane n adj) {a : Nat} (ha : a < n) (hL : Least adj a) : (comp n adj a).getD 0 0 = a ∧ 0 < (comp n adj a).length := by
  obtain ⟨c, l, hc, hcl⟩ := comp_first hS ha
  rw [hc]
  exact ⟨hcl.2 hL, by simp⟩
theorem covered {n : Nat} {adj : Adj} : ∀ x, x < n → ∃ j, j < (hds n adj).length ∧ Reach adj ((hds n adj).getD j 0) x := by
  intro x
  induction x using Nat.strongRecOn with
  | ind x ih =>
    intro hx
    by_cases hL : Least adj x
    · obtain ⟨j, hj, he⟩ := List.getElem_of_mem (hds_mem.2 ⟨hx, hL⟩)
      refine ⟨j, hj, ?_⟩
      rw [gD_at _ 0 hj, he]
      exact .refl
    · unfold Least at hL
      have : ∃ b, b < x ∧ Reach adj b x := by
        apply Classical.byContradiction
        intro hno
        exact hL fun b hb hr => hno ⟨b, hb, hr⟩
      obtain ⟨b, hb, hr⟩ := this
      obtain ⟨j, hj, hr2⟩ := ih b hb (by omega)
      exact ⟨j, hj, hr2.trans hr⟩
/-- Two first nodes cannot come to one node. -/
theorem hds_apart {n : Nat} {adj : Adj} (hS : Sane n adj) {i j x : Nat} (hij : j < i) (hi : i < (hds n adj).length) (h1 : Reach adj ((hds n adj).getD i 0) x) (h2 : Reach adj ((hds n adj).getD j 0) x) : False :=
  (hds_at hi).2 _ (hds_rise hij hi) (h2.trans (h1.symm hS))
/-- How many numbers are not below 0. -/
def told (row : List Int) : Nat := row.countP (fun z => decide (0 ≤ z))
theorem told_le (row : List Int) : told row ≤ row.length := List.countP_le_length
theorem told_set : ∀ (row : List Int) (a : Nat) (z : Int), a < row.length → row.getD a 0 < 0 → 0 ≤ z → told (row.set a z) = told row + 1
  | [], _, _, h, _, _ => by simp at h
  | y :: t, 0, z, _, hy, hz => by
    have hy' : y < 0 := by simpa using hy
    simp only [told, List.set_cons_zero, List.countP_cons]
    rw [if_pos (by simpa using hz), if_neg (by simpa using hy')]
  | y :: t, a + 1, z, h, hy, hz => by
    have ih := told_set t a z (by simpa using h) (by simpa using hy) hz
    simp only [told, List.set_cons_succ, List.countP_cons] at ih ⊢
    omega
theorem told_all (row : List Int) (h : ∀ x, x < row.length → 0 ≤ row.getD x 0) : told row = row.length := by
  unfold told
  rw [List.countP_eq_length]
  intro z hz
  obtain ⟨x, hx, rfl⟩ := List.getElem_of_mem hz
  have := h x hx
  rw [gD_at row 0 hx] at this
  exact decide_eq_true this
/-- The row that numbers the nodes: the parts ahead of i are all numbered, and of part i the first k nodes. -/
structure Num (n : Nat) (adj : Adj) (i k : Nat) (row : List Int) (seen : Nat) : Prop where
  len : row.length = n
  le : i ≤ (hds n adj).length
  old : ∀ j x, j < i → Reach adj ((hds n adj).getD j 0) x → row.getD x 0 = (j : Int)
  cur : ∀ x, x ∈ (comp n adj ((hds n adj).getD i 0)).take k → row.getD x 0 = (i : Int)
  rest : ∀ x, x < n → (∀ j, j < i → ¬ Reach adj ((hds n adj).getD j 0) x) → x ∉ (comp n adj ((hds n adj).getD i 0)).take k → row.getD x 0 = -1
  cnt : seen = told row
theorem Num.start (n : Nat) (adj : Adj) (row : List Int) (hl : row.length = n) (hr : ∀ x, x < n → row.getD x 0 = -1) : Num n adj 0 0 row 0 where
  len := hl
  le := Nat.zero_le _
  old j x hj := by omega
  cur x hx := by simp at hx
  rest x hx _ _ := hr x hx
  cnt := by
    symm
    unfold told
    rw [List.countP_eq_zero]
    intro z hz
    obtain ⟨x, hx, rfl⟩ := List.getElem_of_mem hz
    have := hr x (by omega)
    rw [gD_at row 0 hx] at this
    rw [this]
    decide
theorem set_same {row : List Int} {a : Nat} {z : Int} (h : a < row.length) : (row.set a z).getD a 0 = z := by
  rw [gD_at _ 0 (by rw [List.length_set]; exact h), List.getElem_set_self]
theorem set_other {row : List Int} {a b : Nat} {z : Int} (h : b ≠ a) : (row.set a z).getD b 0 = row.getD b 0 := by
  simp only [List.getD_eq_getElem?_getD, List.getElem?_set]
  rw [if_neg (by omega)]
/-- The node to be numbered next is not numbered yet. -/
theorem Num.fresh {n : Nat} {adj : Adj} (hS : Sane n adj) {i k : Nat} {row : List Int} {seen : Nat} (h : Num n adj i k row seen) (hi : i < (hds n adj).length) (hk : k < (comp n adj ((hds n adj).getD i 0)).length) :
    (comp n adj ((hds n adj).getD i 0)).getD k 0 < n ∧ row.getD ((comp n adj ((hds n adj).getD i 0)).getD k 0) 0 = -1 := by
  have hH := hds_at hi
  have hm := gD_mem hk
  have hr := (mem_comp hS hH.1).1 hm
  have hlt := hr.lt hS hH.1
  refine ⟨hlt, h.rest _ hlt (fun j hj h2 => hds_apart hS hj hi hr h2) (fun hx => ?_)⟩
  obtain ⟨j, hj, he⟩ := List.getElem_of_mem hx
  rw [List.length_take] at hj
  rw [List.getElem_take] at he
  have := comp_rise (n := n) (adj := adj) (a := (hds n adj).getD i 0) (i := j) (k := k) (by omega) hk
  rw [gD_at _ 0 (show j < _ by omega), he] at this
  exact absurd this (Nat.lt_irrefl _)
theorem Num.step {n : Nat} {adj : Adj} (hS : Sane n adj) {i k : Nat} {row : List Int} {seen : Nat} (h : Num n adj i k row seen) (hi : i < (hds n adj).length) (hk : k < (comp n adj ((hds n adj).getD i 0)).length) :
    Num n adj i (k + 1) (row.set ((comp n adj ((hds n adj).getD i 0)).getD k 0) (i : Int)) (seen + 1) := by
  obtain ⟨hlt, hno⟩ := h.fresh hS hi hk
  have hH := hds_at hi
  have hr := (mem_comp hS hH.1).1 (gD_mem hk)
  obtain ⟨a, ha⟩ : ∃ a, a = (comp n adj ((hds n adj).getD i 0)).getD k 0 := ⟨_, rfl⟩
  have htk : (comp n adj ((hds n adj).getD i 0)).take (k + 1) = (comp n adj ((hds n adj).getD i 0)).take k ++ [a] := by
    rw [ha]; exact take_succ_getD _ k hk
  rw [← ha] at hlt hno hr ⊢
  have hal : a < row.length := by rw [h.len]; exact hlt
  refine ⟨by rw [List.length_set]; exact h.len, h.le, fun j x hj hx => ?_, fun x hx => ?_, fun x hx h1 h2 => ?_, ?_⟩
  · have hne : x ≠ a := fun e => hds_apart hS hj hi hr (e ▸ hx)
    rw [set_other hne]
    exact h.old j x hj hx
  · rw [htk] at hx
    by_cases e : x = a
    · rw [e, set_same hal]
    · rw [set_other e]
      rcases List.mem_append.1 hx with h1 | h1
      · exact h.cur x h1
      · exact absurd (List.mem_singleton.1 h1) e
  · rw [htk] at h2
    have hne : x ≠ a := fun e => h2 (List.mem_append_right _ (by rw [e]; exact List.mem_singleton.2 rfl))
    rw [set_other hne]
    exact h.rest x hx h1 (fun h3 => h2 (List.mem_append_left _ h3))
  · rw [told_set row a i hal (by rw [hno]; decide) (by omega), h.cnt]
theorem Num.next {n : Nat} {adj : Adj} (hS : Sane n adj) {i : Nat} {row : List Int} {seen : Nat} (hi : i < (hds n adj).length) (h : Num n adj i (comp n adj ((hds n adj).getD i 0)).length row seen) : Num n adj (i + 1) 0 row seen := by
  have hH := hds_at hi
  refine ⟨h.len, hi, fun j x hj hx => ?_, fun x hx => by simp at hx, fun x hx h1 _ => ?_, h.cnt⟩
  · by_cases e : j = i
    · subst e
      refine h.cur x ?_
      rw [List.take_length]
      exact (mem_comp hS hH.1).2 hx
    · exact h.old j x (by omega) hx
  · refine h.rest x hx (fun j hj => h1 j (by omega)) (fun hm => ?_)
    rw [List.take_length] at hm
    exact h1 i (by omega) ((mem_comp hS hH.1).1 hm)
theorem Num.all {n : Nat} {adj : Adj} {row : List Int} {seen : Nat} (h : Num n adj (hds n adj).length 0 row seen) : seen = n ∧ (∀ a b, a < n → adj a b = true → row.getD a 0 = row.getD b 0) ∧ ∀ x, x < n → 0 ≤ row.getD x 0 := by
  have hpos : ∀ x, x < n → 0 ≤ row.getD x 0 := fun x hx => by
    obtain ⟨j, hj, hr⟩ := covered (adj := adj) x hx
    rw [h.old j x hj hr]
    omega
  refine ⟨?_, fun a b ha hab => ?_, hpos⟩
  · rw [h.cnt, told_all row (fun x hx => hpos x (by rw [← h.len]; exact hx)), h.len]
  · obtain ⟨j, hj, hr⟩ := covered (adj := adj) a ha
    rw [h.old j a hj hr, h.old j b hj (hr.step hab)]
theorem Num.bound {n : Nat} {adj : Adj} {i k : Nat} {row : List Int} {seen : Nat} (h : Num n adj i k row seen) : seen ≤ n := by
  rw [h.cnt, ← h.len]; exact told_le row
theorem hds_len (n : Nat) (adj : Adj) : (hds n adj).length ≤ n := by rw [← parts_len]; exact partsTo_length n adj n
end Go.Proofs.Ytfkmngmnnlgjdaa.Pu

/- GraphParts: facts for its walk. -/
namespace Go.Proofs.Ytfkmngmnnlgjdaa.Gr
open Go Go.RowKit Go.Proofs.Ytfkmngmnnlgjdaa.Gf Go.Proofs.Ytfkmngmnnlgjdaa.Pu Go.Proofs.Ytfkmngmnnlgjdaa.Pr Go.Proofs.Ytfkmngmnnlgjdaa.Mw Go.Proofs.YtfkmngmnnlgjdaaW.PrintWords Go.Proofs.YtfkmngmnnlgjdaaW.PrintLast Go.Proofs.YtfkmngmnnlgjdaaW.PrintMore
set_option linter.unusedVariables false
set_option linter.unusedSimpArgs false
/-- A part's cell, and its row. -/
theorem part_at {w : World} {A : Option Addr} {m n : Nat} {adj : Adj} (hC : Kd.C (Kd.slice 3 (Kd.int .i64)) w A m ((parts n adj).map nats)) (hm : m = (hds n adj).length) {i : Nat} (hi : i < m) :
    ∃ ad B cB, A = some ad ∧ w.cell? (ad.add i) = some (.slice B (comp n adj ((hds n adj).getD i 0)).length cB) ∧ (comp n adj ((hds n adj).getD i 0)).length ≤ cB ∧ (Kd.int .i64).C w B (comp n adj ((hds n adj).getD i 0)).length (nats (comp n adj ((hds n adj).getD i 0))) := by
  have hp : i < (parts n adj).length := by rw [parts_len]; omega
  obtain ⟨ad, cs, e, _, hK, hc0⟩ := Kd.C_get hC ([] : List Int) (i : Int) (by omega) (by omega)
  obtain ⟨B, cB, rfl, l0, g0⟩ := hK
  have hg : ((parts n adj).map nats).getD i [] = nats (comp n adj ((hds n adj).getD i 0)) := by
    rw [gD_at _ _ (by rw [List.length_map]; exact hp), List.getElem_map, parts_at hp]
  rw [Int.toNat_natCast, hg, nats_length] at l0 g0
  rw [Int.toNat_natCast, hg, nats_length] at hc0
  have hc : w.cell? (ad.add (i * 1 + 0)) = _ := hc0 0 _ rfl
  rw [Nat.mul_one, Nat.add_zero] at hc
  exact ⟨ad, B, cB, e, hc, l0, g0⟩
/-- The row of the parts' numbers, made behind world w4. -/
structure RowSt (w4 wr : World) (n : Nat) (A : Option Addr) (c : Nat) (row : List Int) : Prop where
  own : (Kd.int .i64).R 3 wr w4.heap.size (fun _ => True) (.slice A n c) row
  bel : Below w4.heap.size w4 wr
theorem RowSt.len {w4 wr : World} {n : Nat} {A : Option Addr} {c : Nat} {row : List Int} (h : RowSt w4 wr n A c row) : row.length = n := (Kd.R_reads' h.own).1.symm
theorem RowSt.below {w4 wr w1 : World} {n : Nat} {A : Option Addr} {c : Nat} {row : List Int} (h : RowSt w4 wr n A c row) (hB : Below wr.heap.size wr w1) : RowSt w4 w1 n A c row := ⟨Kd.R_below h.own hB, below_then h.bel h.bel.size hB⟩
theorem RowSt.drew {w4 wr : World} {n : Nat} {A : Option Addr} {c : Nat} {row : List Int} (h : RowSt w4 wr n A c row) : RowSt w4 wr.drew n A c row := h.below (below_drew (Below.refl _ _))
theorem RowSt.drewN {w4 wr : World} {n : Nat} {A : Option Addr} {c : Nat} {row : List Int} (h : RowSt w4 wr n A c row) (k : Nat) : RowSt w4 (wr.drewN k) n A c row := h.below (pw_below_drewN (Below.refl _ _) k)
theorem RowSt.some {w4 wr : World} {n : Nat} {A : Option Addr} {c : Nat} {row : List Int} (h : RowSt w4 wr n A c row) (hn : 0 < n) : ∃ g, A = Option.some ⟨g, 0, none⟩ := by
  have hR := h.own
  rw [← h.len] at hR
  obtain ⟨gl, cl, he⟩ := R_full hR (by have := h.len; omega)
  injection he with he1 he2 he3
  exact ⟨gl, he1⟩
theorem RowSt.cell {w4 wr : World} {n g c : Nat} {row : List Int} (h : RowSt w4 wr n (Option.some ⟨g, 0, none⟩) c row) {i : Nat} {z : Int} (hi : i < n) (hz : z = row.getD i 0) : wr.cell? ⟨g, i, none⟩ = Option.some (.int .i64 z) ∧ wr.frozen? ⟨g, i, none⟩ = false := by
  have := Kd.R_celln (0 : Int) h.own (i : Int) (by omega) (by omega)
  rw [Int.toNat_natCast] at this
  refine ⟨this.1.trans ?_, this.2⟩
  rw [hz, ← rd_nat]
  rfl
theorem RowSt.put {w4 wr : World} {n g c : Nat} {row : List Int} (h : RowSt w4 wr n (Option.some ⟨g, 0, none⟩) c row) (i : Nat) (z : Int) : RowSt w4 (wr.setCell ⟨g, i, none⟩ (.int .i64 z)) n (Option.some ⟨g, 0, none⟩) c (row.set i z) := by
  have := Kd.R_putn h.own (i : Int) z
  rw [Int.toNat_natCast] at this
  exact ⟨this, h.bel.setCell (p := ⟨g, i, none⟩) (Kd.R_base h.own g (by simp [Value.ownBlock])) _⟩
end Go.Proofs.Ytfkmngmnnlgjdaa.Gr

/- GraphParts, walked. -/
namespace Go.Proofs.Ytfkmngmnnlgjdaa.Gr
open Go Go.RowKit Go.Proofs.Ytfkmngmnnlgjdaa.Gf Go.Proofs.Ytfkmngmnnlgjdaa.Pu Go.Proofs.Ytfkmngmnnlgjdaa.Pr Go.Proofs.Ytfkmngmnnlgjdaa.Mw Go.Proofs.YtfkmngmnnlgjdaaW.PrintWords Go.Proofs.YtfkmngmnnlgjdaaW.PrintLast Go.Proofs.YtfkmngmnnlgjdaaW.PrintMore
set_option linter.unusedVariables false
set_option linter.unusedSimpArgs false
set_option maxRecDepth 100000 in
set_option maxHeartbeats 4000000 in
theorem GParts_is (w : World) (a : Int) (A : Option Addr) (l c : Nat) (js : List (Int × Int)) (hJ : JIs w A l js) :
    Calls Try.prog 4 #[.int .i64 a, .slice A l c] w fun e w' => e = .returned (.bool true) ∧ Below w.heap.size w w' := by
  have HJ := Aside0.mk hJ
  clear hJ
  cases hok : madeOk a l with
  | false =>
    have HK := Aside0.mk hok
    clear hok
    go_enter Try.func4, Try.ntmps4
    go_wp2_with (first
      | (go_at_call 21; refine (Made_no _ a A l c HK.out).mono ?_; rintro e w1 ⟨rfl, hB⟩; have HB := Aside0.mk hB; clear hB)
      | ((with_reducible refine gate_dst (N := 6) rfl ?_); refine box_event ?hg (N := 6) ?hd (cs := #[.int .i64 0, .slice none 0 0]) (t := 29) ?hr ?_; (case hd => rfl); (case hg => rfl); (case hr => first | (go_simp; done) | (go_simp; rfl)); intro gw hgw w2 hbox hB; have BW := Aside0.mk hbox; have HW := Aside0.mk (show w.heap.size ≤ gw by rw [hgw]; exact HB.out.size); have HB2 := Aside0.mk (below_then HB.out HB.out.size hB); clear hbox hB hgw HB; have hz0 : w2.cell? ⟨gw, 0, none⟩ = some (.int .i64 0) := (blk_cell BW.out 0).trans rfl; have hz1 : w2.cell? ⟨gw, 1, none⟩ = some (.slice none 0 0) := (blk_cell BW.out 1).trans rfl; have hfz0 := blk_frozen BW.out 0; have hfz1 := blk_frozen BW.out 1)
      | (go_at_call 10; refine (heads_is _).mono ?_; rintro e w5 ⟨rfl, hB⟩; have HB3 := Aside0.mk (below_then ((HB2.out.setCell (p := ⟨gw, 0, none⟩) HW.out _).setCell (p := ⟨gw, 1, none⟩) HW.out _) ((HB2.out.setCell (p := ⟨gw, 0, none⟩) HW.out _).setCell (p := ⟨gw, 1, none⟩) HW.out _).size hB); clear hB))
    go_ret
    exact ⟨rfl, HB3.out⟩
  | true =>
    obtain ⟨n, rfl, hn, hl⟩ := madeOk_nat hok
    clear hok
    have hS := jt_sane n js l
    have hpl : ((parts n (jt n js l)).map nats).length = (hds n (jt n js l)).length := by rw [List.length_map, parts_len]
    have hml := hds_len n (jt n js l)
    have HPL := Aside0.mk hpl
    clear hpl
    go_enter Try.func4, Try.ntmps4
    go_wp2_with (first
      | (go_at_call 21; refine (Made_is _ n A l c js hn hl HJ.out).mono ?_; rintro e w1 ⟨g, v, u, rfl, hG, hR, hV, hB⟩; obtain ⟨Au, mu, cu, rfl⟩ := hR.shape; have HG := Aside0.mk hG; have HR := Aside0.mk hR; have HV := Aside0.mk hV; have HB := Aside0.mk hB; clear hG hR hV hB)
      | ((with_reducible refine gate_dst (N := 6) rfl ?_); refine box_event ?hg (N := 6) ?hd (cs := #[.int .i64 0, .slice none 0 0]) (t := 29) ?hr ?_; (case hd => rfl); (case hg => rfl); (case hr => first | (go_simp; done) | (go_simp; rfl)); intro gw hgw w2 hbox hB; have BW := Aside0.mk hbox; have HG2 := Aside0.mk (HG.out.below hB); have HR2 := Aside0.mk (HR.out.below hB); have HW := Aside0.mk (show w.heap.size ≤ gw by rw [hgw]; exact HB.out.size); have HB2 := Aside0.mk (below_then HB.out HB.out.size hB); clear hbox hB hgw HB HG HR; have hz0 : w2.cell? ⟨gw, 0, none⟩ = some (.int .i64 0) := (blk_cell BW.out 0).trans rfl; have hz1 : w2.cell? ⟨gw, 1, none⟩ = some (.slice none 0 0) := (blk_cell BW.out 1).trans rfl; have hfz0 := blk_frozen BW.out 0; have hfz1 := blk_frozen BW.out 1)
      | (go_at_call 22; have hP := JSt.put HG2.out HR2.out BW.out HW.out HV.out HB2.out; refine (Parts_is _ g n v _ hP.gr).mono ?_; rintro e w4 ⟨v4, rfl, hR, hB⟩; obtain ⟨A4, c4, rfl, hc4, hC4⟩ := Kd.R_reads hR; rw [HPL.out] at hC4 hc4 ⊢; have HG4 := Aside0.mk (hP.gr.below hB); have HP4 := Aside0.mk hC4; have HB4 := Aside0.mk (below_then hP.bel hP.bel.size hB); clear hP hR hB hC4 hc4 HG2 HR2 BW HV HB2 hz0 hz1 hfz0 hfz1)
      | ((with_reducible refine gate_dst (N := 29) rfl ?_); refine Kd.R_make (Kd.int .i64) w4.heap.size 3 rfl (N := 29) rfl 38 _ _ rfl (n : Int) rfl rfl Try.underlying38 (.int .i64 0) 8 infoI rfl (by decide) (by omega) 0 (ok := fun _ => True) (okp := fun _ => True) (show Kd.M (Kd.int .i64) _ _ _ (0 : Int) [.int .i64 0] from rfl) (fun _ hk => hk) trivial (by omega) (by omega) (Below.refl _ _) (Nat.le_refl _) ?_; intro v1 w8 ho hb hg hnew; obtain ⟨A8, c8, rfl⟩ := Kd.R_slice ho; simp only [Int.toNat_natCast, List.length_replicate] at ho ⊢; have HS8 := Aside0.mk (RowSt.mk ho hb : RowSt w4 w8 n A8 c8 (List.replicate n 0)); clear ho hb hg hnew))
    generalize jt n js l = adj at hS hml HPL HG4 HP4 ⊢
    obtain ⟨m, hm⟩ : ∃ m, m = (hds n adj).length := ⟨_, rfl⟩
    have HM := Aside0.mk hm
    rw [← hm] at hml HP4 ⊢
    clear hm HPL
    go_loopw [9] (fun v9 wr => ∃ (i : Nat) (row : List Int), i ≤ n ∧ v9 = .int .i64 i ∧ Aside0 (∀ x, x < i → row.getD x 0 = -1) ∧ Aside0 (RowSt w4 wr n A8 c8 row)) (fun v9 _ => n - (intOf v9).toNat)
    case atStart => exact ⟨0, _, Nat.zero_le _, rfl, ⟨fun x hx => by omega⟩, HS8⟩
    case round =>
      clear HS8
      obtain ⟨i, row, hi, rfl, HX, HS⟩ := hrel
      by_cases hin : i < n
      · have hi2 : (i : Int) < (n : Int) := by omega
        obtain ⟨g8, rfl⟩ := HS.out.some (by omega)
        obtain ⟨hc1, hc2⟩ := HS.out.cell hin rfl
        have HP := Aside0.mk (HS.out.put i (-1))
        have HX2 := Aside0.mk (show ∀ x, x < i + 1 → (row.set i (-1)).getD x 0 = -1 from fun x hx => by
          by_cases e : x = i
          · rw [e, set_same (by rw [HS.out.len]; exact hin)]
          · rw [set_other e]; exact HX.out x (by omega))
        go_wp2
        exact ⟨⟨i + 1, row.set i (-1), by omega, by go_num, HX2, HP⟩, by simp [intOf]; omega⟩
      · obtain rfl : i = n := by omega
        have HN0 := Aside0.mk (Num.start i adj row HS.out.len HX.out)
        have HL0 := Aside0.mk (show 0 < m → (-1 : Int) < ((hds i adj).getD 0 0 : Nat) from fun _ => by omega)
        go_wp2
        go_loopw [10, 11, 12] (fun v10 v11 v12 wr => ∃ (s k : Nat) (last : Int) (row : List Int), k ≤ m ∧ v10 = .int .i64 s ∧ v11 = .int .i64 last ∧ v12 = .int .i64 k ∧ Aside0 (k < m → last < ((hds i adj).getD k 0 : Nat)) ∧ Aside0 (Num i adj k 0 row s) ∧ Aside0 (RowSt w4 wr i A8 c8 row)) (fun _ _ v12 _ => m - (intOf v12).toNat)
        case atStart => exact ⟨0, 0, -1, row, Nat.zero_le _, rfl, rfl, rfl, HL0, HN0, HS⟩
        case round =>
          clear HN0 HL0 HS HX
          obtain ⟨s, k, last, row, hk, rfl, rfl, rfl, HLa, HNm, HS⟩ := hrel
          by_cases hkm : k < m
          · have hkm2 : (k : Int) < (m : Int) := by omega
            have hkh : k < (hds i adj).length := by have := HM.out; omega
            obtain ⟨ad, B, cB, rfl, hcell, hlen, hCc⟩ := part_at HP4.out HM.out hkm
            have hhd := hds_at hkh
            have hhead := comp_head hS hhd.1 hhd.2
            have hlast := HLa.out hkm
            have hnd := comp_nodup i adj ((hds i adj).getD k 0)
            have hmem := fun y => mem_comp (b := y) hS hhd.1
            have hrise := fun x y => comp_rise (n := i) (adj := adj) (a := (hds i adj).getD k 0) (i := x) (k := y)
            have hfresh := fun (x : Nat) (s : Nat) (row : List Int) (h : Num i adj k x row s) => h.fresh hS hkh (k := x)
            have hstep := fun (x : Nat) (s : Nat) (row : List Int) (h : Num i adj k x row s) => h.step hS hkh (k := x)
            have hnext := fun (s : Nat) (row : List Int) => Num.next (row := row) (seen := s) hS hkh
            have hnl : k + 1 < m → (((hds i adj).getD k 0 : Nat) : Int) < ((hds i adj).getD (k + 1) 0 : Nat) := fun h => by
              have := hds_rise (n := i) (adj := adj) (i := k) (k := k + 1) (by omega) (by have := HM.out; omega)
              omega
            obtain ⟨h, eh⟩ : ∃ h, h = (hds i adj).getD k 0 := ⟨_, rfl⟩
            rw [← eh] at hcell hlen hCc hhd hhead hlast hnd hmem hrise hfresh hstep hnext hnl
            obtain ⟨cs, ec⟩ : ∃ cs, cs = comp i adj h := ⟨_, rfl⟩
            rw [← ec] at hcell hlen hCc hhead hnd hmem hrise hfresh hstep hnext
            obtain ⟨q, eq⟩ : ∃ q, q = cs.length := ⟨_, rfl⟩
            have HQ := Aside0.mk (And.intro hnd (And.intro hmem (And.intro hhead.1.symm eq.symm)))
            have HRi := Aside0.mk hrise
            have HFr := Aside0.mk hfresh
            have HSt := Aside0.mk hstep
            have HNx := Aside0.mk hnext
            have HNl := Aside0.mk hnl
            rw [← eq] at hcell hlen hCc hhead
            obtain ⟨hh1, hh2⟩ := hhead
            have hhn := hhd.1
            have hqi : q ≤ i := by rw [eq]; exact nodup_le hnd (fun x hx => ((hmem x).1 hx).lt hS hhn)
            clear hnd hmem hrise hfresh hstep hnext hnl hhd eq ec eh
            have hCc2 : (Kd.int .i64).C w4 B cs.length (nats cs) := by rw [HQ.out.2.2.2]; exact hCc
            obtain ⟨ad2, rfl⟩ := nat_some hCc2 (by have := HQ.out.2.2.2; omega)
            have hc0 : w4.cell? ad2 = some (.int .i64 h) := by
              have := nat_cell hCc2 (i := 0) (by have := HQ.out.2.2.2; omega) hh1.symm
              simpa [Addr.add] using this
            have HC4 := Aside0.mk hCc2
            have HCell4 := Aside0.mk (And.intro hcell hc0)
            have HH1 := Aside0.mk hh1
            have hq1 : ((q : Int) == 0) = false := by simp; omega
            have hq2 : ¬ (q : Int) = 0 := by omega
            have hl1 : decide ((h : Int) ≤ last) = false := decide_eq_false (by omega)
            clear hCc hCc2 hlast hh1 HLa hcell hc0
            have hcell := pw_cell_below HS.out.bel HCell4.out.1
            have hc0 := pw_cell_below HS.out.bel HCell4.out.2
            go_wp2_with (first
              | (go_at_call 23; refine (grown_is _ g i v adj ad2 q cB cs h (HG4.out.below HS.out.bel) hhn HQ.out.2.2.2 (Kd.C_below HC4.out HS.out.bel) hlen HQ.out.2.2.1 hh2 HQ.out.1 HQ.out.2.1).mono ?_; rintro e w6 ⟨rfl, hB⟩; have HS6 := Aside0.mk (HS.out.below hB); clear hB HS hcell hc0; have hcell := pw_cell_below HS6.out.bel HCell4.out.1; have hc0 := pw_cell_below HS6.out.bel HCell4.out.2))
            clear hl1 hq1 hq2
            go_loopw [10, 13] (fun v10 v13 wr => ∃ (s t : Nat) (row : List Int), t ≤ q ∧ v10 = .int .i64 s ∧ v13 = .int .i64 t ∧ Aside0 (Num i adj k t row s) ∧ Aside0 (RowSt w4 wr i A8 c8 row)) (fun _ v13 _ => q - (intOf v13).toNat)
            case atStart => exact ⟨s, 0, row, Nat.zero_le _, rfl, rfl, HNm, HS6⟩
            case round =>
              clear HS6 HNm hcell hc0
              obtain ⟨s, t, row, ht, rfl, rfl, HNt, HS⟩ := hrel
              have hcell := pw_cell_below HS.out.bel HCell4.out.1
              by_cases htq : t < q
              · have htq2 : (t : Int) < (q : Int) := by omega
                have htc : t < cs.length := by have := HQ.out.2.2.2; omega
                obtain ⟨b, hb⟩ : ∃ b, b = cs.getD t 0 := ⟨_, rfl⟩
                have hct := nat_cell (Kd.C_below HC4.out HS.out.bel) htc hb
                have hf := HFr.out t s row HNt.out htc
                have hn2 := HSt.out t s row HNt.out htc
                rw [← hb] at hf hn2
                obtain ⟨hbi, hbr⟩ := hf
                obtain ⟨g8, rfl⟩ := HS.out.some (by omega)
                obtain ⟨hr1, hr2⟩ := HS.out.cell hbi hbr.symm
                have HP := Aside0.mk (HS.out.put b (k : Int))
                have HN2 := Aside0.mk hn2
                have hsb := HNt.out.bound
                have hb0 : decide ((b : Int) < 0) = false := decide_eq_false (by omega)
                have hb1 : decide ((i : Int) ≤ (b : Int)) = false := decide_eq_false (by omega)
                have HBt := Aside0.mk hb
                clear hn2 hbr hb
                by_cases ht0 : 0 < t
                · obtain ⟨b2, hb2⟩ : ∃ b2, b2 = cs.getD (t - 1) 0 := ⟨_, rfl⟩
                  have hcp := nat_cell (Kd.C_below HC4.out HS.out.bel) (show t - 1 < cs.length by omega) hb2
                  have hlt : b2 < b := by rw [hb2, HBt.out]; exact HRi.out (t - 1) t (by omega) htc
                  have hbb : decide ((b : Int) ≤ (b2 : Int)) = false := decide_eq_false (by omega)
                  have hbb2 : decide (b ≤ b2) = false := decide_eq_false (by omega)
                  have ht1 : (0 : Int) < (t : Int) := by omega
                  clear hb2 hlt
                  go_wp2
                  exact ⟨⟨s + 1, t + 1, row.set b k, by omega, by go_num, by go_num, HN2, HP⟩, by simp [intOf]; omega⟩
                · have ht1 : ¬ (0 : Int) < (t : Int) := by omega
                  go_wp2
                  exact ⟨⟨s + 1, t + 1, row.set b k, by omega, by go_num, by go_num, HN2, HP⟩, by simp [intOf]; omega⟩
              · obtain rfl : t = q := by omega
                have HNk := Aside0.mk (HNx.out s row (by have := HNt.out; rw [HQ.out.2.2.2]; exact this))
                go_wp2
                exact ⟨⟨s, k + 1, h, row, by omega, rfl, rfl, by go_num, HNl, HNk, HS⟩, by simp [intOf]; omega⟩
          · obtain rfl : k = m := by omega
            have hall := (show Num i adj (hds i adj).length 0 row s by rw [← HM.out]; exact HNm.out).all
            obtain ⟨hs, hjoin, hpos⟩ := hall
            subst s
            have HJn := Aside0.mk hjoin
            clear hjoin hpos HNm HLa
            go_wp2
            go_loopw [15] (fun v15 wr => ∃ x : Nat, x ≤ i ∧ v15 = .int .i64 x ∧ Aside0 (RowSt w4 wr i A8 c8 row)) (fun v15 _ => i - (intOf v15).toNat)
            case atStart => exact ⟨0, Nat.zero_le _, rfl, HS⟩
            case round =>
              clear HS
              obtain ⟨x, hx, rfl, HS⟩ := hrel
              by_cases hxi : x < i
              · have hxi2 : (x : Int) < (i : Int) := by omega
                go_wp2
                go_loopw [16] (fun v16 wr => ∃ y : Nat, y ≤ i ∧ v16 = .int .i64 y ∧ Aside0 (RowSt w4 wr i A8 c8 row)) (fun v16 _ => i - (intOf v16).toNat)
                case atStart => exact ⟨0, Nat.zero_le _, rfl, HS⟩
                case round =>
                  clear HS
                  obtain ⟨y, hy, rfl, HS⟩ := hrel
                  by_cases hyi : y < i
                  · have hyi2 : (y : Int) < (i : Int) := by omega
                    cases hab : adj x y with
                    | false =>
                      have HA := Aside0.mk (show hasN i adj x y = false by rw [hasN_nat hxi]; exact hab)
                      have HGr := Aside0.mk (HG4.out.below HS.out.bel)
                      clear hab
                      go_wp2
                      go_quiet (first | (go_at_call 16; exact Calls.quiet_of (HasQ _ g v i adj x y false HGr.out hyi HA.out _)))
                      go_wp2
                      have HSq := Aside0.mk (HS.out.drewN nq)
                      exact ⟨⟨y + 1, by omega, by go_num, HSq⟩, by simp [intOf]; omega⟩
                    | true =>
                      have HA := Aside0.mk (show hasN i adj x y = true by rw [hasN_nat hxi]; exact hab)
                      obtain ⟨g8, rfl⟩ := HS.out.some (by omega)
                      obtain ⟨z, hz⟩ : ∃ z, z = row.getD x 0 := ⟨_, rfl⟩
                      have hz2 : z = row.getD y 0 := by rw [hz]; exact HJn.out x y hxi hab
                      have HZ := Aside0.mk (And.intro hz hz2)
                      have hr1 := (HS.out.cell hxi hz).1
                      have hr2 := (HS.out.cell hyi hz2).1
                      have HSd := Aside0.mk HS.out.drew
                      clear hab hz hz2 HS
                      go_wp2
                      go_region_held3 (fun w' => w'.cell? ⟨g8, x, none⟩ = some (.int .i64 z) ∧ w'.cell? ⟨g8, y, none⟩ = some (.int .i64 z)) (first | exact ⟨hr1, hr2⟩) (first
                        | (go_at_call 16; refine (HasB _ g v i adj x y (HG4.out.below HSd.out.bel) hyi).mono ?_; rintro e w9 ⟨rfl, hB⟩; rw [HA.out]; have HS9 := Aside0.mk (HSd.out.below hB); clear HSd hB hr1 hr2; have hr1 := (HS9.out.cell hxi HZ.out.1).1; have hr2 := (HS9.out.cell hyi HZ.out.2).1))
                      go_wp2
                      exact ⟨⟨y + 1, by omega, by go_num, HS9⟩, by simp [intOf]; omega⟩
                  · obtain rfl : y = i := by omega
                    go_wp2
                    exact ⟨⟨x + 1, by omega, by go_num, HS⟩, by simp [intOf]; omega⟩
              · obtain rfl : x = i := by omega
                go_wp2_with (first
                  | (go_at_call 10; refine (heads_is _).mono ?_; rintro e w5 ⟨rfl, hB⟩; have HS5 := Aside0.mk (HS.out.below hB); clear hB))
                go_ret
                exact ⟨rfl, below_then HB4.out HB4.out.size HS5.out.bel⟩
end Go.Proofs.Ytfkmngmnnlgjdaa.Gr
