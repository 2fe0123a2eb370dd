/- GraphNobody, walked. -/
import Derived.Test.YtfkmngmnnlgjdaaGrNil
namespace Go.Proofs.Ytfkmngmnnlgjdaa.Gr
open Go Go.RowKit Go.Proofs.Ytfkmngmnnlgjdaa.Gf Go.Proofs.Ytfkmngmnnlgjdaa.Pu Go.Proofs.Ytfkmngmnnlgjdaa.Pr Go.Proofs.Ytfkmngmnnlgjdaa.Mw Go.Proofs.YtfkmngmnnlgjdaaW.PrintWords Go.Proofs.YtfkmngmnnlgjdaaW.PrintLast Go.Proofs.YtfkmngmnnlgjdaaW.PrintMore
set_option linter.unusedVariables false
set_option linter.unusedSimpArgs false
set_option maxRecDepth 100000 in
set_option maxHeartbeats 1000000 in
theorem Nobody_is (w : World) (a b : Int) (hb0 : -9223372036854775808 ≤ b) (hb1 : b ≤ 9223372036854775807) :
    Calls Try.prog 8 #[.int .i64 a, .int .i64 b] w fun e w' => e = .returned (.bool true) ∧ Below w.heap.size w w' := by
  have HI := Lib.hid (And.intro hb0 hb1)
  clear hb0 hb1
  go_enter Try.func8, Try.ntmps8
  go_wp2_with (first
    | ((with_reducible refine gate_dst (N := 12) rfl ?_); refine box_event ?hg (N := 12) ?hd (cs := #[.slice none 0 0]) (t := 57) ?hr ?_; (case hd => rfl); (case hg => rfl); (case hr => first | (go_simp; done) | (go_simp; rfl)); intro g hg w1 hbox hb; have HG := Aside0.mk (GIs.empty hbox); have HB := Aside0.mk hb; clear hbox hb hg))
  have HL := Aside0.mk (World.alloc_heap_new w1 (Obj.cells #[.pointer none, .pointer (some ⟨g, 0, none⟩)] 23))
  have HB0 := Aside0.mk (below_alloc HB.out (Obj.cells #[.pointer none, .pointer (some ⟨g, 0, none⟩)] 23))
  have HG0 := Aside0.mk (HG.out.below (below_alloc (Below.refl _ _) (Obj.cells #[.pointer none, .pointer (some ⟨g, 0, none⟩)] 23)))
  clear HG HB
  generalize w1.heap.size = gl at HL ⊢
  generalize w1.alloc (Obj.cells #[.pointer none, .pointer (some ⟨g, 0, none⟩)] 23) = w2 at HL HB0 HG0 ⊢
  go_loopw [7] (fun v7 wr => ∃ i : Nat, i ≤ 2 ∧ v7 = .int .i64 i ∧ Aside0 (GIs wr g (.slice none 0 0) 0 no) ∧ Aside0 (wr.heap[gl]? = some (.cells #[.pointer none, .pointer (some ⟨g, 0, none⟩)] 23 (0, 0))) ∧ Aside0 (Below w.heap.size w wr)) (fun v7 _ => 2 - (intOf v7).toNat)
  case atStart => exact ⟨0, by omega, rfl, HG0, HL, HB0⟩
  case round =>
    clear HL HB0 HG0
    obtain ⟨i, hi, rfl, HG, HL, HB⟩ := hrel
    have hc0 : wr.cell? ⟨gl, 0, none⟩ = some (.pointer none) := (blk_cell HL.out 0).trans rfl
    have hc1 : wr.cell? ⟨gl, 1, none⟩ = some (.pointer (some ⟨g, 0, none⟩)) := (blk_cell HL.out 1).trans rfl
    have h3 : i = 0 ∨ i = 1 ∨ i = 2 := by omega
    rcases h3 with rfl | rfl | rfl
    · go_wp2_with (first
        | (go_at_call 11; refine (Len_nil _).mono ?_; rintro e w2 ⟨rfl, rfl⟩)
        | (go_at_call 14; refine (Join_nil _ a b).mono ?_; rintro e w2 ⟨rfl, rfl⟩)
        | (go_at_call 16; refine (Has_nil _ a b).mono ?_; rintro e w2 ⟨rfl, rfl⟩)
        | (go_at_call 19; refine (Near_nil _ a).mono ?_; rintro e w2 ⟨rfl, rfl⟩)
        | (go_at_call 22; refine (Parts_nil _).mono ?_; rintro e w3 ⟨rfl, hB⟩; have HB2 := Aside0.mk (below_then HB.out HB.out.size hB); have HG2 := Aside0.mk (HG.out.below hB); have HL2 := Aside0.mk (blk_below HL.out hB); clear HG HB HL; have HG := HG2; have HB := HB2; have HL := HL2; clear HG2 HB2 HL2 hB)
        | (go_at_call 26; refine (Shell_nil _).mono ?_; rintro e w4 ⟨rfl, hB⟩; have HB2 := Aside0.mk (below_then HB.out HB.out.size hB); have HG2 := Aside0.mk (HG.out.below hB); have HL2 := Aside0.mk (blk_below HL.out hB); clear HG HB HL; have HG := HG2; have HB := HB2; have HL := HL2; clear HG2 HB2 HL2 hB))
      exact ⟨⟨1, by omega, by go_num, HG, HL, HB⟩, by simp [intOf]⟩
    · go_wp2_with (first
        | (go_at_call 11; refine (Len0 _ g _ HG.out).mono ?_; rintro e w2 ⟨rfl, rfl⟩)
        | (go_at_call 14; refine (Join0 _ g _ a b HG.out).mono ?_; rintro e w3 ⟨rfl, hB⟩; have HB2 := Aside0.mk (below_then HB.out HB.out.size hB); have HG2 := Aside0.mk (HG.out.below hB); have HL2 := Aside0.mk (blk_below HL.out hB); clear HG HB HL; have HG := HG2; have HB := HB2; have HL := HL2; clear HG2 HB2 HL2 hB)
        | (go_at_call 16; refine (Has0 _ g _ a b HG.out HI.out.1 HI.out.2).mono ?_; rintro e w4 ⟨rfl, hB⟩; have HB2 := Aside0.mk (below_then HB.out HB.out.size hB); have HG2 := Aside0.mk (HG.out.below hB); have HL2 := Aside0.mk (blk_below HL.out hB); clear HG HB HL; have HG := HG2; have HB := HB2; have HL := HL2; clear HG2 HB2 HL2 hB)
        | (go_at_call 19; refine (Near0 _ g _ a HG.out).mono ?_; rintro e w5 ⟨A5, c5, rfl, hB⟩; have HB2 := Aside0.mk (below_then HB.out HB.out.size hB); have HG2 := Aside0.mk (HG.out.below hB); have HL2 := Aside0.mk (blk_below HL.out hB); clear HG HB HL; have HG := HG2; have HB := HB2; have HL := HL2; clear HG2 HB2 HL2 hB)
        | (go_at_call 22; refine (Parts0 _ g _ HG.out).mono ?_; rintro e w6 ⟨A6, c6, rfl, hB⟩; have HB2 := Aside0.mk (below_then HB.out HB.out.size hB); have HG2 := Aside0.mk (HG.out.below hB); have HL2 := Aside0.mk (blk_below HL.out hB); clear HG HB HL; have HG := HG2; have HB := HB2; have HL := HL2; clear HG2 HB2 HL2 hB)
        | (go_at_call 26; refine (Shell0 _ g _ HG.out).mono ?_; rintro e w7 ⟨A7, c7, rfl, hB⟩; have HB2 := Aside0.mk (below_then HB.out HB.out.size hB); have HG2 := Aside0.mk (HG.out.below hB); have HL2 := Aside0.mk (blk_below HL.out hB); clear HG HB HL; have HG := HG2; have HB := HB2; have HL := HL2; clear HG2 HB2 HL2 hB))
      exact ⟨⟨2, by omega, by go_num, HG, HL, HB⟩, by simp [intOf]⟩
    · go_wp2_with (first
        | (go_at_call 30; first | ((with_reducible refine (Copy_nil _).mono ?_); rintro e w2 ⟨rfl, rfl⟩) | (refine (Copy_is _ g 0 _ no HG.out).mono ?_; rintro e w3 ⟨gc, vc, rfl, hGc, _, _, hB⟩; have HC := Aside0.mk hGc; clear hGc; have HB2 := Aside0.mk (below_then HB.out HB.out.size hB); have HG2 := Aside0.mk (HG.out.below hB); have HL2 := Aside0.mk (blk_below HL.out hB); clear HG HB HL; have HG := HG2; have HB := HB2; have HL := HL2; clear HG2 HB2 HL2 hB))
        | (go_at_call 11; refine (Len0 _ gc _ HC.out).mono ?_; rintro e w4 ⟨rfl, rfl⟩)
        | (go_at_call 10; refine (heads_is _).mono ?_; rintro e w5 ⟨rfl, hB⟩; have HB2 := Aside0.mk (below_then HB.out HB.out.size hB); have HG2 := Aside0.mk (HG.out.below hB); have HL2 := Aside0.mk (blk_below HL.out hB); clear HG HB HL; have HG := HG2; have HB := HB2; have HL := HL2; clear HG2 HB2 HL2 hB))
      go_ret
      exact ⟨rfl, HB.out⟩
theorem i64_lo {a : Int} (h : (Lit.int .i64 a).wf = true) : -9223372036854775808 ≤ a := by
  simp [Lit.wf, IntKind.min, IntKind.max, IntKind.signed, IntKind.bits] at h
  omega
theorem i64_hi {a : Int} (h : (Lit.int .i64 a).wf = true) : a ≤ 9223372036854775807 := by
  simp [Lit.wf, IntKind.min, IntKind.max, IntKind.signed, IntKind.bits] at h
  omega
end Go.Proofs.Ytfkmngmnnlgjdaa.Gr
