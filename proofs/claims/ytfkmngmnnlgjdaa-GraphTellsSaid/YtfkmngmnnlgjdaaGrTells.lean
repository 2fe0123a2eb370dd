/- GraphTells, walked. -/
import Derived.Test.YtfkmngmnnlgjdaaGrMade2
namespace Go.Proofs.Ytfkmngmnnlgjdaa.Gr
open Go Go.RowKit Go.Proofs.Ytfkmngmnnlgjdaa.Gf Go.Proofs.Ytfkmngmnnlgjdaa.Pu Go.Proofs.Ytfkmngmnnlgjdaa.Pr Go.Proofs.Ytfkmngmnnlgjdaa.Mw Go.Proofs.YtfkmngmnnlgjdaaW.PrintWords Go.Proofs.YtfkmngmnnlgjdaaW.PrintLast Go.Proofs.YtfkmngmnnlgjdaaW.PrintMore
set_option linter.unusedVariables false
set_option linter.unusedSimpArgs false
theorem madeOk_nat {a : Int} {l : Nat} (h : madeOk a l = true) : ∃ n : Nat, a = n ∧ n ≤ 40 ∧ l ≤ 800 := by
  simp only [madeOk, Bool.and_eq_true, decide_eq_true_eq] at h
  obtain ⟨⟨h0, h1⟩, h2⟩ := h
  obtain ⟨n, rfl⟩ := Int.eq_ofNat_of_zero_le h0
  exact ⟨n, rfl, by omega, h2⟩
theorem parts_len_in {n : Nat} (hn : n ≤ 40) (adj : Adj) : (((parts n adj).map nats).length ≤ 9223372036854775807) ∧ ∀ j, ((((parts n adj).map nats).getD j []).length ≤ 9223372036854775807) := by
  constructor
  · rw [List.length_map]
    have := partsTo_length n adj n
    unfold parts
    omega
  · intro j
    rw [List.getD_eq_getElem?_getD, List.getElem?_map]
    cases h : (parts n adj)[j]? with
    | none => simp
    | some x =>
      simp only [Option.map_some, Option.getD_some]
      rw [nats_length]
      have hm := List.mem_of_getElem? h
      unfold parts partsTo at hm
      obtain ⟨a, _, rfl⟩ := List.mem_map.1 hm
      unfold comp
      have := List.length_filter_le (fun b => @decide (Pu.Reach adj a b) (Classical.propDecidable _)) (List.range n)
      rw [List.length_range] at this
      omega
set_option maxRecDepth 100000 in
set_option maxHeartbeats 1000000 in
theorem Tells_is (w : World) (a : Int) (A : Option Addr) (l c : Nat) (js : List (Int × Int)) (hJ : JIs w A l js) :
    Calls Try.prog 5 #[.int .i64 a, .slice A l c] w fun e w' => e = .returned (.bool true) ∧ Below w.heap.size w w' := by
  have hu29 := Try.underlying29
  have HJ := Aside0.mk hJ
  clear hJ
  cases hok : madeOk a l with
  | false =>
    have HK := Aside0.mk hok
    clear hok
    go_enter Try.func5, Try.ntmps5
    go_wp2_with (first
      | (go_at_call 21; refine (Made_no _ a A l c HK.out).mono ?_; rintro e w1 ⟨rfl, hB⟩; have HB := Aside0.mk hB; clear hB)
      | ((with_reducible refine gate_dst (N := 6) rfl ?_); refine box_event ?hg (N := 6) ?hd (cs := #[.int .i64 0, .slice none 0 0]) (t := 29) ?hr ?_; (case hd => rfl); (case hg => rfl); (case hr => first | (go_simp; done) | (go_simp; rfl)); intro gw hgw w2 hbox hB; have BW := Aside0.mk hbox; have HW := Aside0.mk (show w.heap.size ≤ gw by rw [hgw]; exact HB.out.size); have HB2 := Aside0.mk (below_then HB.out HB.out.size hB); clear hbox hB hgw HB; have hz0 : w2.cell? ⟨gw, 0, none⟩ = some (.int .i64 0) := (blk_cell BW.out 0).trans rfl; have hz1 : w2.cell? ⟨gw, 1, none⟩ = some (.slice none 0 0) := (blk_cell BW.out 1).trans rfl; have hfz0 := blk_frozen BW.out 0; have hfz1 := blk_frozen BW.out 1)
      | (go_at_call 10; refine (heads_is _).mono ?_; rintro e w5 ⟨rfl, hB⟩; have HB3 := Aside0.mk (below_then ((HB2.out.setCell (p := ⟨gw, 0, none⟩) HW.out _).setCell (p := ⟨gw, 1, none⟩) HW.out _) ((HB2.out.setCell (p := ⟨gw, 0, none⟩) HW.out _).setCell (p := ⟨gw, 1, none⟩) HW.out _).size hB); clear hB))
    go_ret
    exact ⟨rfl, HB3.out⟩
  | true =>
    obtain ⟨n, rfl, hn, hl⟩ := madeOk_nat hok
    clear hok
    go_enter Try.func5, Try.ntmps5
    go_wp2_with (first
      | (go_at_call 21; refine (Made_is _ n A l c js hn hl HJ.out).mono ?_; rintro e w1 ⟨g, v, u, rfl, hG, hR, hV, hB⟩; obtain ⟨Au, mu, cu, rfl⟩ := hR.shape; have HG := Aside0.mk hG; have HR := Aside0.mk hR; have HV := Aside0.mk hV; have HB := Aside0.mk hB; clear hG hR hV hB)
      | ((with_reducible refine gate_dst (N := 6) rfl ?_); refine box_event ?hg (N := 6) ?hd (cs := #[.int .i64 0, .slice none 0 0]) (t := 29) ?hr ?_; (case hd => rfl); (case hg => rfl); (case hr => first | (go_simp; done) | (go_simp; rfl)); intro gw hgw w2 hbox hB; have BW := Aside0.mk hbox; have HG2 := Aside0.mk (HG.out.below hB); have HR2 := Aside0.mk (HR.out.below hB); have HW := Aside0.mk (show w.heap.size ≤ gw by rw [hgw]; exact HB.out.size); have HB2 := Aside0.mk (below_then HB.out HB.out.size hB); clear hbox hB hgw HB HG HR; have hz0 : w2.cell? ⟨gw, 0, none⟩ = some (.int .i64 0) := (blk_cell BW.out 0).trans rfl; have hz1 : w2.cell? ⟨gw, 1, none⟩ = some (.slice none 0 0) := (blk_cell BW.out 1).trans rfl; have hfz0 := blk_frozen BW.out 0; have hfz1 := blk_frozen BW.out 1))
    have HS := Aside0.mk (JSt.put HG2.out HR2.out BW.out HW.out HV.out HB2.out)
    clear HG2 HR2 BW HV HB2 hz0 hz1 hfz0 hfz1
    generalize (w2.setCell ⟨gw, 0, none⟩ (.int .i64 n)).setCell ⟨gw, 1, none⟩ (.slice Au mu cu) = w3 at HS ⊢
    have hz0 : w3.cell? ⟨gw, 0, none⟩ = some (.int .i64 n) := (blk_cell HS.out.box 0).trans rfl
    have hz1 : w3.cell? ⟨gw, 1, none⟩ = some (.slice Au mu cu) := (blk_cell HS.out.box 1).trans rfl
    have HS3 := Aside0.mk HS.out.drew
    clear HS
    go_wp2
    go_region_held3 (fun w' => w'.cell? ⟨gw, 0, none⟩ = some (.int .i64 n) ∧ w'.cell? ⟨gw, 1, none⟩ = some (.slice Au mu cu)) (first | exact ⟨hz0, hz1⟩) (first
      | (go_at_call 22; refine (Parts_is _ g n v _ HS3.out.gr).mono ?_; rintro e w4 ⟨v4, rfl, hR, hB⟩; have HS4 := Aside0.mk (HS3.out.below hB); have H4 := Aside0.mk hR; clear hR hB HS3 hz0 hz1; have hz0 : w4.cell? ⟨gw, 0, none⟩ = some (.int .i64 n) := (blk_cell HS4.out.box 0).trans rfl; have hz1 : w4.cell? ⟨gw, 1, none⟩ = some (.slice Au mu cu) := (blk_cell HS4.out.box 1).trans rfl)
      | (go_at_call 25; refine (RParts_is _ _ n _ HS4.out.rf).mono ?_; rintro e w5 ⟨v5, rfl, hR, hB⟩; have HS5 := Aside0.mk (HS4.out.below hB); have H5 := Aside0.mk (Kd.R_below H4.out hB); have H6 := Aside0.mk (Kd.S_R hR); clear hR hB HS4 H4 hz0 hz1; have hz0 : w5.cell? ⟨gw, 0, none⟩ = some (.int .i64 n) := (blk_cell HS5.out.box 0).trans rfl; have hz1 : w5.cell? ⟨gw, 1, none⟩ = some (.slice Au mu cu) := (blk_cell HS5.out.box 1).trans rfl)
      | (go_at_call 24; refine (Rows_is _ _ _ ((parts n (jt n js l)).map nats) ((parts n (jt n js l)).map nats) H5.out H6.out (parts_len_in hn _).1 (parts_len_in hn _).2).mono ?_; rintro e w6 ⟨rfl, hB⟩; rw [decide_eq_true (show (parts n (jt n js l)).map nats = (parts n (jt n js l)).map nats from rfl)]; have HS6 := Aside0.mk (HS5.out.below hB); clear hB HS5 H5 H6 hz0 hz1; have hz0 : w6.cell? ⟨gw, 0, none⟩ = some (.int .i64 n) := (blk_cell HS6.out.box 0).trans rfl; have hz1 : w6.cell? ⟨gw, 1, none⟩ = some (.slice Au mu cu) := (blk_cell HS6.out.box 1).trans rfl)
      | (go_at_call 26; refine (Shell_is _ g n v _ HS6.out.gr).mono ?_; rintro e w7 ⟨v7, rfl, hR, hB⟩; have HS7 := Aside0.mk (HS6.out.below hB); have H7 := Aside0.mk hR; clear hR hB HS6 hz0 hz1; have hz0 : w7.cell? ⟨gw, 0, none⟩ = some (.int .i64 n) := (blk_cell HS7.out.box 0).trans rfl; have hz1 : w7.cell? ⟨gw, 1, none⟩ = some (.slice Au mu cu) := (blk_cell HS7.out.box 1).trans rfl)
      | (go_at_call 27; refine (RShell_is _ _ n _ HS7.out.rf).mono ?_; rintro e w8 ⟨v8, rfl, hR, hB⟩; have HS8 := Aside0.mk (HS7.out.below hB); have H8 := Aside0.mk (Kd.R_below H7.out hB); have H9 := Aside0.mk hR; clear hR hB HS7 H7 hz0 hz1; have hz0 : w8.cell? ⟨gw, 0, none⟩ = some (.int .i64 n) := (blk_cell HS8.out.box 0).trans rfl; have hz1 : w8.cell? ⟨gw, 1, none⟩ = some (.slice Au mu cu) := (blk_cell HS8.out.box 1).trans rfl)
      | (go_at_call 18; refine (Ints_is _ _ _ (nats (shell n (jt n js l))) (nats (shell n (jt n js l))) H8.out H9.out).mono ?_; rintro e w9 ⟨rfl, hB⟩; rw [decide_eq_true (show nats (shell n (jt n js l)) = nats (shell n (jt n js l)) from rfl)]; have HS9 := Aside0.mk (HS8.out.below hB); clear hB HS8 H8 H9 hz0 hz1; have hz0 : w9.cell? ⟨gw, 0, none⟩ = some (.int .i64 n) := (blk_cell HS9.out.box 0).trans rfl; have hz1 : w9.cell? ⟨gw, 1, none⟩ = some (.slice Au mu cu) := (blk_cell HS9.out.box 1).trans rfl)
      | (go_at_call 10; refine (heads_is _).mono ?_; rintro e w10 ⟨rfl, hB⟩; have HS10 := Aside0.mk (HS9.out.below hB); clear hB HS9 hz0 hz1; have hz0 : w10.cell? ⟨gw, 0, none⟩ = some (.int .i64 n) := (blk_cell HS10.out.box 0).trans rfl; have hz1 : w10.cell? ⟨gw, 1, none⟩ = some (.slice Au mu cu) := (blk_cell HS10.out.box 1).trans rfl))
    go_wp2
    go_ret
    exact ⟨rfl, HS10.out.bel⟩
end Go.Proofs.Ytfkmngmnnlgjdaa.Gr
