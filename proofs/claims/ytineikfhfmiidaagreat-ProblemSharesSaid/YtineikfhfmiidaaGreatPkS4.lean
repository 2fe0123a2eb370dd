import Derived.Laws.Strings
import Derived.Test.YtineikfhfmiidaaGreatPkS3
/- folk and Share, walked. -/
namespace Go.Proofs.YtineikfhfmiidaaGreat.Pm
open Go Go.RowKit Go.Proofs.YtineikfhfmiidaaGreat.Gp Go.Proofs.YtineikfhfmiidaaGreatW.PrintWords Go.Proofs.YtineikfhfmiidaaGreatW.PrintLast Go.Proofs.YtineikfhfmiidaaGreatW.PrintMore
set_option linter.unusedVariables false
set_option linter.unusedSimpArgs false
theorem pall {w wr : World} {g : Nat} {t : TypeId} {p : PV} {a : PA} (h : PBox w wr g t (pcs p a)) : wr.cell? ⟨g, 0, none⟩ = some (.string p.nm) ∧ wr.cell? ⟨g, 1, none⟩ = some (.int .i64 p.g0) ∧ wr.cell? ⟨g, 2, none⟩ = some (.int .i64 p.g1) ∧ wr.cell? ⟨g, 3, none⟩ = some (.int .i64 p.g2) ∧ wr.cell? ⟨g, 4, none⟩ = some (.slice a.A4 p.rooms.length a.c4) ∧ wr.cell? ⟨g, 5, none⟩ = some (.slice a.A5 p.walk.length a.c5) ∧ wr.cell? ⟨g, 6, none⟩ = some (.slice a.A6 p.persons.length a.c6) ∧ wr.cell? ⟨g, 7, none⟩ = some (.slice a.A7 p.classes.length a.c7) ∧ wr.cell? ⟨g, 8, none⟩ = some (.slice a.A8 p.courses.length a.c8) ∧ wr.cell? ⟨g, 9, none⟩ = some (.slice a.A9 p.students.length a.c9) ∧ wr.cell? ⟨g, 10, none⟩ = some (.slice a.A10 p.rules.length a.c10) ∧ wr.cell? ⟨g, 11, none⟩ = some (.int .i64 p.w0) ∧ wr.cell? ⟨g, 12, none⟩ = some (.int .i64 p.w1) ∧ wr.cell? ⟨g, 13, none⟩ = some (.int .i64 p.w2) ∧ wr.cell? ⟨g, 14, none⟩ = some (.int .i64 p.w3) :=
  ⟨h.cell 0 rfl, h.cell 1 rfl, h.cell 2 rfl, h.cell 3 rfl, h.cell 4 rfl, h.cell 5 rfl, h.cell 6 rfl, h.cell 7 rfl, h.cell 8 rfl, h.cell 9 rfl, h.cell 10 rfl, h.cell 11 rfl, h.cell 12 rfl, h.cell 13 rfl, h.cell 14 rfl⟩
theorem R_full {α : Type} {d : Kd α} {w : World} {e base : Nat} {ok : Nat → Prop} {v : Value} {xs : List α} (hR : d.R e w base ok v xs) (h : 0 < xs.length) : ∃ ga c, v = .slice (some ⟨ga, 0, none⟩) xs.length c := by
  obtain ⟨inner, ho⟩ := Kd.R_own hR
  obtain ⟨_, h2 | ⟨b, cap, cur, he, _⟩⟩ := ho
  · have := h2.2
    omega
  · exact ⟨b, cap, he⟩
theorem sort_any (w : World) (base : Nat) (v : Value) (l : List Int) (hR : (Kd.int .i64).R 3 w base (fun _ => True) v l) (hn : l.length < 4611686018427387904) (hl : l.Pairwise (· < ·)) :
    Calls Tryz.prog 114 #[v] w fun e w' => e = .returned (.tuple #[]) ∧ Below w.heap.size w w' := by
  by_cases h0 : 0 < l.length
  · obtain ⟨g, c, rfl⟩ := R_full hR h0
    exact sort_rise w base g _ c l hR hn hl
  · obtain ⟨A, c, rfl⟩ := Kd.R_slice hR
    rw [show l.length = 0 by omega]
    refine (Tryz.slices_Sort_int_none A c w).mono ?_
    rintro e w' ⟨rfl, rfl⟩
    exact ⟨rfl, Below.refl _ _⟩
theorem compact_any (w : World) (base : Nat) (v : Value) (l : List Int) (hR : (Kd.int .i64).R 3 w base (fun _ => True) v l) (hl : l.Pairwise (· < ·)) :
    Calls Tryz.prog 115 #[v] w fun e w' => e = .returned v ∧ Below w.heap.size w w' := by
  by_cases h0 : 0 < l.length
  · obtain ⟨g, c, rfl⟩ := R_full hR h0
    exact compact_is w base g _ c l hR hl
  · obtain ⟨A, c, rfl⟩ := Kd.R_slice hR
    rw [show l.length = 0 by omega]
    refine (Tryz.slices_Compact_int_empty A c w).mono ?_
    rintro e w' ⟨rfl, rfl⟩
    exact ⟨rfl, Below.refl _ _⟩
def FolkRet (w0 : World) (l : List Int) (e : Ending) : Prop := ∃ B d, e = .returned (.slice B l.length d) ∧ l.length ≤ d ∧ (Kd.int .i64).C w0 B l.length l
theorem folk_mk {w0 : World} {l : List Int} {e : Ending} (B : Option Addr) (m d : Nat) (he : e = .returned (.slice B m d)) (hm : l.length = m) (hd : l.length ≤ d) (hC : (Kd.int .i64).C w0 B l.length l) : FolkRet w0 l e := ⟨B, d, by rw [he, hm], hd, hC⟩
theorem nilC2 (w : World) : (Kd.int .i64).C w none ([] : List Int).length [] := ⟨rfl, by simp, fun h => absurd h (Nat.lt_irrefl 0)⟩
set_option maxRecDepth 100000 in
set_option maxHeartbeats 1000000 in
theorem folk_is (w0 w : World) (p : PV) (a : PA) (c : Int) (h : PRd w0 p a) (hB0 : Below w0.heap.size w0 w) :
    Calls Tryz.prog 112 #[.agg (pcs p a), .int .i64 c] w fun e w' => FolkRet w0 (folkL p c) e ∧ Below w.heap.size w w' := by
  have H := Aside0.mk h
  have HB0 := Aside0.mk hB0
  clear h hB0
  have hu := Tryz.underlying34
  by_cases h0 : c < 0
  · have hl : folkL p c = [] := by unfold folkL; rw [if_neg (by omega)]
    have HL := Aside0.mk hl
    clear hl
    go_enter Tryz.func112, Tryz.ntmps112
    go_wp2_with (first
      | ((with_reducible refine gate_dst (N := 2) rfl ?_); refine box_event ?hg (N := 2) ?hd (cs := pcs p a) (t := 34) ?hr ?_; (case hd => rfl); (case hg => rfl); (case hr => first | (go_simp; done) | (go_simp; rfl)); intro g hg w2 hbox hB; have HP := Aside0.mk (PBox.mk hbox hB (show w.heap.size ≤ g by rw [hg]; exact Nat.le_refl _)); clear hbox hB hg; obtain ⟨hc0, hc1, hc2, hc3, hc4, hc5, hc6, hc7, hc8, hc9, hc10, hc11, hc12, hc13, hc14⟩ := pall HP.out))
    go_ret
    rw [HL.out]
    exact ⟨folk_mk none 0 0 rfl rfl (Nat.le_refl _) (nilC2 _), HP.out.bel⟩
  · have h0' : decide (c < 0) = false := decide_eq_false h0
    by_cases h1 : (p.classes.length : Int) ≤ c
    · have hl : folkL p c = [] := by unfold folkL; rw [if_pos (by omega), List.getElem?_eq_none (by omega)]
      have HL := Aside0.mk hl
      clear hl
      go_enter Tryz.func112, Tryz.ntmps112
      go_wp2_with (first
        | ((with_reducible refine gate_dst (N := 2) rfl ?_); refine box_event ?hg (N := 2) ?hd (cs := pcs p a) (t := 34) ?hr ?_; (case hd => rfl); (case hg => rfl); (case hr => first | (go_simp; done) | (go_simp; rfl)); intro g hg w2 hbox hB; have HP := Aside0.mk (PBox.mk hbox hB (show w.heap.size ≤ g by rw [hg]; exact Nat.le_refl _)); clear hbox hB hg; obtain ⟨hc0, hc1, hc2, hc3, hc4, hc5, hc6, hc7, hc8, hc9, hc10, hc11, hc12, hc13, hc14⟩ := pall HP.out))
      go_ret
      rw [HL.out]
      exact ⟨folk_mk none 0 0 rfl rfl (Nat.le_refl _) (nilC2 _), HP.out.bel⟩
    · obtain ⟨i, rfl⟩ := Int.eq_ofNat_of_zero_le (show 0 ≤ c by omega)
      obtain ⟨x, hx⟩ : ∃ x, p.classes[i]? = some x := ⟨_, List.getElem?_eq_getElem (by omega)⟩
      have hl : folkL p (i : Int) = x.f3 := by unfold folkL; rw [if_pos (by omega), Int.toNat_natCast, hx]
      obtain ⟨ad, B3, d3, B4, d4, B5, d5, hA, e0, e1, e2, e3, e4, e5, e6, g3, g4, g5⟩ := elClass H.out.r7 hx
      have HL := Aside0.mk hl
      have HE := Aside0.mk e3
      have HG := Aside0.mk g3
      have HA := Aside0.mk hA
      clear hl hx e0 e1 e2 e3 e4 e5 e6 g3 g4 g5 hA
      go_enter Tryz.func112, Tryz.ntmps112
      go_wp2_with (first
        | ((with_reducible refine gate_dst (N := 2) rfl ?_); refine box_event ?hg (N := 2) ?hd (cs := pcs p a) (t := 34) ?hr ?_; (case hd => rfl); (case hg => rfl); (case hr => first | (go_simp; done) | (go_simp; rfl)); intro g hg w2 hbox hB; have HP := Aside0.mk (PBox.mk hbox hB (show w.heap.size ≤ g by rw [hg]; exact Nat.le_refl _)); have e3 := pw_cell_below (below_then HB0.out HB0.out.size hB) HE.out; clear hbox hB hg; obtain ⟨hc0, hc1, hc2, hc3, hc4, hc5, hc6, hc7, hc8, hc9, hc10, hc11, hc12, hc13, hc14⟩ := pall HP.out; rw [HA.out] at hc7))
      go_ret
      rw [HL.out]
      exact ⟨folk_mk B3 _ d3 rfl rfl HG.out.2 HG.out.1, HP.out.bel⟩
set_option maxRecDepth 100000 in
set_option maxHeartbeats 2000000 in
theorem Share_is (w : World) (p : PV) (a : PA) (x y : Int) (h : PRd w p a) (hlen : (folkL p x).length ≤ 64) (hri : (folkL p x).Pairwise (· < ·)) :
    Calls Tryz.prog 31 #[.agg (pcs p a), .int .i64 x, .int .i64 y] w fun e w' => ∃ v, e = .returned v ∧ (Kd.int .i64).R 3 w' w.heap.size (fun _ => True) v ((folkL p x).filter (fun z => (folkL p y).contains z)) ∧ Below w.heap.size w w' := by
  have H := Aside0.mk h
  obtain ⟨fx, ex⟩ : ∃ l, l = folkL p x := ⟨_, rfl⟩
  obtain ⟨fy, ey⟩ : ∃ l, l = folkL p y := ⟨_, rfl⟩
  have EX := Aside0.mk ex.symm
  have EY := Aside0.mk ey.symm
  rw [← ex] at hlen hri ⊢
  rw [← ey]
  have HRi := Aside0.mk hri
  clear h ex ey hri
  have hu := Tryz.underlying34
  obtain ⟨m, hm⟩ : ∃ m, m = fx.length := ⟨_, rfl⟩
  have HM := Aside0.mk hm
  rw [← hm] at hlen
  clear hm
  go_enter Tryz.func31, Tryz.ntmps31
  go_wp2_with (first
    | ((with_reducible refine gate_dst (N := 3) rfl ?_); refine box_event ?hg (N := 3) ?hd (cs := pcs p a) (t := 34) ?hr ?_; (case hd => rfl); (case hg => rfl); (case hr => first | (go_simp; done) | (go_simp; rfl)); intro g hg w2 hbox hB; have HP := Aside0.mk (PBox.mk hbox hB (show w.heap.size ≤ g by rw [hg]; exact Nat.le_refl _)); clear hbox hB hg; obtain ⟨hc0, hc1, hc2, hc3, hc4, hc5, hc6, hc7, hc8, hc9, hc10, hc11, hc12, hc13, hc14⟩ := pall HP.out)
    | (go_at_call 112; refine (folk_is w _ p a x H.out HP.out.bel).mono ?_; rintro e w3 ⟨⟨B, d, rfl, hd, hC⟩, hB⟩; rw [EX.out] at hC hd ⊢; rw [← HM.out] at hd ⊢; have HC := Aside0.mk hC; have HQ := Aside0.mk (HP.out.below hB); clear HP hB hC hc0 hc1 hc2 hc3 hc4 hc5 hc6 hc7 hc8 hc9 hc10 hc11 hc12 hc13 hc14; have HP := HQ; clear HQ; obtain ⟨hc0, hc1, hc2, hc3, hc4, hc5, hc6, hc7, hc8, hc9, hc10, hc11, hc12, hc13, hc14⟩ := pall HP.out))
  go_loopw [7, 14] (fun v7 v14 wr => ∃ i : Nat, i ≤ m ∧ v14 = .int .i64 i ∧ Aside0 ((Kd.int .i64).R 3 wr w.heap.size (fun _ => True) v7 ((fx.take i).filter (fun z => fy.contains z))) ∧ Aside0 (PBox w wr g 34 (pcs p a)) ∧ Aside0 (∀ k, v7.ownBlock = some k → k ≠ g)) (fun _ v14 _ => m - (intOf v14).toNat)
  case atStart => exact ⟨0, Nat.zero_le _, rfl, ⟨by simp; exact Kd.R_nil _ _ _ _ _⟩, HP, ⟨fun k hk => by simp [Value.ownBlock] at hk⟩⟩
  case round =>
    clear HP hc0 hc1 hc2 hc3 hc4 hc5 hc6 hc7 hc8 hc9 hc10 hc11 hc12 hc13 hc14
    obtain ⟨i, hi, rfl, HR, HP, HN⟩ := hrel
    obtain ⟨hc0, hc1, hc2, hc3, hc4, hc5, hc6, hc7, hc8, hc9, hc10, hc11, hc12, hc13, hc14⟩ := pall HP.out
    by_cases him : i < m
    · have him2 : (i : Int) < (m : Int) := by omega
      obtain ⟨z, hz⟩ : ∃ z, z = fx.getD i 0 := ⟨_, rfl⟩
      obtain ⟨ad, rfl, hcell⟩ := int_cell (Kd.C_below HC.out HP.out.bel) (show i < fx.length by have := HM.out; omega) hz
      have HZ := Aside0.mk hz
      have htk := Aside0.mk (show fx.take (i + 1) = fx.take i ++ [z] by rw [hz]; exact take1 fx i (by have := HM.out; omega))
      clear hz
      cases hct : fy.contains z with
      | false =>
        have HCt := Aside0.mk hct
        clear hct
        go_wp2_with (first
          | (go_at_call 112; refine (folk_is w _ p a y H.out HP.out.bel).mono ?_; rintro e w4 ⟨⟨B2, d2, rfl, hd2, hC2⟩, hB⟩; rw [EY.out] at hC2 hd2 ⊢; have HC2 := Aside0.mk (And.intro hC2 hd2); have HQ := Aside0.mk (HP.out.below hB); have HR2 := Aside0.mk (Kd.R_below HR.out hB); clear HP HR hB hC2 hd2 hc0 hc1 hc2 hc3 hc4 hc5 hc6 hc7 hc8 hc9 hc10 hc11 hc12 hc13 hc14; have HP := HQ; have HR := HR2; clear HQ HR2; obtain ⟨hc0, hc1, hc2, hc3, hc4, hc5, hc6, hc7, hc8, hc9, hc10, hc11, hc12, hc13, hc14⟩ := pall HP.out)
          | (go_at_call 113; refine (Cont_is _ B2 d2 fy z (Kd.C_below HC2.out.1 HP.out.bel) HC2.out.2).mono ?_; rintro e w5 ⟨rfl, hB⟩; rw [HCt.out]; have HQ := Aside0.mk (HP.out.below hB); have HR2 := Aside0.mk (Kd.R_below HR.out hB); clear HP HR hB hc0 hc1 hc2 hc3 hc4 hc5 hc6 hc7 hc8 hc9 hc10 hc11 hc12 hc13 hc14; have HP := HQ; have HR := HR2; clear HQ HR2; obtain ⟨hc0, hc1, hc2, hc3, hc4, hc5, hc6, hc7, hc8, hc9, hc10, hc11, hc12, hc13, hc14⟩ := pall HP.out))
        refine ⟨⟨i + 1, by omega, by go_num, ⟨?_⟩, HP, HN⟩, by simp [intOf]; omega⟩
        rw [htk.out, List.filter_append]
        have : [z].filter (fun q => fy.contains q) = [] := by simp only [List.filter_cons, HCt.out]; rfl
        rw [this, List.append_nil]
        exact HR.out
      | true =>
        have HCt := Aside0.mk hct
        clear hct
        have hlt : ((fx.take i).filter (fun q => fy.contains q)).length ≤ i := Nat.le_trans (List.length_filter_le _ _) (by rw [List.length_take]; exact Nat.min_le_left _ _)
        have HLt := Aside0.mk hlt
        clear hlt
        obtain ⟨A7, c7, e7⟩ := Kd.R_slice HR.out
        subst e7
        obtain ⟨m7, hm7⟩ : ∃ m7, m7 = ((fx.take i).filter (fun q => fy.contains q)).length := ⟨_, rfl⟩
        rw [← hm7] at HR HLt HN ⊢
        have HM7 := Aside0.mk hm7
        clear hm7
        go_wp2_with (first
          | (go_at_call 112; refine (folk_is w _ p a y H.out HP.out.bel).mono ?_; rintro e w4 ⟨⟨B2, d2, rfl, hd2, hC2⟩, hB⟩; rw [EY.out] at hC2 hd2 ⊢; have HC2 := Aside0.mk (And.intro hC2 hd2); have HQ := Aside0.mk (HP.out.below hB); have HR2 := Aside0.mk (Kd.R_below HR.out hB); clear HP HR hB hC2 hd2 hc0 hc1 hc2 hc3 hc4 hc5 hc6 hc7 hc8 hc9 hc10 hc11 hc12 hc13 hc14; have HP := HQ; have HR := HR2; clear HQ HR2; obtain ⟨hc0, hc1, hc2, hc3, hc4, hc5, hc6, hc7, hc8, hc9, hc10, hc11, hc12, hc13, hc14⟩ := pall HP.out)
          | (go_at_call 113; refine (Cont_is _ B2 d2 fy z (Kd.C_below HC2.out.1 HP.out.bel) HC2.out.2).mono ?_; rintro e w5 ⟨rfl, hB⟩; rw [HCt.out]; have HQ := Aside0.mk (HP.out.below hB); have HR2 := Aside0.mk (Kd.R_below HR.out hB); clear HP HR hB hc0 hc1 hc2 hc3 hc4 hc5 hc6 hc7 hc8 hc9 hc10 hc11 hc12 hc13 hc14; have HP := HQ; have HR := HR2; clear HQ HR2; obtain ⟨hc0, hc1, hc2, hc3, hc4, hc5, hc6, hc7, hc8, hc9, hc10, hc11, hc12, hc13, hc14⟩ := pall HP.out)
          | ((with_reducible refine gate_builtin (b := .append) (xs := #[.tmp 23, .tmp 25]) rfl ?_); refine Kd.R_append (Kd.int .i64) (w0 := w) w.heap.size rfl (.tmp 23) (.tmp 25) 51 3 (.int .i64 0) 8 rfl Tryz.underlying51 infoI rfl (by decide) (by omega) (.slice A7 m7 c7) ((fx.take i).filter (fun q => fy.contains q)) z [.int .i64 z] (fun _ => True) (fun _ => False) rfl rfl rfl (fun _ hk => hk.elim) (fun _ _ => trivial) (by (with_reducible repeat (first | apply Kd.R_alloc | apply Kd.R_drewN | apply Kd.R_drew)); exact HR.out) (by repeat (first | (with_reducible first | exact HP.out.bel | apply below_alloc | apply pw_below_drewN | apply below_drew1) | exact HP.out.bel)) (below_size (by repeat (first | (with_reducible first | exact HP.out.bel | apply below_alloc | apply pw_below_drewN | apply below_drew1) | exact HP.out.bel))) (by have := HLt.out; have := HM7.out; omega) ?_; intro v26 w8 hR8 hB8 hg8 hat8; have HR8 := Aside0.mk hR8; have HB8 := Aside0.mk hB8; have HG8 := Aside0.mk hg8; have HAt := Aside0.mk hat8; clear hR8 hB8 hg8 hat8))
        have hR8 := HR8.out
        have hfl : (fx.take (i + 1)).filter (fun q => fy.contains q) = (fx.take i).filter (fun q => fy.contains q) ++ [z] := by
          rw [htk.out, List.filter_append]
          congr 1
          simp only [List.filter_cons, HCt.out]
          rfl
        rw [← hfl] at hR8
        refine ⟨⟨i + 1, by omega, by go_num, ⟨hR8⟩, ⟨⟨(HG8.out.block g (Array.getElem?_eq_some_iff.1 HP.out.blk).1 (fun e => HN.out g e.symm rfl)).trans HP.out.blk, HB8.out, HP.out.ge⟩⟩, ⟨fun k hk e => ?_⟩⟩, by simp [intOf]; omega⟩
        subst e
        rcases HAt.out with h9 | ⟨b, h9, h10⟩
        · rw [h9] at hk
          exact HN.out k hk rfl
        · rw [h9] at hk
          injection hk with hk
          have := (Array.getElem?_eq_some_iff.1 HP.out.blk).1
          omega
    · obtain rfl : i = m := by omega
      have hR := HR.out
      rw [List.take_of_length_le (by have := HM.out; omega)] at hR
      have HRs := Aside0.mk (HRi.out.filter (fun z => fy.contains z))
      have HRR := Aside0.mk hR
      have HLl := Aside0.mk (show (fx.filter (fun z => fy.contains z)).length < 4611686018427387904 from Nat.lt_of_le_of_lt (List.length_filter_le _ _) (by have := HM.out; omega))
      clear hR HR
      go_wp2_with (first
        | (go_at_call 114; refine (sort_any _ w.heap.size _ _ HRR.out HLl.out HRs.out).mono ?_; rintro e w6 ⟨rfl, hB⟩; have HR6 := Aside0.mk (Kd.R_below HRR.out hB); have HB6 := Aside0.mk (below_then HP.out.bel HP.out.bel.size hB); clear hB HRR)
        | (go_at_call 115; refine (compact_any _ w.heap.size _ _ HR6.out HRs.out).mono ?_; rintro e w7 ⟨rfl, hB⟩; have HR7 := Aside0.mk (Kd.R_below HR6.out hB); have HB7 := Aside0.mk (below_then HB6.out HB6.out.size hB); clear hB))
      go_ret
      exact ⟨_, rfl, HR7.out, HB7.out⟩
end Go.Proofs.YtineikfhfmiidaaGreat.Pm

/- Check, Right, Plans, FindClass, Same and Copy at the problems of law 17's example: all rows are empty. -/
namespace Go.Proofs.YtineikfhfmiidaaGreat.Pm
open Go Go.RowKit Go.Proofs.YtineikfhfmiidaaGreat.Gp Go.Proofs.YtineikfhfmiidaaGreatW.PrintWords Go.Proofs.YtineikfhfmiidaaGreatW.PrintLast Go.Proofs.YtineikfhfmiidaaGreatW.PrintMore
set_option linter.unusedVariables false
set_option linter.unusedSimpArgs false
theorem name_none : room_Name.f { data := #[] } = some false := by
  unfold room_Name.f
  rw [ByteArray.toList_eq]
  rfl
theorem name_p : room_Name.f { data := #[112] } = some true := by
  unfold room_Name.f
  rw [ByteArray.toList_eq]
  rfl
theorem nilC {α : Type} (d : Kd α) (w : World) : d.C w none 0 [] := ⟨rfl, by omega, fun h => absurd h (Nat.lt_irrefl 0)⟩
set_option maxRecDepth 100000 in
set_option maxHeartbeats 1000000 in
theorem Check_none (w : World) :
    Calls Tryz.prog 10 #[.agg #[.string { data := #[] }, .int .i64 0, .int .i64 0, .int .i64 0, .slice none 0 0, .slice none 0 0, .slice none 0 0, .slice none 0 0, .slice none 0 0, .slice none 0 0, .slice none 0 0, .int .i64 0, .int .i64 0, .int .i64 0, .int .i64 0]] w fun e w' => e = .returned (.tuple #[.int .i64 18, .int .i64 0]) ∧ Below w.heap.size w w' := by
  have hu40 := Tryz.underlying34
  have hu29 := Tryz.underlying23
  have hu38 := Tryz.underlying32
  go_enter Tryz.func10, Tryz.ntmps10
  go_wp2_with (first
    | ((with_reducible refine gate_dst (N := 1) rfl ?_); refine box_event ?hg (N := 1) ?hd (cs := #[.string { data := #[] }, .int .i64 0, .int .i64 0, .int .i64 0, .slice none 0 0, .slice none 0 0, .slice none 0 0, .slice none 0 0, .slice none 0 0, .slice none 0 0, .slice none 0 0, .int .i64 0, .int .i64 0, .int .i64 0, .int .i64 0]) (t := 34) ?hr ?_; (case hd => rfl); (case hg => rfl); (case hr => first | (go_simp; done) | (go_simp; rfl)); intro g hg w2 hbox hB; have HP := Aside0.mk (PBox.mk hbox hB (show w.heap.size ≤ g by rw [hg]; exact Nat.le_refl _)); clear hbox hB hg; have hc0 := HP.out.cell 0 rfl; have hc1 := HP.out.cell 1 rfl; have hc2 := HP.out.cell 2 rfl; have hc3 := HP.out.cell 3 rfl; have hc4 := HP.out.cell 4 rfl; have hc5 := HP.out.cell 5 rfl; have hc6 := HP.out.cell 6 rfl; have hc7 := HP.out.cell 7 rfl; have hc8 := HP.out.cell 8 rfl; have hc9 := HP.out.cell 9 rfl; have hc10 := HP.out.cell 10 rfl; have hc11 := HP.out.cell 11 rfl; have hc12 := HP.out.cell 12 rfl; have hc13 := HP.out.cell 13 rfl; have hc14 := HP.out.cell 14 rfl)
    | (go_at_call 34; refine (room_Name.calls _ _ _ name_none).mono ?_; rintro e w3 ⟨rfl, hD⟩; have hB := hD.below; clear hD; have HQ := Aside0.mk (HP.out.below hB); clear HP hB hc0 hc1 hc2 hc3 hc4 hc5 hc6 hc7 hc8 hc9 hc10 hc11 hc12 hc13 hc14; have HP := HQ; clear HQ; have hc0 := HP.out.cell 0 rfl; have hc1 := HP.out.cell 1 rfl; have hc2 := HP.out.cell 2 rfl; have hc3 := HP.out.cell 3 rfl; have hc4 := HP.out.cell 4 rfl; have hc5 := HP.out.cell 5 rfl; have hc6 := HP.out.cell 6 rfl; have hc7 := HP.out.cell 7 rfl; have hc8 := HP.out.cell 8 rfl; have hc9 := HP.out.cell 9 rfl; have hc10 := HP.out.cell 10 rfl; have hc11 := HP.out.cell 11 rfl; have hc12 := HP.out.cell 12 rfl; have hc13 := HP.out.cell 13 rfl; have hc14 := HP.out.cell 14 rfl))
  refine bodyPost_ret (results_tmp2 rfl _ _ _) rfl ?_
  exact ⟨rfl, by repeat (first | exact HP.out.bel | apply pw_below_drewN | apply below_alloc)⟩
set_option maxRecDepth 100000 in
set_option maxHeartbeats 1000000 in
theorem Check_p (w : World) :
    Calls Tryz.prog 10 #[.agg #[.string { data := #[112] }, .int .i64 1, .int .i64 5, .int .i64 10, .slice none 0 0, .slice none 0 0, .slice none 0 0, .slice none 0 0, .slice none 0 0, .slice none 0 0, .slice none 0 0, .int .i64 0, .int .i64 0, .int .i64 0, .int .i64 0]] w fun e w' => e = .returned (.tuple #[.int .i64 0, .int .i64 0]) ∧ Below w.heap.size w w' := by
  have hu40 := Tryz.underlying34
  have hu29 := Tryz.underlying23
  have hu38 := Tryz.underlying32
  go_enter Tryz.func10, Tryz.ntmps10
  go_wp2_with (first
    | ((with_reducible refine gate_dst (N := 1) rfl ?_); refine box_event ?hg (N := 1) ?hd (cs := #[.string { data := #[112] }, .int .i64 1, .int .i64 5, .int .i64 10, .slice none 0 0, .slice none 0 0, .slice none 0 0, .slice none 0 0, .slice none 0 0, .slice none 0 0, .slice none 0 0, .int .i64 0, .int .i64 0, .int .i64 0, .int .i64 0]) (t := 34) ?hr ?_; (case hd => rfl); (case hg => rfl); (case hr => first | (go_simp; done) | (go_simp; rfl)); intro g hg w2 hbox hB; have HP := Aside0.mk (PBox.mk hbox hB (show w.heap.size ≤ g by rw [hg]; exact Nat.le_refl _)); clear hbox hB hg; have hc0 := HP.out.cell 0 rfl; have hc1 := HP.out.cell 1 rfl; have hc2 := HP.out.cell 2 rfl; have hc3 := HP.out.cell 3 rfl; have hc4 := HP.out.cell 4 rfl; have hc5 := HP.out.cell 5 rfl; have hc6 := HP.out.cell 6 rfl; have hc7 := HP.out.cell 7 rfl; have hc8 := HP.out.cell 8 rfl; have hc9 := HP.out.cell 9 rfl; have hc10 := HP.out.cell 10 rfl; have hc11 := HP.out.cell 11 rfl; have hc12 := HP.out.cell 12 rfl; have hc13 := HP.out.cell 13 rfl; have hc14 := HP.out.cell 14 rfl)
    | (go_at_call 34; refine (room_Name.calls _ _ _ name_p).mono ?_; rintro e w3 ⟨rfl, hD⟩; have hB := hD.below; clear hD; have HQ := Aside0.mk (HP.out.below hB); clear HP hB hc0 hc1 hc2 hc3 hc4 hc5 hc6 hc7 hc8 hc9 hc10 hc11 hc12 hc13 hc14; have HP := HQ; clear HQ; have hc0 := HP.out.cell 0 rfl; have hc1 := HP.out.cell 1 rfl; have hc2 := HP.out.cell 2 rfl; have hc3 := HP.out.cell 3 rfl; have hc4 := HP.out.cell 4 rfl; have hc5 := HP.out.cell 5 rfl; have hc6 := HP.out.cell 6 rfl; have hc7 := HP.out.cell 7 rfl; have hc8 := HP.out.cell 8 rfl; have hc9 := HP.out.cell 9 rfl; have hc10 := HP.out.cell 10 rfl; have hc11 := HP.out.cell 11 rfl; have hc12 := HP.out.cell 12 rfl; have hc13 := HP.out.cell 13 rfl; have hc14 := HP.out.cell 14 rfl)
    | (go_at_call 35; refine (when_RightGrid.calls _ _ _ true _ (by rfl)).mono ?_; rintro e w3 ⟨rfl, hB⟩; have HQ := Aside0.mk (HP.out.below hB); clear HP hB hc0 hc1 hc2 hc3 hc4 hc5 hc6 hc7 hc8 hc9 hc10 hc11 hc12 hc13 hc14; have HP := HQ; clear HQ; have hc0 := HP.out.cell 0 rfl; have hc1 := HP.out.cell 1 rfl; have hc2 := HP.out.cell 2 rfl; have hc3 := HP.out.cell 3 rfl; have hc4 := HP.out.cell 4 rfl; have hc5 := HP.out.cell 5 rfl; have hc6 := HP.out.cell 6 rfl; have hc7 := HP.out.cell 7 rfl; have hc8 := HP.out.cell 8 rfl; have hc9 := HP.out.cell 9 rfl; have hc10 := HP.out.cell 10 rfl; have hc11 := HP.out.cell 11 rfl; have hc12 := HP.out.cell 12 rfl; have hc13 := HP.out.cell 13 rfl; have hc14 := HP.out.cell 14 rfl)
    | (go_at_call 36; refine (badRoom_nil _ _ _ _).mono ?_; rintro e w3 ⟨rfl, hB⟩; have HQ := Aside0.mk (HP.out.below hB); clear HP hB hc0 hc1 hc2 hc3 hc4 hc5 hc6 hc7 hc8 hc9 hc10 hc11 hc12 hc13 hc14; have HP := HQ; clear HQ; have hc0 := HP.out.cell 0 rfl; have hc1 := HP.out.cell 1 rfl; have hc2 := HP.out.cell 2 rfl; have hc3 := HP.out.cell 3 rfl; have hc4 := HP.out.cell 4 rfl; have hc5 := HP.out.cell 5 rfl; have hc6 := HP.out.cell 6 rfl; have hc7 := HP.out.cell 7 rfl; have hc8 := HP.out.cell 8 rfl; have hc9 := HP.out.cell 9 rfl; have hc10 := HP.out.cell 10 rfl; have hc11 := HP.out.cell 11 rfl; have hc12 := HP.out.cell 12 rfl; have hc13 := HP.out.cell 13 rfl; have hc14 := HP.out.cell 14 rfl)
    | (go_at_call 41; refine (badPerson_nil _ _ _ _).mono ?_; rintro e w3 ⟨rfl, hB⟩; have HQ := Aside0.mk (HP.out.below hB); clear HP hB hc0 hc1 hc2 hc3 hc4 hc5 hc6 hc7 hc8 hc9 hc10 hc11 hc12 hc13 hc14; have HP := HQ; clear HQ; have hc0 := HP.out.cell 0 rfl; have hc1 := HP.out.cell 1 rfl; have hc2 := HP.out.cell 2 rfl; have hc3 := HP.out.cell 3 rfl; have hc4 := HP.out.cell 4 rfl; have hc5 := HP.out.cell 5 rfl; have hc6 := HP.out.cell 6 rfl; have hc7 := HP.out.cell 7 rfl; have hc8 := HP.out.cell 8 rfl; have hc9 := HP.out.cell 9 rfl; have hc10 := HP.out.cell 10 rfl; have hc11 := HP.out.cell 11 rfl; have hc12 := HP.out.cell 12 rfl; have hc13 := HP.out.cell 13 rfl; have hc14 := HP.out.cell 14 rfl)
    | (go_at_call 45; refine (badClass_nil _ _ _ _).mono ?_; rintro e w3 ⟨rfl, hB⟩; have HQ := Aside0.mk (HP.out.below hB); clear HP hB hc0 hc1 hc2 hc3 hc4 hc5 hc6 hc7 hc8 hc9 hc10 hc11 hc12 hc13 hc14; have HP := HQ; clear HQ; have hc0 := HP.out.cell 0 rfl; have hc1 := HP.out.cell 1 rfl; have hc2 := HP.out.cell 2 rfl; have hc3 := HP.out.cell 3 rfl; have hc4 := HP.out.cell 4 rfl; have hc5 := HP.out.cell 5 rfl; have hc6 := HP.out.cell 6 rfl; have hc7 := HP.out.cell 7 rfl; have hc8 := HP.out.cell 8 rfl; have hc9 := HP.out.cell 9 rfl; have hc10 := HP.out.cell 10 rfl; have hc11 := HP.out.cell 11 rfl; have hc12 := HP.out.cell 12 rfl; have hc13 := HP.out.cell 13 rfl; have hc14 := HP.out.cell 14 rfl)
    | (go_at_call 49; refine (badCourse_nil _ _ _ _).mono ?_; rintro e w3 ⟨rfl, hB⟩; have HQ := Aside0.mk (HP.out.below hB); clear HP hB hc0 hc1 hc2 hc3 hc4 hc5 hc6 hc7 hc8 hc9 hc10 hc11 hc12 hc13 hc14; have HP := HQ; clear HQ; have hc0 := HP.out.cell 0 rfl; have hc1 := HP.out.cell 1 rfl; have hc2 := HP.out.cell 2 rfl; have hc3 := HP.out.cell 3 rfl; have hc4 := HP.out.cell 4 rfl; have hc5 := HP.out.cell 5 rfl; have hc6 := HP.out.cell 6 rfl; have hc7 := HP.out.cell 7 rfl; have hc8 := HP.out.cell 8 rfl; have hc9 := HP.out.cell 9 rfl; have hc10 := HP.out.cell 10 rfl; have hc11 := HP.out.cell 11 rfl; have hc12 := HP.out.cell 12 rfl; have hc13 := HP.out.cell 13 rfl; have hc14 := HP.out.cell 14 rfl)
    | (go_at_call 53; refine (badStudent_nil _ _ _ _).mono ?_; rintro e w3 ⟨rfl, hB⟩; have HQ := Aside0.mk (HP.out.below hB); clear HP hB hc0 hc1 hc2 hc3 hc4 hc5 hc6 hc7 hc8 hc9 hc10 hc11 hc12 hc13 hc14; have HP := HQ; clear HQ; have hc0 := HP.out.cell 0 rfl; have hc1 := HP.out.cell 1 rfl; have hc2 := HP.out.cell 2 rfl; have hc3 := HP.out.cell 3 rfl; have hc4 := HP.out.cell 4 rfl; have hc5 := HP.out.cell 5 rfl; have hc6 := HP.out.cell 6 rfl; have hc7 := HP.out.cell 7 rfl; have hc8 := HP.out.cell 8 rfl; have hc9 := HP.out.cell 9 rfl; have hc10 := HP.out.cell 10 rfl; have hc11 := HP.out.cell 11 rfl; have hc12 := HP.out.cell 12 rfl; have hc13 := HP.out.cell 13 rfl; have hc14 := HP.out.cell 14 rfl)
    | (go_at_call 57; refine (badRule_nil _ _ _ _).mono ?_; rintro e w3 ⟨rfl, hB⟩; have HQ := Aside0.mk (HP.out.below hB); clear HP hB hc0 hc1 hc2 hc3 hc4 hc5 hc6 hc7 hc8 hc9 hc10 hc11 hc12 hc13 hc14; have HP := HQ; clear HQ; have hc0 := HP.out.cell 0 rfl; have hc1 := HP.out.cell 1 rfl; have hc2 := HP.out.cell 2 rfl; have hc3 := HP.out.cell 3 rfl; have hc4 := HP.out.cell 4 rfl; have hc5 := HP.out.cell 5 rfl; have hc6 := HP.out.cell 6 rfl; have hc7 := HP.out.cell 7 rfl; have hc8 := HP.out.cell 8 rfl; have hc9 := HP.out.cell 9 rfl; have hc10 := HP.out.cell 10 rfl; have hc11 := HP.out.cell 11 rfl; have hc12 := HP.out.cell 12 rfl; have hc13 := HP.out.cell 13 rfl; have hc14 := HP.out.cell 14 rfl)
    | (go_at_call 40; refine (room_RightWalk.calls 5 0 none 0 [] true _ (nilC _ _) (Nat.le_refl _) (by rfl)).mono ?_; rintro e w3 ⟨rfl, hD⟩; have hB := hD.below; clear hD; have HQ := Aside0.mk (HP.out.below hB); clear HP hB hc0 hc1 hc2 hc3 hc4 hc5 hc6 hc7 hc8 hc9 hc10 hc11 hc12 hc13 hc14; have HP := HQ; clear HQ; have hc0 := HP.out.cell 0 rfl; have hc1 := HP.out.cell 1 rfl; have hc2 := HP.out.cell 2 rfl; have hc3 := HP.out.cell 3 rfl; have hc4 := HP.out.cell 4 rfl; have hc5 := HP.out.cell 5 rfl; have hc6 := HP.out.cell 6 rfl; have hc7 := HP.out.cell 7 rfl; have hc8 := HP.out.cell 8 rfl; have hc9 := HP.out.cell 9 rfl; have hc10 := HP.out.cell 10 rfl; have hc11 := HP.out.cell 11 rfl; have hc12 := HP.out.cell 12 rfl; have hc13 := HP.out.cell 13 rfl; have hc14 := HP.out.cell 14 rfl)
    | (go_at_call 59; refine (problem_cost.calls 0 true _ (by rfl)).mono ?_; rintro e w3 ⟨rfl, hD⟩; obtain ⟨m, rfl⟩ := hD.out; clear hD))
  refine bodyPost_ret (results_tmp2 rfl _ _ _) rfl ?_
  exact ⟨rfl, by repeat (first | exact HP.out.bel | apply pw_below_drewN | apply below_alloc)⟩
end Go.Proofs.YtineikfhfmiidaaGreat.Pm

/- Copy of the problem of law 17's example. -/
namespace Go.Proofs.YtineikfhfmiidaaGreat.Pm
open Go Go.RowKit Go.Proofs.YtineikfhfmiidaaGreat.Gp Go.Proofs.YtineikfhfmiidaaGreatW.PrintWords Go.Proofs.YtineikfhfmiidaaGreatW.PrintLast Go.Proofs.YtineikfhfmiidaaGreatW.PrintMore
set_option linter.unusedVariables false
set_option linter.unusedSimpArgs false
theorem PBox.fro {w wr : World} {g : Nat} {t : TypeId} {cs : Array Value} (h : PBox w wr g t cs) (i : Nat) : wr.frozen? ⟨g, i, none⟩ = false := blk_frozen h.blk i
theorem PBox.put {w wr : World} {g : Nat} {t : TypeId} {cs cs' : Array Value} (h : PBox w wr g t cs) (i : Nat) (u : Value) (e : cs.setIfInBounds i u = cs') : PBox w (wr.setCell ⟨g, i, none⟩ u) g t cs' :=
  ⟨blk_put h.blk i u e, h.bel.setCell (p := ⟨g, i, none⟩) h.ge _, h.ge⟩
theorem PBox.far {w wr : World} {g g2 : Nat} {t : TypeId} {cs : Array Value} (h : PBox w wr g t cs) (hne : g ≠ g2) (h2 : w.heap.size ≤ g2) (i : Nat) (u : Value) : PBox w (wr.setCell ⟨g2, i, none⟩ u) g t cs :=
  ⟨blk_far h.blk (p := ⟨g2, i, none⟩) hne u, h.bel.setCell (p := ⟨g2, i, none⟩) h2 _, h.ge⟩
theorem PBox.lt {w wr : World} {g : Nat} {t : TypeId} {cs : Array Value} (h : PBox w wr g t cs) : g < wr.heap.size := (Array.getElem?_eq_some_iff.1 h.blk).1
/-- The argument's block and the result's. -/
structure CB (w wr : World) (g g2 : Nat) : Prop where
  p : PBox w wr g 34 #[.string { data := #[112] }, .int .i64 1, .int .i64 5, .int .i64 10, .slice none 0 0, .slice none 0 0, .slice none 0 0, .slice none 0 0, .slice none 0 0, .slice none 0 0, .slice none 0 0, .int .i64 0, .int .i64 0, .int .i64 0, .int .i64 0]
  z : PBox w wr g2 34 #[.string ByteArray.empty, .int .i64 0, .int .i64 0, .int .i64 0, .slice none 0 0, .slice none 0 0, .slice none 0 0, .slice none 0 0, .slice none 0 0, .slice none 0 0, .slice none 0 0, .int .i64 0, .int .i64 0, .int .i64 0, .int .i64 0]
  ne : g2 ≠ g
theorem CB.below {w wr w1 : World} {g g2 : Nat} (h : CB w wr g g2) (hB : Below wr.heap.size wr w1) : CB w w1 g g2 := ⟨h.p.below hB, h.z.below hB, h.ne⟩
theorem CB.put {w wr : World} {g g2 : Nat} (h : CB w wr g g2) (i : Nat) (e : (#[.string { data := #[112] }, .int .i64 1, .int .i64 5, .int .i64 10, .slice none 0 0, .slice none 0 0, .slice none 0 0, .slice none 0 0, .slice none 0 0, .slice none 0 0, .slice none 0 0, .int .i64 0, .int .i64 0, .int .i64 0, .int .i64 0] : Array Value).setIfInBounds i (.slice none 0 0) = #[.string { data := #[112] }, .int .i64 1, .int .i64 5, .int .i64 10, .slice none 0 0, .slice none 0 0, .slice none 0 0, .slice none 0 0, .slice none 0 0, .slice none 0 0, .slice none 0 0, .int .i64 0, .int .i64 0, .int .i64 0, .int .i64 0]) : CB w (wr.setCell ⟨g, i, none⟩ (.slice none 0 0)) g g2 :=
  ⟨h.p.put i _ e, h.z.far h.ne h.p.ge i _, h.ne⟩
set_option maxRecDepth 100000 in
set_option maxHeartbeats 2000000 in
theorem Copy_p (w : World) :
    Calls Tryz.prog 14 #[.agg #[.string { data := #[112] }, .int .i64 1, .int .i64 5, .int .i64 10, .slice none 0 0, .slice none 0 0, .slice none 0 0, .slice none 0 0, .slice none 0 0, .slice none 0 0, .slice none 0 0, .int .i64 0, .int .i64 0, .int .i64 0, .int .i64 0]] w fun e w' => e = .returned (.agg #[.string { data := #[112] }, .int .i64 1, .int .i64 5, .int .i64 10, .slice none 0 0, .slice none 0 0, .slice none 0 0, .slice none 0 0, .slice none 0 0, .slice none 0 0, .slice none 0 0, .int .i64 0, .int .i64 0, .int .i64 0, .int .i64 0]) ∧ Below w.heap.size w w' := by
  have hu40 := Tryz.underlying34
  go_enter Tryz.func14, Tryz.ntmps14
  go_wp2_with (first
    | ((with_reducible refine gate_dst (N := 1) rfl ?_); refine box_event ?hg (N := 1) ?hd (cs := #[.string { data := #[112] }, .int .i64 1, .int .i64 5, .int .i64 10, .slice none 0 0, .slice none 0 0, .slice none 0 0, .slice none 0 0, .slice none 0 0, .slice none 0 0, .slice none 0 0, .int .i64 0, .int .i64 0, .int .i64 0, .int .i64 0]) (t := 34) ?hr ?_; (case hd => rfl); (case hg => rfl); (case hr => first | (go_simp; done) | (go_simp; rfl)); intro g hg w2 hbox hB; have HP := Aside0.mk (PBox.mk hbox hB (show w.heap.size ≤ g by rw [hg]; exact Nat.le_refl _)); clear hbox hB hg)
    | ((with_reducible refine gate_dst (N := 2) rfl ?_); refine box_event ?hg (N := 2) ?hd (cs := #[.string ByteArray.empty, .int .i64 0, .int .i64 0, .int .i64 0, .slice none 0 0, .slice none 0 0, .slice none 0 0, .slice none 0 0, .slice none 0 0, .slice none 0 0, .slice none 0 0, .int .i64 0, .int .i64 0, .int .i64 0, .int .i64 0]) (t := 34) ?hr ?_; (case hd => rfl); (case hg => rfl); (case hr => first | (go_simp; done) | (go_simp; rfl)); intro g2 hg w3 hbox hB; have CP := Aside0.mk (CB.mk (HP.out.below hB) (PBox.mk hbox (below_then HP.out.bel HP.out.bel.size hB) (show w.heap.size ≤ g2 by rw [hg]; exact HP.out.bel.size)) (show g2 ≠ g by have := HP.out.lt; omega)); clear hbox hB hg HP; have hc0 := CP.out.p.cell 0 rfl; have hc1 := CP.out.p.cell 1 rfl; have hc2 := CP.out.p.cell 2 rfl; have hc3 := CP.out.p.cell 3 rfl; have hc4 := CP.out.p.cell 4 rfl; have hc5 := CP.out.p.cell 5 rfl; have hc6 := CP.out.p.cell 6 rfl; have hc7 := CP.out.p.cell 7 rfl; have hc8 := CP.out.p.cell 8 rfl; have hc9 := CP.out.p.cell 9 rfl; have hc10 := CP.out.p.cell 10 rfl; have hc11 := CP.out.p.cell 11 rfl; have hc12 := CP.out.p.cell 12 rfl; have hc13 := CP.out.p.cell 13 rfl; have hc14 := CP.out.p.cell 14 rfl; have hf4 := CP.out.p.fro 4; have hf5 := CP.out.p.fro 5; have hf6 := CP.out.p.fro 6; have hf7 := CP.out.p.fro 7; have hf8 := CP.out.p.fro 8; have hf9 := CP.out.p.fro 9; have hf10 := CP.out.p.fro 10)
    | (go_at_call 73; refine (cloneRoom_nil _).mono ?_; rintro e w3 ⟨rfl, hB⟩; have CQ := Aside0.mk (CB.below (CP.out) hB); clear CP hB hc0 hc1 hc2 hc3 hc4 hc5 hc6 hc7 hc8 hc9 hc10 hc11 hc12 hc13 hc14 hf4 hf5 hf6 hf7 hf8 hf9 hf10; have CP := CQ; clear CQ; have hc0 := CP.out.p.cell 0 rfl; have hc1 := CP.out.p.cell 1 rfl; have hc2 := CP.out.p.cell 2 rfl; have hc3 := CP.out.p.cell 3 rfl; have hc4 := CP.out.p.cell 4 rfl; have hc5 := CP.out.p.cell 5 rfl; have hc6 := CP.out.p.cell 6 rfl; have hc7 := CP.out.p.cell 7 rfl; have hc8 := CP.out.p.cell 8 rfl; have hc9 := CP.out.p.cell 9 rfl; have hc10 := CP.out.p.cell 10 rfl; have hc11 := CP.out.p.cell 11 rfl; have hc12 := CP.out.p.cell 12 rfl; have hc13 := CP.out.p.cell 13 rfl; have hc14 := CP.out.p.cell 14 rfl; have hf4 := CP.out.p.fro 4; have hf5 := CP.out.p.fro 5; have hf6 := CP.out.p.fro 6; have hf7 := CP.out.p.fro 7; have hf8 := CP.out.p.fro 8; have hf9 := CP.out.p.fro 9; have hf10 := CP.out.p.fro 10))
  go_loopw [19] (fun v wr => v = .int .i64 0 ∧ Aside0 (CB w wr g g2)) (fun _ _ => 0)
  case atStart => exact ⟨rfl, ⟨CP.out.put 4 rfl⟩⟩
  case round =>
    clear CP hc0 hc1 hc2 hc3 hc4 hc5 hc6 hc7 hc8 hc9 hc10 hc11 hc12 hc13 hc14 hf4 hf5 hf6 hf7 hf8 hf9 hf10
    obtain ⟨rfl, CP⟩ := hrel
    have hc0 := CP.out.p.cell 0 rfl; have hc1 := CP.out.p.cell 1 rfl; have hc2 := CP.out.p.cell 2 rfl; have hc3 := CP.out.p.cell 3 rfl; have hc4 := CP.out.p.cell 4 rfl; have hc5 := CP.out.p.cell 5 rfl; have hc6 := CP.out.p.cell 6 rfl; have hc7 := CP.out.p.cell 7 rfl; have hc8 := CP.out.p.cell 8 rfl; have hc9 := CP.out.p.cell 9 rfl; have hc10 := CP.out.p.cell 10 rfl; have hc11 := CP.out.p.cell 11 rfl; have hc12 := CP.out.p.cell 12 rfl; have hc13 := CP.out.p.cell 13 rfl; have hc14 := CP.out.p.cell 14 rfl; have hf4 := CP.out.p.fro 4; have hf5 := CP.out.p.fro 5; have hf6 := CP.out.p.fro 6; have hf7 := CP.out.p.fro 7; have hf8 := CP.out.p.fro 8; have hf9 := CP.out.p.fro 9; have hf10 := CP.out.p.fro 10
    go_wp2_with (first
      | (go_at_call 75; refine (rows_nil _).mono ?_; rintro e w3 ⟨rfl, hB⟩; have CQ := Aside0.mk (CB.below (CP.out) hB); clear CP hB hc0 hc1 hc2 hc3 hc4 hc5 hc6 hc7 hc8 hc9 hc10 hc11 hc12 hc13 hc14 hf4 hf5 hf6 hf7 hf8 hf9 hf10; have CP := CQ; clear CQ; have hc0 := CP.out.p.cell 0 rfl; have hc1 := CP.out.p.cell 1 rfl; have hc2 := CP.out.p.cell 2 rfl; have hc3 := CP.out.p.cell 3 rfl; have hc4 := CP.out.p.cell 4 rfl; have hc5 := CP.out.p.cell 5 rfl; have hc6 := CP.out.p.cell 6 rfl; have hc7 := CP.out.p.cell 7 rfl; have hc8 := CP.out.p.cell 8 rfl; have hc9 := CP.out.p.cell 9 rfl; have hc10 := CP.out.p.cell 10 rfl; have hc11 := CP.out.p.cell 11 rfl; have hc12 := CP.out.p.cell 12 rfl; have hc13 := CP.out.p.cell 13 rfl; have hc14 := CP.out.p.cell 14 rfl; have hf4 := CP.out.p.fro 4; have hf5 := CP.out.p.fro 5; have hf6 := CP.out.p.fro 6; have hf7 := CP.out.p.fro 7; have hf8 := CP.out.p.fro 8; have hf9 := CP.out.p.fro 9; have hf10 := CP.out.p.fro 10)
      | (go_at_call 76; refine (clonePerson_nil _).mono ?_; rintro e w3 ⟨rfl, hB⟩; have CQ := Aside0.mk (CB.below (CP.out.put 5 rfl) hB); clear CP hB hc0 hc1 hc2 hc3 hc4 hc5 hc6 hc7 hc8 hc9 hc10 hc11 hc12 hc13 hc14 hf4 hf5 hf6 hf7 hf8 hf9 hf10; have CP := CQ; clear CQ; have hc0 := CP.out.p.cell 0 rfl; have hc1 := CP.out.p.cell 1 rfl; have hc2 := CP.out.p.cell 2 rfl; have hc3 := CP.out.p.cell 3 rfl; have hc4 := CP.out.p.cell 4 rfl; have hc5 := CP.out.p.cell 5 rfl; have hc6 := CP.out.p.cell 6 rfl; have hc7 := CP.out.p.cell 7 rfl; have hc8 := CP.out.p.cell 8 rfl; have hc9 := CP.out.p.cell 9 rfl; have hc10 := CP.out.p.cell 10 rfl; have hc11 := CP.out.p.cell 11 rfl; have hc12 := CP.out.p.cell 12 rfl; have hc13 := CP.out.p.cell 13 rfl; have hc14 := CP.out.p.cell 14 rfl; have hf4 := CP.out.p.fro 4; have hf5 := CP.out.p.fro 5; have hf6 := CP.out.p.fro 6; have hf7 := CP.out.p.fro 7; have hf8 := CP.out.p.fro 8; have hf9 := CP.out.p.fro 9; have hf10 := CP.out.p.fro 10))
    go_loopw [46] (fun v wr => v = .int .i64 0 ∧ Aside0 (CB w wr g g2)) (fun _ _ => 0)
    case atStart => exact ⟨rfl, ⟨CP.out.put 6 rfl⟩⟩
    case round =>
      clear CP hc0 hc1 hc2 hc3 hc4 hc5 hc6 hc7 hc8 hc9 hc10 hc11 hc12 hc13 hc14 hf4 hf5 hf6 hf7 hf8 hf9 hf10
      obtain ⟨rfl, CP⟩ := hrel
      have hc0 := CP.out.p.cell 0 rfl; have hc1 := CP.out.p.cell 1 rfl; have hc2 := CP.out.p.cell 2 rfl; have hc3 := CP.out.p.cell 3 rfl; have hc4 := CP.out.p.cell 4 rfl; have hc5 := CP.out.p.cell 5 rfl; have hc6 := CP.out.p.cell 6 rfl; have hc7 := CP.out.p.cell 7 rfl; have hc8 := CP.out.p.cell 8 rfl; have hc9 := CP.out.p.cell 9 rfl; have hc10 := CP.out.p.cell 10 rfl; have hc11 := CP.out.p.cell 11 rfl; have hc12 := CP.out.p.cell 12 rfl; have hc13 := CP.out.p.cell 13 rfl; have hc14 := CP.out.p.cell 14 rfl; have hf4 := CP.out.p.fro 4; have hf5 := CP.out.p.fro 5; have hf6 := CP.out.p.fro 6; have hf7 := CP.out.p.fro 7; have hf8 := CP.out.p.fro 8; have hf9 := CP.out.p.fro 9; have hf10 := CP.out.p.fro 10
      go_wp2_with (first
        | (go_at_call 77; refine (cloneClass_nil _).mono ?_; rintro e w3 ⟨rfl, hB⟩; have CQ := Aside0.mk (CB.below (CP.out) hB); clear CP hB hc0 hc1 hc2 hc3 hc4 hc5 hc6 hc7 hc8 hc9 hc10 hc11 hc12 hc13 hc14 hf4 hf5 hf6 hf7 hf8 hf9 hf10; have CP := CQ; clear CQ; have hc0 := CP.out.p.cell 0 rfl; have hc1 := CP.out.p.cell 1 rfl; have hc2 := CP.out.p.cell 2 rfl; have hc3 := CP.out.p.cell 3 rfl; have hc4 := CP.out.p.cell 4 rfl; have hc5 := CP.out.p.cell 5 rfl; have hc6 := CP.out.p.cell 6 rfl; have hc7 := CP.out.p.cell 7 rfl; have hc8 := CP.out.p.cell 8 rfl; have hc9 := CP.out.p.cell 9 rfl; have hc10 := CP.out.p.cell 10 rfl; have hc11 := CP.out.p.cell 11 rfl; have hc12 := CP.out.p.cell 12 rfl; have hc13 := CP.out.p.cell 13 rfl; have hc14 := CP.out.p.cell 14 rfl; have hf4 := CP.out.p.fro 4; have hf5 := CP.out.p.fro 5; have hf6 := CP.out.p.fro 6; have hf7 := CP.out.p.fro 7; have hf8 := CP.out.p.fro 8; have hf9 := CP.out.p.fro 9; have hf10 := CP.out.p.fro 10))
      go_loopw [69] (fun v wr => v = .int .i64 0 ∧ Aside0 (CB w wr g g2)) (fun _ _ => 0)
      case atStart => exact ⟨rfl, ⟨CP.out.put 7 rfl⟩⟩
      case round =>
        clear CP hc0 hc1 hc2 hc3 hc4 hc5 hc6 hc7 hc8 hc9 hc10 hc11 hc12 hc13 hc14 hf4 hf5 hf6 hf7 hf8 hf9 hf10
        obtain ⟨rfl, CP⟩ := hrel
        have hc0 := CP.out.p.cell 0 rfl; have hc1 := CP.out.p.cell 1 rfl; have hc2 := CP.out.p.cell 2 rfl; have hc3 := CP.out.p.cell 3 rfl; have hc4 := CP.out.p.cell 4 rfl; have hc5 := CP.out.p.cell 5 rfl; have hc6 := CP.out.p.cell 6 rfl; have hc7 := CP.out.p.cell 7 rfl; have hc8 := CP.out.p.cell 8 rfl; have hc9 := CP.out.p.cell 9 rfl; have hc10 := CP.out.p.cell 10 rfl; have hc11 := CP.out.p.cell 11 rfl; have hc12 := CP.out.p.cell 12 rfl; have hc13 := CP.out.p.cell 13 rfl; have hc14 := CP.out.p.cell 14 rfl; have hf4 := CP.out.p.fro 4; have hf5 := CP.out.p.fro 5; have hf6 := CP.out.p.fro 6; have hf7 := CP.out.p.fro 7; have hf8 := CP.out.p.fro 8; have hf9 := CP.out.p.fro 9; have hf10 := CP.out.p.fro 10
        go_wp2_with (first
          | (go_at_call 81; refine (cloneCourse_nil _).mono ?_; rintro e w3 ⟨rfl, hB⟩; have CQ := Aside0.mk (CB.below (CP.out) hB); clear CP hB hc0 hc1 hc2 hc3 hc4 hc5 hc6 hc7 hc8 hc9 hc10 hc11 hc12 hc13 hc14 hf4 hf5 hf6 hf7 hf8 hf9 hf10; have CP := CQ; clear CQ; have hc0 := CP.out.p.cell 0 rfl; have hc1 := CP.out.p.cell 1 rfl; have hc2 := CP.out.p.cell 2 rfl; have hc3 := CP.out.p.cell 3 rfl; have hc4 := CP.out.p.cell 4 rfl; have hc5 := CP.out.p.cell 5 rfl; have hc6 := CP.out.p.cell 6 rfl; have hc7 := CP.out.p.cell 7 rfl; have hc8 := CP.out.p.cell 8 rfl; have hc9 := CP.out.p.cell 9 rfl; have hc10 := CP.out.p.cell 10 rfl; have hc11 := CP.out.p.cell 11 rfl; have hc12 := CP.out.p.cell 12 rfl; have hc13 := CP.out.p.cell 13 rfl; have hc14 := CP.out.p.cell 14 rfl; have hf4 := CP.out.p.fro 4; have hf5 := CP.out.p.fro 5; have hf6 := CP.out.p.fro 6; have hf7 := CP.out.p.fro 7; have hf8 := CP.out.p.fro 8; have hf9 := CP.out.p.fro 9; have hf10 := CP.out.p.fro 10))
        go_loopw [108] (fun v wr => v = .int .i64 0 ∧ Aside0 (CB w wr g g2)) (fun _ _ => 0)
        case atStart => exact ⟨rfl, ⟨CP.out.put 8 rfl⟩⟩
        case round =>
          clear CP hc0 hc1 hc2 hc3 hc4 hc5 hc6 hc7 hc8 hc9 hc10 hc11 hc12 hc13 hc14 hf4 hf5 hf6 hf7 hf8 hf9 hf10
          obtain ⟨rfl, CP⟩ := hrel
          have hc0 := CP.out.p.cell 0 rfl; have hc1 := CP.out.p.cell 1 rfl; have hc2 := CP.out.p.cell 2 rfl; have hc3 := CP.out.p.cell 3 rfl; have hc4 := CP.out.p.cell 4 rfl; have hc5 := CP.out.p.cell 5 rfl; have hc6 := CP.out.p.cell 6 rfl; have hc7 := CP.out.p.cell 7 rfl; have hc8 := CP.out.p.cell 8 rfl; have hc9 := CP.out.p.cell 9 rfl; have hc10 := CP.out.p.cell 10 rfl; have hc11 := CP.out.p.cell 11 rfl; have hc12 := CP.out.p.cell 12 rfl; have hc13 := CP.out.p.cell 13 rfl; have hc14 := CP.out.p.cell 14 rfl; have hf4 := CP.out.p.fro 4; have hf5 := CP.out.p.fro 5; have hf6 := CP.out.p.fro 6; have hf7 := CP.out.p.fro 7; have hf8 := CP.out.p.fro 8; have hf9 := CP.out.p.fro 9; have hf10 := CP.out.p.fro 10
          go_wp2_with (first
            | (go_at_call 83; refine (cloneStudent_nil _).mono ?_; rintro e w3 ⟨rfl, hB⟩; have CQ := Aside0.mk (CB.below (CP.out) hB); clear CP hB hc0 hc1 hc2 hc3 hc4 hc5 hc6 hc7 hc8 hc9 hc10 hc11 hc12 hc13 hc14 hf4 hf5 hf6 hf7 hf8 hf9 hf10; have CP := CQ; clear CQ; have hc0 := CP.out.p.cell 0 rfl; have hc1 := CP.out.p.cell 1 rfl; have hc2 := CP.out.p.cell 2 rfl; have hc3 := CP.out.p.cell 3 rfl; have hc4 := CP.out.p.cell 4 rfl; have hc5 := CP.out.p.cell 5 rfl; have hc6 := CP.out.p.cell 6 rfl; have hc7 := CP.out.p.cell 7 rfl; have hc8 := CP.out.p.cell 8 rfl; have hc9 := CP.out.p.cell 9 rfl; have hc10 := CP.out.p.cell 10 rfl; have hc11 := CP.out.p.cell 11 rfl; have hc12 := CP.out.p.cell 12 rfl; have hc13 := CP.out.p.cell 13 rfl; have hc14 := CP.out.p.cell 14 rfl; have hf4 := CP.out.p.fro 4; have hf5 := CP.out.p.fro 5; have hf6 := CP.out.p.fro 6; have hf7 := CP.out.p.fro 7; have hf8 := CP.out.p.fro 8; have hf9 := CP.out.p.fro 9; have hf10 := CP.out.p.fro 10))
          go_loopw [156] (fun v wr => v = .int .i64 0 ∧ Aside0 (CB w wr g g2)) (fun _ _ => 0)
          case atStart => exact ⟨rfl, ⟨CP.out.put 9 rfl⟩⟩
          case round =>
            clear CP hc0 hc1 hc2 hc3 hc4 hc5 hc6 hc7 hc8 hc9 hc10 hc11 hc12 hc13 hc14 hf4 hf5 hf6 hf7 hf8 hf9 hf10
            obtain ⟨rfl, CP⟩ := hrel
            have hc0 := CP.out.p.cell 0 rfl; have hc1 := CP.out.p.cell 1 rfl; have hc2 := CP.out.p.cell 2 rfl; have hc3 := CP.out.p.cell 3 rfl; have hc4 := CP.out.p.cell 4 rfl; have hc5 := CP.out.p.cell 5 rfl; have hc6 := CP.out.p.cell 6 rfl; have hc7 := CP.out.p.cell 7 rfl; have hc8 := CP.out.p.cell 8 rfl; have hc9 := CP.out.p.cell 9 rfl; have hc10 := CP.out.p.cell 10 rfl; have hc11 := CP.out.p.cell 11 rfl; have hc12 := CP.out.p.cell 12 rfl; have hc13 := CP.out.p.cell 13 rfl; have hc14 := CP.out.p.cell 14 rfl; have hf4 := CP.out.p.fro 4; have hf5 := CP.out.p.fro 5; have hf6 := CP.out.p.fro 6; have hf7 := CP.out.p.fro 7; have hf8 := CP.out.p.fro 8; have hf9 := CP.out.p.fro 9; have hf10 := CP.out.p.fro 10
            go_wp2_with (first
              | (go_at_call 84; refine (cloneRule_nil _).mono ?_; rintro e w3 ⟨rfl, hB⟩; have CQ := Aside0.mk (CB.below (CP.out) hB); clear CP hB hc0 hc1 hc2 hc3 hc4 hc5 hc6 hc7 hc8 hc9 hc10 hc11 hc12 hc13 hc14 hf4 hf5 hf6 hf7 hf8 hf9 hf10; have CP := CQ; clear CQ; have hc0 := CP.out.p.cell 0 rfl; have hc1 := CP.out.p.cell 1 rfl; have hc2 := CP.out.p.cell 2 rfl; have hc3 := CP.out.p.cell 3 rfl; have hc4 := CP.out.p.cell 4 rfl; have hc5 := CP.out.p.cell 5 rfl; have hc6 := CP.out.p.cell 6 rfl; have hc7 := CP.out.p.cell 7 rfl; have hc8 := CP.out.p.cell 8 rfl; have hc9 := CP.out.p.cell 9 rfl; have hc10 := CP.out.p.cell 10 rfl; have hc11 := CP.out.p.cell 11 rfl; have hc12 := CP.out.p.cell 12 rfl; have hc13 := CP.out.p.cell 13 rfl; have hc14 := CP.out.p.cell 14 rfl; have hf4 := CP.out.p.fro 4; have hf5 := CP.out.p.fro 5; have hf6 := CP.out.p.fro 6; have hf7 := CP.out.p.fro 7; have hf8 := CP.out.p.fro 8; have hf9 := CP.out.p.fro 9; have hf10 := CP.out.p.fro 10))
            go_loopw [179] (fun v wr => v = .int .i64 0 ∧ Aside0 (CB w wr g g2)) (fun _ _ => 0)
            case atStart => exact ⟨rfl, ⟨CP.out.put 10 rfl⟩⟩
            case round =>
              clear CP hc0 hc1 hc2 hc3 hc4 hc5 hc6 hc7 hc8 hc9 hc10 hc11 hc12 hc13 hc14 hf4 hf5 hf6 hf7 hf8 hf9 hf10
              obtain ⟨rfl, CP⟩ := hrel
              have hc0 := CP.out.p.cell 0 rfl; have hc1 := CP.out.p.cell 1 rfl; have hc2 := CP.out.p.cell 2 rfl; have hc3 := CP.out.p.cell 3 rfl; have hc4 := CP.out.p.cell 4 rfl; have hc5 := CP.out.p.cell 5 rfl; have hc6 := CP.out.p.cell 6 rfl; have hc7 := CP.out.p.cell 7 rfl; have hc8 := CP.out.p.cell 8 rfl; have hc9 := CP.out.p.cell 9 rfl; have hc10 := CP.out.p.cell 10 rfl; have hc11 := CP.out.p.cell 11 rfl; have hc12 := CP.out.p.cell 12 rfl; have hc13 := CP.out.p.cell 13 rfl; have hc14 := CP.out.p.cell 14 rfl; have hf4 := CP.out.p.fro 4; have hf5 := CP.out.p.fro 5; have hf6 := CP.out.p.fro 6; have hf7 := CP.out.p.fro 7; have hf8 := CP.out.p.fro 8; have hf9 := CP.out.p.fro 9; have hf10 := CP.out.p.fro 10
              have hz0 := CP.out.z.fro 0; have hz1 := CP.out.z.fro 1; have hz2 := CP.out.z.fro 2; have hz3 := CP.out.z.fro 3; have hz4 := CP.out.z.fro 4; have hz5 := CP.out.z.fro 5; have hz6 := CP.out.z.fro 6; have hz7 := CP.out.z.fro 7; have hz8 := CP.out.z.fro 8; have hz9 := CP.out.z.fro 9; have hz10 := CP.out.z.fro 10; have hz11 := CP.out.z.fro 11; have hz12 := CP.out.z.fro 12; have hz13 := CP.out.z.fro 13; have hz14 := CP.out.z.fro 14
              have hd0 := CP.out.z.cell 0 rfl; have hd1 := CP.out.z.cell 1 rfl; have hd2 := CP.out.z.cell 2 rfl; have hd3 := CP.out.z.cell 3 rfl; have hd4 := CP.out.z.cell 4 rfl; have hd5 := CP.out.z.cell 5 rfl; have hd6 := CP.out.z.cell 6 rfl; have hd7 := CP.out.z.cell 7 rfl; have hd8 := CP.out.z.cell 8 rfl; have hd9 := CP.out.z.cell 9 rfl; have hd10 := CP.out.z.cell 10 rfl; have hd11 := CP.out.z.cell 11 rfl; have hd12 := CP.out.z.cell 12 rfl; have hd13 := CP.out.z.cell 13 rfl; have hd14 := CP.out.z.cell 14 rfl
              go_wp2
              have HK : PBox w _ g2 34 #[.string { data := #[112] }, .int .i64 1, .int .i64 5, .int .i64 10, .slice none 0 0, .slice none 0 0, .slice none 0 0, .slice none 0 0, .slice none 0 0, .slice none 0 0, .slice none 0 0, .int .i64 0, .int .i64 0, .int .i64 0, .int .i64 0] := (((((((((((((((CP.out.z.put 0 (.string { data := #[112] }) rfl).put 1 (.int .i64 1) rfl).put 2 (.int .i64 5) rfl).put 3 (.int .i64 10) rfl).put 4 (.slice none 0 0) rfl).put 5 (.slice none 0 0) rfl).put 6 (.slice none 0 0) rfl).put 7 (.slice none 0 0) rfl).put 8 (.slice none 0 0) rfl).put 9 (.slice none 0 0) rfl).put 10 (.slice none 0 0) rfl).put 11 (.int .i64 0) rfl).put 12 (.int .i64 0) rfl).put 13 (.int .i64 0) rfl).put 14 (.int .i64 0) rfl)
              refine bodyPost_ret (results_single rfl (Vals.cell g2 34 #[.string { data := #[112] }, .int .i64 1, .int .i64 5, .int .i64 10, .slice none 0 0, .slice none 0 0, .slice none 0 0, .slice none 0 0, .slice none 0 0, .slice none 0 0, .slice none 0 0, .int .i64 0, .int .i64 0, .int .i64 0, .int .i64 0] (0, 0) _ rfl HK.blk hu40 rfl (by kernel_rfl) .nil)) rfl ?_
              exact ⟨rfl, HK.bel⟩
end Go.Proofs.YtineikfhfmiidaaGreat.Pm
