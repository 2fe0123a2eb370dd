/- The walk of Parts. -/
import Derived.Test.YtfkmngmnnlgjdaaGrShell
import Derived.Test.YtfkmngmnnlgjdaaGr4
import Derived.Test.YtfkmngmnnlgjdaaPuParts
namespace Go.Proofs.Ytfkmngmnnlgjdaa.Gr
open Go Go.RowKit Go.Proofs.Ytfkmngmnnlgjdaa.Gf Go.Proofs.Ytfkmngmnnlgjdaa.Pu Go.Proofs.Ytfkmngmnnlgjdaa.Mw Go.Proofs.YtfkmngmnnlgjdaaW.PrintWords Go.Proofs.YtfkmngmnnlgjdaaW.PrintLast Go.Proofs.YtfkmngmnnlgjdaaW.PrintMore
set_option linter.unusedVariables false
set_option linter.unusedSimpArgs false

theorem MIs.cells {κ ε : Type} {M : MK Try.prog κ ε} {w : World} {b m : Nat} {f : κ → Option ε} (h : MIs M w b m f) {k : Nat} {cells : Array Value} {t : TypeId} (hc : w.heap[k]? = some (.cells cells t (0, 0))) : k ≠ b := by
  rintro rfl
  obtain ⟨D, ⟨es, clock, hb, _⟩, _⟩ := h
  rw [hb] at hc
  cases hc
theorem MIs.row_kept {κ ε : Type} {M : MK Try.prog κ ε} {w w1 : World} {b m : Nat} {f : κ → Option ε} (h : MIs M w b m f) {α : Type} {d : Kd α} {e base : Nat} {ok : Nat → Prop} {v : Value} {xs : List α} (hR : d.R e w base ok v xs) (hg : w.grownBy w1 (some b)) : d.R e w1 base ok v xs :=
  Kd.R_mono (Kd.R_grown (ok := fun k => ok k ∧ k ≠ b) (Kd.R_mono (Kd.R_bound hR) (fun k hk => ⟨hk.1, by obtain ⟨_, _, _, q, _, cells, hc⟩ := hk; exact MIs.cells h hc⟩)) hg (fun k hk e => hk.2 (by injection e))) (fun _ hk => hk.1)
theorem MIs.q_kept {κ ε : Type} {M : MK Try.prog κ ε} {w w1 : World} {b m : Nat} {f : κ → Option ε} (h : MIs M w b m f) {α : Type} {d : Kd α} {e base : Nat} {ok : Nat → Prop} {v : Value} {xs : List α} (hR : d.Q e w base ok v xs) (hg : w.grownBy w1 (some b)) : d.Q e w1 base ok v xs :=
  Kd.Q_mono (Kd.Q_grown (ok := fun k => ok k ∧ k ≠ b) (Kd.Q_mono (Kd.Q_bound hR) (fun k hk => ⟨hk.1, by obtain ⟨_, _, _, q, _, cells, hc⟩ := hk; exact MIs.cells h hc⟩)) hg (fun k hk e => hk.2 (by injection e))) (fun _ hk => hk.1)
theorem MIs.ne_q {κ ε : Type} {M : MK Try.prog κ ε} {w : World} {b m : Nat} {f : κ → Option ε} (h : MIs M w b m f) {α : Type} {d : Kd α} {e base : Nat} {ok : Nat → Prop} {v : Value} {xs : List α} (hR : d.Q e w base ok v xs) : some b ≠ v.ownBlock := by
  intro he
  obtain ⟨_, inner, ho, _⟩ := hR
  obtain ⟨_, cells, hc⟩ := q_typed ho b he.symm
  exact MIs.cells h hc rfl
theorem MIs.row_apart {κ ε : Type} {M : MK Try.prog κ ε} {w : World} {b m : Nat} {f : κ → Option ε} (h : MIs M w b m f) {α : Type} {d : Kd α} {e base : Nat} {ok : Nat → Prop} {v : Value} {xs : List α} (hR : d.R e w base ok v xs) : d.R e w base (fun k => ok k ∧ k ≠ b) v xs :=
  Kd.R_mono (Kd.R_bound hR) (fun k hk => ⟨hk.1, by obtain ⟨_, _, _, q, _, cells, hc⟩ := hk; exact MIs.cells h hc⟩)
theorem q_r_ne {α β : Type} {d : Kd α} {d' : Kd β} {w : World} {e e' base base' : Nat} {ok ok' : Nat → Prop} {v v' : Value} {xs : List α} {ys : List β} (hQ : d.Q e w base ok v xs) (hR : d'.R e' w base' ok' v' ys) (he : e ≠ e') (k : Nat) (hk : v.ownBlock = some k) : some k ≠ v'.ownBlock := by
  intro h
  obtain ⟨_, inner, ho, _⟩ := hQ
  obtain ⟨_, cells, hc⟩ := q_typed ho k hk
  obtain ⟨inner', ho'⟩ := Kd.R_own hR
  obtain ⟨cells', hc'⟩ := own_typed ho' k h.symm
  rw [hc] at hc'
  injection hc' with hc'
  injection hc' with _ hc'
  exact he hc'
theorem infoS : (Try.prog.info? 38).map (fun i => (i.zero, i.size, i.bytes)) = some (some (.slice none 0 0), 1, 24) := by kernel_rfl
theorem cutI (A : Option Addr) (n c : Nat) : ∃ A', (∀ W : World, (Instr.slice 38 (.slice A (n + 1) c) (some (.int .i64 1)) none none).run Try.prog W = .ok (.slice A' n (c - 1)) W) ∧
    ∀ (w : World) (base x : Nat) (wk : List Nat), (Kd.int .i64).Q 3 w base (fun _ => True) (.slice A (n + 1) c) (nats (x :: wk)) → (Kd.int .i64).Q 3 w base (fun _ => True) (.slice A' n (c - 1)) (nats wk) := by
  obtain ⟨i0, hi, hz0, hz1, hz2⟩ := info_parts infoI
  exact ⟨_, fun W => cut_from 38 3 .i64 Try.underlying38 hi 1 hz1 A (n + 1) c 1 (by omega) (by omega) W, fun w base x wk h => Kd.Q_drop (k := 1) h (by simp [nats])⟩
theorem keep_map {w w1 : World} {b : Nat} (hg : w.grownBy w1 (some b)) : KeepBut w w1 b none := ⟨hg.size, fun i hi hne _ => hg.block i hi (by simpa using hne)⟩
/-- A set of bits, as a row. -/
structure InRow (w : World) (v : Value) (l : List Int) (I : Nat → Bool) : Prop where
  row : (Kd.int .u64).R 71 w 0 (fun _ => True) v l
  wd : Wd l
  le : l.length ≤ 64
  bit : ∀ j, bitAt l j = I j
theorem InRow.move {w w1 : World} {v : Value} {l : List Int} {I : Nat → Bool} (h : InRow w v l I) (hR : (Kd.int .u64).R 71 w1 0 (fun _ => True) v l) : InRow w1 v l I := ⟨hR, h.wd, h.le, h.bit⟩
theorem Of_one (W : World) (A : Option Addr) (c a : Nat) (ha : a < 4096) (hc : 1 ≤ c) (hC : (Kd.int .i64).C W A 1 [(a : Int)]) :
    Calls Try.prog 36 #[.slice A 1 c] W fun e w' => ∃ v l, e = .returned v ∧ InRow w' v l (fun x => x == a) ∧ Below W.heap.size W w' := by
  obtain ⟨r, h1, h2, h3, h4⟩ := of_f [(a : Int)] (by simp) (by intro x hx; have hx2 : x = (a : Int) := List.mem_singleton.1 hx; omega)
  obtain ⟨k, hk⟩ := h1.rounds
  refine (bits_Of.calls k A c [(a : Int)] r W hC hc hk).mono ?_
  rintro e w' ⟨v, he, hR, hB⟩
  refine ⟨v, r, he, ⟨Kd.R_lower hR (Nat.zero_le _), h2, h3, fun j => ?_⟩, hB⟩
  rw [h4]
  unfold among
  by_cases hj : j = a
  · subst hj; simp [ha]
  · have e1 : (j == a) = false := by simpa using hj
    have e2 : [(a : Int)].contains (j : Int) = false := by rw [List.contains_eq_mem]; exact decide_eq_false (fun hm => hj (by have := List.mem_singleton.1 hm; omega))
    rw [e1, e2, Bool.and_false]
theorem With_in (W : World) (v : Value) (l : List Int) (I : Nat → Bool) (i : Nat) (hi : i < 4096) (h : InRow W v l I) :
    Calls Try.prog 33 #[v, .int .i64 i] W fun e w' => ∃ v' l', e = .returned v' ∧ InRow w' v' l' (also I i) ∧ Below W.heap.size W w' := by
  obtain ⟨A, c, rfl, hl, hC⟩ := Kd.R_reads h.row
  refine (With_any W A c l i hi h.wd h.le hl hC).mono ?_
  rintro e w' ⟨v, r, he, hp, hB⟩
  obtain ⟨p1, p2, p3, p4⟩ := hp
  exact ⟨v, r, he, ⟨p1, p2, p3, fun j => by rw [p4, h.bit]; rfl⟩, hB⟩
theorem List_in (n : Nat) (adj : Adj) (hS : Sane n adj) (a : Nat) (ha : a < n) (hn : n ≤ 400) (W : World) (v : Value) (l : List Int) (I : Nat → Bool) (h : InRow W v l I) (hI : ∀ b, I b = true ↔ Pu.Reach adj a b) :
    Calls Try.prog 35 #[v] W fun e w' => ∃ v', e = .returned v' ∧ (Kd.int .i64).R 3 w' W.heap.size (fun _ => True) v' (nats (comp n adj a)) ∧ Below W.heap.size W w' := by
  obtain ⟨A, c, rfl, hl, hC⟩ := Kd.R_reads h.row
  refine (List_own W A c l h.wd h.le hl hC).mono ?_
  rintro e w' ⟨v, l', he, hW', hb', ho, hB⟩
  refine ⟨v, he, ?_, hB⟩
  unfold nats
  rw [← comp_eq hI, ← elems_all (l := l') (n := n) (I := I) (fun i => by rw [hb', h.bit]) (fun i hi => ((hI i).1 hi).lt hS ha)]
  exact R_ints ho
/-- The state of the search. -/
structure PSt (w W0 wr : World) (n : Nat) (o I : Nat → Bool) (wk : List Nat) (v7 v8 : Value) : Prop where
  lf : ∃ f m, Lf n (both o I) f ∧ MIs MIB wr w.heap.size m f
  row : ∃ l, InRow wr v7 l I
  que : (Kd.int .i64).Q 3 wr W0.heap.size (fun _ => True) v8 (nats wk)
  keep : KeepBut W0 wr w.heap.size none
  below : Below w.heap.size w wr
theorem PSt.drew {w W0 wr : World} {n : Nat} {o I : Nat → Bool} {wk : List Nat} {v7 v8 : Value} (h : PSt w W0 wr n o I wk v7 v8) : PSt w W0 wr.drew n o I wk v7 v8 := by
  obtain ⟨⟨f, m, h1, h2⟩, ⟨l, h3⟩, h4, h5, h6⟩ := h
  exact ⟨⟨f, m, h1, h2.drew⟩, ⟨l, h3.move (Kd.R_drew h3.row)⟩, Kd.Q_drew h4, h5, below_drew h6⟩
set_option maxRecDepth 100000 in
set_option maxHeartbeats 4000000 in
theorem Parts_is (w : World) (g n : Nat) (v : Value) (adj : Adj) (h : GIs w g v n adj) :
    Calls Try.prog 22 #[.pointer (some ⟨g, 0, none⟩)] w fun e w' => ∃ v', e = .returned v' ∧ Kd.R (Kd.slice 3 (Kd.int .i64)) 38 w' w.heap.size (fun _ => True) v' ((parts n adj).map nats) ∧ Below w.heap.size w w' := by
  have hn4 := h.le
  have hS := h.sane
  have H := Lib.hid h
  clear h
  have hmm := @run_makeMap Try.prog
  go_enter Try.func22, Try.ntmps22
  go_wp2_with (go_at_call 11; refine (Len_is _ g v n adj (H.out.below (below_alloc (Below.refl _ _) _))).mono ?_; rintro e w' ⟨rfl, rfl⟩)
  go_loopw [15] (fun v15 wr => ∃ (k : Nat) (f : Int → Option Bool), k ≤ n ∧ v15 = .int .i64 k ∧ Aside0 (LI k f) ∧ Aside0 (MIs MIB wr w.heap.size k f) ∧ Aside0 (Below w.heap.size w wr)) (fun v15 _ => n - (intOf v15).toNat)
  case atStart => exact ⟨0, fun _ => none, Nat.zero_le _, rfl, ⟨LI.start⟩, ⟨MIs.made MIB w⟩, ⟨below_alloc (Below.refl _ _) _⟩⟩
  case round =>
    clear hmm
    obtain ⟨k, f, hk, rfl, HF, HM, HB⟩ := hrel
    by_cases hlt : k < n
    · go_wp2_with (first
        | (at_mapUpdate; refine wl_put HM.out rfl _ _ _ rfl rfl (by unfold maxLen; omega) (k : Int) (okB (by omega)) rfl true trivial rfl ?_; intro w2 hM2 hg2))
      rw [HF.out.fresh] at hM2
      exact ⟨⟨k + 1, _, by omega, by go_num, ⟨HF.out.step⟩, ⟨hM2⟩, ⟨HB.out.grown hg2 HB.out.size (fun q e => by cases e; exact Nat.le_refl _)⟩⟩, by simp [intOf]; omega⟩
    · obtain rfl : k = n := by omega
      have HF1 := Aside0.mk HF.out.all
      clear HF
      go_wp2_with (first
        | (go_at_call 11; refine (Len_is _ g v _ adj (H.out.below HB.out)).mono ?_; rintro e w' ⟨rfl, rfl⟩))
      go_loopw [5, 23] (fun v5 v23 wr' => ∃ (a : Nat) (o : Nat → Bool) (f : Int → Option Bool) (m : Nat), a ≤ k ∧ v23 = .int .i64 a ∧ Aside0 (Gone adj a o) ∧ Aside0 (Lf k o f) ∧ Aside0 (MIs MIB wr' w.heap.size m f) ∧ Aside0 (Kd.R (Kd.slice 3 (Kd.int .i64)) 38 wr' w.heap.size (fun _ => True) v5 ((partsTo k adj a).map nats)) ∧ Aside0 (Below w.heap.size w wr')) (fun _ v23 _ => k - (intOf v23).toNat)
      case atStart => exact ⟨0, _, f, _, Nat.zero_le _, rfl, ⟨Gone.start adj⟩, HF1, HM, ⟨by rw [partsTo_zero]; exact Kd.R_nil _ _ _ _ _⟩, HB⟩
      case round =>
        clear HF1 HM HB f
        obtain ⟨a, o, f, m, ha, rfl, HG, HF, HM, HR, HB⟩ := hrel
        by_cases hlt2 : a < k
        · cases ho : o a with
          | true =>
            have hfa := HF.out.no ho
            go_wp2_with (first
              | (at_lookup; refine wl_look1 HM.out rfl _ _ rfl rfl (a : Int) (okB (by omega)) rfl false (by rw [hfa]; rfl) (.bool false) rfl ?_))
            obtain ⟨hnl, hG2⟩ := HG.out.more ho
            exact ⟨⟨a + 1, o, f, m, by omega, by go_num, ⟨hG2⟩, HF, HM, ⟨by rw [partsTo_no hnl]; exact HR.out⟩, HB⟩, by simp [intOf]; omega⟩
          | false =>
            have hfa := HF.out.yes hlt2 ho
            have hone := Bfs.start adj a
            go_wp2_with (first
              | (at_lookup; refine wl_look1 HM.out rfl _ _ rfl rfl (a : Int) (okB (by omega)) rfl true (by rw [hfa]; rfl) (.bool true) rfl ?_)
              | ((with_reducible refine gate_dst (N := 31) rfl ?_); refine Kd.R_lit (Kd.int .i64) _ 3 ?hg (N := 31) ?hd (xs := ([(a : Int)] : List Int)) (inner := [.int .i64 a]) (ok := fun _ => True) (okp := fun _ => True) ?hr ?hp (fun _ hk => hk) trivial (Below.refl _ _) (Nat.le_refl _) (by simp) ?_; (case hd => rfl); (case hg => rfl); (case hr => first | (go_simp; done) | (go_simp; rfl)); (case hp => exact (Reps.one (show Kd.M (Kd.int .i64) _ _ _ (a : Int) [.int .i64 a] from rfl) (Reps.none _ _))); intro v31 w1 hR1 hB1 hg1 hnew1; obtain ⟨A31, c31, rfl⟩ := Kd.R_slice hR1; have HL1 := Aside0.mk hR1; have HM1 := Aside0.mk (HM.out.below hB1 HM.out.lt); have HR1 := Aside0.mk (Kd.R_below HR.out hB1); have HB1 := Aside0.mk (below_then HB.out HB.out.size hB1); clear hR1 hB1 hg1 hnew1 HM HR HB)
              | (go_at_call 36; refine (Of_one _ _ _ a (by omega) (Kd.R_reads' HL1.out).2.1 (Kd.R_reads' HL1.out).2.2).mono ?_; rintro e w2 ⟨v7, l7, rfl, hI2, hB2⟩; have HI2 := Aside0.mk hI2; have HM2 := Aside0.mk (HM1.out.below hB2 HM1.out.lt); have HR2 := Aside0.mk (Kd.R_below HR1.out hB2); have HB2 := Aside0.mk (below_then HB1.out HB1.out.size hB2); clear hI2 hB2 HL1 HM1 HR1 HB1)
              | ((with_reducible refine gate_builtin (b := .delete) (xs := #[.tmp 33, .tmp 34]) rfl ?_); refine wl_del HM2.out rfl _ _ rfl rfl (a : Int) (okB (by omega)) rfl ?_; intro w3 hM3 hg3; have HM3 := Aside0.mk hM3; have HR3 := Aside0.mk (MIs.row_apart HM3.out (MIs.row_kept HM2.out HR2.out hg3)); have HI3 := Aside0.mk (HI2.out.move (MIs.row_kept HM2.out HI2.out.row hg3)); have HB3 := Aside0.mk (HB2.out.grown hg3 HB2.out.size (fun q e => by cases e; exact Nat.le_refl _)); clear HM2 HR2 HI2 HB2 hM3 hg3)
              | ((with_reducible refine gate_dst (N := 36) rfl ?_); refine Kd.R_lit (Kd.int .i64) _ 3 ?hg (N := 36) ?hd (xs := ([(a : Int)] : List Int)) (inner := [.int .i64 a]) (ok := fun _ => True) (okp := fun _ => True) ?hr ?hp (fun _ hk => hk) trivial (Below.refl _ _) (Nat.le_refl _) (by simp) ?_; (case hd => rfl); (case hg => rfl); (case hr => first | (go_simp; done) | (go_simp; rfl)); (case hp => exact (Reps.one (show Kd.M (Kd.int .i64) _ _ _ (a : Int) [.int .i64 a] from rfl) (Reps.none _ _))); intro v36 w4 hR4 hB4 hg4 hnew4; obtain ⟨A36, c36, rfl⟩ := Kd.R_slice hR4; have HL4 := Aside0.mk hR4; have HM4 := Aside0.mk (HM3.out.below hB4 HM3.out.lt); have HI4 := Aside0.mk (HI3.out.move (Kd.R_below HI3.out.row hB4)); have HB4 := Aside0.mk (below_then HB3.out HB3.out.size hB4); have HW3 := Aside0.mk HB3.out.size; have HK4 := Aside0.mk (KeepBut.of_below hB4 w.heap.size none); clear hR4 hB4 hg4 hnew4 HM3 HI3 HB3))
            go_loopg [7, 8] (k + 1) (fun q v7 v8 wr' => ∃ (I : Nat → Bool) (wk : List Nat) (m8 : Nat) (A8 : Option Addr) (c8 : Nat), v8 = .slice A8 m8 c8 ∧ Aside0 (wk.length = m8) ∧ Aside0 (Bfs adj a I wk) ∧ Aside0 (cnt k (both o I) + wk.length ≤ q ∧ q ≤ k + 1) ∧ Aside0 (PSt w w3 wr' k o I wk v7 (.slice A8 m8 c8)))
            case atStart => exact ⟨fun x => x == a, [a], 1, A36, c36, rfl, ⟨rfl⟩, ⟨hone⟩, ⟨by have := cnt_le k (both o (fun x => x == a)); simp; omega, Nat.le_refl _⟩, ⟨⟨_, _, (both_one o a) ▸ HF.out.del a, HM4.out⟩, ⟨_, HI4.out⟩, Kd.Q_of_R HL4.out, HK4.out, HB4.out⟩⟩
            case round =>
              clear HM4 HI4 HL4 HK4 HB4 hone hfa HF
              obtain ⟨I, wk, m8, A8, c8, rfl, HW, HBf, HC, HP⟩ := hrel
              cases wk with
              | nil =>
                obtain rfl : 0 = m8 := HW.out
                obtain ⟨⟨f, m, hf, hM⟩, ⟨l, hI⟩, hQ, hK, hB⟩ := HP.out
                have HF := Aside0.mk hf
                have HM := Aside0.mk hM
                have HI := Aside0.mk hI
                have HB := Aside0.mk hB
                have HR4 := Aside0.mk (Kd.R_mono (Kd.R_keep HR3.out hK (fun k hk => hk.2)) (fun _ hk => hk.1))
                have hlen := partsTo_length k adj a
                clear HP hf hM hI hQ hK hB
                go_wp2_with (first
                  | (go_at_call 35; refine (List_in k adj hS a hlt2 hn4 _ _ l I HI.out (fun b => HBf.out.all b)).mono ?_; rintro e w5 ⟨v68, rfl, hR5, hB5⟩; obtain ⟨inner0, hown0⟩ := Kd.R_own HR4.out; have HC5 := Aside0.mk (Kd.R_lower (Kd.R_new hR5 hown0) HB.out.size); have HM5 := Aside0.mk (HM.out.below hB5 HM.out.lt); have HR5 := Aside0.mk (Kd.R_below HR4.out hB5); have HB5 := Aside0.mk (below_then HB.out HB.out.size hB5); clear hR5 hB5 hown0 HM HR4 HB inner0; obtain ⟨A68, c68, rfl⟩ := Kd.R_slice HC5.out)
                  | ((with_reducible refine gate_builtin (b := .append) (xs := #[.tmp 66, .tmp 69]) rfl ?_); refine Kd.R_append (Kd.slice 3 (Kd.int .i64)) (w0 := w) w.heap.size rfl (.tmp 66) (.tmp 69) 44 38 (.slice none 0 0) 24 rfl Try.underlying44 infoS rfl (by decide) (by omega) _ ((partsTo k adj a).map nats) (nats (comp k adj a)) [.slice A68 (nats (comp k adj a)).length c68] (fun _ => True) (fun q => True ∧ some q ≠ _) rfl rfl ⟨_, rfl, (by (with_reducible repeat (first | apply Kd.R_alloc | apply Kd.R_drewN | apply Kd.R_drew)); exact HC5.out)⟩ (fun _ hk => hk) (fun _ _ => trivial) (by (with_reducible repeat (first | apply Kd.R_alloc | apply Kd.R_drewN | apply Kd.R_drew)); exact HR5.out) (by repeat (first | (with_reducible first | exact HB5.out | apply below_alloc | apply pw_below_drewN | apply below_drew1) | exact HB5.out)) (below_size (by repeat (first | (with_reducible first | exact HB5.out | apply below_alloc | apply pw_below_drewN | apply below_drew1) | exact HB5.out))) (by rw [List.length_map]; omega) ?_; intro v70 w6 hR6 hB6 hg6 hat6; have HM6 := Aside0.mk (MIs.kept (w := _) (b := w.heap.size) (M := MIB) (by (with_reducible repeat (first | apply MIs.alloc | apply MIs.drewN | apply MIs.drew)); exact HM5.out) hg6 (MIs.ne_row HM5.out HR5.out)); rw [show (partsTo k adj a).map nats ++ [nats (comp k adj a)] = (partsTo k adj (a + 1)).map nats by rw [partsTo_yes (HG.out.least ho)]; simp] at hR6; have HR6 := Aside0.mk hR6; have HB6 := Aside0.mk hB6; clear hR6 hB6 hg6 hat6 HM5 HR5 HB5 HC5))
                exact ⟨⟨a + 1, both o I, f, m, by omega, by go_num, ⟨HG.out.over (fun b => HBf.out.all b)⟩, HF, HM6, HR6, HB6⟩, by simp [intOf]; omega⟩
              | cons x wk =>
                obtain rfl : wk.length + 1 = m8 := HW.out
                cases gk with
                | zero => exact absurd HC.out.1 (by simp)
                | succ k1 =>
                have hxI := HBf.out.onWk x List.mem_cons_self
                have hxk : x < k := (HBf.out.reach x hxI).lt hS hlt2
                have HBi := Aside0.mk HBf.out.pop
                obtain ⟨⟨f, m, hf, hM⟩, ⟨l, hI⟩, hQ, hK, hB⟩ := HP.out
                have hC8 := (Kd.Q_reads' hQ).2.2
                obtain ⟨ad, rfl, hcell⟩ := Kd.at_int hC8 (0 : Int) (by omega) (by simp [nats])
                obtain ⟨A9, hcut, hdrop⟩ := cutI (some ad) wk.length c8
                have hQ9 := hdrop _ _ _ _ hQ
                have HM := Aside0.mk hM
                have HI := Aside0.mk hI
                have HB := Aside0.mk hB
                have HK := Aside0.mk hK
                have HQ := Aside0.mk hQ9
                have HF := Aside0.mk hf
                clear HP hf hM hI hQ hK hB hC8 hdrop hQ9 hxI HW HBf
                replace hcell : wr.cell? (ad.add 0) = some (.int .i64 (x : Int)) := hcell
                have had : ad.add 0 = ad := by simp [Addr.add]
                rw [had] at hcell
                go_wp2_with (first
                  | (go_at_call 19; refine (Near_nat _ g v k adj x (H.out.below HB.out) hxk).mono ?_; rintro e w5 ⟨A6, c6, rfl, hR6, hB6⟩; have HM5 := Aside0.mk (HM.out.below hB6 HM.out.lt); have HI5 := Aside0.mk (HI.out.move (Kd.R_below HI.out.row hB6)); have HQ5 := Aside0.mk (Kd.Q_below HQ.out hB6); have HS5 : Aside0 (∀ q, (Value.slice A6 (near k adj x).length c6).ownBlock = some q → some q ≠ (Value.slice A9 wk.length (c8 - 1)).ownBlock) := ⟨fun q h1 h2 => (by have := Kd.R_base hR6 q h1; have := Kd.Q_lt HQ.out q h2.symm; omega)⟩; have HK5 := Aside0.mk (HK.out.trans (KeepBut.of_below hB6 w.heap.size none) (Or.inl rfl)); have HB7 := Aside0.mk (below_then HB.out HB.out.size hB6); have HN := Aside0.mk (Kd.R_lower hR6 (Nat.zero_le _)); clear hR6 hB6 HM HI HQ HK HB))
                have hnl := near_len k adj x
                have hnb : ∀ b, b ∈ near k adj x → adj x b = true := fun b hb => (mem_near hS).1 hb
                have hov : ∀ (I : Nat → Bool) (wk : List Nat), BfsIn adj a I wk x (near k adj x) → Bfs adj a I wk := fun I wk h => h.over hS
                generalize near k adj x = L at HN HS5 hnl hnb hov ⊢
                go_loopw [7, 8, 49] (fun v7 v8 v49 wr' => ∃ (t : Nat) (I : Nat → Bool) (wk : List Nat) (m8 : Nat) (A8 : Option Addr) (c8 : Nat), t ≤ L.length ∧ v49 = .int .i64 t ∧ v8 = .slice A8 m8 c8 ∧ Aside0 (wk.length = m8) ∧ Aside0 (BfsIn adj a I wk x (L.take t)) ∧ Aside0 (cnt k (both o I) + wk.length ≤ k1) ∧ Aside0 (PSt w w3 wr' k o I wk v7 (.slice A8 m8 c8)) ∧ Aside0 ((Kd.int .i64).R 3 wr' 0 (fun _ => True) (.slice A6 L.length c6) (nats L)) ∧ Aside0 (∀ q, (Value.slice A6 L.length c6).ownBlock = some q → some q ≠ (Value.slice A8 m8 c8).ownBlock)) (fun _ _ v49 _ => L.length - (intOf v49).toNat)
                case atStart => exact ⟨0, I, wk, wk.length, A9, _, Nat.zero_le _, rfl, rfl, ⟨rfl⟩, HBi, ⟨by have := HC.out.1; simp only [List.length_cons] at this; omega⟩, ⟨⟨f, m, HF.out, HM5.out⟩, ⟨l, HI5.out⟩, HQ5.out, HK5.out, HB7.out⟩, HN, HS5⟩
                case round =>
                  have hk1 := HC.out.2
                  clear HF HM5 HI5 HQ5 HK5 HB7 HN HS5 HBi HC
                  obtain ⟨t, I, wk, m8, A8, c8, ht, rfl, rfl, HW, HBi, HC, HP, HN, HS⟩ := hrel
                  obtain rfl := HW.out
                  by_cases hlt4 : t < L.length
                  · obtain ⟨⟨f, m, hf, hM⟩, ⟨l, hI⟩, hQ, hK, hB⟩ := HP.out
                    have HCC := (Kd.R_reads' HN.out).2.2
                    rw [nats_length] at HCC
                    obtain ⟨ad, rfl, hcell⟩ := Kd.at_int HCC (t : Int) (by omega) (by omega)
                    rw [rd_nat, getD_nats L t hlt4, Int.toNat_natCast] at hcell
                    have hqb := hnb _ (getD_mem L t hlt4)
                    have hbk : L.getD t 0 < k := hS.lt2 hqb
                    have htk := take_succ_getD L t hlt4
                    generalize L.getD t 0 = b at hcell hqb hbk htk
                    cases hIb : I b with
                    | true =>
                      have hfb := hf.no (both_old (o := o) hIb)
                      have HM := Aside0.mk hM
                      clear hf hM hI hQ hK hB HCC
                      go_wp2_with (first
                        | (at_lookup; refine wl_look1 HM.out rfl _ _ rfl rfl (b : Int) (okB (by omega)) rfl false (by rw [hfb]; rfl) (.bool false) rfl ?_))
                      exact ⟨⟨t + 1, I, wk, wk.length, A8, c8, by omega, by go_num, rfl, ⟨rfl⟩, ⟨by rw [htk]; exact HBi.out.old hIb⟩, HC, HP, HN, HS⟩, by simp [intOf]; omega⟩
                    | false =>
                      have hr := (HBi.out.reach x HBi.out.ix).step hqb
                      have hbn := both_new hS HG.out ho hr hIb
                      have hfb := hf.yes hbk hbn
                      have hcn := cnt_also hbk hbn
                      rw [both_also] at hcn
                      have hk2 := HC.out
                      have HF' := Aside0.mk ((both_also o I b) ▸ hf.del b)
                      have HM := Aside0.mk hM
                      have HI := Aside0.mk hI
                      have HB := Aside0.mk hB
                      have HK := Aside0.mk hK
                      have HQ := Aside0.mk hQ
                      have HBj := Aside0.mk (HBi.out.new hqb)
                      clear HP hf hM hI hQ hK hB HCC HBi hbn hr HC
                      go_wp2_with (first
                        | (at_lookup; refine wl_look1 HM.out rfl _ _ rfl rfl (b : Int) (okB (by omega)) rfl true (by rw [hfb]; rfl) (.bool true) rfl ?_)
                        | ((with_reducible refine gate_builtin (b := .delete) (xs := #[.tmp 56, .tmp 57]) rfl ?_); refine wl_del HM.out rfl _ _ rfl rfl (b : Int) (okB (by omega)) rfl ?_; intro w6 hM6 hg6; have HM6 := Aside0.mk hM6; have HI6 := Aside0.mk (HI.out.move (MIs.row_kept HM.out HI.out.row hg6)); have HQ6 := Aside0.mk (MIs.q_kept HM.out HQ.out hg6); have HN6 := Aside0.mk (MIs.row_kept HM.out HN.out hg6); have HK6 := Aside0.mk (HK.out.trans (keep_map hg6) (Or.inl rfl)); have HB6 := Aside0.mk (HB.out.grown hg6 HB.out.size (fun q e => by cases e; exact Nat.le_refl _)); clear HM HI HQ HN HK HB hM6 hg6)
                        | (go_at_call 33; refine (With_in _ _ l I b (by omega) HI6.out).mono ?_; rintro e w7 ⟨v7', l', rfl, hI7, hB7⟩; have HI7 := Aside0.mk hI7; have HM7 := Aside0.mk (HM6.out.below hB7 HM6.out.lt); have HQ7 := Aside0.mk (Kd.Q_below HQ6.out hB7); have HN7 := Aside0.mk (Kd.R_below HN6.out hB7); have HK7 := Aside0.mk (HK6.out.trans (KeepBut.of_below hB7 w.heap.size none) (Or.inl rfl)); have HB7 := Aside0.mk (below_then HB6.out HB6.out.size hB7); clear hI7 hB7 HM6 HI6 HQ6 HN6 HK6 HB6)
                        | ((with_reducible refine gate_builtin (b := .append) (xs := #[.tmp 61, .tmp 63]) rfl ?_); refine Kd.Q_append (Kd.int .i64) w3.heap.size rfl (.tmp 61) (.tmp 63) 38 3 (.int .i64 0) 8 rfl Try.underlying38 infoI rfl (by decide) (by omega) (.slice A8 wk.length c8) (nats wk) (b : Int) [.int .i64 b] (fun _ => True) (fun _ => False) rfl rfl rfl (fun _ hk => hk.elim) (fun _ _ => trivial) (by (with_reducible repeat (first | apply Kd.Q_alloc | apply Kd.Q_drewN | apply Kd.Q_drew)); exact HQ7.out) (Below.refl _ _) HK7.out.1 (by rw [nats_length]; omega) ?_; intro v8' w8 hQ8 hB8 hg8 hat8; have HM8 := Aside0.mk (MIs.kept (b := w.heap.size) (M := MIB) (by (with_reducible repeat (first | apply MIs.alloc | apply MIs.drewN | apply MIs.drew)); exact HM7.out) hg8 (MIs.ne_q HM7.out HQ7.out)); have HI8 := Aside0.mk (HI7.out.move (Kd.R_grown2 HI7.out.row rfl hg8 (q_r_ne HQ7.out HI7.out.row (by decide)))); have HN8 := Aside0.mk (Kd.R_grown2 HN7.out rfl hg8 (fun q h1 h2 => HS.out q h2.symm h1.symm)); have HK8 := Aside0.mk (HK7.out.trans (KeepBut.of_grown hg8 w.heap.size) (Kd.Q_base2 HQ7.out)); have HB8 := Aside0.mk (HB7.out.grown hg8 HB7.out.size (fun q hq => Nat.le_trans HW3.out (Kd.Q_base HQ7.out q hq))); have HS8 : Aside0 (∀ q, (Value.slice (some ad) L.length c6).ownBlock = some q → some q ≠ v8'.ownBlock) := ⟨fun q h1 h2 => hat8.elim (fun e1 => HS.out q h1 (h2.trans e1)) (fun ⟨b1, e1, hb1⟩ => by have h3 := Kd.R_lt HN7.out q h1; rw [e1] at h2; injection h2 with h2; omega)⟩; have HQ8 := Aside0.mk hQ8; clear HM7 HI7 HQ7 HN7 HK7 HB7 hQ8 hB8 hg8 hat8))
                      obtain ⟨A9', c9', rfl, _⟩ := Kd.Q_slice HQ8.out
                      have HQ9 := HQ8.out
                      have HS9 := HS8.out
                      rw [show nats wk ++ [(b : Int)] = nats (wk ++ [b]) by simp [nats]] at HQ9 HS9 ⊢
                      rw [nats_length] at HQ9 HS9 ⊢
                      exact ⟨⟨t + 1, also I b, wk ++ [b], _, A9', c9', by omega, by go_num, rfl, ⟨rfl⟩, ⟨by rw [htk]; exact HBj.out⟩, ⟨by simp; omega⟩, ⟨⟨_, _, HF'.out, HM8.out⟩, ⟨_, HI8.out⟩, HQ9, HK8.out, HB8.out⟩, HN8, ⟨HS9⟩⟩, by simp [intOf]; omega⟩
                  · obtain rfl : t = L.length := by omega
                    go_wp2
                    go_roundg k1
                    case measure => omega
                    case rel => exact ⟨I, wk, wk.length, A8, c8, rfl, ⟨rfl⟩, ⟨hov _ _ (by have := HBi.out; rw [List.take_length] at this; exact this)⟩, ⟨HC.out, by omega⟩, HP⟩
        · obtain rfl : a = k := by omega
          go_wp2
          go_ret
          exact ⟨_, rfl, HR.out, HB.out⟩
end Go.Proofs.Ytfkmngmnnlgjdaa.Gr
