/- Made, walked where it makes a graph. -/
import Derived.Test.YtfkmngmnnlgjdaaGrMade
namespace Go.Proofs.Ytfkmngmnnlgjdaa.Gr
open Go Go.RowKit Go.Proofs.Ytfkmngmnnlgjdaa.Gf Go.Proofs.Ytfkmngmnnlgjdaa.Pu Go.Proofs.Ytfkmngmnnlgjdaa.Pr Go.Proofs.Ytfkmngmnnlgjdaa.Mw Go.Proofs.YtfkmngmnnlgjdaaW.PrintWords Go.Proofs.YtfkmngmnnlgjdaaW.PrintLast Go.Proofs.YtfkmngmnnlgjdaaW.PrintMore
set_option linter.unusedVariables false
set_option linter.unusedSimpArgs false
theorem RIs.shape {w : World} {v : Value} {n : Nat} {adj : Adj} (h : RIs w v n adj) : ∃ A m c, v = .slice A m c := by
  obtain ⟨A, c, on, he, _⟩ := h.rd
  exact ⟨A, _, c, he⟩
theorem GIs.box {w : World} {g n : Nat} {v : Value} {adj : Adj} (h : GIs w g v n adj) {gw : Nat} {cs : Array Value} (hb : w.heap[gw]? = some (.cells cs 29 (0, 0))) (j : Nat) (x : Value) : GIs (w.setCell ⟨gw, j, none⟩ x) g v n adj := by
  obtain ⟨h1, rows, hR, hr⟩ := h
  exact ⟨blk_far h1 (p := ⟨gw, j, none⟩) (blk_ne h1 hb (by decide)) x, rows, Kd.R_set hR hb (by decide) j x, hr⟩
theorem RIs.box {w : World} {n : Nat} {v : Value} {adj : Adj} (h : RIs w v n adj) {gw : Nat} {cs : Array Value} (hb : w.heap[gw]? = some (.cells cs 29 (0, 0))) (j : Nat) (x : Value) : RIs (w.setCell ⟨gw, j, none⟩ x) v n adj := by
  obtain ⟨on, hO, hR⟩ := h.own
  exact ⟨on, Kd.R_set hO hb (by decide) j x, hR⟩
/-- What goes on in the loops that join: the graph, and the document's in a block. -/
structure JSt (w wr : World) (g : Nat) (v u : Value) (n : Nat) (adj adj' : Adj) (gw : Nat) : Prop where
  gr : GIs wr g v n adj
  rf : RIs wr u n adj'
  box : wr.heap[gw]? = some (Obj.cells #[.int .i64 n, u] 29 (0, 0))
  own : ∀ k, v.ownBlock = some k → w.heap.size ≤ k
  bel : Below w.heap.size w wr
theorem JSt.drew {w wr : World} {g : Nat} {v u : Value} {n : Nat} {adj adj' : Adj} {gw : Nat} (h : JSt w wr g v u n adj adj' gw) : JSt w wr.drew g v u n adj adj' gw :=
  ⟨h.gr.drew, h.rf.drew, h.box, h.own, below_drew h.bel⟩
theorem JSt.below {w wr w1 : World} {g : Nat} {v u : Value} {n : Nat} {adj adj' : Adj} {gw : Nat} (h : JSt w wr g v u n adj adj' gw) (hB : Below wr.heap.size wr w1) : JSt w w1 g v u n adj adj' gw :=
  ⟨h.gr.below hB, h.rf.below hB, blk_below h.box hB, h.own, below_then h.bel h.bel.size hB⟩
theorem GIs.ne_box {w : World} {g n gw : Nat} {v : Value} {adj : Adj} {cs : Array Value} (h : GIs w g v n adj) (hb : w.heap[gw]? = some (.cells cs 29 (0, 0))) : some gw ≠ v.ownBlock := by
  obtain ⟨_, rows, hR, _⟩ := h
  exact Kd.R_ne hR hb (by decide)
theorem JSt.joined {w wr w1 : World} {g : Nat} {v u : Value} {n : Nat} {adj adj' adj1 : Adj} {gw : Nat} (h : JSt w wr g v u n adj adj' gw) (hG : GIs w1 g v n adj1) (hg : wr.grownBy w1 v.ownBlock) : JSt w w1 g v u n adj1 adj' gw :=
  ⟨hG, h.rf.grown hg (h.gr.ne_ref h.rf), blk_grown h.box hg (h.gr.ne_box h.box), h.own, h.bel.grown hg h.bel.size h.own⟩
/-- The document's graph is laid into its block. -/
theorem JSt.put {w wr : World} {g : Nat} {v u' : Value} {n : Nat} {adj adj' : Adj} {gw : Nat} {x0 x1 : Value} (hG : GIs wr g v n adj) (hR : RIs wr u' n adj') (hb : wr.heap[gw]? = some (Obj.cells #[x0, x1] 29 (0, 0))) (hw : w.heap.size ≤ gw) (ho : ∀ k, v.ownBlock = some k → w.heap.size ≤ k) (hB : Below w.heap.size w wr) :
    JSt w ((wr.setCell ⟨gw, 0, none⟩ (.int .i64 n)).setCell ⟨gw, 1, none⟩ u') g v u' n adj adj' gw := by
  have h1 := blk_put (cs := #[x0, x1]) hb 0 (.int .i64 n) (cs' := #[.int .i64 n, x1]) rfl
  exact ⟨(hG.box hb 0 _).box h1 1 _, (hR.box hb 0 _).box h1 1 _, blk_put (cs := #[.int .i64 n, x1]) h1 1 u' rfl, ho, (hB.setCell (p := ⟨gw, 0, none⟩) hw _).setCell (p := ⟨gw, 1, none⟩) hw _⟩
theorem add_one_ (ad : Addr) (m : Nat) : (⟨(ad.add m).block, (ad.add m).off + 1, none⟩ : Addr) = ad.add (m + 1) := by
  rw [Addr.add_succ']
  unfold Addr.add
  by_cases h : m = 0
  · subst h; simp
  · simp [h]; omega
theorem JoinB (w : World) (g n : Nat) (v : Value) (adj : Adj) (a b : Int) (h : GIs w g v n adj) :
    Calls Try.prog 14 #[.pointer (some ⟨g, 0, none⟩), .int .i64 a, .int .i64 b] w fun e w' => e = .returned (.bool (joinOk n adj a b)) ∧ GIs w' g v n (jn n adj a b) ∧ w.grownBy w' v.ownBlock := Join_any w g n v adj a b h
theorem JIs.at_ {w : World} {ad : Addr} {l : Nat} {js : List (Int × Int)} (h : JIs w (some ad) l js) {i : Nat} (hi : i < l) {p q : Int} (hp : p = (js.getD i (0, 0)).1) (hq : q = (js.getD i (0, 0)).2) :
    w.cell? (ad.add (i * 2)) = some (.int .i64 p) ∧ w.cell? ⟨(ad.add (i * 2)).block, (ad.add (i * 2)).off + 1, none⟩ = some (.int .i64 q) := by
  obtain ⟨ad', e, h1, h2⟩ := h.cells i hi
  injection e with e
  subst e
  rw [add_one_, hp, hq]
  exact ⟨h1, h2⟩
-- TABLE
def MadeR.T8 : Bool × List (List Nat × List Nat) := (true, [([], []), ([], []), ([], []), ([1, 2], [1, 2]), ([3], [3]), ([4], [4]), ([], []), ([], []), ([6, 7], [6, 7]), ([8], [8]), ([9], [9]), ([0, 5, 10], [0, 5, 10]), ([11], [11]), ([12], [12]), ([12], [12]), ([13, 11, 0, 1, 2, 3, 4, 5, 6, 7, 8, 9, 10, 11, 12, 13], [13])])
def MadeR.B8 : List Nat := [0, 0, 0, 6, 14, 30, 0, 0, 192, 448, 960, 2047, 4095, 8191, 8191, 16383]
theorem MadeR.tab8 : rtab .any (opsOf Try.f21 8) = MadeR.T8 := by kernel_rfl
theorem MadeR.bits8 : waitsOk MadeR.T8.2 MadeR.B8 = true := by kernel_rfl
-- END TABLE
set_option maxRecDepth 100000 in
set_option maxHeartbeats 1000000 in
theorem Made_is (w : World) (n : Nat) (A : Option Addr) (l c : Nat) (js : List (Int × Int)) (hn : n ≤ 40) (hl : l ≤ 800) (hJ : JIs w A l js) :
    Calls Try.prog 21 #[.int .i64 n, .slice A l c] w fun e w' => ∃ g v u, e = .returned (.tuple #[.pointer (some ⟨g, 0, none⟩), .agg #[.int .i64 n, u]]) ∧ GIs w' g v n (jt n js l) ∧ RIs w' u n (jt n js l) ∧ (∀ k, v.ownBlock = some k → w.heap.size ≤ k) ∧ Below w.heap.size w w' := by
  have hu29 := Try.underlying29
  have HJ := Aside0.mk hJ
  clear hJ
  have hd1 : decide ((n : Int) < 0) = false := decide_eq_false (by omega)
  have hd2 : decide (40 < (n : Int)) = false := decide_eq_false (by omega)
  have hd3 : decide ((800 : Int) < (l : Int)) = false := decide_eq_false (by omega)
  go_enter Try.func21, Try.ntmps21
  go_wp2_with (first
    | ((with_reducible refine gate_dst (N := 5) rfl ?_); refine box_event ?hg (N := 5) ?hd (cs := #[.int .i64 0, .slice none 0 0]) (t := 29) ?hr ?_; (case hd => rfl); (case hg => rfl); (case hr => first | (go_simp; done) | (go_simp; rfl)); intro ge hge w1 hbox hB; have BE := Aside0.mk hbox; have HB := Aside0.mk hB; have HE := Aside0.mk (show w.heap.size ≤ ge by rw [hge]; exact Nat.le_refl _); clear hbox hB hge)
    | (go_at_call 9; refine (New_is _ n (by omega)).mono ?_; rintro e w2 ⟨g, v, rfl, hG, hgb, hvb, hB⟩; have HG := Aside0.mk hG; have HV := Aside0.mk (fun k hk => Nat.le_trans HB.out.size (hvb k hk) : ∀ k, v.ownBlock = some k → w.heap.size ≤ k); have BE2 := Aside0.mk (blk_below BE.out hB); have HB2 := Aside0.mk (below_then HB.out HB.out.size hB); clear hG hgb hvb hB BE HB)
    | (go_at_call 12; refine (RNew_is _ n (by omega)).mono ?_; rintro e w3 ⟨u, rfl, hR, hB⟩; obtain ⟨Au, mu, cu, rfl⟩ := hR.shape; have HR := Aside0.mk hR; have HG3 := Aside0.mk (HG.out.below hB); have BE3 := Aside0.mk (blk_below BE2.out hB); have HB3 := Aside0.mk (below_then HB2.out HB2.out.size hB); clear hR hB BE2 HB2 HG)
    | ((with_reducible refine gate_dst (N := 7) rfl ?_); refine box_event ?hg (N := 7) ?hd (cs := #[.int .i64 0, .slice none 0 0]) (t := 29) ?hr ?_; (case hd => rfl); (case hg => rfl); (case hr => first | (go_simp; done) | (go_simp; rfl)); intro gw hgw w4 hbox hB; have BW := Aside0.mk hbox; have HR4 := Aside0.mk (HR.out.below hB); have HG4 := Aside0.mk (HG3.out.below hB); have BE4 := Aside0.mk (blk_below BE3.out hB); have HW := Aside0.mk (show w.heap.size ≤ gw by rw [hgw]; exact HB3.out.size); have NE := Aside0.mk (show ge ≠ gw by rw [hgw]; exact Nat.ne_of_lt (blk_lt BE3.out)); have HB4 := Aside0.mk (below_then HB3.out HB3.out.size hB); clear hbox hB hgw HR HG3 BE3 HB3; have hz0 : w4.cell? ⟨gw, 0, none⟩ = some (.int .i64 0) := (blk_cell BW.out 0).trans rfl; have hz1 : w4.cell? ⟨gw, 1, none⟩ = some (.slice none 0 0) := (blk_cell BW.out 1).trans rfl; have hfz0 := blk_frozen BW.out 0; have hfz1 := blk_frozen BW.out 1))
  have hJ5 := Aside0.mk (JSt.put HG4.out HR4.out BW.out HW.out HV.out HB4.out)
  have hE5 := Aside0.mk (blk_far (blk_far BE4.out (p := ⟨gw, 0, none⟩) NE.out (.int .i64 n)) (p := ⟨gw, 1, none⟩) NE.out (.slice Au mu cu))
  clear HG4 HR4 BW HB4 BE4 hz0 hz1 hfz0 hfz1
  generalize (w4.setCell ⟨gw, 0, none⟩ (.int .i64 n)).setCell ⟨gw, 1, none⟩ (.slice Au mu cu) = w5 at hJ5 hE5 ⊢
  go_loopw [8] (fun v8 wr => ∃ (i : Nat) (A1 : Option Addr) (m1 c1 : Nat), i ≤ l ∧ v8 = .int .i64 i ∧ Aside0 (JSt w wr g v (.slice A1 m1 c1) n (jt n js i) (jt n js i) gw) ∧ Aside0 (wr.heap[ge]? = some (Obj.cells #[.int .i64 0, .slice none 0 0] 29 (0, 0)))) (fun v8 _ => l - (intOf v8).toNat)
  case atStart => exact ⟨0, Au, mu, cu, Nat.zero_le _, rfl, hJ5, hE5⟩
  case round =>
    clear hJ5 hE5
    obtain ⟨i, A1, m1, c1, hi, rfl, HS, BE⟩ := hrel
    by_cases hlt : i < l
    · obtain ⟨ad, hA, _, _⟩ := (HJ.out.below HS.out.bel).cells i hlt
      subst hA
      obtain ⟨p, hpe⟩ : ∃ p, p = (js.getD i (0, 0)).1 := ⟨_, rfl⟩
      obtain ⟨q, hqe⟩ : ∃ q, q = (js.getD i (0, 0)).2 := ⟨_, rfl⟩
      obtain ⟨hc0, hc2⟩ := (HJ.out.below HS.out.bel).at_ hlt hpe hqe
      have hli : (i : Int) < (l : Int) := by omega
      have HPQ := Aside0.mk (And.intro hpe hqe)
      clear hpe hqe
      go_wp2
      have HSd := Aside0.mk HS.out.drew
      have BEd : Aside0 (wr.drew.heap[ge]? = some (Obj.cells #[.int .i64 0, .slice none 0 0] 29 (0, 0))) := BE
      clear HS BE
      go_region_held3 (fun w' => w'.cell? (ad.add (i * 2)) = some (.int .i64 p) ∧ w'.cell? ⟨(ad.add (i * 2)).block, (ad.add (i * 2)).off + 1, none⟩ = some (.int .i64 q)) (first | exact ⟨hc0, hc2⟩) (first
        | (go_at_call 14; refine (JoinB _ g n v _ p q HSd.out.gr).mono ?_; rintro e w6 ⟨rfl, hG, hg⟩; have HS6 := Aside0.mk (HSd.out.joined hG hg); have BE6 := Aside0.mk (blk_grown BEd.out hg (HSd.out.gr.ne_box BEd.out)); clear HSd BEd hG hg hc0 hc2; obtain ⟨hc0, hc2⟩ := (HJ.out.below HS6.out.bel).at_ hlt HPQ.out.1 HPQ.out.2))
      have hz0 : w6.cell? ⟨gw, 0, none⟩ = some (.int .i64 n) := (blk_cell HS6.out.box 0).trans rfl
      have hz1 : w6.cell? ⟨gw, 1, none⟩ = some (.slice A1 m1 c1) := (blk_cell HS6.out.box 1).trans rfl
      go_wp2
      -- REGION
      refine start_ (n := 16) (S := (fun w' => w'.cell? ⟨gw, 0, none⟩ = some (.int .i64 n) ∧ w'.cell? ⟨gw, 1, none⟩ = some (.slice A1 m1 c1) ∧ w'.cell? (ad.add (i * 2)) = some (.int .i64 p) ∧ w'.cell? ⟨(ad.add (i * 2)).block, (ad.add (i * 2)).off + 1, none⟩ = some (.int .i64 q))) (ds := [15]) #[false, false, false, false, false, false, false, false, false, false, false, false, false, false, false, false] (by kernel_rfl) rfl rfl ⟨hz0, hz1, hc0, hc2⟩ (fun hHeld => ?_); refine with_tabW MadeR.tab8 MadeR.bits8 (fun HT_ HW_ => ?_)
      have HS7 := Aside0.mk HS6.out.drew
      have BE7 : Aside0 (w6.drew.heap[ge]? = some (Obj.cells #[.int .i64 0, .slice none 0 0] 29 (0, 0))) := BE6
      clear HS6 BE6 hz0 hz1 hc0 hc2
      generalize w6.drew = w7 at HS7 BE7 hHeld ⊢
      refine take_ (i := 0) (N := some 44) (v := ?_) (a' := ?_) #[true, false, false, false, false, false, false, false, false, false, false, false, false, false, false, false] rfl rfl (take_ofW HT_.out HW_.out (by kernel_rfl)) (fun _ _ _ h => h) (Or.inl ⟨by rfl, ?_⟩) hHeld ?_ ?_
      rotate_left
      · intro w' s0
        (obtain ⟨s0, s1, s2, s3⟩ := s0)
        go_simp
        with_reducible rfl
      rotate_left
      · simp only [Act.put, List.setIfInBounds_toArray, List.set_cons_zero, List.set_cons_succ, i64_w, i32_w]
        rfl
      refine pure_ (i := 1) (N := some 45) (v := ?_) (a' := ?_) #[true, true, false, false, false, false, false, false, false, false, false, false, false, false, false, false] rfl rfl (any_of HT_.out (by kernel_rfl)) (fun _ _ _ h => h) (Or.inl ⟨by rfl, ?_⟩) ?_ ?_
      rotate_left
      · intro w'
        go_simp
        with_reducible rfl
      rotate_left
      · simp only [Act.put, List.setIfInBounds_toArray, List.set_cons_zero, List.set_cons_succ, i64_w, i32_w]
        rfl
      refine pure_ (i := 2) (N := some 46) (v := ?_) (a' := ?_) #[true, true, true, false, false, false, false, false, false, false, false, false, false, false, false, false] rfl rfl (any_of HT_.out (by kernel_rfl)) (fun _ _ _ h => h) (Or.inl ⟨by rfl, ?_⟩) ?_ ?_
      rotate_left
      · intro w'
        go_simp
        with_reducible rfl
      rotate_left
      · simp only [Act.put, List.setIfInBounds_toArray, List.set_cons_zero, List.set_cons_succ, i64_w, i32_w]
        rfl
      refine pure_ (i := 3) (N := some 47) (v := ?_) (a' := ?_) #[true, true, true, true, false, false, false, false, false, false, false, false, false, false, false, false] rfl rfl (any_of HT_.out (by kernel_rfl)) (fun _ _ _ h => h) (Or.inl ⟨by rfl, ?_⟩) ?_ ?_
      rotate_left
      · intro w'
        go_simp
        with_reducible rfl
      rotate_left
      · simp only [Act.put, List.setIfInBounds_toArray, List.set_cons_zero, List.set_cons_succ, i64_w, i32_w]
        rfl
      refine pure_ (i := 4) (N := some 48) (v := ?_) (a' := ?_) #[true, true, true, true, true, false, false, false, false, false, false, false, false, false, false, false] rfl rfl (any_of HT_.out (by kernel_rfl)) (fun _ _ _ h => h) (Or.inl ⟨by rfl, ?_⟩) ?_ ?_
      rotate_left
      · intro w'
        go_simp
        with_reducible rfl
      rotate_left
      · simp only [Act.put, List.setIfInBounds_toArray, List.set_cons_zero, List.set_cons_succ, i64_w, i32_w]
        rfl
      refine take_ (i := 5) (N := some 49) (v := ?_) (a' := ?_) #[true, true, true, true, true, true, false, false, false, false, false, false, false, false, false, false] rfl rfl (take_ofW HT_.out HW_.out (by kernel_rfl)) (fun _ _ _ h => h) (Or.inl ⟨by rfl, ?_⟩) hHeld ?_ ?_
      rotate_left
      · intro w' s0
        (obtain ⟨s0, s1, s2, s3⟩ := s0)
        go_simp
        with_reducible rfl
      rotate_left
      · simp only [Act.put, List.setIfInBounds_toArray, List.set_cons_zero, List.set_cons_succ, i64_w, i32_w]
        rfl
      refine pure_ (i := 6) (N := some 50) (v := ?_) (a' := ?_) #[true, true, true, true, true, true, true, false, false, false, false, false, false, false, false, false] rfl rfl (any_of HT_.out (by kernel_rfl)) (fun _ _ _ h => h) (Or.inl ⟨by rfl, ?_⟩) ?_ ?_
      rotate_left
      · intro w'
        go_simp
        with_reducible rfl
      rotate_left
      · simp only [Act.put, List.setIfInBounds_toArray, List.set_cons_zero, List.set_cons_succ, i64_w, i32_w]
        rfl
      refine pure_ (i := 7) (N := some 51) (v := ?_) (a' := ?_) #[true, true, true, true, true, true, true, true, false, false, false, false, false, false, false, false] rfl rfl (any_of HT_.out (by kernel_rfl)) (fun _ _ _ h => h) (Or.inl ⟨by rfl, ?_⟩) ?_ ?_
      rotate_left
      · intro w'
        go_simp
        with_reducible rfl
      rotate_left
      · simp only [Act.put, List.setIfInBounds_toArray, List.set_cons_zero, List.set_cons_succ, i64_w, i32_w]
        rfl
      refine pure_ (i := 8) (N := some 52) (v := ?_) (a' := ?_) #[true, true, true, true, true, true, true, true, true, false, false, false, false, false, false, false] rfl rfl (any_of HT_.out (by kernel_rfl)) (fun _ _ _ h => h) (Or.inl ⟨by rfl, ?_⟩) ?_ ?_
      rotate_left
      · intro w'
        go_simp
        with_reducible rfl
      rotate_left
      · simp only [Act.put, List.setIfInBounds_toArray, List.set_cons_zero, List.set_cons_succ, i64_w, i32_w]
        rfl
      refine pure_ (i := 9) (N := some 53) (v := ?_) (a' := ?_) #[true, true, true, true, true, true, true, true, true, true, false, false, false, false, false, false] rfl rfl (any_of HT_.out (by kernel_rfl)) (fun _ _ _ h => h) (Or.inl ⟨by rfl, ?_⟩) ?_ ?_
      rotate_left
      · intro w'
        go_simp
        with_reducible rfl
      rotate_left
      · simp only [Act.put, List.setIfInBounds_toArray, List.set_cons_zero, List.set_cons_succ, i64_w, i32_w]
        rfl
      refine take_ (i := 10) (N := some 54) (v := ?_) (a' := ?_) #[true, true, true, true, true, true, true, true, true, true, true, false, false, false, false, false] rfl rfl (take_ofW HT_.out HW_.out (by kernel_rfl)) (fun _ _ _ h => h) (Or.inl ⟨by rfl, ?_⟩) hHeld ?_ ?_
      rotate_left
      · intro w' s0
        (obtain ⟨s0, s1, s2, s3⟩ := s0)
        go_simp
        with_reducible rfl
      rotate_left
      · simp only [Act.put, List.setIfInBounds_toArray, List.set_cons_zero, List.set_cons_succ, i64_w, i32_w]
        rfl
      refine one_ (i := 11) (N := some 55) #[true, true, true, true, true, true, true, true, true, true, true, true, false, false, false, false] rfl rfl (one_of HT_.out (by kernel_rfl)) (by decide) (fun K hK => ?_)
      refine goes_ Try.func13 (by kernel_rfl) rfl #[.agg #[.int .i64 n, .slice A1 m1 c1], .int .i64 p, .int .i64 q] (by rfl) rfl rfl (by (try simp only [List.map_toArray, List.map_cons, List.map_nil]); first | done | rfl) ?_
      refine (RJoin_is w7 (.slice A1 m1 c1) n _ p q HS7.out.rf).mono ?_
      rintro e w8 ⟨u', rfl, hR, hB⟩
      obtain ⟨A2, m2, c2, rfl⟩ := hR.shape
      have HR8 := Aside0.mk hR
      have HS8 := Aside0.mk (HS7.out.below hB)
      have BE8 := Aside0.mk (blk_below BE7.out hB)
      have hj8 := (HJ.out.below HS8.out.bel).at_ hlt HPQ.out.1 HPQ.out.2
      refine ⟨_, rfl, hK.out _ _ ⟨(blk_cell HS8.out.box 0).trans rfl, (blk_cell HS8.out.box 1).trans rfl, hj8.1, hj8.2⟩ (fun hHeld => ?_)⟩
      clear hK K HS7 BE7 hR hB hj8
      simp only [Act.put, List.setIfInBounds_toArray, List.set_cons_zero, List.set_cons_succ]
      have hz0 : w8.cell? ⟨gw, 0, none⟩ = some (.int .i64 n) := (blk_cell HS8.out.box 0).trans rfl
      have hz1 : w8.cell? ⟨gw, 1, none⟩ = some (.slice A1 m1 c1) := (blk_cell HS8.out.box 1).trans rfl
      have hfz0 := blk_frozen HS8.out.box 0
      have hfz1 := blk_frozen HS8.out.box 1
      refine pure_ (i := 12) (N := some 43) (v := ?_) (a' := ?_) #[true, true, true, true, true, true, true, true, true, true, true, true, true, false, false, false] rfl rfl (any_of HT_.out (by kernel_rfl)) (fun _ _ _ h => h) (Or.inl ⟨by rfl, ?_⟩) ?_ ?_
      rotate_left
      · intro w'
        go_simp
        with_reducible rfl
      rotate_left
      · simp only [Act.put, List.setIfInBounds_toArray, List.set_cons_zero, List.set_cons_succ, i64_w, i32_w]
        rfl
      refine pure_ (i := 13) (N := some 56) (v := ?_) (a' := ?_) #[true, true, true, true, true, true, true, true, true, true, true, true, true, true, false, false] rfl rfl (any_of HT_.out (by kernel_rfl)) (fun _ _ _ h => h) (Or.inl ⟨by rfl, ?_⟩) ?_ ?_
      rotate_left
      · intro w'
        go_simp
        with_reducible rfl
      rotate_left
      · simp only [Act.put, List.setIfInBounds_toArray, List.set_cons_zero, List.set_cons_succ, i64_w, i32_w]
        rfl
      refine pure_ (i := 14) (N := some 57) (v := ?_) (a' := ?_) #[true, true, true, true, true, true, true, true, true, true, true, true, true, true, true, false] rfl rfl (any_of HT_.out (by kernel_rfl)) (fun _ _ _ h => h) (Or.inl ⟨by rfl, ?_⟩) ?_ ?_
      rotate_left
      · intro w'
        go_simp
        with_reducible rfl
      rotate_left
      · simp only [Act.put, List.setIfInBounds_toArray, List.set_cons_zero, List.set_cons_succ, i64_w, i32_w]
        rfl
      refine last_ (i := 15) (N := none) #[true, true, true, true, true, true, true, true, true, true, true, true, true, true, true, true] rfl rfl (one_of HT_.out (by kernel_rfl)) (by decide) (fun K hK => ?_)
      refine skip_ (w1 := ?_) (by rfl) rfl ?_ ?_
      rotate_left
      · go_simp
        rfl
      refine hK.out _ _ ?_
      clear hK K
      refine done_ (done_of HT_.out (by kernel_rfl)) ?_
      -- END REGION
      go_wp2
      have hjt : jn n (jt n js i) p q = jt n js (i + 1) := by
        show _ = jn n (jt n js i) (js.getD i (0, 0)).1 (js.getD i (0, 0)).2
        rw [HPQ.out.1, HPQ.out.2]
      have hput := JSt.put HS8.out.gr HR8.out HS8.out.box HW.out HS8.out.own HS8.out.bel
      rw [hjt] at hput
      exact ⟨⟨i + 1, A2, m2, c2, by omega, by go_num, ⟨hput⟩, ⟨blk_far (blk_far BE8.out (p := ⟨gw, 0, none⟩) NE.out _) (p := ⟨gw, 1, none⟩) NE.out _⟩⟩, by simp [intOf]; omega⟩
    · obtain rfl : i = l := by omega
      go_wp2
      have HSd := Aside0.mk HS.out.drew
      have BEd : Aside0 (wr.drew.heap[ge]? = some (Obj.cells #[.int .i64 0, .slice none 0 0] 29 (0, 0))) := BE
      have hz0 : wr.cell? ⟨gw, 0, none⟩ = some (.int .i64 n) := (blk_cell HS.out.box 0).trans rfl
      have hz1 : wr.cell? ⟨gw, 1, none⟩ = some (.slice A1 m1 c1) := (blk_cell HS.out.box 1).trans rfl
      have hE1 := blk_put (cs := #[.int .i64 0, .slice none 0 0]) BEd.out 0 (.int .i64 n) (cs' := #[.int .i64 n, .slice none 0 0]) rfl
      have hE2 := blk_put (cs := #[.int .i64 n, .slice none 0 0]) hE1 1 (.slice A1 m1 c1) (cs' := #[.int .i64 n, .slice A1 m1 c1]) rfl
      have hG2 := (HSd.out.gr.box BEd.out 0 (.int .i64 n)).box hE1 1 (.slice A1 m1 c1)
      have hR2 := (HSd.out.rf.box BEd.out 0 (.int .i64 n)).box hE1 1 (.slice A1 m1 c1)
      have hB2 := (HSd.out.bel.setCell (p := ⟨ge, 0, none⟩) HE.out (.int .i64 n)).setCell (p := ⟨ge, 1, none⟩) HE.out (.slice A1 m1 c1)
      have hbx := blk_far (blk_far HSd.out.box (p := ⟨ge, 0, none⟩) (Ne.symm NE.out) (.int .i64 n)) (p := ⟨ge, 1, none⟩) (Ne.symm NE.out) (.slice A1 m1 c1)
      have hy0 := blk_cell hbx 0
      have hy1 := blk_cell hbx 1
      have HK := Aside0.mk (And.intro hE2 (And.intro hG2 (And.intro hR2 (And.intro hB2 (And.intro hy0 hy1)))))
      have hefz0 : wr.frozen? ⟨ge, 0, none⟩ = false := blk_frozen BE.out 0
      have hefz1 : wr.frozen? ⟨ge, 1, none⟩ = false := blk_frozen BE.out 1
      have hez0 : wr.cell? ⟨ge, 0, none⟩ = some (.int .i64 0) := (blk_cell BE.out 0).trans rfl
      have hez1 : wr.cell? ⟨ge, 1, none⟩ = some (.slice none 0 0) := (blk_cell BE.out 1).trans rfl
      have hov := HS.out.own
      have HO := Aside0.mk hov
      clear hE1 hE2 hG2 hR2 hB2 hbx hy0 hy1 hov
      go_region_held3 (fun w' => w'.cell? ⟨gw, 0, none⟩ = some (.int .i64 n) ∧ w'.cell? ⟨gw, 1, none⟩ = some (.slice A1 m1 c1)) (first | exact ⟨hz0, hz1⟩ | exact HK.out.2.2.2.2) (fail)
      go_wp2
      refine bodyPost_ret (results_tc rfl _ _ ge 29 #[.int .i64 n, .slice A1 m1 c1] (0, 0) _ rfl HK.out.1 hu29 rfl (by kernel_rfl)) rfl ?_
      exact ⟨g, v, _, rfl, HK.out.2.1, HK.out.2.2.1, HO.out, HK.out.2.2.2.1⟩
end Go.Proofs.Ytfkmngmnnlgjdaa.Gr
