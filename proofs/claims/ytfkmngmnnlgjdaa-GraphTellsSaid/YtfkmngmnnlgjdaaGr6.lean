/- Copy of a graph. -/
import Derived.Test.YtfkmngmnnlgjdaaGr5
namespace Go.Proofs.Ytfkmngmnnlgjdaa.Gr
open Go Go.RowKit Go.Proofs.Ytfkmngmnnlgjdaa.Gf Go.Proofs.Ytfkmngmnnlgjdaa.Pu Go.Proofs.YtfkmngmnnlgjdaaW.PrintWords Go.Proofs.YtfkmngmnnlgjdaaW.PrintLast Go.Proofs.YtfkmngmnnlgjdaaW.PrintMore
set_option linter.unusedVariables false
set_option linter.unusedSimpArgs false

/-- The first k rows. -/
def RowsTo (adj : Adj) (k : Nat) (rows : List (List Int)) : Prop := rows.length = k ∧ ∀ a, a < k → Wd (rows.getD a []) ∧ (rows.getD a []).length ≤ 64 ∧ ∀ i, bitAt (rows.getD a []) i = adj a i
theorem RowsTo.snoc {adj : Adj} {k : Nat} {rows : List (List Int)} {r : List Int} (h : RowsTo adj k rows) (h1 : Wd r) (h2 : r.length ≤ 64) (h3 : ∀ i, bitAt r i = adj k i) : RowsTo adj (k + 1) (rows ++ [r]) := by
  refine ⟨by simp [h.1], fun a ha => ?_⟩
  rw [List.getD_eq_getElem?_getD]
  by_cases hk : a < k
  · rw [List.getElem?_append_left (by rw [h.1]; exact hk), ← List.getD_eq_getElem?_getD]
    exact h.2 a hk
  · obtain rfl : a = k := by omega
    rw [List.getElem?_append_right (by rw [h.1]; exact Nat.le_refl _), h.1]
    simp
    exact ⟨h1, h2, h3⟩
theorem Or_copy (W : World) (B : Option Addr) (c : Nat) (l : List Int) (hW : Wd l) (hl : l.length ≤ 64) (hc : l.length ≤ c) (hC : (Kd.int .u64).C W B l.length l) :
    Calls Try.prog 39 #[.slice B l.length c, .slice none 0 0] W fun e w' => ∃ v r, e = .returned v ∧ (Kd.int .u64).R 71 w' W.heap.size (fun _ => True) v r ∧ Wd r ∧ r.length ≤ 64 ∧ (∀ j, bitAt r j = bitAt l j) ∧ Below W.heap.size W w' := by
  obtain ⟨r, h1, h2, h3, h4⟩ := or_f hW Wd.nil (by omega) (by simp)
  obtain ⟨k, hk⟩ := h1.rounds
  refine (bits_Or.calls k B c l none 0 [] r W hC hc (Kd.C_nil _ _) (Nat.zero_le _) hk).mono ?_
  rintro e w' ⟨v, he, hR, hB⟩
  refine ⟨v, r, he, hR, h2, by simp at h3; omega, fun j => ?_, hB⟩
  rw [h4, bitAt_ge (l := []) (by simp), Bool.or_false]
-- TABLE
def CopyR.T7 : Bool × List (List Nat × List Nat) := (true, [([], []), ([], []), ([1], [1]), ([2], [2]), ([3], [3]), ([], []), ([5], [5]), ([6], [6]), ([4, 7, 6], [4, 7]), ([0, 0, 1, 2, 3, 4, 5, 6, 7, 8], [0]), ([9, 0, 1, 2, 3, 4, 5, 6, 7, 8], [9]), ([10, 8, 8, 0, 1, 2, 3, 4, 5, 6, 7, 8], [8, 10])])
def CopyR.B7 : List Nat := [0, 0, 2, 6, 14, 0, 32, 96, 254, 511, 1023, 2047]
theorem CopyR.tab7 : rtab .any (opsOf Try.f30 7) = CopyR.T7 := by kernel_rfl
theorem CopyR.bits7 : waitsOk CopyR.T7.2 CopyR.B7 = true := by kernel_rfl
-- END TABLE
set_option maxHeartbeats 400000 in
theorem Copy_nil (w : World) : Calls Try.prog 30 #[.pointer none] w fun e w' => e = .returned (.pointer none) ∧ w = w' := by
  go_enter Try.func30, Try.ntmps30
  go_wp2
  go_ret
  exact ⟨rfl, rfl⟩
set_option maxRecDepth 100000 in
set_option maxHeartbeats 4000000 in
theorem Copy_is (w : World) (g n : Nat) (v : Value) (adj : Adj) (h : GIs w g v n adj) :
    Calls Try.prog 30 #[.pointer (some ⟨g, 0, none⟩)] w fun e w' => ∃ b v', e = .returned (.pointer (some ⟨b, 0, none⟩)) ∧ GIs w' b v' n adj ∧ w.heap.size ≤ b ∧ (∀ k, v'.ownBlock = some k → w.heap.size ≤ k) ∧ Below w.heap.size w w' := by
  obtain ⟨A, c, rfl, hc, hcell⟩ := h.head
  have hn4 := h.le
  have hglt := h.lt
  have hS := h.sane
  go_enter Try.func30, Try.ntmps30
  go_wp2
  go_loopw [15] (fun v15 wr => ∃ (k : Nat) (rows : List (List Int)) (vk : Value), k ≤ n ∧ v15 = .int .i64 k ∧ Aside0 (RowsTo adj k rows) ∧ Aside0 (wr.heap[w.heap.size]? = some (.cells #[vk] 57 (0, 0))) ∧
      Aside0 (Kd.R (Kd.slice 71 (Kd.int .u64)) 61 wr w.heap.size (fun _ => True) vk rows) ∧ Aside0 (Below w.heap.size w wr)) (fun v15 _ => n - (intOf v15).toNat)
  case atStart => exact ⟨0, [], .slice none 0 0, Nat.zero_le _, rfl, ⟨rfl, fun a ha => by omega⟩, ⟨World.alloc_heap_new w _⟩, ⟨Kd.R_nil _ _ _ _ _⟩, ⟨below_alloc (Below.refl _ _) _⟩⟩
  case round =>
    obtain ⟨k, rows, vk, hk, rfl, HR, HX, HV, HB⟩ := hrel
    by_cases hlt : k < n
    · obtain ⟨ad, B, cB, l, rfl, hrow, hlc, hC, hW, hl64, hbit⟩ := h.row hlt
      have hrow1 := (HB.out.cell (World.block_lt_of_cell? w _ hrow)).trans hrow
      have hC1 := Kd.C_below hC HB.out
      have hkk : (k : Int) < (n : Int) := by omega
      have hvc : wr.cell? ⟨w.heap.size, 0, none⟩ = some vk := by simp [World.cell?, HX.out]
      have hne := Kd.R_ne HV.out HX.out (by decide)
      have hlen : rows.length = k := HR.out.1
      have HL := Lib.hid hlen
      have HC1 := Lib.hid hC1
      have HBit := Lib.hid hbit
      have H := Lib.hid h
      clear hlen hC1 hbit h hrow hC
      go_wp2_with fail
      -- REGION
      have HX1 : Aside0 (wr.drew.heap[w.heap.size]? = some (.cells #[vk] 57 (0, 0))) := HX
      have HV1 : Aside0 (Kd.R (Kd.slice 71 (Kd.int .u64)) 61 wr.drew w.heap.size (fun _ => True) vk rows) := ⟨Kd.R_drew HV.out⟩
      have HB1 : Aside0 (Below w.heap.size w wr.drew) := ⟨below_drew HB.out⟩
      have HC2 : Aside0 ((Kd.int .u64).C wr.drew B l.length l) := ⟨Kd.C_drew HC1.out⟩
      have hvc1 : wr.drew.cell? ⟨w.heap.size, 0, none⟩ = some vk := hvc
      refine start_ (n := 12) (S := fun w' => w'.cell? ⟨w.heap.size, 0, none⟩ = some vk) (ds := [8, 11]) #[false, false, false, false, false, false, false, false, false, false, false, false] (by kernel_rfl) rfl rfl hvc1 (fun hHeld => ?_); refine with_tabW CopyR.tab7 CopyR.bits7 (fun HT_ HW_ => ?_)
      generalize wr.drew = wx at HX1 HV1 HB1 HC2 hvc1 hHeld ⊢
      clear HX HV HB HC1 hvc
      refine pure_ (i := 0) (N := some 19) (v := ?_) (a' := ?_) #[true, false, false, false, false, false, false, false, false, false, false, false] rfl rfl (any_of HT_.out (by kernel_rfl)) (fun _ _ _ h => h) (Or.inl ⟨by rfl, ?_⟩) ?_ ?_
      rotate_left
      · intro w'
        go_simp
        with_reducible rfl
      rotate_left
      · simp only [Act.put, List.setIfInBounds_toArray, List.set_cons_zero, List.set_cons_succ, i64_w, i32_w]
        rfl
      refine pure_ (i := 1) (N := some 20) (v := ?_) (a' := ?_) #[true, true, false, false, false, false, false, false, false, false, false, false] rfl rfl (any_of HT_.out (by kernel_rfl)) (fun _ _ _ h => h) (Or.inl ⟨by rfl, ?_⟩) ?_ ?_
      rotate_left
      · intro w'
        go_simp
        with_reducible rfl
      rotate_left
      · simp only [Act.put, List.setIfInBounds_toArray, List.set_cons_zero, List.set_cons_succ, i64_w, i32_w]
        rfl
      refine pure_ (i := 2) (N := some 21) (v := ?_) (a' := ?_) #[true, true, true, false, false, false, false, false, false, false, false, false] rfl rfl (any_of HT_.out (by kernel_rfl)) (fun _ _ _ h => h) (Or.inl ⟨by rfl, ?_⟩) ?_ ?_
      rotate_left
      · intro w'
        go_simp
        with_reducible rfl
      rotate_left
      · simp only [Act.put, List.setIfInBounds_toArray, List.set_cons_zero, List.set_cons_succ, i64_w, i32_w]
        rfl
      refine pure_ (i := 3) (N := some 22) (v := ?_) (a' := ?_) #[true, true, true, true, false, false, false, false, false, false, false, false] rfl rfl (any_of HT_.out (by kernel_rfl)) (fun _ _ _ h => h) (Or.inl ⟨by rfl, ?_⟩) ?_ ?_
      rotate_left
      · intro w'
        go_simp
        with_reducible rfl
      rotate_left
      · simp only [Act.put, List.setIfInBounds_toArray, List.set_cons_zero, List.set_cons_succ, i64_w, i32_w]
        rfl
      refine take_ (i := 4) (N := some 23) (v := ?_) (a' := ?_) #[true, true, true, true, true, false, false, false, false, false, false, false] rfl rfl (take_ofW HT_.out HW_.out (by kernel_rfl)) (fun _ _ _ h => h) (Or.inl ⟨by rfl, ?_⟩) hHeld ?_ ?_
      rotate_left
      · intro w' s0
        skip
        go_simp
        with_reducible rfl
      rotate_left
      · simp only [Act.put, List.setIfInBounds_toArray, List.set_cons_zero, List.set_cons_succ, i64_w, i32_w]
        rfl
      refine pure_ (i := 5) (N := some 24) (v := ?_) (a' := ?_) #[true, true, true, true, true, true, false, false, false, false, false, false] rfl rfl (any_of HT_.out (by kernel_rfl)) (fun _ _ _ h => h) (Or.inl ⟨by rfl, ?_⟩) ?_ ?_
      rotate_left
      · intro w'
        go_simp
        with_reducible rfl
      rotate_left
      · simp only [Act.put, List.setIfInBounds_toArray, List.set_cons_zero, List.set_cons_succ, i64_w, i32_w]
        rfl
      refine one_ (i := 6) (N := some 25) #[true, true, true, true, true, true, true, false, false, false, false, false] rfl rfl (one_of HT_.out (by kernel_rfl)) (by decide) (fun K hK => ?_)
      refine goes_ Try.func39 (by kernel_rfl) rfl #[.slice B l.length cB, .slice none 0 0] (by rfl) rfl rfl (by (try simp only [List.map_toArray, List.map_cons, List.map_nil]); first | done | rfl) ?_
      refine (Or_copy wx B cB l hW hl64 hlc HC2.out).mono ?_
      rintro e w1 ⟨vr, r, rfl, hRr, hWr, hlr, hbr, hBr⟩
      obtain ⟨inner0, hown0⟩ := Kd.R_own HV1.out
      have hRr1 := Kd.R_lower (Kd.R_new hRr hown0) (Below.size HB1.out)
      have HV2 := Aside0.mk (Kd.R_below HV1.out hBr)
      have HB2 := Aside0.mk (below_then HB1.out (Below.size HB1.out) hBr)
      have HX2 : Aside0 (w1.heap[w.heap.size]? = some (.cells #[vk] 57 (0, 0))) := ⟨(hBr.block w.heap.size (Array.getElem?_eq_some_iff.1 HX1.out).1).trans HX1.out⟩
      have hvc2 : w1.cell? ⟨w.heap.size, 0, none⟩ = some vk := by simp [World.cell?, HX2.out]
      have hlt1 := (Array.getElem?_eq_some_iff.1 HX2.out).1
      have HRR := Aside0.mk hRr1
      have HRP := Aside0.mk (And.intro hWr (And.intro hlr hbr))
      clear HX1 HV1 HB1 HC2 hvc1 hHeld hRr hRr1 hWr hlr hbr hBr hown0 inner0
      obtain ⟨Ar, cr, rfl⟩ := Kd.R_slice HRR.out
      refine ⟨_, rfl, hK.out _ _ hvc2 (fun hHeld => ?_)⟩
      clear hK K
      simp only [Act.put, List.setIfInBounds_toArray, List.set_cons_zero, List.set_cons_succ]
      refine one_ (i := 7) (N := some 26) #[true, true, true, true, true, true, true, true, false, false, false, false] rfl rfl (one_of HT_.out (by kernel_rfl)) (by decide) (fun K hK => ?_)
      refine value_ (v := .slice (some ⟨w1.heap.size, 0, none⟩) 1 1) (w1 := w1.alloc (.cells #[.slice Ar r.length cr] 61)) (by rfl) rfl (by go_simp) ?_
      have hvc3 : (w1.alloc (.cells #[.slice Ar r.length cr] 61)).cell? ⟨w.heap.size, 0, none⟩ = some vk := (World.cell?_alloc_lt w1 _ _ hlt1).trans hvc2
      refine hK.out _ _ hvc3 (fun hHeld => ?_)
      clear hK K
      simp only [Act.put, List.setIfInBounds_toArray, List.set_cons_zero, List.set_cons_succ]
      refine last_ (i := 8) (N := some 27) #[true, true, true, true, true, true, true, true, true, false, false, false] rfl rfl (one_of HT_.out (by kernel_rfl)) (by decide) (fun K hK => ?_)
      refine Kd.R_append_step (Kd.slice 71 (Kd.int .u64)) (w0 := w) w.heap.size (by rfl) (.tmp 23) (.tmp 26) 55 61 (.slice none 0 0) 24 rfl Try.underlying55 infoR rfl (by decide) (by omega) vk rows r [.slice Ar r.length cr] (fun _ => True) (fun k => True ∧ some k ≠ vk.ownBlock) (by rfl) (by rfl) ⟨_, rfl, HRR.out⟩ (fun _ hk => hk) (fun _ _ => trivial) HV2.out HB2.out (Below.size HB2.out) (by rw [HL.out]; omega) ?_
      intro v1 w2 hR2 hB2 hg2 hat2
      have HX3 : Aside0 (w2.heap[w.heap.size]? = some (.cells #[vk] 57 (0, 0))) := ⟨(hg2.block w.heap.size hlt1 hne).trans HX2.out⟩
      have hvc4 : w2.cell? ⟨w.heap.size, 0, none⟩ = some vk := by simp [World.cell?, HX3.out]
      have hfz4 : w2.frozen? ⟨w.heap.size, 0, none⟩ = false := by simp [World.frozen?, HX3.out]
      obtain ⟨A1, c1, rfl⟩ := Kd.R_slice hR2
      have HR2 := Aside0.mk hR2
      have HB3 := Aside0.mk hB2
      clear hR2 hB2 hg2 hat2 HX2 HV2 HB2 hvc2 hvc3 hHeld HRR
      refine hK.out _ _ ?_
      clear hK K
      simp only [Act.put, List.setIfInBounds_toArray, List.set_cons_zero, List.set_cons_succ]
      refine pure_ (i := 9) (N := some 28) (v := ?_) (a' := ?_) #[true, true, true, true, true, true, true, true, true, true, false, false] rfl rfl (any_of HT_.out (by kernel_rfl)) (fun _ _ _ h => h) (Or.inl ⟨by rfl, ?_⟩) ?_ ?_
      rotate_left
      · intro w'
        go_simp
        with_reducible rfl
      rotate_left
      · simp only [Act.put, List.setIfInBounds_toArray, List.set_cons_zero, List.set_cons_succ, i64_w, i32_w]
        rfl
      refine pure_ (i := 10) (N := some 29) (v := ?_) (a' := ?_) #[true, true, true, true, true, true, true, true, true, true, true, false] rfl rfl (any_of HT_.out (by kernel_rfl)) (fun _ _ _ h => h) (Or.inl ⟨by rfl, ?_⟩) ?_ ?_
      rotate_left
      · intro w'
        go_simp
        with_reducible rfl
      rotate_left
      · simp only [Act.put, List.setIfInBounds_toArray, List.set_cons_zero, List.set_cons_succ, i64_w, i32_w]
        rfl
      refine last_ (i := 11) (N := none) #[true, true, true, true, true, true, true, true, true, true, true, true] rfl rfl (one_of HT_.out (by kernel_rfl)) (by decide) (fun K hK => ?_)
      refine skip_ (w1 := ?_) (by rfl) rfl ?_ ?_
      rotate_left
      · go_simp
        rfl
      refine hK.out _ _ ?_
      clear hK K
      refine done_ (done_of HT_.out (by kernel_rfl)) ?_
      -- END REGION
      go_wp2
      have HR3 := HR2.out
      rw [List.length_append, List.length_singleton] at HR3
      exact ⟨⟨k + 1, rows ++ [r], .slice A1 (rows.length + 1) c1, by omega, by go_num, ⟨HR.out.snoc HRP.out.1 HRP.out.2.1 (fun i => by rw [HRP.out.2.2, HBit.out])⟩, ⟨Boxed.set _ HX3.out⟩, ⟨Kd.R_set HR3 HX3.out (by decide) 0 _⟩, ⟨HB3.out.setCell (p := ⟨w.heap.size, 0, none⟩) (Nat.le_refl _) _⟩⟩, by simp [intOf]; omega⟩
    · obtain rfl : k = n := by omega
      go_wp2
      go_ret
      refine ⟨w.heap.size, vk, rfl, ⟨HX.out, rows, Kd.R_lower HV.out (Nat.zero_le _), HR.out.1, hn4, hS, HR.out.2⟩, Nat.le_refl _, fun q hq => ?_, HB.out⟩
      obtain ⟨inner, hown⟩ := Kd.R_own HV.out
      exact own_base hown q hq
end Go.Proofs.Ytfkmngmnnlgjdaa.Gr
