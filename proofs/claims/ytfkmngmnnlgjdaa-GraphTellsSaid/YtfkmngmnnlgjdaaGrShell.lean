/- The walk of Shell. -/
import Derived.Test.YtfkmngmnnlgjdaaGr3
import Derived.Test.YtfkmngmnnlgjdaaPuShell
namespace Go.Proofs.Ytfkmngmnnlgjdaa.Gr
open Go Go.RowKit Go.Proofs.Ytfkmngmnnlgjdaa.Gf Go.Proofs.Ytfkmngmnnlgjdaa.Pu Go.Proofs.Ytfkmngmnnlgjdaa.Mw Go.Proofs.YtfkmngmnnlgjdaaW.PrintWords Go.Proofs.YtfkmngmnnlgjdaaW.PrintLast Go.Proofs.YtfkmngmnnlgjdaaW.PrintMore
set_option linter.unusedVariables false
set_option linter.unusedSimpArgs false

theorem zeroI (w : World) : (zeroValue 3).run Try.prog w = .ok (.int .i64 0) w := by kernel_rfl
theorem zeroB (w : World) : (zeroValue 4).run Try.prog w = .ok (.bool false) w := by kernel_rfl
/-- map[int]int, map[int]bool. -/
noncomputable def MII : MK Try.prog Int Int := intInt Try.prog 3 3 67 Try.underlying3 Try.underlying3 Try.underlying67 zeroI
noncomputable def MIB : MK Try.prog Int Bool := intBool Try.prog 3 4 65 Try.underlying3 Try.underlying4 Try.underlying65 zeroB
theorem okI {k : Nat} (h : k ≤ 400) : MII.ok (k : Int) := wf64 (by omega) (by omega)
theorem okB {k : Nat} (h : k ≤ 400) : MIB.ok (k : Int) := wf64 (by omega) (by omega)
/-- A map's block is no row's. -/
theorem MIs.ne_row {κ ε : Type} {M : MK Try.prog κ ε} {w : World} {b m : Nat} {f : κ → Option ε} (h : MIs M w b m f) {α : Type} {d : Kd α} {e base : Nat} {ok : Nat → Prop} {v : Value} {xs : List α} (hR : d.R e w base ok v xs) : some b ≠ v.ownBlock := by
  intro he
  obtain ⟨inner, ho⟩ := Kd.R_own hR
  obtain ⟨cells, hc⟩ := own_typed ho b he.symm
  obtain ⟨D, ⟨es, clock, hb, _⟩, _⟩ := h
  rw [hb] at hc
  cases hc
/-- What Near tells at a node. -/
theorem Near_nat (w : World) (g : Nat) (v : Value) (n : Nat) (adj : Adj) (a : Nat) (h : GIs w g v n adj) (ha : a < n) :
    Calls Try.prog 19 #[.pointer (some ⟨g, 0, none⟩), .int .i64 a] w fun e w' => ∃ A c, e = .returned (.slice A (near n adj a).length c) ∧ (Kd.int .i64).R 3 w' w.heap.size (fun _ => True) (.slice A (near n adj a).length c) (nats (near n adj a)) ∧ Below w.heap.size w w' := by
  refine (Near_is w g v n adj (a : Int) h).mono ?_
  rintro e w' ⟨v', he, hR, hB⟩
  have hn : nearI n adj (a : Int) = nats (near n adj a) := by unfold nearI; rw [if_pos (by simp [isN]; omega), Int.toNat_natCast]
  rw [hn] at hR
  obtain ⟨A, c, rfl⟩ := Kd.R_slice hR
  rw [nats_length] at he hR
  exact ⟨A, c, he, hR, hB⟩
theorem near_len (n : Nat) (adj : Adj) (a : Nat) : (near n adj a).length ≤ n := by
  unfold near
  exact Nat.le_trans (List.length_filter_le _ _) (by rw [List.length_range]; exact Nat.le_refl _)

def lenV : Value → Nat
  | .slice _ m _ => m
  | _ => 0
set_option maxRecDepth 100000 in
set_option maxHeartbeats 4000000 in
theorem Shell_is (w : World) (g n : Nat) (v : Value) (adj : Adj) (h : GIs w g v n adj) :
    Calls Try.prog 26 #[.pointer (some ⟨g, 0, none⟩)] w fun e w' => ∃ v', e = .returned v' ∧ (Kd.int .i64).R 3 w' w.heap.size (fun _ => True) v' (nats (shell n adj)) ∧ Below w.heap.size w w' := by
  have hn4 := h.le
  have hS := h.sane
  have H := Lib.hid h
  clear h
  have hmm := @run_makeMap Try.prog
  go_enter Try.func26, Try.ntmps26
  go_wp2_with (go_at_call 11; refine (Len_is _ g v n adj (H.out.below (below_alloc (Below.refl _ _) _))).mono ?_; rintro e w' ⟨rfl, rfl⟩)
  go_loopw [17] (fun v17 wr => ∃ (k : Nat) (f : Int → Option Int), k ≤ n ∧ v17 = .int .i64 k ∧ Aside0 (ShI n adj k f) ∧ Aside0 (MIs MII wr w.heap.size k f) ∧ Aside0 (Below w.heap.size w wr)) (fun v17 _ => n - (intOf v17).toNat)
  case atStart => exact ⟨0, fun _ => none, Nat.zero_le _, rfl, ⟨ShI.start n adj⟩, ⟨MIs.made MII w⟩, ⟨below_alloc (Below.refl _ _) _⟩⟩
  case round =>
    clear hmm
    obtain ⟨k, f, hk, rfl, HF, HM, HB⟩ := hrel
    by_cases hlt : k < n
    · have hl := near_len n adj k
      go_wp2_with (first
        | (go_at_call 19; refine (Near_nat wr g v n adj k (H.out.below HB.out) hlt).mono ?_; rintro e w1 ⟨A1, c1, rfl, hR1, hB1⟩; have HM1 := Aside0.mk (HM.out.below hB1 HM.out.lt); have HB1 := Aside0.mk (below_then HB.out HB.out.size hB1); clear HM HB)
        | (at_mapUpdate; refine wl_put HM1.out rfl _ _ _ rfl rfl (by unfold maxLen; omega) (k : Int) (okI (by omega)) rfl (((near n adj k).length : Nat) : Int) (okI (by omega)) rfl ?_; intro w2 hM2 hg2))
      rw [HF.out.fresh] at hM2
      exact ⟨⟨k + 1, _, by omega, by go_num, ⟨HF.out.step⟩, ⟨hM2⟩, ⟨HB1.out.grown hg2 HB1.out.size (fun q e => by cases e; exact Nat.le_refl _)⟩⟩, by simp [intOf]; omega⟩
    · obtain rfl : k = n := by omega
      have HF1 := Aside0.mk HF.out.all
      clear HF
      go_wp2
      go_loopw [5] (fun v5 wr' => ∃ (j : Nat) (f : Int → Option Int) (A : Option Addr) (c : Nat), j ≤ k ∧ v5 = .slice A j c ∧ Aside0 (Sh k adj (shl k adj j) f) ∧ Aside0 (MIs MII wr' w.heap.size (k - j) f) ∧ Aside0 ((Kd.int .i64).R 3 wr' w.heap.size (fun _ => True) (.slice A j c) (nats (shl k adj j))) ∧ Aside0 (Below w.heap.size w wr')) (fun v5 _ => k - lenV v5)
      case atStart => exact ⟨0, f, none, 0, Nat.zero_le _, rfl, HF1, HM, ⟨Kd.R_nil _ _ _ _ _⟩, HB⟩
      case round =>
        clear HF1 HM HB f
        obtain ⟨j, f, A5, c5, hj, rfl, HF, HM, HR5, HB⟩ := hrel
        by_cases hlt2 : j < k
        · have hpos : decide ((0 : Int) < ((k - j : Nat) : Int)) = true := decide_eq_true (by omega)
          go_wp2_with (first
            | ((with_reducible refine gate_builtin (b := .len) (xs := #[.tmp 27]) rfl ?_); refine wl_len HM.out rfl _ rfl rfl ?_)
            | (go_at_call 11; refine (Len_is _ g v _ adj (H.out.below HB.out)).mono ?_; rintro e w' ⟨rfl, rfl⟩))
          go_loopw [6, 32] (fun v6 v32 wr' => ∃ i : Nat, i ≤ k ∧ v32 = .int .i64 i ∧ v6 = .int .i64 (bestI (bst k adj (shl k adj j) i)) ∧ Aside0 (MIs MII wr' w.heap.size (k - j) f) ∧ Aside0 ((Kd.int .i64).R 3 wr' w.heap.size (fun _ => True) (.slice A5 j c5) (nats (shl k adj j))) ∧ Aside0 (Below w.heap.size w wr')) (fun _ v32 _ => k - (intOf v32).toNat)
          case atStart => exact ⟨0, Nat.zero_le _, rfl, rfl, HM, HR5, HB⟩
          case round =>
            clear HM HB HR5 hpos
            obtain ⟨i, hi, rfl, rfl, HM, HR5, HB⟩ := hrel
            by_cases hlt3 : i < k
            · cases hout : (shl k adj j).contains i with
              | true =>
                have hfi := HF.out.no hout
                have hb : bst k adj (shl k adj j) (i + 1) = bst k adj (shl k adj j) i := by simp only [bst, hout, if_true]
                have HBt := Aside0.mk hb
                clear hb
                go_wp2_with (first
                  | (at_lookup; refine wl_ok1 HM.out rfl _ _ rfl rfl (i : Int) (okI (by omega)) rfl 0 (by rw [hfi]; rfl) false (by rw [hfi]; rfl) (.int .i64 0) rfl ?_))
                exact ⟨⟨i + 1, by omega, by go_num, by rw [HBt.out], HM, HR5, HB⟩, by simp [intOf]; omega⟩
              | false =>
                have hfi := HF.out.yes hlt3 hout
                cases hb0 : bst k adj (shl k adj j) i with
                | none =>
                  have hb : bst k adj (shl k adj j) (i + 1) = some i := by simp only [bst, hout, hb0]; rfl
                  have HBt := Aside0.mk hb
                  clear hb hb0
                  go_wp2_with (first
                    | (at_lookup; refine wl_ok1 HM.out rfl _ _ rfl rfl (i : Int) (okI (by omega)) rfl ((deg k adj (shl k adj j) i : Nat) : Int) (by rw [hfi]; rfl) true (by rw [hfi]; rfl) (.int .i64 ((deg k adj (shl k adj j) i : Nat) : Int)) rfl ?_))
                  exact ⟨⟨i + 1, by omega, by go_num, by rw [HBt.out]; rfl, HM, HR5, HB⟩, by simp [intOf]; omega⟩
                | some q =>
                  obtain ⟨hq1, hq2, _⟩ := bst_some hb0
                  have hfq := HF.out.yes (by omega) hq2
                  have hlk := HM.out.run_look (q : Int) (okI (by omega))
                  rw [hfq] at hlk
                  replace hlk : (Instr.lookup 67 (.map (some w.heap.size)) (.int .i64 (q : Int)) false).run Try.prog wr = .ok (.int .i64 ((deg k adj (shl k adj j) q : Nat) : Int)) wr := hlk
                  rw [show bestI (some q) = (q : Int) from rfl]
                  have hq0 : decide ((q : Int) < 0) = false := decide_eq_false (by omega)
                  by_cases hlq : deg k adj (shl k adj j) i < deg k adj (shl k adj j) q
                  · have hb : bst k adj (shl k adj j) (i + 1) = some i := by simp only [bst, hout, hb0]; simp [hlq]
                    have hlq' : decide (((deg k adj (shl k adj j) i : Nat) : Int) < ((deg k adj (shl k adj j) q : Nat) : Int)) = true := decide_eq_true (by omega)
                    have HBt := Aside0.mk hb
                    clear hb hb0
                    go_wp2_with (first
                      | (at_lookup; refine wl_ok1 HM.out rfl _ _ rfl rfl (i : Int) (okI (by omega)) rfl ((deg k adj (shl k adj j) i : Nat) : Int) (by rw [hfi]; rfl) true (by rw [hfi]; rfl) (.int .i64 ((deg k adj (shl k adj j) i : Nat) : Int)) rfl ?_))
                    exact ⟨⟨i + 1, by omega, by go_num, by rw [HBt.out]; rfl, HM, HR5, HB⟩, by simp [intOf]; omega⟩
                  · have hb : bst k adj (shl k adj j) (i + 1) = some q := by simp only [bst, hout, hb0]; simp [hlq]
                    have hlq' : decide (((deg k adj (shl k adj j) i : Nat) : Int) < ((deg k adj (shl k adj j) q : Nat) : Int)) = false := decide_eq_false (by omega)
                    have HBt := Aside0.mk hb
                    clear hb hb0
                    go_wp2_with (first
                      | (at_lookup; refine wl_ok1 HM.out rfl _ _ rfl rfl (i : Int) (okI (by omega)) rfl ((deg k adj (shl k adj j) i : Nat) : Int) (by rw [hfi]; rfl) true (by rw [hfi]; rfl) (.int .i64 ((deg k adj (shl k adj j) i : Nat) : Int)) rfl ?_))
                    exact ⟨⟨i + 1, by omega, by go_num, by rw [HBt.out]; rfl, HM, HR5, HB⟩, by simp [intOf]; omega⟩
            · obtain rfl : i = k := by omega
              obtain ⟨q, hs, hb⟩ := shl_succ (adj := adj) hlt2
              rw [hb, show bestI (some q) = (q : Int) from rfl]
              obtain ⟨hq1, hq2, _⟩ := bst_some hb
              have hfq := HF.out.yes hq1 hq2
              have HSh := Aside0.mk hs
              have hll := shl_length i adj j
              have hbs : ∀ x : Value, Aside0 (x = x) := fun _ => ⟨rfl⟩
              clear hbs hs hb
              go_wp2_with (first
                | ((with_reducible refine gate_builtin (b := .delete) (xs := #[.tmp 55, .tmp 56]) rfl ?_); refine wl_del HM.out rfl _ _ rfl rfl (q : Int) (okI (by omega)) rfl ?_; intro w2 hM2 hg2; have HR6 := Aside0.mk (Kd.R_grown1 HR5.out rfl hg2 (MIs.ne_row HM.out HR5.out)); have HB2 := Aside0.mk (HB.out.grown hg2 HB.out.size (fun q e => by cases e; exact Nat.le_refl _)); rw [hfq] at hM2; have HM2 := Aside0.mk hM2; clear HM HR5 HB hM2 hg2)
                | ((with_reducible refine gate_builtin (b := .append) (xs := #[.tmp 57, .tmp 59]) rfl ?_); refine Kd.R_append (Kd.int .i64) (w0 := w) w.heap.size rfl (.tmp 57) (.tmp 59) 38 3 (.int .i64 0) 8 rfl Try.underlying38 infoI rfl (by decide) (by omega) (.slice A5 j c5) (nats (shl i adj j)) (q : Int) [.int .i64 q] (fun _ => True) (fun _ => False) rfl rfl rfl (fun _ hk => hk.elim) (fun _ _ => trivial) (by (with_reducible repeat (first | apply Kd.R_alloc | apply Kd.R_drewN | apply Kd.R_drew)); exact HR6.out) (by repeat (first | (with_reducible first | exact HB2.out | apply below_alloc | apply pw_below_drewN | apply below_drew1) | exact HB2.out)) (below_size (by repeat (first | (with_reducible first | exact HB2.out | apply below_alloc | apply pw_below_drewN | apply below_drew1) | exact HB2.out))) (by rw [nats_length, hll]; omega) ?_; intro v1 w3 hR3 hB3 hg3 hat3; have HM3 := Aside0.mk (MIs.kept (w := _) (b := w.heap.size) (M := MII) (by (with_reducible repeat (first | apply MIs.alloc | apply MIs.drewN | apply MIs.drew)); exact HM2.out) hg3 (MIs.ne_row HM2.out HR6.out)); rw [show nats (shl i adj j) ++ [(q : Int)] = nats (shl i adj (j + 1)) by rw [HSh.out]; simp [nats]] at hR3; have HR7 := Aside0.mk hR3; have HB4 := Aside0.mk hB3; clear HM2 HR6 HB2 hR3 hB3 hg3 hat3)
                | (go_at_call 19; refine (Near_nat _ g v i adj q (H.out.below HB4.out) hq1).mono ?_; rintro e w4 ⟨A6, c6, rfl, hR6, hB6⟩; have HM5 := Aside0.mk (HM3.out.below hB6 HM3.out.lt); have HR8 := Aside0.mk (Kd.R_below HR7.out hB6); have HB7 := Aside0.mk (below_then HB4.out HB4.out.size hB6); have HN := Aside0.mk hR6; clear HM3 HR7 HB4 hR6 hB6))
              obtain ⟨A1, c1, rfl⟩ : ∃ A c, v1 = .slice A (j + 1) c := by
                obtain ⟨A, c, h⟩ := Kd.R_slice HR8.out
                rw [nats_length, shl_length] at h
                exact ⟨A, c, h⟩
              have HD0 := Aside0.mk (HF.out.del q)
              have hnl := near_len i adj q
              have hnd := near_nodup i adj q
              generalize hL : near i adj q = L at HN hnl hnd ⊢
              go_loopw [65] (fun v65 wr' => ∃ (t : Nat) (f' : Int → Option Int), t ≤ L.length ∧ v65 = .int .i64 t ∧ Aside0 (ShD i adj (shl i adj j) q (L.take t) f') ∧ Aside0 (MIs MII wr' w.heap.size (i - j - 1) f') ∧ Aside0 ((Kd.int .i64).R 3 wr' w.heap.size (fun _ => True) (.slice A1 (j + 1) c1) (nats (shl i adj (j + 1)))) ∧ Aside0 ((Kd.int .i64).R 3 wr' 0 (fun _ => True) (.slice A6 L.length c6) (nats L)) ∧ Aside0 (Below w.heap.size w wr')) (fun v65 _ => L.length - (intOf v65).toNat)
              case atStart => exact ⟨0, _, Nat.zero_le _, rfl, HD0, HM5, HR8, ⟨Kd.R_lower HN.out (Nat.zero_le _)⟩, HB7⟩
              case round =>
                clear HF HM5 HR8 HN HB7 HD0 hfq
                obtain ⟨t, f', ht, rfl, HF, HM, HR, HC, HB⟩ := hrel
                by_cases hlt4 : t < L.length
                · have HCC := (Kd.R_reads' HC.out).2.2
                  rw [nats_length] at HCC
                  obtain ⟨ad, rfl, hcell⟩ := Kd.at_int HCC (t : Int) (by omega) (by omega)
                  rw [rd_nat, getD_nats L t hlt4, Int.toNat_natCast] at hcell
                  have hbm : L.getD t 0 ∈ near i adj q := by rw [hL]; exact getD_mem L t hlt4
                  have hqb := (mem_near hS).1 hbm
                  have hbn : L.getD t 0 < i := hS.lt2 hqb
                  have hnt := not_in_take hnd hlt4
                  have htk := take_succ_getD L t hlt4
                  generalize L.getD t 0 = b at hcell hbm hqb hbn hnt htk
                  cases hfb : f' (b : Int) with
                  | none =>
                    go_wp2_with (first
                      | (at_lookup; refine wl_ok1 HM.out rfl _ _ rfl rfl (b : Int) (okI (by omega)) rfl 0 (by rw [hfb]; rfl) false (by rw [hfb]; rfl) (.int .i64 0) rfl ?_))
                    exact ⟨⟨t + 1, f', by omega, by go_num, ⟨by rw [htk]; exact HF.out.skip hfb⟩, HM, HR, HC, HB⟩, by simp [intOf]; omega⟩
                  | some d =>
                    obtain ⟨hd1, hd2, hd3⟩ := HF.out.told hS hq2 hqb hnt hfb
                    have HD3 := Aside0.mk hd3
                    clear hd3
                    go_wp2_with (first
                      | (at_lookup; refine wl_ok1 HM.out rfl _ _ rfl rfl (b : Int) (okI (by omega)) rfl d (by rw [hfb]; rfl) true (by rw [hfb]; rfl) (.int .i64 d) rfl ?_)
                      | (at_lookup; refine wl_look1 HM.out rfl _ _ rfl rfl (b : Int) (okI (by omega)) rfl d (by rw [hfb]; rfl) (.int .i64 d) rfl ?_)
                      | (at_mapUpdate; refine wl_put HM.out rfl _ _ _ rfl rfl (by unfold maxLen; omega) (b : Int) (okI (by omega)) rfl (d - 1) (wf64 (by omega) (by omega)) rfl ?_; intro w2 hM2 hg2))
                    rw [hfb] at hM2
                    have HR2 := Aside0.mk (Kd.R_grown1 HR.out rfl hg2 (MIs.ne_row HM.out HR.out))
                    have HC2 := Aside0.mk (Kd.R_grown1 HC.out rfl hg2 (MIs.ne_row HM.out HC.out))
                    exact ⟨⟨t + 1, _, by omega, by go_num, ⟨by rw [htk]; exact HD3.out⟩, ⟨hM2⟩, HR2, HC2, ⟨HB.out.grown hg2 HB.out.size (fun q e => by cases e; exact Nat.le_refl _)⟩⟩, by simp [intOf]; omega⟩
                · obtain rfl : t = L.length := by omega
                  go_wp2
                  exact ⟨⟨j + 1, f', A1, c1, by omega, rfl, ⟨by rw [HSh.out]; rw [List.take_length, ← hL] at HF; exact HF.out.over hS hq2⟩, ⟨by rw [show i - (j + 1) = i - j - 1 by omega]; exact HM.out⟩, HR, HB⟩, by simp [lenV]; omega⟩
        · obtain rfl : j = k := by omega
          have hpos : decide ((0 : Int) < ((j - j : Nat) : Int)) = false := decide_eq_false (by omega)
          go_wp2_with (first
            | ((with_reducible refine gate_builtin (b := .len) (xs := #[.tmp 27]) rfl ?_); refine wl_len HM.out rfl _ rfl rfl ?_))
          go_ret
          exact ⟨_, rfl, HR5.out, HB.out⟩
end Go.Proofs.Ytfkmngmnnlgjdaa.Gr
